import Derived.Test.YtoboecenlangmaaNs
import Derived.IntWalk
import Derived.Test.YtoboecenlangmaaFitD
import Derived.Test.YtoboecenlangmaaNodeE
import Derived.Test.YtoboecenlangmaaScBp
import Derived.Lib.MinMax
import Derived.Handy
import Derived.Test.YtoboecenlangmaaFitW
import Derived.Test.YtoboecenlangmaaNodeRt
import Derived.Test.YtoboecenlangmaaNodeAp
import Derived.RegionTactic
import Derived.BigRegion
import Derived.Deep.RegionWith
import Derived.BigQuiet
import Derived.Test.YtoboecenlangmaaNodeG
import Derived.Test.YtoboecenlangmaaNodeKb
import Derived.Deep.MidRow
import Derived.Test.YtoboecenlangmaaNodeJ
import Derived.StillTailTactics
/- Merged texts. Conditions: those that each theorem names. -/
section
namespace Go.Proofs.Ytoboecenlangmaa.Np
set_option linter.unusedSimpArgs false
set_option linter.unusedVariables false

theorem endc_more : ∀ {l : List Nd} {n : Int} {m : Nat} (r : List Nd), endc l n = some m → endc (l ++ r) n = some m
  | [], n, m, r, h => by simp [endc] at h
  | x :: l, n, m, r, h => by
    simp only [endc, List.cons_append] at h ⊢
    split
    · rename_i h0
      rw [if_pos h0] at h
      exact h
    · rename_i h0
      rw [if_neg h0, Option.map_eq_some_iff] at h
      obtain ⟨m', h1, rfl⟩ := h
      rw [endc_more r h1]
      rfl
theorem endc_just : ∀ {l : List Nd} {n : Int} {m : Nat}, endc l n = some m → endc (l.take m) n = some m
  | [], n, m, h => by simp [endc] at h
  | x :: l, n, m, h => by
    have hb := endc_bd h
    cases m with
    | zero => omega
    | succ m =>
      simp only [endc, List.take_succ_cons] at h ⊢
      split
      · rename_i h0
        rw [if_pos h0] at h
        exact h
      · rename_i h0
        rw [if_neg h0, Option.map_eq_some_iff] at h
        obtain ⟨m', h1, h2⟩ := h
        obtain rfl : m' = m := by omega
        rw [endc_just h1]
        rfl
theorem cnt_plus (x : Nd) (n q : Int) : cnt x (n + q) = cnt x n + q := by
  unfold cnt
  split
  · omega
  · split <;> omega
theorem cnt_least (x : Nd) (n : Int) : n - 1 ≤ cnt x n := by
  unfold cnt
  split
  · omega
  · split <;> omega
/-- An item within: what is left, seen from outside. -/
theorem endc_over : ∀ {l : List Nd} {n q : Int} {m : Nat}, 1 ≤ n → 1 ≤ q → endc l n = some m → endc l (n + q) = (endc (l.drop m) q).map (· + m)
  | [], n, q, m, _, _, h => by simp [endc] at h
  | x :: l, n, q, m, hn, hq, h => by
    have hc := cnt_least x n
    simp only [endc] at h ⊢
    rw [cnt_plus, if_neg (by omega)]
    split at h
    · rename_i h0
      simp at h
      subst h
      rw [h0, Int.zero_add]
      simp
    · rename_i h0
      rw [Option.map_eq_some_iff] at h
      obtain ⟨m', h1, rfl⟩ := h
      rw [endc_over (by omega) hq h1, List.drop_succ_cons]
      cases endc (l.drop m') q with
      | none => rfl
      | some z => simp; omega
theorem endc_over0 {x : Nd} {l : List Nd} {q : Int} {m : Nat} (hx : ¬ x.kind = 6) (hq : 1 ≤ q) (h : endc (x :: l) 0 = some m) : endc (x :: l) q = (endc ((x :: l).drop m) q).map (· + m) := by
  have hc0 : 0 ≤ cnt x 0 := by
    unfold cnt
    split
    · omega
    · first | omega | (rw [if_neg hx]; omega)
  have hcq : cnt x q = cnt x 0 + q := by rw [← cnt_plus, Int.zero_add]
  simp only [endc] at h ⊢
  rw [hcq, if_neg (by omega)]
  split at h
  · rename_i h0
    simp at h
    subst h
    rw [h0, Int.zero_add]
    simp
  · rename_i h0
    rw [Option.map_eq_some_iff] at h
    obtain ⟨m', h1, rfl⟩ := h
    rw [endc_over (by omega) hq h1, List.drop_succ_cons]
    cases endc (l.drop m') q with
    | none => rfl
    | some z => simp; omega

/-- The walk over a Disc's contents: 0 is a Sep, else an item of so many nodes; l: what is left, with all that comes behind; k: Seps so far; r: nodes till the Disc's End. -/
def D3 : List Nat → List Nd → Nat → Nat → Prop
  | [], l, k, r => r = 0 ∧ k = 2 ∧ ∃ x, l.head? = some x ∧ x.kind = 6
  | m :: ss, l, k, r => ∃ x l' r', l = x :: l' ∧ ¬ x.kind = 6 ∧
      ((m = 0 ∧ x.kind = 11 ∧ k < 2 ∧ r = r' + 1 ∧ D3 ss l' (k + 1) r') ∨
       (m ≠ 0 ∧ ¬ x.kind = 11 ∧ smallB x = true ∧ k ≤ 2 ∧ r = r' + m ∧ endc l 0 = some m ∧ D3 ss (l.drop m) k r'))
/-- One of a Disc's lists. -/
def thr : List Nat → List Nd → Nat → Nat → List Nd
  | [], _, _, _ => []
  | 0 :: ss, l, k, j => thr ss (l.drop 1) (k + 1) j
  | m :: ss, l, k, j => (if j = k then l.take m else []) ++ thr ss (l.drop m) k j
theorem d3_of_run : ∀ (f : Nat) {l : List Nd} {t : Int} {st0 : List Int} {d : Int} {s' : St} {r k : Nat}, l.length ≤ f → run l (t :: st0, d) = some s' → s'.1.length ≤ st0.length → endc l 1 = some (r + 1) → t = 2 - (k : Int) → 0 ≤ t → ∃ ss, D3 ss l k r
  | f, [], t, st0, d, s', r, k, hf, hrun, hs, he, ht, h0 => by simp [endc] at he
  | 0, x :: l, t, st0, d, s', r, k, hf, hrun, hs, he, ht, h0 => by simp at hf
  | f + 1, x :: l, t, st0, d, s', r, k, hf, hrun, hs, he, ht, h0 => by
    simp only [List.length_cons] at hf
    by_cases h6 : x.kind = 6
    · have hno : opensB x = false := by simp [opensB, h6]
      have hc : cnt x 1 = 0 := by simp [cnt, hno, h6]
      simp only [endc, hc, if_true] at he
      simp at he
      subst he
      simp only [run] at hrun
      cases h1 : stp (t :: st0, d) x with
      | none => rw [h1] at hrun; cases hrun
      | some s1 =>
        unfold stp at h1
        split at h1
        · try simp only at h1
          try rw [if_pos h6] at h1
          split at h1
          · cases h1
          · exact ⟨[], rfl, by omega, x, rfl, h6⟩
        · cases h1
    · by_cases h11 : x.kind = 11
      · have hno : opensB x = false := by simp [opensB, h11]
        have hc : cnt x 1 = 1 := by simp [cnt, hno, h11]
        simp only [endc, hc] at he
        rw [if_neg (by omega), Option.map_eq_some_iff] at he
        obtain ⟨r', he', hr⟩ := he
        have hb := endc_bd he'
        simp only [run] at hrun
        cases h1 : stp (t :: st0, d) x with
        | none => rw [h1] at hrun; cases hrun
        | some s1 =>
          rw [h1] at hrun
          simp only at hrun
          unfold stp at h1
          split at h1
          · try rw [if_neg h6] at h1
            try rw [if_pos h11] at h1
            simp only at h1
            split at h1
            · cases h1
            · simp at h1
              subst h1
              obtain ⟨ss, hss⟩ := d3_of_run f (l := l) (t := t - 1) (k := k + 1) (r := r' - 1) (by omega) hrun hs (by rw [he']; congr 1; omega) (by omega) (by omega)
              exact ⟨0 :: ss, x, l, r' - 1, rfl, h6, .inl ⟨rfl, h11, by omega, by omega, hss⟩⟩
          · cases h1
      · obtain ⟨m, d1, h2, h3, h4⟩ := run_inner (st := []) (st0 := t :: st0) (l := x :: l) hrun (by simp; omega) (.inr ⟨x, rfl, h6, h11⟩)
        have hb := endc_bd h2
        simp only [List.length_nil, List.length_cons] at h2 hb
        have h2' : endc (x :: l) 0 = some m := h2
        have h5 := endc_over0 h6 (q := 1) (by omega) h2'
        rw [he] at h5
        have h5 := h5.symm
        rw [Option.map_eq_some_iff] at h5
        obtain ⟨r', h6', h7⟩ := h5
        have hb' := endc_bd h6'
        obtain ⟨ss, hss⟩ := d3_of_run f (l := (x :: l).drop m) (t := t) (k := k) (r := r' - 1) (by simp only [List.length_drop, List.length_cons]; omega) h4 hs (by rw [h6']; congr 1; omega) ht h0
        have hsm : smallB x = true := by
          simp only [run] at hrun
          cases h1 : stp (t :: st0, d) x with
          | none => rw [h1] at hrun; cases hrun
          | some s1 =>
            unfold stp at h1
            split at h1
            · try rw [if_neg h6] at h1
              try rw [if_neg h11] at h1
              split at h1
              · cases h1
              · rename_i hbl
                simp only [blocked, decide_eq_true h0, Bool.true_and] at hbl
                simpa using hbl
            · cases h1
        exact ⟨m :: ss, x, l, r' - 1, rfl, h6, .inr ⟨by omega, h11, hsm, by omega, by omega, h2', hss⟩⟩
/-- A Disc's contents. -/
theorem disc_steps {ns : List Nd} {a m : Nat} {n : Nd} (h : chk ns = 0) (hn : ns[a]? = some n) (h10 : n.kind = 10) (hm : endc (ns.drop a) 0 = some m) : 2 ≤ m ∧ ∃ ss, D3 ss (ns.drop (a + 1)) 0 (m - 2) := by
  have hal : a < ns.length := (List.getElem?_eq_some_iff.1 hn).1
  have hd : ns.drop a = n :: ns.drop (a + 1) := by
    have := List.drop_eq_getElem_cons hal
    rw [this]
    congr 1
    have := List.getElem?_eq_getElem hal
    rw [hn] at this
    exact (Option.some.inj this).symm
  have ho : opensB n = true := by simp [opensB, h10]
  have hc : cnt n 0 = 1 := by simp [cnt, ho]
  rw [hd] at hm
  simp only [endc, hc] at hm
  rw [if_neg (by omega), Option.map_eq_some_iff] at hm
  obtain ⟨m', h1, rfl⟩ := hm
  have hb := endc_bd h1
  refine ⟨by omega, ?_⟩
  obtain ⟨_, d, h2, _⟩ := chk_run h
  rw [← List.take_append_drop a ns, run_append] at h2
  cases h3 : run (ns.take a) ([], 0) with
  | none => rw [h3] at h2; cases h2
  | some s =>
    obtain ⟨st0, d0⟩ := s
    rw [h3] at h2
    simp only [Option.bind_some] at h2
    rw [hd] at h2
    simp only [run] at h2
    cases h4 : stp (st0, d0) n with
    | none => rw [h4] at h2; cases h2
    | some s1 =>
      rw [h4] at h2
      simp only at h2
      unfold stp at h4
      split at h4
      · try rw [if_neg (by omega : ¬ n.kind = 6)] at h4
        try rw [if_neg (by omega : ¬ n.kind = 11)] at h4
        split at h4
        · cases h4
        · simp only [Option.some.injEq, if_pos ho, if_pos h10] at h4
          subst h4
          obtain ⟨ss, hss⟩ := d3_of_run (ns.drop (a + 1)).length (k := 0) (r := m' - 1) (Nat.le_refl _) h2 (by simp) (by rw [h1]; congr 1; omega) (by omega) (by omega)
          exact ⟨ss, by simpa using hss⟩
      · cases h4
theorem D3.append : ∀ {ss : List Nat} {l : List Nd} {k r : Nat} (t : List Nd), D3 ss l k r → D3 ss (l ++ t) k r
  | [], l, k, r, t, h => by
    obtain ⟨h1, h2, x, hx, h6⟩ := h
    refine ⟨h1, h2, x, ?_, h6⟩
    cases l with
    | nil => cases hx
    | cons y l => exact hx
  | m :: ss, l, k, r, t, h => by
    obtain ⟨x, l', r', rfl, h6, h | h⟩ := h
    · obtain ⟨h1, h2, h3, h4, h5⟩ := h
      exact ⟨x, l' ++ t, r', rfl, h6, .inl ⟨h1, h2, h3, h4, h5.append t⟩⟩
    · obtain ⟨h1, h2, h3, h4, h5, h7, h8⟩ := h
      have hb := endc_bd h7
      refine ⟨x, l' ++ t, r', rfl, h6, .inr ⟨h1, h2, h3, h4, h5, endc_more t h7, ?_⟩⟩
      rw [List.drop_append_of_le_length hb.2]
      exact h8.append t
theorem D3.unique : ∀ {ss tt : List Nat} {l : List Nd} {k r q : Nat}, D3 ss l k r → D3 tt l k q → ss = tt
  | [], [], l, k, r, q, _, _ => rfl
  | [], m :: tt, l, k, r, q, h, h' => by
    obtain ⟨_, _, x, hx, h6⟩ := h
    obtain ⟨y, l', r', rfl, h6', _⟩ := h'
    cases hx
    exact absurd h6 h6'
  | m :: ss, [], l, k, r, q, h, h' => by
    obtain ⟨_, _, x, hx, h6⟩ := h'
    obtain ⟨y, l', r', rfl, h6', _⟩ := h
    cases hx
    exact absurd h6 h6'
  | m :: ss, m' :: tt, l, k, r, q, h, h' => by
    obtain ⟨x, l', r', rfl, h6, h | h⟩ := h <;> obtain ⟨y, l2, r2, e, h6', h' | h'⟩ := h'
    · injection e with e1 e2
      subst e1; subst e2
      rw [D3.unique h.2.2.2.2 h'.2.2.2.2, h.1, h'.1]
    · injection e with e1 e2
      subst e1
      exact absurd h.2.1 h'.2.1
    · injection e with e1 e2
      subst e1
      exact absurd h'.2.1 h.2.1
    · injection e with e1 e2
      subst e1; subst e2
      have h1 := h.2.2.2.2.2.1
      have h2 := h'.2.2.2.2.2.1
      rw [h1] at h2
      injection h2 with e
      subst e
      rw [D3.unique h.2.2.2.2.2.2 h'.2.2.2.2.2.2]
theorem thr_append : ∀ {ss : List Nat} {l : List Nd} {k r : Nat} (t : List Nd) (j : Nat), D3 ss l k r → thr ss (l ++ t) k j = thr ss l k j
  | [], l, k, r, t, j, h => rfl
  | m :: ss, l, k, r, t, j, h => by
    obtain ⟨x, l', r', rfl, h6, h | h⟩ := h
    · obtain ⟨rfl, h2, h3, h4, h5⟩ := h
      simp only [thr, List.cons_append, List.drop_succ_cons, List.drop_zero]
      exact thr_append t j h5
    · obtain ⟨h1, h2, h3, h4, h5, h7, h8⟩ := h
      have hb := endc_bd h7
      obtain ⟨m, rfl⟩ : ∃ q, m = q + 1 := ⟨m - 1, by omega⟩
      simp only [thr]
      rw [List.take_append_of_le_length hb.2, List.drop_append_of_le_length hb.2, thr_append t j h8]
theorem thr_mem : ∀ {ss : List Nat} {l : List Nd} {k j : Nat}, ∀ x ∈ thr ss l k j, x ∈ l
  | [], l, k, j, x, h => by cases h
  | 0 :: ss, l, k, j, x, h => List.mem_of_mem_drop (thr_mem (ss := ss) (l := l.drop 1) x h)
  | (m + 1) :: ss, l, k, j, x, h => by
    simp only [thr, List.mem_append] at h
    rcases h with h | h
    · split at h
      · exact List.mem_of_mem_take h
      · cases h
    · exact List.mem_of_mem_drop (thr_mem (ss := ss) (l := l.drop (m + 1)) x h)
theorem thr_len : ∀ {ss : List Nat} {l : List Nd} {k r j : Nat}, D3 ss l k r → (thr ss l k j).length ≤ r
  | [], l, k, r, j, h => by simp [thr]
  | m :: ss, l, k, r, j, h => by
    obtain ⟨x, l', r', rfl, h6, h | h⟩ := h
    · obtain ⟨rfl, h2, h3, h4, h5⟩ := h
      simp only [thr, List.drop_succ_cons, List.drop_zero]
      have := thr_len (j := j) h5
      omega
    · obtain ⟨h1, h2, h3, h4, h5, h7, h8⟩ := h
      have hb := endc_bd h7
      obtain ⟨m, rfl⟩ : ∃ q, m = q + 1 := ⟨m - 1, by omega⟩
      have := thr_len (j := j) h8
      simp only [thr, List.length_append]
      split
      · simp only [List.length_take]
        omega
      · simp only [List.length_nil]
        omega
/-- The items of one of the lists: small ones. -/
theorem thr_its : ∀ {ss : List Nat} {l : List Nd} {k r : Nat} (j o : Nat), D3 ss l k r → ∃ xs, Its xs (thr ss l k j) o ∧ ∀ x ∈ xs, ∃ n, (thr ss l k j)[x - o]? = some n ∧ smallB n = true
  | [], l, k, r, j, o, h => ⟨[], rfl, fun x hx => by cases hx⟩
  | m :: ss, l, k, r, j, o, h => by
    obtain ⟨x, l', r', rfl, h6, h | h⟩ := h
    · obtain ⟨rfl, h2, h3, h4, h5⟩ := h
      simp only [thr, List.drop_succ_cons, List.drop_zero]
      exact thr_its j o h5
    · obtain ⟨h1, h2, h3, h4, h5, h7, h8⟩ := h
      have hb := endc_bd h7
      obtain ⟨m, rfl⟩ : ∃ q, m = q + 1 := ⟨m - 1, by omega⟩
      simp only [thr]
      by_cases hj : j = k
      · rw [if_pos hj]
        obtain ⟨xs, hx, hs⟩ := thr_its j (o + (m + 1)) h8
        have hlt : ((x :: l').take (m + 1)).length = m + 1 := by rw [List.length_take]; omega
        refine ⟨o :: xs, ⟨rfl, m + 1, endc_more _ (endc_just h7), ?_⟩, ?_⟩
        · rw [List.drop_append_of_le_length (by omega), List.drop_of_length_le (by omega), List.nil_append]
          exact hx
        · intro y hy
          rcases List.mem_cons.1 hy with rfl | hy
          · refine ⟨x, ?_, h3⟩
            rw [Nat.sub_self]
            simp
          · obtain ⟨n, hn, hs'⟩ := hs y hy
            have := (Its.lt hx y hy).1
            refine ⟨n, ?_, hs'⟩
            rw [List.getElem?_append_right (by omega), hlt, ← hn]
            congr 1
            omega
      · rw [if_neg hj, List.nil_append]
        exact thr_its j o h8
/-- No more than so much is left. -/
theorem D3.le : ∀ {ss : List Nat} {l : List Nd} {k r : Nat}, D3 ss l k r → r < l.length
  | [], l, k, r, h => by
    obtain ⟨rfl, _, x, hx, _⟩ := h
    cases l with
    | nil => cases hx
    | cons y l => simp
  | m :: ss, l, k, r, h => by
    obtain ⟨x, l', r', rfl, h6, h | h⟩ := h
    · obtain ⟨rfl, h2, h3, rfl, h5⟩ := h
      have := h5.le
      simp only [List.length_cons]
      omega
    · obtain ⟨h1, h2, h3, h4, rfl, h7, h8⟩ := h
      have hb := endc_bd h7
      have := h8.le
      simp only [List.length_drop] at this
      omega
end Go.Proofs.Ytoboecenlangmaa.Np
end
section
namespace Go.Proofs.Ytoboecenlangmaa.Np
set_option linter.unusedSimpArgs false
set_option linter.unusedVariables false

/-- How long the item at a place is, if it is no Disc. -/
def al0 (l : List Nd) (down : Bool) (x : Nat) : Int := match l[x]? with
  | none => 0
  | some n => alongP n down
/-- How long the item at a place is. -/
def AlV (ns : List Nd) (down : Bool) (x : Nat) (v : Int) : Prop :=
  ∃ n, ns[x]? = some n ∧ (if n.kind = 10 ∧ down = false then
    ∃ ss m xs, D3 ss (ns.drop (x + 1)) 0 m ∧ Its xs (thr ss (ns.drop (x + 1)) 0 2) 0 ∧ v = (tsum (thr ss (ns.drop (x + 1)) 0 2) (al0 (thr ss (ns.drop (x + 1)) 0 2) false) xs tz).nat
  else v = alongP n down)
theorem AlV.unique {ns : List Nd} {down : Bool} {x : Nat} {v u : Int} (h : AlV ns down x v) (k : AlV ns down x u) : v = u := by
  obtain ⟨n, hn, h⟩ := h
  obtain ⟨n', hn', k⟩ := k
  rw [hn] at hn'
  injection hn' with e
  subst e
  split at h
  · rename_i hc
    rw [if_pos hc] at k
    obtain ⟨ss, m, xs, h1, h2, h3⟩ := h
    obtain ⟨tt, q, ys, k1, k2, k3⟩ := k
    have e1 := D3.unique h1 k1
    subst e1
    have e2 := Its.unique h2 k2
    subst e2
    rw [h3, k3]
  · rename_i hc
    rw [if_neg hc] at k
    rw [h, k]
open Classical in
/-- The same as a function. -/
noncomputable def alD (ns : List Nd) (down : Bool) (x : Nat) : Int := if h : ∃ v, AlV ns down x v then h.choose else 0
theorem alD_of {ns : List Nd} {down : Bool} {x : Nat} {v : Int} (h : AlV ns down x v) : alD ns down x = v := by
  have hx : ∃ v, AlV ns down x v := ⟨v, h⟩
  unfold alD
  rw [dif_pos hx]
  exact AlV.unique hx.choose_spec h
/-- Sums of items, where each is no greater than a bound. -/
theorem tsum_nat_bd (ns : List Nd) (al : Nat → Int) : ∀ (xs : List Nat) (T : Tot) (k : Nat), (∀ x ∈ xs, -2147483646 ≤ al x ∧ al x ≤ 2147483646) → -(2147483646 * (k : Int)) ≤ T.nat → T.nat ≤ 2147483646 * (k : Int) →
    -(2147483646 * ((k + xs.length : Nat) : Int)) ≤ (tsum ns al xs T).nat ∧ (tsum ns al xs T).nat ≤ 2147483646 * ((k + xs.length : Nat) : Int)
  | [], T, k, h, h1, h2 => by simpa [tsum] using ⟨h1, h2⟩
  | x :: xs, T, k, h, h1, h2 => by
    have hx := h x (by simp)
    have hxs : ∀ y ∈ xs, -2147483646 ≤ al y ∧ al y ≤ 2147483646 := fun y hy => h y (by simp [hy])
    simp only [tsum, List.length_cons]
    have e : k + (xs.length + 1) = (k + 1) + xs.length := by omega
    rw [e]
    split
    · exact tsum_nat_bd ns al xs T (k + 1) hxs (by omega) (by omega)
    · rename_i n hn
      have e2 : (tstep T n (al x)).nat = T.nat + al x := by unfold tstep; split <;> rfl
      exact tsum_nat_bd ns al xs _ (k + 1) hxs (by omega) (by omega)
theorem al0_bd {l : List Nd} (hr : ∀ x ∈ l, right x = true) (down : Bool) (x : Nat) : -2147483646 ≤ al0 l down x ∧ al0 l down x ≤ 2147483646 := by
  unfold al0
  split
  · omega
  · rename_i n hn
    exact along_bd (hr n (List.mem_of_getElem? hn)) down
/-- Each item of a list is so long. -/
theorem alV_ex {ns : List Nd} (down : Bool) (h : chk ns = 0) {x : Nat} {n : Nd} (hn : ns[x]? = some n) (h6 : ¬ n.kind = 6) (h11 : ¬ n.kind = 11) : ∃ v, AlV ns down x v := by
  by_cases hc : n.kind = 10 ∧ down = false
  · obtain ⟨m, hm⟩ := item_ends h hn h6 h11
    obtain ⟨_, ss, hss⟩ := disc_steps h hn hc.1 hm
    obtain ⟨xs, hxs, _⟩ := thr_its 2 0 hss
    exact ⟨_, n, hn, by rw [if_pos hc]; exact ⟨ss, m - 2, xs, hss, hxs, rfl⟩⟩
  · exact ⟨_, n, hn, by rw [if_neg hc]⟩
theorem alV_bd {ns : List Nd} {down : Bool} (h : chk ns = 0) {x : Nat} {v : Int} (hv : AlV ns down x v) : -4294967292000 ≤ v ∧ v ≤ 4294967292000 := by
  have hr := chk_right h
  have hl := (chk_run h).1
  obtain ⟨n, hn, hv⟩ := hv
  split at hv
  · obtain ⟨ss, m, xs, h1, h2, rfl⟩ := hv
    have hr3 : ∀ y ∈ thr ss (ns.drop (x + 1)) 0 2, right y = true := fun y hy => hr y (List.mem_of_mem_drop (thr_mem y hy))
    have h3 := tsum_nat_bd (thr ss (ns.drop (x + 1)) 0 2) (al0 (thr ss (ns.drop (x + 1)) 0 2) false) xs tz 0 (fun y hy => al0_bd hr3 false y) (by simp [tz]) (by simp [tz])
    have h4 := h2.len
    have h5 := thr_len (j := 2) h1
    have h6 := h1.le
    rw [List.length_drop] at h6
    omega
  · have := along_bd (hr n (List.mem_of_getElem? hn)) down
    omega
theorem Its.beg : ∀ {xs : List Nat} {l : List Nd} {o : Nat}, Its xs l o → (∃ d d', run l ([], d) = some ([], d')) → ∀ x ∈ xs, ∃ n, l[x - o]? = some n ∧ ¬ n.kind = 6 ∧ ¬ n.kind = 11
  | [], l, o, h, _, x, hx => by cases hx
  | y :: xs, l, o, h, ⟨d, d', hd⟩, x, hx => by
    obtain ⟨rfl, m, hm, hxs⟩ := h
    have hb := endc_bd hm
    have hne : l ≠ [] := by rintro rfl; simp at hb; omega
    obtain ⟨m', d1, h1, h2, h3⟩ := run_item hd hne
    simp only [List.length_nil] at h1
    have h1' : endc l 0 = some m' := h1
    rw [hm] at h1'
    injection h1' with e
    subst e
    rcases List.mem_cons.1 hx with rfl | hx
    · cases l with
      | nil => exact absurd rfl hne
      | cons n l =>
        refine ⟨n, by simp, ?_, ?_⟩
        · intro h6
          simp only [run] at hd
          cases hs : stp ([], d) n with
          | none => rw [hs] at hd; cases hd
          | some s1 =>
            unfold stp at hs
            simp [h6] at hs
        · intro h11
          simp only [run] at hd
          cases hs : stp ([], d) n with
          | none => rw [hs] at hd; cases hd
          | some s1 =>
            unfold stp at hs
            simp [h11] at hs
    · obtain ⟨n, hn, hk⟩ := Its.beg hxs ⟨d1, d', h3⟩ x hx
      have := (Its.lt hxs x hx).1
      refine ⟨n, ?_, hk⟩
      rw [← hn, List.getElem?_drop]
      congr 1
      omega
theorem its_beg {l : List Nd} {xs : List Nat} (h : chk l = 0) (hx : Its xs l 0) : ∀ x ∈ xs, ∃ n, l[x]? = some n ∧ ¬ n.kind = 6 ∧ ¬ n.kind = 11 := by
  obtain ⟨_, d, hd, _⟩ := chk_run h
  intro x hm
  simpa using hx.beg ⟨0, d, hd⟩ x hm
/-- Each item's length, as a function. -/
theorem alD_spec {l : List Nd} {xs : List Nat} (down : Bool) (h : chk l = 0) (hx : Its xs l 0) : ∀ x ∈ xs, AlV l down x (alD l down x) := by
  intro x hm
  obtain ⟨n, hn, h6, h11⟩ := its_beg h hx x hm
  obtain ⟨v, hv⟩ := alV_ex down h hn h6 h11
  rw [alD_of hv]
  exact hv

/-! ### One list behind the other -/
theorem run_deeper : ∀ {l : List Nd} {st st' : List Int} {d d' : Int} (c : Int), run l (st, d) = some (st', d') → run l (st, max c d) = some (st', max c d')
  | [], st, st', d, d', c, h => by simp [run] at h ⊢; obtain ⟨rfl, rfl⟩ := h; exact ⟨rfl, rfl⟩
  | n :: l, st, st', d, d', c, h => by
    simp only [run] at h ⊢
    cases h1 : stp (st, d) n with
    | none => rw [h1] at h; cases h
    | some s =>
      obtain ⟨st1, d1⟩ := s
      rw [h1] at h
      simp only at h
      have h2 : stp (st, max c d) n = some (st1, max c d1) := by
        unfold stp at h1 ⊢
        split at h1
        · rename_i hr
          rw [if_pos hr]
          split at h1
          · rename_i h6
            rw [if_pos h6]
            split at h1
            · cases h1
            · rename_i hst
              simp only at hst
              subst hst
              simp only
              split at h1
              · cases h1
              · rename_i ht
                rw [if_neg ht]
                simp at h1
                obtain ⟨rfl, rfl⟩ := h1
                rfl
          · rename_i h6
            rw [if_neg h6]
            split at h1
            · rename_i h11
              rw [if_pos h11]
              split at h1
              · cases h1
              · rename_i hst
                simp only at hst
                subst hst
                simp only
                split at h1
                · cases h1
                · rename_i ht
                  rw [if_neg ht]
                  simp at h1
                  obtain ⟨rfl, rfl⟩ := h1
                  rfl
            · rename_i h11
              rw [if_neg h11]
              split at h1
              · cases h1
              · rename_i hb
                rw [if_neg hb]
                simp only [Option.some.injEq, Prod.mk.injEq] at h1
                obtain ⟨h3, h4⟩ := h1
                simp only [Option.some.injEq, Prod.mk.injEq]
                exact ⟨h3, by omega⟩
        · cases h1
      rw [h2]
      exact run_deeper c h
theorem chk_of {l : List Nd} {d : Int} (hl : l.length ≤ 2000) (h : run l ([], 0) = some ([], d)) (hd : d ≤ 40) : chk l = 0 := by
  rw [chk_end hl h, if_pos rfl, if_neg (by omega)]
theorem chk_join {a b : List Nd} (ha : chk a = 0) (hb : chk b = 0) (hl : a.length + b.length ≤ 2000) : chk (a ++ b) = 0 := by
  obtain ⟨_, d, h1, h2⟩ := chk_run ha
  obtain ⟨_, e, h3, h4⟩ := chk_run hb
  by_cases h0 : 0 ≤ d
  · have h5 := run_deeper d h3
    rw [Int.max_eq_left h0] at h5
    refine chk_of (d := max d e) (by rw [List.length_append]; omega) ?_ (by omega)
    rw [run_append, h1]
    exact h5
  · have := (run_bd (k := 0) h1 (by simp) (Int.le_refl _) (Int.le_refl _)).2.1
    omega
theorem Its.shift : ∀ {xs : List Nat} {l : List Nd} {o : Nat} (q : Nat), Its xs l o → Its (xs.map (q + ·)) l (q + o)
  | [], l, o, q, h => h
  | x :: xs, l, o, q, h => by
    obtain ⟨rfl, m, hm, hx⟩ := h
    refine ⟨rfl, m, hm, ?_⟩
    have := hx.shift q
    rwa [← Nat.add_assoc] at this
theorem its_join : ∀ {xs ys : List Nat} {a b : List Nd} {o : Nat}, Its xs a o → Its ys b (o + a.length) → Its (xs ++ ys) (a ++ b) o
  | [], ys, a, b, o, h, k => by
    have h : a = [] := h
    subst h
    simpa using k
  | x :: xs, ys, a, b, o, h, k => by
    obtain ⟨rfl, m, hm, hx⟩ := h
    have hb := endc_bd hm
    refine ⟨rfl, m, endc_more b hm, ?_⟩
    rw [List.drop_append_of_le_length hb.2]
    refine its_join hx ?_
    rw [List.length_drop]
    have e : x + m + (a.length - m) = x + a.length := by omega
    rw [e]
    exact k
/-- Totals that are others with an amount more. -/
structure Tmore (T T' D : Tot) : Prop where
  nat : T'.nat = T.nat + D.nat
  st4 : T.st.length = 4 ∧ T'.st.length = 4 ∧ T.sh.length = 4 ∧ T'.sh.length = 4
  st : ∀ i : Nat, T'.st.getD i 0 = T.st.getD i 0 + D.st.getD i 0
  sh : ∀ i : Nat, T'.sh.getD i 0 = T.sh.getD i 0 + D.sh.getD i 0
theorem Tmore.step {T T' D : Tot} (h : Tmore T T' D) (n : Nd) (v : Int) : Tmore (tstep T n v) (tstep T' n v) D := by
  obtain ⟨h1, ⟨h2, h3, h4, h5⟩, h6, h7⟩ := h
  unfold tstep
  split
  · refine ⟨by simp only; omega, by simp [h2, h3, h4, h5], fun i => ?_, fun i => ?_⟩
    · simp only
      rw [set_getD, set_getD, h2, h3]
      have a := h6 i
      by_cases e : n.ga.toNat = i
      · subst e; split <;> omega
      · rw [if_neg (by omega), if_neg (by omega)]; exact a
    · simp only
      rw [set_getD, set_getD, h4, h5]
      have a := h7 i
      by_cases e : n.gb.toNat = i
      · subst e; split <;> omega
      · rw [if_neg (by omega), if_neg (by omega)]; exact a
  · exact ⟨by simp only; omega, ⟨h2, h3, h4, h5⟩, h6, h7⟩
theorem tsum_more (ns : List Nd) (al : Nat → Int) : ∀ (xs : List Nat) {T T' D : Tot}, Tmore T T' D → Tmore (tsum ns al xs T) (tsum ns al xs T') D
  | [], T, T', D, h => h
  | x :: xs, T, T', D, h => by
    simp only [tsum]
    split
    · exact tsum_more ns al xs h
    · exact tsum_more ns al xs (h.step _ _)
theorem tsum_append (ns : List Nd) (al : Nat → Int) : ∀ (xs ys : List Nat) (T : Tot), tsum ns al (xs ++ ys) T = tsum ns al ys (tsum ns al xs T)
  | [], ys, T => rfl
  | x :: xs, ys, T => by
    simp only [List.cons_append, tsum]
    split <;> exact tsum_append ns al xs ys _
theorem tsum_same (ns ms : List Nd) (al bl : Nat → Int) (q : Nat) : ∀ (xs : List Nat) (T : Tot), (∀ x ∈ xs, ns[x]? = ms[q + x]? ∧ al x = bl (q + x)) → tsum ns al xs T = tsum ms bl (xs.map (q + ·)) T
  | [], T, h => rfl
  | x :: xs, T, h => by
    obtain ⟨h1, h2⟩ := h x (by simp)
    have hx : ∀ y ∈ xs, ns[y]? = ms[q + y]? ∧ al y = bl (q + y) := fun y hy => h y (by simp [hy])
    simp only [List.map_cons, tsum]
    rw [h1, h2]
    split <;> exact tsum_same ns ms al bl q xs _ hx
theorem tstep_len {T : Tot} (n : Nd) (v : Int) (h : T.st.length = 4 ∧ T.sh.length = 4) : (tstep T n v).st.length = 4 ∧ (tstep T n v).sh.length = 4 := by
  unfold tstep
  split
  · simp [h]
  · exact h
theorem tsum_len (ns : List Nd) (al : Nat → Int) : ∀ (xs : List Nat) (T : Tot), T.st.length = 4 ∧ T.sh.length = 4 → (tsum ns al xs T).st.length = 4 ∧ (tsum ns al xs T).sh.length = 4
  | [], T, h => h
  | x :: xs, T, h => by
    simp only [tsum]
    split
    · exact tsum_len ns al xs T h
    · exact tsum_len ns al xs _ (tstep_len _ _ h)
theorem tz_more {T : Tot} (h : T.st.length = 4 ∧ T.sh.length = 4) : Tmore tz T T :=
  ⟨by simp [tz], ⟨rfl, h.1, rfl, h.2⟩, fun i => by simp only [tz]; rw [tz_get]; omega, fun i => by simp only [tz]; rw [tz_get]; omega⟩
/-- What a list comes to. -/
noncomputable def totD (ns : List Nd) (down : Bool) (xs : List Nat) : Tot := tsum ns (alD ns down) xs tz
theorem totD_len (ns : List Nd) (down : Bool) (xs : List Nat) : (totD ns down xs).st.length = 4 ∧ (totD ns down xs).sh.length = 4 := tsum_len _ _ _ _ ⟨rfl, rfl⟩
theorem alV_left {a b : List Nd} {down : Bool} {x : Nat} {v : Int} (h : AlV a down x v) : AlV (a ++ b) down x v := by
  obtain ⟨n, hn, h⟩ := h
  have hx := (List.getElem?_eq_some_iff.1 hn).1
  refine ⟨n, by rw [List.getElem?_append_left hx]; exact hn, ?_⟩
  split
  · rename_i hc
    rw [if_pos hc] at h
    obtain ⟨ss, m, xs, h1, h2, h3⟩ := h
    have e : (a ++ b).drop (x + 1) = a.drop (x + 1) ++ b := List.drop_append_of_le_length (by omega)
    refine ⟨ss, m, xs, by rw [e]; exact h1.append b, ?_, ?_⟩
    · rw [e, thr_append b 2 h1]
      exact h2
    · rw [e, thr_append b 2 h1]
      exact h3
  · rename_i hc
    rw [if_neg hc] at h
    exact h
theorem alV_right {a b : List Nd} {down : Bool} {x : Nat} {v : Int} (h : AlV b down x v) : AlV (a ++ b) down (a.length + x) v := by
  obtain ⟨n, hn, h⟩ := h
  refine ⟨n, by rw [List.getElem?_append_right (by omega), Nat.add_sub_cancel_left]; exact hn, ?_⟩
  have e : (a ++ b).drop (a.length + x + 1) = b.drop (x + 1) := by
    rw [Nat.add_assoc, List.drop_append, List.drop_of_length_le (by omega), List.nil_append, Nat.add_sub_cancel_left]
  rw [e]
  exact h
/-- Two lists come to what both come to. -/
theorem tot_join {a b : List Nd} {xs ys : List Nat} (down : Bool) (ha : chk a = 0) (hb : chk b = 0) (hx : Its xs a 0) (hy : Its ys b 0) :
    Tmore (totD b down ys) (totD (a ++ b) down (xs ++ ys.map (a.length + ·))) (totD a down xs) := by
  have h1 : totD a down xs = tsum (a ++ b) (alD (a ++ b) down) xs tz := by
    have := tsum_same a (a ++ b) (alD a down) (alD (a ++ b) down) 0 xs tz fun x hm => by
      have hlt := (hx.lt x hm).2
      refine ⟨by rw [Nat.zero_add, List.getElem?_append_left (by omega)], ?_⟩
      rw [Nat.zero_add]
      exact (alD_of (alV_left (alD_spec down ha hx x hm))).symm
    simpa [totD] using this
  have h2 : totD b down ys = tsum (a ++ b) (alD (a ++ b) down) (ys.map (a.length + ·)) tz := by
    refine tsum_same b (a ++ b) (alD b down) (alD (a ++ b) down) a.length ys tz fun x hm => ?_
    refine ⟨by rw [List.getElem?_append_right (by omega), Nat.add_sub_cancel_left], ?_⟩
    exact (alD_of (alV_right (alD_spec down hb hy x hm))).symm
  have h3 : totD (a ++ b) down (xs ++ ys.map (a.length + ·)) = tsum (a ++ b) (alD (a ++ b) down) (ys.map (a.length + ·)) (totD a down xs) := by
    unfold totD
    rw [tsum_append]
    congr 1
    exact h1.symm
  rw [h2, h3]
  exact tsum_more _ _ _ (tz_more (totD_len a down xs))
theorem its_join0 {a b : List Nd} {xs ys : List Nat} (hx : Its xs a 0) (hy : Its ys b 0) : Its (xs ++ ys.map (a.length + ·)) (a ++ b) 0 := by
  refine its_join hx ?_
  have := hy.shift a.length
  simpa using this
end Go.Proofs.Ytoboecenlangmaa.Np
end
section
namespace Go.Proofs.Ytoboecenlangmaa.Np

def three3 (n : Nd) : Bool := dimB n.wd && (dimB n.ht && dimB n.dp)
def bareR (n : Nd) : Nd := { n with wd := 0, ht := 0, dp := 0 }
def boxR (n : Nd) : Bool :=
  if (three3 n && dimB n.shift) = true then
    if n.sign = 0 then eqB (bareR n) { nz n.kind with shift := n.shift }
    else if (winB n.sign 1 2 && winB n.order 0 3 && winB n.num 1 1152921504606846976 && winB n.den 1 1152921504606846976 && !(n.sign == 2 && n.order == 0 && decide (n.den < n.num))) = true then
      eqB (bareR n) { nz n.kind with shift := n.shift, sign := n.sign, order := n.order, num := n.num, den := n.den }
    else false
  else false
def ruleR (n : Nd) : Bool :=
  if (three3 n && winB n.sub 0 3 && (n.sub == 0 || n.sub == 2 || n.wd == 0) && (n.sub == 0 || n.sub == 1 || (n.ht == 0 && n.dp == 0))) = true then eqB (bareR n) { nz 3 with sub := n.sub } else false
def glyphR (n : Nd) : Bool :=
  if (three3 n && winB n.font 0 63 && (if n.kind = 1 then n.text.size == 0 else winB n.text.size 1 63)) = true then eqB (bareR n) { nz n.kind with font := n.font, char := n.char, text := n.text } else false
/-- The document's Good. -/
def goodR (n : Nd) : Bool :=
  if n.kind = 1 ∨ n.kind = 2 then glyphR n
  else if n.kind = 3 then ruleR n
  else if n.kind = 4 ∨ n.kind = 5 then boxR n
  else if n.kind = 7 then glB n && (winB n.sub 0 20 && eqB n { nz n.kind with gn := n.gn, gs := n.gs, gh := n.gh, ga := n.ga, gb := n.gb, sub := n.sub })
  else if n.kind = 8 then dimB n.wd && (winB n.sub 0 2 && eqB n { nz n.kind with wd := n.wd, sub := n.sub })
  else if n.kind = 9 then winB n.pen (-2147483647) 2147483647 && eqB n { nz n.kind with pen := n.pen }
  else if n.kind = 12 ∨ n.kind = 14 then decide ((n.text.size : Int) ≤ 1000) && eqB n { nz n.kind with text := n.text }
  else if n.kind = 13 then dimB n.ht && (dimB n.dp && (winB n.sub 0 254 && (winB n.pen (-2147483647) 2147483647 && (glB n && eqB n { nz n.kind with sub := n.sub, ht := n.ht, dp := n.dp, pen := n.pen, gn := n.gn, gs := n.gs, gh := n.gh, ga := n.ga, gb := n.gb }))))
  else if n.kind = 15 ∨ n.kind = 16 then dimB n.wd && eqB n { nz n.kind with wd := n.wd }
  else if n.kind = 6 ∨ n.kind = 10 ∨ n.kind = 11 ∨ n.kind = 17 then eqB n (nz n.kind)
  else false
theorem text_none {t : ByteArray} : t = ⟨#[]⟩ ↔ t.size = 0 := by
  constructor
  · rintro rfl; rfl
  · intro h
    obtain ⟨d⟩ := t
    have : d.size = 0 := h
    rw [Array.size_eq_zero_iff.1 this]
theorem kind_win {n : Nd} : winB n.kind 1 17 = true ↔ (n.kind = 1 ∨ n.kind = 2 ∨ n.kind = 3 ∨ n.kind = 4 ∨ n.kind = 5 ∨ n.kind = 6 ∨ n.kind = 7 ∨ n.kind = 8 ∨ n.kind = 9 ∨ n.kind = 10 ∨ n.kind = 11 ∨ n.kind = 12 ∨ n.kind = 13 ∨ n.kind = 14 ∨ n.kind = 15 ∨ n.kind = 16 ∨ n.kind = 17) := by
  simp only [winB, decide_eq_true_eq]
  omega
theorem goodR_right (n : Nd) : goodR n = right n := by
  rw [Bool.eq_iff_iff]
  by_cases hk : winB n.kind 1 17 = true
  · have hk' := kind_win.1 hk
    obtain ⟨kind, font, char, wd, ht, dp, shift, gn, gs, gh, ga, gb, sign, order, num, den, pen, sub, text⟩ := n
    simp only at hk'
    rcases hk' with rfl | rfl | rfl | rfl | rfl | rfl | rfl | rfl | rfl | rfl | rfl | rfl | rfl | rfl | rfl | rfl | rfl <;>
      simp only [goodR, right, hk, goodK, restK, Int.reduceToNat, Bool.true_and, Bool.and_eq_true, eqB_iff, nz, bareR, glyphR, boxR, ruleR, gGlyph, gBox, gRule, gIns, rChar, rText, rWide, rBox, three3, glB, Nd.mk.injEq] <;>
      simp [text_none, eqB_iff] <;> first | done | (constructor <;> intro h <;> simp_all; done) | (intros; constructor <;> intro h <;> simp_all; done) | (clear hk; by_cases hs : sign = 0 <;> simp only [hs, if_true, if_false, true_and, false_and] <;> constructor <;> intro h <;> simp_all; done) | skip
  · have : right n = false := by simp [right, hk]
    rw [this]
    simp only [winB, decide_eq_true_eq] at hk
    simp only [Bool.false_eq_true, iff_false]
    unfold goodR
    simp only [show ¬ n.kind = 1 by omega, show ¬ n.kind = 2 by omega, show ¬ n.kind = 3 by omega, show ¬ n.kind = 4 by omega, show ¬ n.kind = 5 by omega, show ¬ n.kind = 6 by omega, show ¬ n.kind = 7 by omega, show ¬ n.kind = 8 by omega, show ¬ n.kind = 9 by omega, show ¬ n.kind = 10 by omega, show ¬ n.kind = 11 by omega, show ¬ n.kind = 12 by omega, show ¬ n.kind = 13 by omega, show ¬ n.kind = 14 by omega, show ¬ n.kind = 15 by omega, show ¬ n.kind = 16 by omega, show ¬ n.kind = 17 by omega, if_false, or_false]
    simp
end Go.Proofs.Ytoboecenlangmaa.Np
end
section
namespace Go.Proofs.Ytoboecenlangmaa.Np
theorem TB.mono {k m : Nat} {T : Tot} (h : TB k T) (hk : k ≤ m) : TB m T := by
  obtain ⟨h1, h2, h3, h4, h5⟩ := h
  exact ⟨by omega, h2, h3, fun i => by have := h4 i; omega, fun i => by have := h5 i; omega⟩
theorem tsum_tb (ns : List Nd) (al : Nat → Int) (hr : ∀ x ∈ ns, right x = true) : ∀ (xs : List Nat) (T : Tot) (k : Nat), (∀ x ∈ xs, -4294967292000 ≤ al x ∧ al x ≤ 4294967292000) → TB k T → TB (k + xs.length) (tsum ns al xs T)
  | [], T, k, h, hT => by simpa [tsum] using hT
  | x :: xs, T, k, h, hT => by
    have hx := h x (by simp)
    have hxs : ∀ y ∈ xs, -4294967292000 ≤ al y ∧ al y ≤ 4294967292000 := fun y hy => h y (by simp [hy])
    simp only [tsum, List.length_cons]
    have e : k + (xs.length + 1) = (k + 1) + xs.length := by omega
    rw [e]
    split
    · exact tsum_tb ns al hr xs T (k + 1) hxs (hT.mono (by omega))
    · rename_i n hn
      exact tsum_tb ns al hr xs _ (k + 1) hxs (hT.step (hr n (List.mem_of_getElem? hn)) hx)
theorem totD_tb {l : List Nd} {xs : List Nat} (down : Bool) (h : chk l = 0) (hx : Its xs l 0) : TB 2000 (totD l down xs) := by
  have h1 := tsum_tb l (alD l down) (chk_right h) xs tz 0 (fun x hm => alV_bd h (alD_spec down h hx x hm)) TB.zero
  have h2 := hx.len
  have h3 : l.length ≤ 2000 := by
    unfold chk at h
    split at h
    · cases h
    · omega
  exact TB.mono h1 (by omega)
/-- What the law of joined lists asks of the three totals. -/
structure J3 (T U V : Tot) : Prop where
  nat : V.nat = IntKind.i64.wrap (T.nat + U.nat)
  st : ∀ i : Nat, V.st.getD i 0 = IntKind.i64.wrap (T.st.getD i 0 + U.st.getD i 0)
  sh : ∀ i : Nat, V.sh.getD i 0 = IntKind.i64.wrap (T.sh.getD i 0 + U.sh.getD i 0)
theorem j3_of {a b : List Nd} {xs ys : List Nat} (down : Bool) (ha : chk a = 0) (hb : chk b = 0) (hx : Its xs a 0) (hy : Its ys b 0) :
    J3 (totD a down xs) (totD b down ys) (totD (a ++ b) down (xs ++ ys.map (a.length + ·))) := by
  have h := tot_join down ha hb hx hy
  have b1 := totD_tb down ha hx
  have b2 := totD_tb down hb hy
  refine ⟨?_, fun i => ?_, fun i => ?_⟩
  · have h1 := b1.nat
    have h2 := b2.nat
    rw [IntWalk.i64_in _ (by omega), h.nat]
    omega
  · have h1 := b1.st i
    have h2 := b2.st i
    rw [IntWalk.i64_in _ (by omega), h.st i]
    omega
  · have h1 := b1.sh i
    have h2 := b2.sh i
    rw [IntWalk.i64_in _ (by omega), h.sh i]
    omega
end Go.Proofs.Ytoboecenlangmaa.Np
end
section
namespace Go.Proofs.Ytoboecenlangmaa.Np
set_option linter.unusedVariables false
set_option linter.unusedSimpArgs false

/-- One node more, from less deep. -/
theorem stp_free {st st1 : List Int} {d d1 : Int} {x : Nd} (h : stp (st, d) x = some (st1, d1)) : d ≤ d1 ∧ ∀ e, e ≤ d → ∃ e1, stp (st, e) x = some (st1, e1) ∧ e1 ≤ d1 := by
  by_cases hR : right x = true
  · by_cases k6 : x.kind = 6
    · cases st with
      | nil => simp [stp, hR, k6] at h
      | cons t r =>
        by_cases ht : 0 < t
        · simp [stp, hR, k6, ht] at h
        · simp [stp, hR, k6, ht] at h
          obtain ⟨rfl, rfl⟩ := h
          exact ⟨Int.le_refl _, fun e he => ⟨e, by simp [stp, hR, k6, ht], he⟩⟩
    · by_cases k11 : x.kind = 11
      · cases st with
        | nil => simp [stp, hR, k6, k11] at h
        | cons t r =>
          by_cases ht : t < 1
          · simp [stp, hR, k6, k11, ht] at h
          · simp [stp, hR, k6, k11, ht] at h
            obtain ⟨rfl, rfl⟩ := h
            exact ⟨Int.le_refl _, fun e he => ⟨e, by simp [stp, hR, k6, k11, ht], he⟩⟩
      · cases hb : blocked st x
        · rw [stp_other hR k6 k11 hb] at h
          simp only [Option.some.injEq, Prod.mk.injEq] at h
          obtain ⟨h1, h2⟩ := h
          refine ⟨by omega, fun e he => ⟨max e (st.length + 1), ?_, by omega⟩⟩
          rw [stp_other hR k6 k11 hb]
          simp [h1]
        · rw [stp_blocked hR k6 k11 hb] at h
          cases h
  · simp [stp, hR] at h
theorem run_free : ∀ {l : List Nd} {st st1 : List Int} {d d1 : Int}, run l (st, d) = some (st1, d1) → d ≤ d1 ∧ ∀ e, e ≤ d → ∃ e1, run l (st, e) = some (st1, e1) ∧ e1 ≤ d1
  | [], st, st1, d, d1, h => by
    simp only [run, Option.some.injEq, Prod.mk.injEq] at h
    obtain ⟨rfl, rfl⟩ := h
    exact ⟨Int.le_refl _, fun e he => ⟨e, rfl, he⟩⟩
  | x :: l, st, st1, d, d1, h => by
    simp only [run] at h
    cases hs : stp (st, d) x with
    | none => rw [hs] at h; cases h
    | some s2 =>
      obtain ⟨st2, d2⟩ := s2
      rw [hs] at h
      simp only at h
      obtain ⟨g1, g2⟩ := stp_free hs
      obtain ⟨g3, g4⟩ := run_free h
      refine ⟨by omega, fun e he => ?_⟩
      obtain ⟨e1, h1, h2⟩ := g2 e he
      obtain ⟨e3, h3, h4⟩ := g4 e1 h2
      exact ⟨e3, by simp only [run, h1]; exact h3, h4⟩
/-- One node more, within a box. -/
theorem stp_boxd {st s1 : List Int} {d d1 e : Int} {x : Nd} (h : stp (st ++ [-1], d) x = some (s1, d1)) (hc : ¬ s1.length = 0) (he : e + 1 ≤ d) : ∃ st1 e1, s1 = st1 ++ [-1] ∧ stp (st, e) x = some (st1, e1) ∧ e1 + 1 ≤ d1 := by
  by_cases hR : right x = true
  · by_cases k6 : x.kind = 6
    · cases st with
      | nil =>
        simp [stp, hR, k6] at h
        obtain ⟨h1, _⟩ := h
        exact absurd (by rw [h1]; rfl) hc
      | cons t r =>
        simp only [List.cons_append] at h
        by_cases ht : 0 < t
        · simp [stp, hR, k6, ht] at h
        · simp [stp, hR, k6, ht] at h
          obtain ⟨rfl, rfl⟩ := h
          exact ⟨r, e, rfl, by simp [stp, hR, k6, ht], he⟩
    · by_cases k11 : x.kind = 11
      · cases st with
        | nil => simp [stp, hR, k6, k11] at h
        | cons t r =>
          simp only [List.cons_append] at h
          by_cases ht : t < 1
          · simp [stp, hR, k6, k11, ht] at h
          · simp [stp, hR, k6, k11, ht] at h
            obtain ⟨rfl, rfl⟩ := h
            exact ⟨(t - 1) :: r, e, rfl, by simp [stp, hR, k6, k11, ht], he⟩
      · have hbb : blocked (st ++ [-1]) x = blocked st x := by cases st <;> simp [blocked]
        cases hb : blocked st x
        · rw [stp_other hR k6 k11 (by rw [hbb, hb])] at h
          simp only [Option.some.injEq, Prod.mk.injEq] at h
          obtain ⟨h1, h2⟩ := h
          refine ⟨if opensB x = true then (if x.kind = 10 then 2 else -1) :: st else st, max e (st.length + 1), ?_, ?_, ?_⟩
          · rw [← h1]
            split <;> simp
          · rw [stp_other hR k6 k11 hb]
          · rw [← h2]
            simp only [List.length_append, List.length_cons, List.length_nil]
            omega
        · rw [stp_blocked hR k6 k11 (by rw [hbb, hb])] at h
          cases h
  · simp [stp, hR] at h
theorem run_base : ∀ {l : List Nd} {st s1 : List Int} {d d1 e : Int}, run l (st ++ [-1], d) = some (s1, d1) → endc l (st.length + 1) = none → e + 1 ≤ d → ∃ st1 e1, s1 = st1 ++ [-1] ∧ run l (st, e) = some (st1, e1) ∧ e1 + 1 ≤ d1
  | [], st, s1, d, d1, e, h, hc, he => by
    simp only [run, Option.some.injEq, Prod.mk.injEq] at h
    obtain ⟨rfl, rfl⟩ := h
    exact ⟨st, e, rfl, rfl, he⟩
  | x :: l, st, s1, d, d1, e, h, hc, he => by
    simp only [run] at h
    cases hs : stp (st ++ [-1], d) x with
    | none => rw [hs] at h; cases h
    | some s2 =>
      obtain ⟨st2, d2⟩ := s2
      rw [hs] at h
      simp only at h
      have hcn := stp_cnt hs
      simp only [List.length_append, List.length_cons, List.length_nil, Int.natCast_add, Int.natCast_zero] at hcn
      have e1 : ((st.length : Int) + ((0 : Int) + 1)) = st.length + 1 := by omega
      have hcn' : (st2.length : Int) = cnt x (st.length + 1) := by
        rw [hcn]
        congr 1
      simp only [endc] at hc
      split at hc
      · cases hc
      · rename_i hne
        have hc2 : endc l (cnt x (st.length + 1)) = none := by
          cases hh : endc l (cnt x (st.length + 1)) with
          | none => rfl
          | some v => rw [hh] at hc; cases hc
        obtain ⟨st3, e3, rfl, h3, h4⟩ := stp_boxd hs (by omega) he
        obtain ⟨st4, e4, rfl, h5, h6⟩ := run_base h (by
          rw [← hcn'] at hc2
          simpa using hc2) h4
        exact ⟨st4, e4, rfl, by simp only [run, h3]; exact h5, h6⟩
/-- Contents within a node. -/
def wrapL (n : Nd) (l : List Nd) : List Nd := n :: (l ++ [nz 6])
theorem right_end {z : Nd} (h : right z = true) (k : z.kind = 6) : z = nz 6 := by
  simp only [right, k] at h
  simp only [Bool.and_eq_true] at h
  have := (eqB_iff _ _).1 h.2.2
  exact this
/-- An item that opens, Discs apart: its contents are a list, and it is they, wrapped. -/
theorem item_wrap {p : List Nd} {x : Nd} {m : Nat} (hc : chk p = 0) (hm : endc p 0 = some m) (hl : p.length = m) (hx : p[0]? = some x) (h1 : 2 ≤ m) (h10 : ¬ x.kind = 10) :
    right x = true ∧ opensB x = true ∧ p = wrapL x ((p.drop 1).take (m - 2)) ∧ chk ((p.drop 1).take (m - 2)) = 0 := by
  obtain ⟨hl2, d, hrun, hd⟩ := chk_run hc
  have hrr := run_right hrun
  cases p with
  | nil => simp at hx
  | cons y q =>
    simp at hx
    subst hx
    have hR := hrr y (by simp)
    simp only [run] at hrun
    have hol : opensB y = true ∧ stp ([], 0) y = some ([-1], 1) := by
      cases hs : stp ([], 0) y with
      | none => rw [hs] at hrun; cases hrun
      | some s2 =>
        have k6 : ¬ y.kind = 6 := fun k6 => by simp [stp, hR, k6] at hs
        have k11 : ¬ y.kind = 11 := fun k11 => by simp [stp, hR, k6, k11] at hs
        have ho : opensB y = true := by
          rcases (show m = 1 ∨ ¬ cnt y 0 = 0 by
            simp only [endc] at hm
            split at hm
            · left; simpa using hm.symm
            · right; assumption) with h | h
          · omega
          · by_cases ho : opensB y = true
            · exact ho
            · simp [cnt, ho, k6] at h
        rw [stp_other hR k6 k11 rfl] at hs
        refine ⟨ho, ?_⟩
        rw [← hs]
        simp [ho, h10]
        rfl
    obtain ⟨ho, hs⟩ := hol
    rw [hs] at hrun
    simp only at hrun
    have hq : q.length = m - 1 := by simp at hl; omega
    obtain ⟨inner, z, rfl⟩ : ∃ inner z, q = inner ++ [z] := by
      have : q ≠ [] := by rintro rfl; simp at hq; omega
      exact ⟨q.dropLast, q.getLast this, (List.dropLast_concat_getLast this).symm⟩
    have hil : inner.length = m - 2 := by simp at hq; omega
    have hin : ((y :: (inner ++ [z])).drop 1).take (m - 2) = inner := by
      simp only [List.drop_succ_cons, List.drop_zero]
      rw [← hil, List.take_left]
    rw [hin]
    have he : endc (inner ++ [z]) 1 = some (m - 1) := by
      simp only [endc] at hm
      have hcy : cnt y 0 = 1 := by simp [cnt, ho]
      rw [hcy] at hm
      simp at hm
      obtain ⟨v, hv, hv2⟩ := hm
      rw [hv]
      congr 1
      omega
    have hen : endc inner 1 = none := by
      cases hh : endc inner 1 with
      | none => rfl
      | some v =>
        have h5 := endc_more [z] hh
        rw [he] at h5
        have h6 := (endc_bd hh).2
        simp at h5
        omega
    rw [run_append] at hrun
    cases hri : run inner ([-1], 1) with
    | none => rw [hri] at hrun; cases hrun
    | some s2 =>
      obtain ⟨st2, d2⟩ := s2
      rw [hri] at hrun
      simp only [Option.bind_some, run] at hrun
      obtain ⟨st1, e1, rfl, h5, h6⟩ := run_base (st := []) (e := 0) hri (by simpa using hen) (by omega)
      cases hz : stp (st1 ++ [-1], d2) z with
      | none => rw [hz] at hrun; cases hrun
      | some s3 =>
        rw [hz] at hrun
        simp only [Option.some.injEq] at hrun
        subst hrun
        have hcn := stp_cnt hz
        have hzr := hrr z (by simp)
        have hle := cnt_least z ((st1 ++ [-1]).length : Int)
        simp only [List.length_append, List.length_cons, List.length_nil] at hcn hle
        have hs0 : st1 = [] := List.eq_nil_of_length_eq_zero (by omega)
        subst hs0
        have hz6 : z.kind = 6 := by
          unfold cnt at hcn
          simp at hcn
          split at hcn
          · omega
          · split at hcn
            · assumption
            · omega
        have hd2 := (stp_free hz).1
        refine ⟨hR, ho, by rw [right_end hzr hz6]; rfl, chk_of (by simp at hl2; omega) h5 (by omega)⟩
/-- Where a walk over the items stands. -/
structure Stand (l : List Nd) (a : Nat) (ys : List Nat) : Prop where
  its : Its ys (l.drop a) a
  run : ∃ da dl, 0 ≤ da ∧ dl ≤ 40 ∧ run (l.drop a) ([], da) = some ([], dl)
  le : a ≤ l.length
theorem stand0 {l : List Nd} {xs : List Nat} (h : chk l = 0) (hx : Its xs l 0) : Stand l 0 xs := by
  obtain ⟨_, d, h1, h2⟩ := chk_run h
  exact ⟨hx, ⟨0, d, Int.le_refl _, h2, h1⟩, Nat.zero_le _⟩
theorem Stand.step {l : List Nd} {a : Nat} {ys : List Nat} (h : Stand l a ys) (hl : l.length ≤ 2000) (ha : a < l.length) : ∃ (m : Nat) (zs : List Nat) (x : Nd), ys = a :: zs ∧ endc (l.drop a) 0 = some m ∧ 1 ≤ m ∧ a + m ≤ l.length ∧ Stand l (a + m) zs ∧ chk ((l.drop a).take m) = 0 ∧
    l[a]? = some x ∧ ¬ x.kind = 6 ∧ ¬ x.kind = 11 := by
  obtain ⟨hi, ⟨da, dl, h0, h40, hr⟩, hle⟩ := h
  have hne : l.drop a ≠ [] := by
    intro hh
    have := congrArg List.length hh
    simp at this
    omega
  cases ys with
  | nil => exact absurd hi hne
  | cons y zs =>
    obtain ⟨rfl, m, hm, hz⟩ := hi
    obtain ⟨m', d1, hm', hr1, hr2⟩ := run_item hr hne
    have : m' = m := by
      have e : endc (l.drop y) 0 = some m' := by simpa using hm'
      rw [hm] at e
      simpa using e.symm
    subst this
    have hb := endc_bd hm
    rw [List.length_drop] at hb
    obtain ⟨g1, _⟩ := run_free hr2
    obtain ⟨g2, g3⟩ := run_free hr1
    obtain ⟨e1, g4, g5⟩ := g3 0 h0
    obtain ⟨x, hx⟩ : ∃ x, l[y]? = some x := ⟨_, List.getElem?_eq_getElem ha⟩
    have hcons : l.drop y = x :: l.drop (y + 1) := by
      rw [List.drop_eq_getElem_cons ha]
      have : l[y] = x := by
        have := List.getElem?_eq_getElem ha
        rw [hx] at this
        simpa using this.symm
      rw [this]
    refine ⟨m', zs, x, rfl, hm, hb.1, by omega, ⟨?_, ⟨d1, dl, by omega, h40, ?_⟩, by omega⟩, chk_of (by simp only [List.length_take, List.length_drop]; omega) g4 (by omega), hx, ?_, ?_⟩
    · rw [List.drop_drop] at hz
      exact hz
    · rw [List.drop_drop] at hr2
      exact hr2
    · intro k6
      rw [hcons] at hr
      simp only [Np.run] at hr
      by_cases hR : right x = true
      · simp [stp, hR, k6] at hr
      · simp [stp, hR] at hr
    · intro k11
      rw [hcons] at hr
      simp only [Np.run] at hr
      by_cases hR : right x = true
      · simp [stp, hR, k11] at hr
      · simp [stp, hR] at hr
theorem Stand.done {l : List Nd} {ys : List Nat} (h : Stand l l.length ys) : ys = [] := by
  have hi := h.its
  rw [List.drop_length] at hi
  cases ys with
  | nil => rfl
  | cons y zs =>
    obtain ⟨_, m, hm, _⟩ := hi
    simp [endc] at hm
end Go.Proofs.Ytoboecenlangmaa.Np
end
section
namespace Go.Proofs.Ytoboecenlangmaa.Np
set_option linter.unusedVariables false

/-- A node's height and depth in a row; no Disc. -/
def rowP (n : Nd) : Int × Int :=
  if n.kind = 1 ∨ n.kind = 2 ∨ n.kind = 3 then (n.ht, n.dp)
  else if n.kind = 4 ∨ n.kind = 5 then (n.ht - n.shift, n.dp + n.shift)
  else (0, 0)
def rstep (s v : Int × Int) : Int × Int := (max s.1 v.1, max s.2 v.2)
def rfold (ra : Nat → Int × Int) : List Nat → Int × Int → Int × Int
  | [], s => s
  | x :: xs, s => rfold ra xs (rstep s (ra x))
/-- No greater than this, and no less than 0. -/
def RB (s : Int × Int) : Prop := 0 ≤ s.1 ∧ s.1 ≤ 2147483646 ∧ 0 ≤ s.2 ∧ s.2 ≤ 2147483646
def RV (v : Int × Int) : Prop := -2147483646 ≤ v.1 ∧ v.1 ≤ 2147483646 ∧ -2147483646 ≤ v.2 ∧ v.2 ≤ 2147483646
theorem RB.step {s v : Int × Int} (h : RB s) (g : RV v) : RB (rstep s v) := by
  unfold RB RV at *
  unfold rstep
  simp only
  omega
theorem RB.rv {s : Int × Int} (h : RB s) : RV s := by unfold RB RV at *; omega
theorem rfold_rb {ra : Nat → Int × Int} : ∀ {xs : List Nat} {s : Int × Int}, RB s → (∀ x ∈ xs, RV (ra x)) → RB (rfold ra xs s)
  | [], s, h, g => h
  | x :: xs, s, h, g => by
    simp only [rfold]
    exact rfold_rb (h.step (g x (by simp))) (fun y hy => g y (by simp [hy]))
theorem rowP_rv {n : Nd} (h : right n = true) : RV (rowP n) := by
  unfold rowP RV
  by_cases h3 : n.kind = 1 ∨ n.kind = 2 ∨ n.kind = 3
  · have hd := right_hd h (by omega)
    unfold dm at hd
    rw [if_pos h3]
    simp only
    omega
  · rw [if_neg h3]
    by_cases h4 : n.kind = 4 ∨ n.kind = 5
    · have hd := right_hd h (by omega)
      unfold dm at hd
      have hs : dimB n.shift = true := by
        rcases h4 with h4 | h4
        · have := right_kind (k := 4) h h4
          simp only [goodK, gBox, Bool.and_eq_true] at this
          exact this.1.2.2.2
        · have := right_kind (k := 5) h h4
          simp only [goodK, gBox, Bool.and_eq_true] at this
          exact this.1.2.2.2
      have hs2 := dm_of hs
      unfold dm at hs2
      rw [if_pos h4]
      simp only
      omega
    · rw [if_neg h4]
      simp only
      omega
def ra0 (l : List Nd) (x : Nat) : Int × Int := match l[x]? with
  | none => (0, 0)
  | some n => rowP n
theorem ra0_rv {l : List Nd} (hr : ∀ x ∈ l, right x = true) (x : Nat) : RV (ra0 l x) := by
  unfold ra0
  split
  · unfold RV; simp only; omega
  · rename_i n hn
    exact rowP_rv (hr n (List.mem_of_getElem? hn))
/-- How high and how deep the item at a place is. -/
def RoV (ns : List Nd) (x : Nat) (v : Int × Int) : Prop :=
  ∃ n, ns[x]? = some n ∧ (if n.kind = 10 then
    ∃ ss m xs, D3 ss (ns.drop (x + 1)) 0 m ∧ Its xs (thr ss (ns.drop (x + 1)) 0 2) 0 ∧ v = rfold (ra0 (thr ss (ns.drop (x + 1)) 0 2)) xs (0, 0)
  else v = rowP n)
theorem RoV.unique {ns : List Nd} {x : Nat} {v u : Int × Int} (h : RoV ns x v) (k : RoV ns x u) : v = u := by
  obtain ⟨n, hn, h⟩ := h
  obtain ⟨n', hn', k⟩ := k
  rw [hn] at hn'
  injection hn' with e
  subst e
  split at h
  · rename_i hc
    rw [if_pos hc] at k
    obtain ⟨ss, m, xs, h1, h2, h3⟩ := h
    obtain ⟨tt, q, ys, k1, k2, k3⟩ := k
    have e1 := D3.unique h1 k1
    subst e1
    have e2 := Its.unique h2 k2
    subst e2
    rw [h3, k3]
  · rename_i hc
    rw [if_neg hc] at k
    rw [h, k]
open Classical in
noncomputable def roD (ns : List Nd) (x : Nat) : Int × Int := if h : ∃ v, RoV ns x v then h.choose else (0, 0)
theorem roD_of {ns : List Nd} {x : Nat} {v : Int × Int} (h : RoV ns x v) : roD ns x = v := by
  have hx : ∃ v, RoV ns x v := ⟨v, h⟩
  unfold roD
  rw [dif_pos hx]
  exact RoV.unique hx.choose_spec h
theorem RoV.rv {ns : List Nd} (hr : ∀ x ∈ ns, right x = true) {x : Nat} {v : Int × Int} (h : RoV ns x v) : RV v := by
  obtain ⟨n, hn, h⟩ := h
  split at h
  · obtain ⟨ss, m, xs, h1, h2, rfl⟩ := h
    refine (rfold_rb (by unfold RB; simp only; omega) fun y _ => ra0_rv (fun z hz => hr z (List.mem_of_mem_drop (thr_mem z hz))) y).rv
  · rw [h]
    exact rowP_rv (hr n (List.mem_of_getElem? hn))
theorem roD_rv {ns : List Nd} (hr : ∀ x ∈ ns, right x = true) (x : Nat) : RV (roD ns x) := by
  unfold roD
  split
  · rename_i h
    exact h.choose_spec.rv hr
  · unfold RV; simp only; omega
/-- One item more, down a column. -/
def cstep (s : Int × Int) (n : Nd) : Int × Int :=
  if n.kind = 3 then (max s.1 n.wd, n.dp)
  else if n.kind = 4 ∨ n.kind = 5 then (max s.1 (n.wd + n.shift), n.dp)
  else (s.1, 0)
def cfold (ns : List Nd) : List Nat → Int × Int → Int × Int
  | [], s => s
  | x :: xs, s => match ns[x]? with
    | none => cfold ns xs s
    | some n => cfold ns xs (cstep s n)
end Go.Proofs.Ytoboecenlangmaa.Np
end
section
namespace Go.Proofs.Ytoboecenlangmaa.Pk
open Np
set_option linter.unusedVariables false

/-- What stands within an item that opens. -/
def inn (ns : List Nd) (a m : Nat) : List Nd := (ns.drop (a + 1)).take (m - 2)
/-- An item stays, or leaves. -/
def pstep (ns : List Nd) (s : List Nd × List Nd) (a : Nat) : List Nd × List Nd := match ns[a]?, endc (ns.drop a) 0 with
  | some x, some m => if x.kind = 13 ∨ x.kind = 12 then (s.1, s.2 ++ (ns.drop a).take m) else if x.kind = 17 then (s.1, s.2 ++ inn ns a m) else (s.1 ++ (ns.drop a).take m, s.2)
  | _, _ => s
theorem pstep_out {ns : List Nd} {s : List Nd × List Nd} {a m : Nat} {x : Nd} (hx : ns[a]? = some x) (hm : endc (ns.drop a) 0 = some m) (hk : x.kind = 13 ∨ x.kind = 12) : pstep ns s a = (s.1, s.2 ++ (ns.drop a).take m) := by
  unfold pstep; rw [hx, hm]; simp only; rw [if_pos hk]
theorem pstep_in {ns : List Nd} {s : List Nd × List Nd} {a m : Nat} {x : Nd} (hx : ns[a]? = some x) (hm : endc (ns.drop a) 0 = some m) (hk : x.kind = 17) : pstep ns s a = (s.1, s.2 ++ inn ns a m) := by
  unfold pstep; rw [hx, hm]; simp only; rw [if_neg (by omega), if_pos hk]
theorem pstep_stay {ns : List Nd} {s : List Nd × List Nd} {a m : Nat} {x : Nd} (hx : ns[a]? = some x) (hm : endc (ns.drop a) 0 = some m) (h1 : ¬ x.kind = 13) (h2 : ¬ x.kind = 12) (h3 : ¬ x.kind = 17) : pstep ns s a = (s.1 ++ (ns.drop a).take m, s.2) := by
  unfold pstep; rw [hx, hm]; simp only; rw [if_neg (by omega), if_neg h3]
def partF (ns : List Nd) (xs : List Nat) (s : List Nd × List Nd) : List Nd × List Nd := xs.foldl (pstep ns) s
theorem partF_cons (ns : List Nd) (a : Nat) (xs : List Nat) (s : List Nd × List Nd) : partF ns (a :: xs) s = partF ns xs (pstep ns s a) := rfl
/-- Where a list's items begin. -/
noncomputable def itsD (ns : List Nd) : List Nat := Classical.epsilon (fun xs => Its xs ns 0)
theorem itsD_of {ns : List Nd} {xs : List Nat} (h : Its xs ns 0) : itsD ns = xs := Its.unique (Classical.epsilon_spec (p := fun xs => Its xs ns 0) ⟨xs, h⟩) h
theorem itsD_is {ns : List Nd} (h : chk ns = 0) : Its (itsD ns) ns 0 := by
  obtain ⟨xs, hx⟩ := its_of_chk h
  rw [itsD_of hx]; exact hx
noncomputable def partD (ns : List Nd) : List Nd × List Nd := partF ns (itsD ns) ([], [])
/-- A number within what the badness takes, not below 0. -/
def held (x : Int) : Int := if x < 0 then 0 else if 2147483647 < x then 2147483647 else x
theorem held_bd (x : Int) : 0 ≤ held x ∧ held x ≤ 2147483647 := by
  unfold held
  split
  · omega
  · split <;> omega
def fitT (T : Tot) (ex : Int) : Int × Int × Int × Int := Gl.fit (T.st.getD 0 0) (T.st.getD 1 0) (T.st.getD 2 0) (T.st.getD 3 0) (T.sh.getD 0 0) (T.sh.getD 1 0) (T.sh.getD 2 0) (T.sh.getD 3 0) ex
end Go.Proofs.Ytoboecenlangmaa.Pk
end
section
namespace Go.Proofs.Ytoboecenlangmaa.Pk
open Go.ChangeShapes Go.WideShapes Go.ChangeAt Go.RowKit
open Me Np No
set_option linter.unusedVariables false
set_option linter.unusedSimpArgs false

/-- A maker's cells: a node; totals; is it empty? how bad, by how much too full, what went wrong. -/
def mkc (n : Nd) (x a b c d p q r s : Int) (em : Bool) (bad ov wr : Int) : Array Value := #[.int .i64 n.kind, .int .i64 n.font, .int .u8 n.char, .int .i64 n.wd, .int .i64 n.ht, .int .i64 n.dp, .int .i64 n.shift, .int .i64 n.gn, .int .i64 n.gs, .int .i64 n.gh, .int .i64 n.ga, .int .i64 n.gb, .int .i64 n.sign, .int .i64 n.order, .int .i64 n.num, .int .i64 n.den, .int .i64 n.pen, .int .i64 n.sub, .string n.text,
  .int .i64 x, .int .i64 a, .int .i64 b, .int .i64 c, .int .i64 d, .int .i64 p, .int .i64 q, .int .i64 r, .int .i64 s, .bool em, .int .i64 bad, .int .i64 ov, .int .i64 wr]
theorem held_min {t : Int} (h : 0 ≤ t) : min t 2147483647 = held t := by
  unfold held
  rw [if_neg (by omega)]
  split <;> omega
theorem held_max {a : Int} : min (max 0 a) 2147483647 = held a := by
  unfold held
  split
  · omega
  · split <;> omega
theorem held_held (a : Int) : held (max 0 a) = held a := by
  unfold held
  split
  · omega
  · split
    · split
      · omega
      · split <;> omega
    · split
      · omega
      · split <;> omega
open Sc in
set_option maxRecDepth 100000 in
theorem badness_any (t s : Int) (w : World) (ht : 0 ≤ t) (hs : 0 ≤ s) : Calls Try.prog 118 #[.int .i64 t, .int .i64 s] w fun e w' => e = .returned (.int .i64 (bdV (held t) (held s))) ∧ Below w.heap.size w w' := by
  have HS := Lib.hid (held_min hs)
  by_cases h : 2147483647 < t
  · have hh : held t = 2147483647 := by unfold held; rw [if_neg (by omega), if_pos h]
    rw [hh]
    go_enter Try.func118, Try.ntmps118
    go_wp2_with (first | (go_at_call 122; refine (Ss.bad_any _ _ _).mono ?_; rintro e w' ⟨rfl, hb⟩))
    go_ret
    exact ⟨by rw [HS.out]; rfl, hb⟩
  · have hh : held t = t := by unfold held; rw [if_neg (by omega), if_neg h]
    rw [hh]
    go_enter Try.func118, Try.ntmps118
    go_wp2_with (first | (go_at_call 122; refine (Ss.bad_any _ _ _).mono ?_; rintro e w' ⟨rfl, hb⟩))
    go_ret
    exact ⟨by rw [HS.out]; rfl, hb⟩
theorem grown_blk {w w' : World} {g : Nat} {r : Option Nat} (hb : Below w.heap.size w w') : w.grownBy w' r := ⟨hb.os, hb.tape, hb.output, hb.size, fun k hk _ => hb.block k hk⟩
theorem grown_trans {w a b : World} {r : Option Nat} (h : w.grownBy a r) (k : a.grownBy b r) : w.grownBy b r :=
  ⟨k.os.trans h.os, k.tape.trans h.tape, k.output.trans h.output, Nat.le_trans h.size k.size, fun q hq hne => (k.block q (by have := h.size; omega) hne).trans (h.block q hq hne)⟩
theorem grown_set (w : World) (g j : Nat) (u : Value) : w.grownBy (w.setCell ⟨g, j, none⟩ u) (some g) := ⟨rfl, rfl, rfl, by simp, fun k _ hk => heap_setCell_other w ⟨g, j, none⟩ k u (fun e => hk (by simp [e]))⟩
/-- A maker in memory. -/
def Mk (w : World) (g : Nat) (n : Nd) (x a b c d p q r s : Int) (em : Bool) (bad ov wr : Int) : Prop := Blk w g 97 (mkc n x a b c d p q r s em bad ov wr)
theorem Mk.below {w w' : World} {g : Nat} {n : Nd} {x a b c d p q r s : Int} {em : Bool} {bad ov wr : Int} (h : Mk w g n x a b c d p q r s em bad ov wr) (hb : Below w.heap.size w w') : Mk w' g n x a b c d p q r s em bad ov wr := Blk.below h hb h.lt
theorem Mk.bad {w : World} {g : Nat} {n : Nd} {x a b c d p q r s : Int} {em : Bool} {bad ov wr : Int} (h : Mk w g n x a b c d p q r s em bad ov wr) (z : Int) : Mk (w.setCell ⟨g, 29, none⟩ (.int .i64 z)) g n x a b c d p q r s em z ov wr := Blk.set h 29 (.int .i64 z)
theorem Mk.ov {w : World} {g : Nat} {n : Nd} {x a b c d p q r s : Int} {em : Bool} {bad ov wr : Int} (h : Mk w g n x a b c d p q r s em bad ov wr) (z : Int) : Mk (w.setCell ⟨g, 30, none⟩ (.int .i64 z)) g n x a b c d p q r s em bad z wr := Blk.set h 30 (.int .i64 z)
/-- How bad, where it is stretched. -/
def looseV (n : Nd) (a t bad : Int) : Int := if n.sign = 1 ∧ 0 < n.order then bad else Sc.bdV (held t) (held a)
set_option maxRecDepth 100000 in
set_option maxHeartbeats 1000000 in
theorem loose_any (g : Nat) (n : Nd) (x a b c d p q r s : Int) (em : Bool) (bad ov wr t : Int) (w : World) (hg : Mk w g n x a b c d p q r s em bad ov wr) (ht : 0 ≤ t) :
    Calls Try.prog 75 #[.pointer (some ⟨g, 0, none⟩), .int .i64 t] w fun e w' => e = .returned (.tuple #[]) ∧ Mk w' g n x a b c d p q r s em (looseV n a t bad) ov wr ∧ w.grownBy w' (some g) := by
  have hc12 : w.cell? ⟨g, 12, none⟩ = some (.int .i64 n.sign) := Blk.cell hg 12
  have hc13 : w.cell? ⟨g, 13, none⟩ = some (.int .i64 n.order) := Blk.cell hg 13
  have hc20 : w.cell? ⟨g, 20, none⟩ = some (.int .i64 a) := Blk.cell hg 20
  have HG := Lib.hid hg
  by_cases h1 : n.sign = 1
  · by_cases h2 : 0 < n.order
    · have HE := Lib.hid (show looseV n a t bad = bad from if_pos ⟨h1, h2⟩)
      clear hg
      go_enter Try.func75, Try.ntmps75
      go_wp2_with fail
      go_returns
      exact ⟨rfl, by rw [HE.out]; exact HG.out, grown_blk (g := g) (Below.refl _ _)⟩
    · have HE := Lib.hid (show looseV n a t bad = Sc.bdV (held t) (held a) from if_neg (fun hh => h2 hh.2))
      clear hg
      go_enter Try.func75, Try.ntmps75
      go_wp2_with (first | (go_at_call 118; refine (badness_any _ _ _ ht (by omega)).mono ?_; rintro e w2 ⟨rfl, hb2⟩; have HB2 := Lib.hid hb2; have hm2 := HG.out.below hb2; have hf2 := Blk.free hm2 29; have hd2 : w2.cell? ⟨g, 29, none⟩ = some (.int .i64 bad) := Blk.cell hm2 29; have HM2 := Lib.hid hm2; clear hm2 hb2))
      go_end0
      exact ⟨rfl, by rw [HE.out, ← held_held a]; exact HM2.out.bad _, grown_trans (grown_blk (g := g) HB2.out) (grown_set _ _ _ _)⟩
  · have HE := Lib.hid (show looseV n a t bad = Sc.bdV (held t) (held a) from if_neg (fun hh => h1 hh.1))
    clear hg
    go_enter Try.func75, Try.ntmps75
    go_wp2_with (first | (go_at_call 118; refine (badness_any _ _ _ ht (by omega)).mono ?_; rintro e w2 ⟨rfl, hb2⟩; have HB2 := Lib.hid hb2; have hm2 := HG.out.below hb2; have hf2 := Blk.free hm2 29; have hd2 : w2.cell? ⟨g, 29, none⟩ = some (.int .i64 bad) := Blk.cell hm2 29; have HM2 := Lib.hid hm2; clear hm2 hb2))
    go_end0
    exact ⟨rfl, by rw [HE.out, ← held_held a]; exact HM2.out.bad _, grown_trans (grown_blk (g := g) HB2.out) (grown_set _ _ _ _)⟩
/-- How bad, and by how much too full, where it is shrunk. -/
def tightV (n : Nd) (p t : Int) (z : Int × Int) : Int × Int := if n.sign = 2 ∧ 0 < n.order then z else if max 0 p < t then (1000000, t - max 0 p) else (Sc.bdV (held t) (held p), z.2)
set_option maxRecDepth 100000 in
set_option maxHeartbeats 1000000 in
theorem tight_any (g : Nat) (n : Nd) (x a b c d p q r s : Int) (em : Bool) (bad ov wr t : Int) (w : World) (hg : Mk w g n x a b c d p q r s em bad ov wr) (ht : 0 ≤ t) (ht2 : t ≤ 9223372036854775807) :
    Calls Try.prog 76 #[.pointer (some ⟨g, 0, none⟩), .int .i64 t] w fun e w' => e = .returned (.tuple #[]) ∧ Mk w' g n x a b c d p q r s em (tightV n p t (bad, ov)).1 (tightV n p t (bad, ov)).2 wr ∧ w.grownBy w' (some g) := by
  have hc12 : w.cell? ⟨g, 12, none⟩ = some (.int .i64 n.sign) := Blk.cell hg 12
  have hc13 : w.cell? ⟨g, 13, none⟩ = some (.int .i64 n.order) := Blk.cell hg 13
  have hc24 : w.cell? ⟨g, 24, none⟩ = some (.int .i64 p) := Blk.cell hg 24
  have hc29 : w.cell? ⟨g, 29, none⟩ = some (.int .i64 bad) := Blk.cell hg 29
  have hc30 : w.cell? ⟨g, 30, none⟩ = some (.int .i64 ov) := Blk.cell hg 30
  have hf29 := Blk.free hg 29
  have hf30 := Blk.free hg 30
  have HG := Lib.hid hg
  have HP := Lib.hid (held_held p)
  by_cases hso : n.sign = 2 ∧ 0 < n.order
  · obtain ⟨h1, h2⟩ := hso
    have HE := Lib.hid (show tightV n p t (bad, ov) = (bad, ov) from if_pos ⟨h1, h2⟩)
    clear hg
    go_enter Try.func76, Try.ntmps76
    go_wp2_with fail
    go_returns
    exact ⟨rfl, by rw [HE.out]; exact HG.out, grown_blk (g := g) (Below.refl _ _)⟩
  · have hb1 : ((n.sign == 2) && decide (0 < n.order)) = false := by
      cases e : (n.sign == 2) && decide (0 < n.order)
      · rfl
      · simp only [Bool.and_eq_true, beq_iff_eq, decide_eq_true_eq] at e
        exact absurd e hso
    have HSO := Lib.hid hso
    have h12 : ¬ n.sign = 2 ∨ (n.sign = 2 ∧ n.order ≤ 0) := by
      by_cases h1 : n.sign = 2
      · exact .inr ⟨h1, by have : ¬ 0 < n.order := fun h => hso ⟨h1, h⟩; omega⟩
      · exact .inl h1
    clear hso hb1
    by_cases hlt : max 0 p < t
    · have HE := Lib.hid (show tightV n p t (bad, ov) = (1000000, t - max 0 p) by unfold tightV; rw [if_neg HSO.out, if_pos hlt])
      have hmx : 0 ≤ max 0 p := by omega
      clear hg
      rcases h12 with h1 | ⟨h1, h2⟩
      all_goals
        go_enter Try.func76, Try.ntmps76
        go_wp2_with fail
        go_returns
        exact ⟨rfl, by rw [HE.out]; exact (HG.out.bad _).ov _, grown_trans (grown_set _ _ _ _) (grown_set _ _ _ _)⟩
    · have HE := Lib.hid (show tightV n p t (bad, ov) = (Sc.bdV (held t) (held p), ov) by unfold tightV; rw [if_neg HSO.out, if_neg hlt])
      have hmx : 0 ≤ max 0 p := by omega
      clear hg
      rcases h12 with h1 | ⟨h1, h2⟩
      all_goals
        go_enter Try.func76, Try.ntmps76
        go_wp2_with (first | (go_at_call 118; refine (badness_any _ _ _ ht hmx).mono ?_; rintro e w2 ⟨rfl, hb2⟩; have HB2 := Lib.hid hb2; have hm2 := HG.out.below hb2; have hf2 := Blk.free hm2 29; have hd2 : w2.cell? ⟨g, 29, none⟩ = some (.int .i64 bad) := Blk.cell hm2 29; have HM2 := Lib.hid hm2; clear hm2 hb2))
        go_end0
        exact ⟨rfl, by rw [HE.out, ← HP.out]; exact HM2.out.bad _, grown_trans (grown_blk (g := g) HB2.out) (grown_set _ _ _ _)⟩
end Go.Proofs.Ytoboecenlangmaa.Pk
end
section
namespace Go.Proofs.Ytoboecenlangmaa.Gl
open Go.ChangeShapes Go.WideShapes Go.ChangeAt Go.RowKit
open Me
set_option linter.unusedVariables false
set_option linter.unusedSimpArgs false

theorem fit_all (n a b c d p q r s ex : Int) (w : World) (e0 : nearB ex = true) (e1 : nearB a = true) (e2 : nearB p = true) (e3 : nearB b = true) (e4 : nearB q = true) (e5 : nearB c = true) (e6 : nearB r = true) (e7 : nearB d = true) (e8 : nearB s = true) : Calls Try.prog 74 #[.agg #[.int .i64 n, .int .i64 a, .int .i64 b, .int .i64 c, .int .i64 d, .int .i64 p, .int .i64 q, .int .i64 r, .int .i64 s], .int .i64 ex] w fun e w' => e = .returned (.tuple #[.int .i64 (fit a b c d p q r s ex).1, .int .i64 (fit a b c d p q r s ex).2.1, .int .i64 (fit a b c d p q r s ex).2.2.1, .int .i64 (fit a b c d p q r s ex).2.2.2, .int .i64 0]) ∧ Below w.heap.size w w' := by
  have hx0 : -70368744177664 ≤ ex := by simp [nearB] at e0; omega
  rcases Int.lt_trichotomy 0 ex with hx | hx | hx
  · rcases great_cases a b c d with ⟨hg, h⟩ | ⟨hg, h⟩ | ⟨hg, h⟩ | ⟨hg, h⟩ | ⟨hg, h⟩
    · exact fit_upm n a b c d p q r s ex w e0 e1 e2 e3 e4 e5 e6 e7 e8 hx0 hx hg
    · exact fit_up0 n a b c d p q r s ex w e0 e1 e2 e3 e4 e5 e6 e7 e8 hx0 hx hg
    · exact fit_up1 n a b c d p q r s ex w e0 e1 e2 e3 e4 e5 e6 e7 e8 hx0 hx hg
    · exact fit_up2 n a b c d p q r s ex w e0 e1 e2 e3 e4 e5 e6 e7 e8 hx0 hx hg
    · exact fit_up3 n a b c d p q r s ex w e0 e1 e2 e3 e4 e5 e6 e7 e8 hx0 hx hg
  · subst hx
    refine (fit_zero n a b c d p q r s w e0 e1 e2 e3 e4 e5 e6 e7 e8).mono ?_
    rintro e w' ⟨rfl, hb⟩
    exact ⟨rfl, hb⟩
  · rcases great_cases p q r s with ⟨hg, h⟩ | ⟨hg, h⟩ | ⟨hg, h⟩ | ⟨hg, h⟩ | ⟨hg, h⟩
    · exact fit_downm n a b c d p q r s ex w e0 e1 e2 e3 e4 e5 e6 e7 e8 hx0 hx hg
    · exact fit_down0 n a b c d p q r s ex w e0 e1 e2 e3 e4 e5 e6 e7 e8 hx0 hx hg
    · exact fit_down1 n a b c d p q r s ex w e0 e1 e2 e3 e4 e5 e6 e7 e8 hx0 hx hg
    · exact fit_down2 n a b c d p q r s ex w e0 e1 e2 e3 e4 e5 e6 e7 e8 hx0 hx hg
    · exact fit_down3 n a b c d p q r s ex w e0 e1 e2 e3 e4 e5 e6 e7 e8 hx0 hx hg
end Go.Proofs.Ytoboecenlangmaa.Gl
end
section
namespace Go.Proofs.Ytoboecenlangmaa.Pk
open Go.ChangeShapes Go.WideShapes Go.ChangeAt Go.RowKit
open Me Np No
set_option linter.unusedVariables false
set_option linter.unusedSimpArgs false

theorem mkc_node (n : Nd) (x a b c d p q r s : Int) (em : Bool) (bad ov wr : Int) (j : Nat) (u : Value) (h : (nc n).toList[j]? = some u) : (mkc n x a b c d p q r s em bad ov wr)[j]? = some u := by
  match j, h with
  | 0, h => exact h
  | 1, h => exact h
  | 2, h => exact h
  | 3, h => exact h
  | 4, h => exact h
  | 5, h => exact h
  | 6, h => exact h
  | 7, h => exact h
  | 8, h => exact h
  | 9, h => exact h
  | 10, h => exact h
  | 11, h => exact h
  | 12, h => exact h
  | 13, h => exact h
  | 14, h => exact h
  | 15, h => exact h
  | 16, h => exact h
  | 17, h => exact h
  | 18, h => exact h
  | j + 19, h => rw [List.getElem?_eq_none (by rw [nc_list]; omega)] at h; cases h
theorem Mk.node {w : World} {g : Nat} {n : Nd} {x a b c d p q r s : Int} {em : Bool} {bad ov wr : Int} (h : Mk w g n x a b c d p q r s em bad ov wr) : NodeAt w g 0 n := fun j u hu => by
  rw [Nat.zero_add, Blk.cell h]
  exact mkc_node n x a b c d p q r s em bad ov wr j u hu
theorem Mk.fits {w : World} {g : Nat} {n : Nd} {x a b c d p q r s : Int} {em : Bool} {bad ov wr : Int} (h : Mk w g n x a b c d p q r s em bad ov wr) (sg od nu de : Int) :
    Mk ((((w.setCell ⟨g, 12, none⟩ (.int .i64 sg)).setCell ⟨g, 13, none⟩ (.int .i64 od)).setCell ⟨g, 14, none⟩ (.int .i64 nu)).setCell ⟨g, 15, none⟩ (.int .i64 de)) g { n with sign := sg, order := od, num := nu, den := de } x a b c d p q r s em bad ov wr :=
  Blk.set (Blk.set (Blk.set (Blk.set h 12 (.int .i64 sg)) 13 (.int .i64 od)) 14 (.int .i64 nu)) 15 (.int .i64 de)
/-- A node that is set. -/
def fitN (n : Nd) (f : Int × Int × Int × Int) : Nd := { n with sign := f.1, order := f.2.1, num := f.2.2.1, den := f.2.2.2 }
def setV (n : Nd) (a p : Int) (em : Bool) (ex : Int) (z : Int × Int) : Int × Int := if em = true ∨ ex = 0 then z else if 0 < ex then (looseV n a ex z.1, z.2) else tightV n p (-ex) z
set_option maxRecDepth 100000 in
set_option maxHeartbeats 2000000 in
theorem set_any (g : Nat) (n : Nd) (x a b c d p q r s : Int) (em : Bool) (bad ov ex : Int) (w : World) (hg : Mk w g n x a b c d p q r s em bad ov 0) (e0 : Gl.nearB ex = true) (e1 : Gl.nearB a = true) (e2 : Gl.nearB p = true) (e3 : Gl.nearB b = true) (e4 : Gl.nearB q = true) (e5 : Gl.nearB c = true) (e6 : Gl.nearB r = true) (e7 : Gl.nearB d = true) (e8 : Gl.nearB s = true) :
    Calls Try.prog 43 #[.pointer (some ⟨g, 0, none⟩), .int .i64 ex] w fun e w' => e = .returned (.tuple #[]) ∧
      Mk w' g (fitN n (Gl.fit a b c d p q r s ex)) x a b c d p q r s em (setV (fitN n (Gl.fit a b c d p q r s ex)) a p em ex (bad, ov)).1 (setV (fitN n (Gl.fit a b c d p q r s ex)) a p em ex (bad, ov)).2 0 ∧ w.grownBy w' (some g) := by
  have HF := Lib.hid (fun w => Gl.fit_all x a b c d p q r s ex w e0 e1 e2 e3 e4 e5 e6 e7 e8)
  have hex : -70368744177664 ≤ ex ∧ ex ≤ 70368744177664 := by simp [Gl.nearB] at e0; omega
  have HEX := Lib.hid hex
  generalize Gl.fit a b c d p q r s ex = F at HF ⊢
  obtain ⟨sg, od, nu, de⟩ := F
  simp only at HF
  clear e0 e1 e2 e3 e4 e5 e6 e7 e8
  have HG := Lib.hid hg
  have hc19 : w.cell? ⟨g, 19, none⟩ = some (.int .i64 x) := Blk.cell hg 19
  have hc20 : w.cell? ⟨g, 20, none⟩ = some (.int .i64 a) := Blk.cell hg 20
  have hc21 : w.cell? ⟨g, 21, none⟩ = some (.int .i64 b) := Blk.cell hg 21
  have hc22 : w.cell? ⟨g, 22, none⟩ = some (.int .i64 c) := Blk.cell hg 22
  have hc23 : w.cell? ⟨g, 23, none⟩ = some (.int .i64 d) := Blk.cell hg 23
  have hc24 : w.cell? ⟨g, 24, none⟩ = some (.int .i64 p) := Blk.cell hg 24
  have hc25 : w.cell? ⟨g, 25, none⟩ = some (.int .i64 q) := Blk.cell hg 25
  have hc26 : w.cell? ⟨g, 26, none⟩ = some (.int .i64 r) := Blk.cell hg 26
  have hc27 : w.cell? ⟨g, 27, none⟩ = some (.int .i64 s) := Blk.cell hg 27
  clear hg
  cases em with
  | true =>
    have HV := Lib.hid (show setV (fitN n (sg, od, nu, de)) a p true ex (bad, ov) = (bad, ov) from if_pos (.inl rfl))
    go_enter Try.func43, Try.ntmps43
    go_wp2_with (first | (go_at_call 74; go_loud (refine (HF.out _).mono ?_; rintro e w2 ⟨rfl, hb2⟩; have HB2 := Lib.hid hb2; have hm2 := HG.out.below hb2; have hd12 : w2.cell? ⟨g, 12, none⟩ = some (.int .i64 n.sign) := Blk.cell hm2 12; have hf12 := Blk.free hm2 12; have hd13 : w2.cell? ⟨g, 13, none⟩ = some (.int .i64 n.order) := Blk.cell hm2 13; have hf13 := Blk.free hm2 13; have hd14 : w2.cell? ⟨g, 14, none⟩ = some (.int .i64 n.num) := Blk.cell hm2 14; have hf14 := Blk.free hm2 14; have hd15 : w2.cell? ⟨g, 15, none⟩ = some (.int .i64 n.den) := Blk.cell hm2 15; have hf15 := Blk.free hm2 15; have hd28 : w2.cell? ⟨g, 28, none⟩ = some (.bool true) := Blk.cell hm2 28; have HM2 := Lib.hid hm2; clear hm2 hb2)))
    first | go_end0 | go_returns
    exact ⟨rfl, by rw [HV.out]; exact HM2.out.fits sg od nu de, grown_trans (grown_blk (g := g) HB2.out) (grown_trans (grown_trans (grown_trans (grown_set _ _ _ _) (grown_set _ _ _ _)) (grown_set _ _ _ _)) (grown_set _ _ _ _))⟩
  | false =>
    rcases Int.lt_trichotomy 0 ex with hx | hx | hx
    · have HV := Lib.hid (show setV (fitN n (sg, od, nu, de)) a p false ex (bad, ov) = (looseV (fitN n (sg, od, nu, de)) a ex bad, ov) by unfold setV; rw [if_neg (by simp; omega), if_pos hx])
      have hx1 : ¬ ex = 0 := by omega
      have hx2 : 0 ≤ ex := by omega
      go_enter Try.func43, Try.ntmps43
      go_wp2_with (first | (go_at_call 74; go_loud (refine (HF.out _).mono ?_; rintro e w2 ⟨rfl, hb2⟩; have HB2 := Lib.hid hb2; have hm2 := HG.out.below hb2; have hd12 : w2.cell? ⟨g, 12, none⟩ = some (.int .i64 n.sign) := Blk.cell hm2 12; have hf12 := Blk.free hm2 12; have hd13 : w2.cell? ⟨g, 13, none⟩ = some (.int .i64 n.order) := Blk.cell hm2 13; have hf13 := Blk.free hm2 13; have hd14 : w2.cell? ⟨g, 14, none⟩ = some (.int .i64 n.num) := Blk.cell hm2 14; have hf14 := Blk.free hm2 14; have hd15 : w2.cell? ⟨g, 15, none⟩ = some (.int .i64 n.den) := Blk.cell hm2 15; have hf15 := Blk.free hm2 15; have hd28 : w2.cell? ⟨g, 28, none⟩ = some (.bool false) := Blk.cell hm2 28; have HM2 := Lib.hid hm2; clear hm2 hb2)) | (go_at_call 75; go_loud (refine (loose_any g _ x a b c d p q r s false bad ov 0 ex _ (HM2.out.fits sg od nu de) hx2).mono ?_; rintro e w3 ⟨rfl, hm3, hg3⟩; have HM3 := Lib.hid hm3; have HG3 := Lib.hid hg3; clear hm3 hg3)))
      first | go_end0 | go_returns
      exact ⟨rfl, by rw [HV.out]; exact HM3.out, grown_trans (grown_blk (g := g) HB2.out) (grown_trans (grown_trans (grown_trans (grown_trans (grown_set _ _ _ _) (grown_set _ _ _ _)) (grown_set _ _ _ _)) (grown_set _ _ _ _)) HG3.out)⟩
    · subst hx
      have HV := Lib.hid (show setV (fitN n (sg, od, nu, de)) a p false 0 (bad, ov) = (bad, ov) from if_pos (.inr rfl))
      go_enter Try.func43, Try.ntmps43
      go_wp2_with (first | (go_at_call 74; go_loud (refine (HF.out _).mono ?_; rintro e w2 ⟨rfl, hb2⟩; have HB2 := Lib.hid hb2; have hm2 := HG.out.below hb2; have hd12 : w2.cell? ⟨g, 12, none⟩ = some (.int .i64 n.sign) := Blk.cell hm2 12; have hf12 := Blk.free hm2 12; have hd13 : w2.cell? ⟨g, 13, none⟩ = some (.int .i64 n.order) := Blk.cell hm2 13; have hf13 := Blk.free hm2 13; have hd14 : w2.cell? ⟨g, 14, none⟩ = some (.int .i64 n.num) := Blk.cell hm2 14; have hf14 := Blk.free hm2 14; have hd15 : w2.cell? ⟨g, 15, none⟩ = some (.int .i64 n.den) := Blk.cell hm2 15; have hf15 := Blk.free hm2 15; have hd28 : w2.cell? ⟨g, 28, none⟩ = some (.bool false) := Blk.cell hm2 28; have HM2 := Lib.hid hm2; clear hm2 hb2)))
      first | go_end0 | go_returns
      exact ⟨rfl, by rw [HV.out]; exact HM2.out.fits sg od nu de, grown_trans (grown_blk (g := g) HB2.out) (grown_trans (grown_trans (grown_trans (grown_set _ _ _ _) (grown_set _ _ _ _)) (grown_set _ _ _ _)) (grown_set _ _ _ _))⟩
    · have HV := Lib.hid (show setV (fitN n (sg, od, nu, de)) a p false ex (bad, ov) = tightV (fitN n (sg, od, nu, de)) p (-ex) (bad, ov) by unfold setV; rw [if_neg (by simp; omega), if_neg (by omega)])
      have hx1 : ¬ ex = 0 := by omega
      have hx2 : 0 ≤ -ex := by omega
      have hx3 : ¬ 0 < ex := by omega
      go_enter Try.func43, Try.ntmps43
      go_wp2_with (first | (go_at_call 74; go_loud (refine (HF.out _).mono ?_; rintro e w2 ⟨rfl, hb2⟩; have HB2 := Lib.hid hb2; have hm2 := HG.out.below hb2; have hd12 : w2.cell? ⟨g, 12, none⟩ = some (.int .i64 n.sign) := Blk.cell hm2 12; have hf12 := Blk.free hm2 12; have hd13 : w2.cell? ⟨g, 13, none⟩ = some (.int .i64 n.order) := Blk.cell hm2 13; have hf13 := Blk.free hm2 13; have hd14 : w2.cell? ⟨g, 14, none⟩ = some (.int .i64 n.num) := Blk.cell hm2 14; have hf14 := Blk.free hm2 14; have hd15 : w2.cell? ⟨g, 15, none⟩ = some (.int .i64 n.den) := Blk.cell hm2 15; have hf15 := Blk.free hm2 15; have hd28 : w2.cell? ⟨g, 28, none⟩ = some (.bool false) := Blk.cell hm2 28; have HM2 := Lib.hid hm2; clear hm2 hb2)) | (go_at_call 76; go_loud (refine (tight_any g _ x a b c d p q r s false bad ov 0 (-ex) _ (HM2.out.fits sg od nu de) hx2 (by omega)).mono ?_; rintro e w3 ⟨rfl, hm3, hg3⟩; have HM3 := Lib.hid hm3; have HG3 := Lib.hid hg3; clear hm3 hg3)))
      first | go_end0 | go_returns
      exact ⟨rfl, by rw [HV.out]; exact HM3.out, grown_trans (grown_blk (g := g) HB2.out) (grown_trans (grown_trans (grown_trans (grown_trans (grown_set _ _ _ _) (grown_set _ _ _ _)) (grown_set _ _ _ _)) (grown_set _ _ _ _)) HG3.out)⟩
end Go.Proofs.Ytoboecenlangmaa.Pk
end
section
namespace Go.Proofs.Ytoboecenlangmaa.No
open Go.ChangeShapes Go.WideShapes Go.ChangeAt Go.RowKit
open Me Np
set_option linter.unusedVariables false
set_option linter.unusedSimpArgs false

/-- Where the answer of an append lies: where the row lay, or in a new block. -/
theorem run_append_where {w : World} (ty : TypeId) (base : Nat) (v : Value) (n : Nat) (xs : List Value) (hown : w.ownsRow base 54 19 v n xs) (b off c : Nat) (l : List Nd) (hc : ∀ j u, (l.flatMap ncs)[j]? = some u → w.cell? ⟨b, off + j, none⟩ = some u) (hn : n + l.length ≤ 100000) :
    ∃ v' w', (Builtin.append_ #[34, 34] ty #[v, .slice (some ⟨b, off, none⟩) l.length c]).run Try.prog w = .ok v' w' ∧ (v'.ownBlock = v.ownBlock ∨ v'.ownBlock = some w.heap.size) := by
  obtain ⟨i, hi, hz, hsi, hbi⟩ := info_parts node_row
  have hnews : ∀ j u, (l.flatMap ncs)[j]? = some u → w.cell? ((⟨b, off, none⟩ : Addr).add j) = some u := fun j u hu => by
    have hadd : (⟨b, off, none⟩ : Addr).add j = ⟨b, off + j, none⟩ := by unfold Addr.add; split <;> simp_all
    rw [hadd]
    exact hc j u hu
  have hl : (l.flatMap ncs).length = l.length * i.size := by rw [hsi]; exact flat_length ncs_length l
  rcases hown.2 with ⟨rfl, h0⟩ | ⟨g, cap, cur, rfl, hbg, hg, hnc, hcm, hcs, htake⟩
  · by_cases hm : l.length = 0
    · have h0 := List.eq_nil_of_length_eq_zero hm
      subst h0
      refine ⟨.slice none 0 0, w, ?_, .inl rfl⟩
      simp [Builtin.append_, run_underlying (show Try.prog.underlying 34 = some (.slice 54) from Try.underlying34), sizeOf, typeInfo, hi, Builtin.lenOf, Builtin.firstCells, loadCells, loadCellsFrom]
    · exact ⟨_, _, run_append_nil (P := Try.prog) w 34 ty 54 i _ Try.underlying34 hi hz ⟨b, off, none⟩ l.length c (l.flatMap ncs) hl hnews (by omega) (by omega) (by rw [hbi]; omega), .inr rfl⟩
  · by_cases hroom : n + l.length ≤ cap
    · have hfit : n * i.size + (l.flatMap ncs).length ≤ cur.size := by rw [hl, hcs, hsi, ← Nat.add_mul]; exact Nat.mul_le_mul_right _ hroom
      exact ⟨_, _, run_append_room (P := Try.prog) w 34 ty 54 i Try.underlying34 hi g n cap cur hg ⟨b, off, none⟩ l.length c (l.flatMap ncs) hl hnews (ncs_one l) hroom hfit, .inl rfl⟩
    · have holds : ∀ j u, xs[j]? = some u → w.cell? ((⟨g, 0, none⟩ : Addr).add j) = some u := hown.cells (g := g) rfl
      exact ⟨_, _, run_append_grow (P := Try.prog) w 34 ty 54 i _ Try.underlying34 hi hz ⟨g, 0, none⟩ n cap xs (by rw [hsi]; exact hown.1) holds ⟨b, off, none⟩ l.length c (l.flatMap ncs) hl hnews (by omega) (by omega) (growslice_fits (by omega) (by rw [hbi]; omega)), .inr rfl⟩
/-- The same together with what the row holds. -/
theorem run_append_own_at {w : World} (ty : TypeId) (base : Nat) (hbase : base ≤ w.heap.size) (v : Value) (n : Nat) (xs : List Value) (hown : w.ownsRow base 54 19 v n xs) (b off c : Nat) (l : List Nd) (hb : l = [] ∨ b < w.heap.size) (hc : ∀ j u, (l.flatMap ncs)[j]? = some u → w.cell? ⟨b, off + j, none⟩ = some u) (hn : n + l.length ≤ 100000) :
    ∃ v' w', (Builtin.append_ #[34, 34] ty #[v, .slice (some ⟨b, off, none⟩) l.length c]).run Try.prog w = .ok v' w' ∧ w'.ownsRow base 54 19 v' (n + l.length) (xs ++ l.flatMap ncs) ∧ w.grownBy w' v.ownBlock ∧ (v'.ownBlock = v.ownBlock ∨ v'.ownBlock = some w.heap.size) := by
  obtain ⟨v', w', hr, h2, h3⟩ := run_append_nodes ty base hbase v n xs hown (some ⟨b, off, none⟩) c l (.inl ⟨b, off, rfl, hb, hc⟩) hn
  obtain ⟨v2, w2, hr2, h4⟩ := run_append_where ty base v n xs hown b off c l hc hn
  rw [hr] at hr2
  injection hr2 with e1 e2
  subst e1
  exact ⟨v', w', hr, h2, h3, h4⟩
theorem step_append_at {ops : Array Oper} {o : Oper} {a : Act} {w : World} {K : Act → World → Prop} {Q : Exit → Act → World → Prop} {E : Prop} (hgd : o.guard = none) (s x : Operand) (ho : o.op = .call { callee := .builtin .append, args := #[s, x], argTypes := #[34, 34] })
    (base : Nat) (hbase : base ≤ w.heap.size) (v : Value) (n : Nat) (xs : List Value) (hs : a.eval s = v) (hown : w.ownsRow base 54 19 v n xs) (b off c len : Nat) (l : List Nd) (hx : a.eval x = .slice (some ⟨b, off, none⟩) len c) (hlen : len = l.length) (hb : l = [] ∨ b < w.heap.size) (hc : ∀ j u, (l.flatMap ncs)[j]? = some u → w.cell? ⟨b, off + j, none⟩ = some u) (hn : n + l.length ≤ 100000)
    (h : ∀ v' w', w'.ownsRow base 54 19 v' (n + l.length) (xs ++ l.flatMap ncs) → w.grownBy w' v.ownBlock → (v'.ownBlock = v.ownBlock ∨ v'.ownBlock = some w.heap.size) → K (a.put o.dst v') w') :
    if Region.wanted o (yielded ops a.tmps) = true then Oper.wp Try.prog o a w K Q else E := by
  have hw : Region.wanted o (yielded ops a.tmps) = true := by simp [Region.wanted, hgd]
  subst hlen
  rw [if_pos hw]
  obtain ⟨v', w', hr, h2, h3, h4⟩ := run_append_own_at o.type base hbase v n xs hown b off c l hb hc hn
  unfold Oper.wp execOp
  simp only [ho, resolve, invoke, builtin, Sem.run_bind, Sem.run_pure, Result.andThen_ok, List.map_toArray, List.map_cons, List.map_nil, hs, hx, hr]
  exact h v' w' h2 h3 h4

/-- Three slices in a block. -/
def tc3 (vs : Nat → Value) : Array Value := #[vs 0, vs 1, vs 2]
theorem tc3_size (vs : Nat → Value) : (tc3 vs).size = 3 := rfl
theorem tc3_at {vs : Nat → Value} {k : Nat} (h : k < 3) : (tc3 vs)[k]? = some (vs k) := by
  match k, h with
  | 0, _ => rfl
  | 1, _ => rfl
  | 2, _ => rfl
theorem tc3_set {vs : Nat → Value} {k : Nat} (h : k < 3) (u : Value) : (tc3 vs).setIfInBounds k u = tc3 (fun j => if j = k then u else vs j) := by
  match k, h with
  | 0, _ => rfl
  | 1, _ => rfl
  | 2, _ => rfl
theorem three_info : (Try.prog.info? 110).map (·.size) = some 3 := by kernel_rfl
/-- Rows of one's own, each of another block. -/
structure Own3 (w : World) (base : Nat) (vs : Nat → Value) (L : Nat → List Nd) : Prop where
  own : ∀ j, j < 3 → w.ownsRow base 54 19 (vs j) (L j).length ((L j).flatMap ncs)
  dist : ∀ i j, i < 3 → j < 3 → i ≠ j → (vs i).ownBlock = none ∨ (vs i).ownBlock ≠ (vs j).ownBlock
theorem Own3.below {w w' : World} {base : Nat} {vs : Nat → Value} {L : Nat → List Nd} (h : Own3 w base vs L) (hb : Below w.heap.size w w') : Own3 w' base vs L :=
  ⟨fun j hj => own_below (h.own j hj) hb, h.dist⟩
theorem Own3.nil (w : World) (base : Nat) : Own3 w base (fun _ => .slice none 0 0) (fun _ => []) :=
  ⟨fun j _ => World.ownsRow_nil _ _ _ _, fun i j _ _ _ => .inl rfl⟩
theorem Own3.grown {w w' : World} {base : Nat} {vs : Nat → Value} {L : Nat → List Nd} (h : Own3 w base vs L) {k : Nat} (hk : k < 3) {v' : Value} {l : List Nd} (hown : w'.ownsRow base 54 19 v' ((L k).length + l.length) ((L k).flatMap ncs ++ l.flatMap ncs)) (hg : w.grownBy w' (vs k).ownBlock) (hv : v'.ownBlock = (vs k).ownBlock ∨ v'.ownBlock = some w.heap.size) :
    Own3 w' base (fun j => if j = k then v' else vs j) (fun j => if j = k then L k ++ l else L j) := by
  have hold : ∀ j, j < 3 → ∀ q, (vs j).ownBlock = some q → q < w.heap.size := fun j hj q hq => ((h.own j hj).lt q hq).2
  refine ⟨fun j hj => ?_, fun i j hi hj hne => ?_⟩
  · by_cases e : j = k
    · subst e
      simp only [if_true]
      rw [List.length_append, List.flatMap_append]
      exact hown
    · simp only [if_neg e]
      exact (h.own j hj).kept (row := (vs k).ownBlock) hg (h.dist j k hj hk e)
  · by_cases e1 : i = k
    · subst e1
      have e2 : ¬ j = i := fun e => hne e.symm
      simp only [if_true, if_neg e2]
      rcases hv with hv | hv
      · rw [hv]
        exact h.dist i j hi hj hne
      · right
        rw [hv]
        intro e
        have := hold j hj _ e.symm
        omega
    · by_cases e2 : j = k
      · subst e2
        simp only [if_true, if_neg e1]
        rcases hv with hv | hv
        · rw [hv]
          exact h.dist i j hi hj hne
        · right
          rw [hv]
          intro e
          have := hold i hi _ e
          omega
      · simp only [if_neg e1, if_neg e2]
        exact h.dist i j hi hj hne
/-- What the loop of three holds in memory. -/
structure Mem3 (w : World) (vs : Nat → Value) (L : Nat → List Nd) (wr : World) : Prop where
  blk : Blk wr (w.heap.size + 1) 110 (tc3 vs)
  own : Own3 wr (w.heap.size + 2) vs L
  low : Below w.heap.size w wr
  res : Blk wr w.heap.size 110 (tc3 fun _ => .slice none 0 0)
theorem Mem3.below {w : World} {vs : Nat → Value} {L : Nat → List Nd} {wr w' : World} (h : Mem3 w vs L wr) (hb : Below wr.heap.size wr w') : Mem3 w vs L w' :=
  ⟨h.blk.below hb h.blk.lt, h.own.below hb, andThen h.low hb, h.res.below hb h.res.lt⟩
theorem Mem3.drew {w : World} {vs : Nat → Value} {L : Nat → List Nd} {wr : World} (h : Mem3 w vs L wr) : Mem3 w vs L wr.drew := h.below (below_drewN (Below.refl _ _) 1)
/-- One row grows, and its slice is stored. -/
theorem Mem3.grow {w : World} {vs : Nat → Value} {L : Nat → List Nd} {wr w' : World} (h : Mem3 w vs L wr) {k : Nat} (hk : k < 3) {v' : Value} {l : List Nd} (hown : w'.ownsRow (w.heap.size + 2) 54 19 v' ((L k).length + l.length) ((L k).flatMap ncs ++ l.flatMap ncs)) (hg : wr.grownBy w' (vs k).ownBlock) (hv : v'.ownBlock = (vs k).ownBlock ∨ v'.ownBlock = some wr.heap.size) :
    Mem3 w (fun j => if j = k then v' else vs j) (fun j => if j = k then L k ++ l else L j) (w'.setCell ⟨w.heap.size + 1, k, none⟩ v') := by
  have hlt : ∀ q, (vs k).ownBlock = some q → w.heap.size + 2 ≤ q := fun q hq => ((h.own.own k hk).lt q hq).1
  have hlow : Below w.heap.size w w' := below_grown (Nat.le_refl _) h.low hg fun q hq => by have := hlt q hq; omega
  have hb1 : Blk w' (w.heap.size + 1) 110 (tc3 vs) := h.blk.grown hg fun e => by have := hlt _ e.symm; omega
  have hb2 : Blk w' w.heap.size 110 (tc3 fun _ => .slice none 0 0) := h.res.grown hg fun e => by have := hlt _ e.symm; omega
  have ho := h.own.grown hk hown hg hv
  refine ⟨by rw [← tc3_set hk]; exact hb1.set k v', ⟨fun j hj => ?_, ho.dist⟩, hlow.setCell (by simp) _, hb2.far (by simp) v'⟩
  have hoj := ho.own j hj
  refine hoj.kept (row := some (w.heap.size + 1)) ⟨rfl, rfl, rfl, by simp, fun q _ hq => heap_setCell_other w' ⟨w.heap.size + 1, k, none⟩ q v' (fun e => hq (by simp [e]))⟩ ?_
  right
  intro e
  have := (hoj.lt _ e).1
  omega
/-- What the loop of three holds. -/
structure Inv3 (ns : List Nd) (w : World) (F : Nat → List Nd) (last : Nat) (k i : Nat) (wr : World) : Prop where
  k2 : k ≤ 2
  rest : ∃ ss r L vs, D3 ss (ns.drop i) k r ∧ i + r = last ∧ (∀ j, L j ++ thr ss (ns.drop i) k j = F j) ∧ Mem3 w vs L wr
theorem drop_cons {l : List Nd} {k : Nat} {x : Nd} {l' : List Nd} (h : l.drop k = x :: l') : l[k]? = some x ∧ l.drop (k + 1) = l' := by
  constructor
  · have := List.getElem?_drop (xs := l) (i := k) (j := 0)
    rw [h] at this
    simpa using this.symm
  · have : l.drop (k + 1) = (l.drop k).drop 1 := by rw [List.drop_drop]
    rw [this, h]
    rfl
end Go.Proofs.Ytoboecenlangmaa.No
end
section
namespace Go.Proofs.Ytoboecenlangmaa.No
open Go.ChangeShapes Go.WideShapes Go.ChangeAt Go.RowKit
open Me Np
set_option linter.unusedVariables false
set_option linter.unusedSimpArgs false

theorem tc3_one {w : World} {base : Nat} {L : Nat → List Nd} (vs : Nat → Value) (h : Own3 w base vs L) : (tc3 vs).all (·.oneCell') = true := by
  have h1 : ∀ j, j < 3 → (vs j).oneCell' = true := fun j hj => by
    rcases (h.own j hj).2 with ⟨e, _⟩ | ⟨g, cap, cur, e, _⟩ <;> rw [e] <;> rfl
  simp [tc3, h1 0 (by omega), h1 1 (by omega), h1 2 (by omega)]
theorem Own3.setRow {w : World} {g : Nat} {vs : Nat → Value} {L : Nat → List Nd} (h : Own3 w (g + 2) vs L) (hg : g ≤ w.heap.size) (cs : Array Value) : Own3 (w.setRow g cs) g vs L :=
  ⟨fun j hj => own_base ((h.own j hj).kept (row := some g) ⟨rfl, rfl, rfl, by simp, fun k hk hne => setRow_other w g k cs (fun e => hne (by rw [e]))⟩ (.inr (fun e => by have := ((h.own j hj).lt _ e).1; omega))) (by omega), h.dist⟩
theorem own_slice {w : World} {base : Nat} {e : TypeId} {size n : Nat} {v : Value} {xs : List Value} (h : w.ownsRow base e size v n xs) : ∃ A c, v = .slice A n c := by
  rcases h.2 with ⟨rfl, rfl⟩ | ⟨g, cap, cur, rfl, _⟩
  · exact ⟨none, 0, rfl⟩
  · exact ⟨_, _, rfl⟩
theorem Mem3.size2 {w : World} {vs : Nat → Value} {L : Nat → List Nd} {wr : World} (h : Mem3 w vs L wr) : w.heap.size + 2 ≤ wr.heap.size := h.blk.lt
theorem Mem3.blkGrown {w : World} {vs : Nat → Value} {L : Nat → List Nd} {wr w' : World} (h : Mem3 w vs L wr) {k : Nat} (hk : k < 3) (hg : wr.grownBy w' (vs k).ownBlock) : Blk w' (w.heap.size + 1) 110 (tc3 vs) :=
  h.blk.grown hg fun e => by have := ((h.own.own k hk).lt _ e.symm).1; omega
/-- What three answers. -/
def Made3 (w : World) (F : Nat → List Nd) (e : Ending) (w' : World) : Prop := ∃ vs, e = .returned (.agg (tc3 vs)) ∧ Own3 w' w.heap.size vs F ∧ Below w.heap.size w w'
set_option maxHeartbeats 4000000 in
set_option maxRecDepth 100000 in
theorem three_any (A : Option Addr) (ns : List Nd) (c a m : Nat) (ss : List Nat) (n : Nd) (w : World) (hc : chk ns = 0) (hcap : ns.length ≤ c) (hseg : Seg w w.heap.size A (ns.flatMap ncs)) (hn : ns[a]? = some n) (hm : endc (ns.drop a) 0 = some m) (hd : D3 ss (ns.drop (a + 1)) 0 (m - 2)) (hm2 : 2 ≤ m) :
    Calls Try.prog 119 #[.slice A ns.length c, .int .i64 (a : Int)] w (Made3 w (thr ss (ns.drop (a + 1)) 0)) := by
  have hl := (chk_run hc).1
  obtain ⟨b, off, rfl, hb', _⟩ := seg_node hseg hn
  have hmb := (endc_bd hm).2
  rw [List.length_drop] at hmb
  have hal : a < ns.length := (List.getElem?_eq_some_iff.1 hn).1
  have hml : a + m ≤ ns.length := by omega
  have HEN0 := Lib.hid fun w1 (h : Below w.heap.size w w1) => end_any (some ⟨b, off, none⟩) ns c a m w1 (by omega) (Seg.belowW hseg h) hm
  have HEN := Lib.hid fun (i q : Nat) w1 (h : Below w.heap.size w w1) hm => end_any (some ⟨b, off, none⟩) ns c i q w1 (by omega) (Seg.belowW hseg h) hm
  have HNO := Lib.hid fun (k : Nat) (x : Nd) w1 (h : Below w.heap.size w w1) (hk : ns[k]? = some x) => seg_node (hseg.below h) hk
  have HSEG := Lib.hid hseg
  have HD := Lib.hid hd
  clear hc hseg hn hm hd
  have HL := Lib.hid (rfl : ns.length = ns.length)
  generalize hlen : ns.length = len at hl HEN HEN0 HL hal hml hmb hcap ⊢
  clear HL
  have HL := Lib.hid hlen
  clear hlen
  generalize hF : thr ss (ns.drop (a + 1)) 0 = F
  have HF := Lib.hid hF
  clear hF
  go_enter Try.func119, Try.ntmps119
  go_wp2_with fail
  refine (HEN0.out _ (andAlloc (andAlloc (Below.refl _ _) _) _)).mono ?_
  rintro e w1 ⟨rfl, hb1⟩
  have hI0 : Inv3 ns w F (a + m - 1) 0 (a + 1) w1 := by
    have h1 : Blk w1 (w.heap.size + 1) 110 (tc3 fun _ => .slice none 0 0) := Blk.below (Blk.new' (by simp)) hb1 (by simp)
    have h2 : Blk w1 w.heap.size 110 (tc3 fun _ => .slice none 0 0) := Blk.below (Blk.alloc (Blk.new' rfl) _) hb1 (by simp; omega)
    have h3 : Below w.heap.size w w1 := andThen (andAlloc (andAlloc (Below.refl _ _) _) _) hb1
    exact ⟨by omega, ss, m - 2, fun _ => [], _, HD.out, by omega, fun j => by rw [List.nil_append, HF.out], ⟨h1, Own3.nil _ _, h3, h2⟩⟩
  have HI0 := Lib.hid hI0
  clear hI0 hb1
  have hlast : IntKind.i64.wrap ((a + m : Nat) - 1 : Int) = ((a + m - 1 : Nat) : Int) := by
    rw [IntWalk.i64_in _ (by omega)]
    omega
  go_wp2_with fail
  go_loopw [6, 7] (fun kv iv wr => ∃ k i : Nat, kv = .int .i64 (k : Int) ∧ iv = .int .i64 (i : Int) ∧ Inv3 ns w F (a + m - 1) k i wr) (fun _ iv _ => len - (intOf iv).toNat)
  case atStart => exact ⟨0, a + 1, rfl, by go_num, HI0.out⟩
  case round =>
    obtain ⟨k, i, rfl, rfl, hI⟩ := hrel
    obtain ⟨hk2, tt, r, L, vs, hD, hir, hall, hM⟩ := hI
    have HM := Lib.hid hM
    have HALL := Lib.hid hall
    clear hM hall HI0 hlast
    cases tt with
    | nil =>
      obtain ⟨rfl, rfl, _⟩ := hD
      obtain rfl : i = a + m - 1 := by omega
      have hF : ∀ j, L j = F j := fun j => by have := HALL.out j; simpa [thr] using this
      obtain rfl : L = F := funext hF
      have hblk := HM.out.blk
      have hres := HM.out.res
      have hlow := HM.out.low
      have hown := HM.out.own
      have HB := Lib.hid hblk
      have HRS := Lib.hid hres
      have HO := Lib.hid hown
      have HLW := Lib.hid hlow
      go_wp2_with (first | (refine wpList_load_row rfl 110 _ rfl _ rfl _ _ _ _ hblk Try.underlying110 rfl three_info ?_) | (refine wpList_store_row rfl 110 _ _ rfl _ _ rfl rfl _ _ hres three_info rfl (tc3_one _ hown) ?_))
      refine bodyPost_ret (v := .agg (tc3 vs)) (results_cell_row rfl _ _ w.heap.size 110 (tc3 vs) (0, 0) _ rfl (Blk.row HRS.out _) Try.underlying110 rfl three_info) rfl ⟨vs, rfl, ?_, below_setRow HLW.out _ _ (Nat.le_refl _)⟩
      exact HO.out.setRow (Nat.le_of_lt HRS.out.lt) _
    | cons q tt =>
      obtain ⟨x, l', r', hdx, h6, hD⟩ := hD
      obtain ⟨hx, hdr⟩ := drop_cons hdx
      obtain ⟨b2, off2, e2, _, hnode⟩ := HNO.out i x wr HM.out.low hx
      injection e2 with e2
      injection e2 with e3 e4
      subst e3; subst e4
      have c0 : wr.cell? ⟨b, off + i * 19, none⟩ = some (.int .i64 x.kind) := hnode 0 _ rfl
      have hil : i < len := by have := (List.getElem?_eq_some_iff.1 hx).1; have := HL.out; omega
      clear hnode
      rcases hD with ⟨rfl, h11, hk, rfl, hD⟩ | ⟨hq0, h11, hsm, hk, rfl, hq, hD⟩
      · have e11 : (x.kind == 11) = true := by simp [h11]
        have HD1 := Lib.hid hD
        have HDR := Lib.hid hdr
        have HDX := Lib.hid hdx
        clear hD hdr hdx hx
        go_wp2_with fail
        go_roundw
        case rel =>
          refine ⟨k + 1, i + 1, by go_num, by go_num, by omega, tt, r', L, vs, ?_, by omega, fun j => ?_, ?_⟩
          · rw [HDR.out]
            exact HD1.out
          · have := HALL.out j
            rw [HDX.out] at this
            rw [HDR.out]
            simpa [thr] using this
          · repeat (first | exact HM.out | apply Mem3.drew)
        case measure => simp [intOf]; omega
      · have e11 : (x.kind == 11) = false := by simp [h11]
        have HD1 := Lib.hid hD
        have HDX := Lib.hid hdx
        have hqb := endc_bd hq
        rw [List.length_drop, HL.out] at hqb
        have HQ := Lib.hid hq
        have hiq : i + q ≤ len := by omega
        clear hD hx hdr hq hdx hqb
        go_wp2_with fail
        refine (HEN.out i q _ (by repeat (first | exact HM.out.low | refine below_drewN ?_ 1)) HQ.out).mono ?_
        rintro e w2 ⟨rfl, hb2⟩
        have hM2 : Mem3 w vs L w2 := Mem3.below (by repeat (first | exact HM.out | apply Mem3.drew)) hb2
        have HM2 := Lib.hid hM2
        clear hM2 hb2 HM
        go_wp2_with fail
        have hk3 : k < 3 := by omega
        have hM3 := HM2.out.drew
        have hcc : w2.cell? ⟨w.heap.size + 1, k, none⟩ = some (vs k) := (HM2.out.blk.cell k).trans (tc3_at hk3)
        have hcf := HM2.out.blk.free k
        have hz2 : w.heap.size + 1 < w2.heap.size := HM2.out.blk.lt
        have hOW := Lib.hid (hM3.own.own k hk3)
        have hSG := Lib.hid (HSEG.out.below hM3.low)
        have HM3 := Lib.hid hM3
        clear hM3
        have hLk : (L k).length + q ≤ 4000 := by
          have h1 := congrArg List.length (HALL.out k)
          have h2 : (F k).length ≤ len := by
            rw [← HF.out]
            have h3 := thr_len (j := k) HD.out
            omega
          rw [List.length_append] at h1
          omega
        have htl : ((ns.drop i).take q).length = q := by
          rw [List.length_take, List.length_drop, HL.out]
          omega
        have HTL := Lib.hid htl
        have hif : (if c = i then some (⟨b, off, none⟩ : Addr) else some ⟨b, off + i * 19, none⟩) = some ⟨b, off + i * 19, none⟩ := if_neg (by omega)
        have HIF := Lib.hid hif
        have hcell : ∀ j u, (((ns.drop i).take q).flatMap ncs)[j]? = some u → w2.drew.cell? ⟨b, off + i * 19 + j, none⟩ = some u := by
          rw [flat_take ncs_length, flat_drop ncs_length]
          intro j u hu
          have := seg_cells (Seg.take (Seg.drop hSG.out (i * 19)) (q * 19)) j u hu
          have hadd : (⟨b, off + i * 19, none⟩ : Addr).add j = ⟨b, off + i * 19 + j, none⟩ := by unfold Addr.add; split <;> simp_all
          rwa [hadd] at this
        have HCELL := Lib.hid hcell
        clear htl hif hcell
        have hb2' : b < w2.heap.size := by omega
        have hi1 : (i : Int) + q ≤ len := by omega
        have hi2 : (i : Int) + q ≤ c := by omega
        have hi3 : (i : Int) ≤ i + q := by omega
        have hk3i : (k : Int) < 3 := by omega
        go_region_law (first
          | (refine step_append_at rfl (.tmp 35) (.tmp 39) rfl (w.heap.size + 2) ?_ (vs k) (L k).length ((L k).flatMap ncs) rfl hOW.out b (off + i * 19) (c - i) (((i : Int) + q).toNat - i) ((ns.drop i).take q) ?_ ?_ ?_ HCELL.out ?_ ?_; exact HM3.out.size2; (first | rfl | exact congrArg (fun p => Value.slice p (((i : Int) + q).toNat - i) (c - i)) HIF.out); (rw [HTL.out]; omega); exact .inr hb2'; (rw [HTL.out]; omega); intro v3 W3 hown3 hg3 hv3; obtain ⟨A3, c3, rfl⟩ := own_slice hown3; have HM4 := Lib.hid (HM3.out.grow hk3 hown3 hg3 hv3); have hB3 := HM3.out.blkGrown hk3 hg3; have hcc3 := (hB3.cell k).trans (tc3_at hk3); have hcf3 := hB3.free k; have hz3 := hB3.lt))
        have hlq : ((ns.drop i).take q).length = min q (ns.length - i) := by simp
        rw [hlq] at HM4
        clear hlq hcc hcf hcc3 hcf3 hz3 hB3 hg3 hv3 hown3 hOW hSG HCELL
        generalize W3.setCell ⟨w.heap.size + 1, k, none⟩ (.slice A3 ((L k).length + min q (ns.length - i)) c3) = W4 at HM4 ⊢
        generalize min q (ns.length - i) = qq at HM4 ⊢
        go_wp2_with fail
        go_roundw
        case rel =>
          refine ⟨k, i + q, by go_num, by go_num, by omega, tt, r', _, _, ?_, by omega, fun j => ?_, HM4.out⟩
          · have := HD1.out
            rwa [List.drop_drop] at this
          · have := HALL.out j
            obtain ⟨q, rfl⟩ : ∃ y, q = y + 1 := ⟨q - 1, by omega⟩
            simp only [thr, List.drop_drop] at this
            rw [← this]
            by_cases e : j = k
            · simp only [if_pos e, List.append_assoc]
              rw [e]
            · simp only [if_neg e, List.nil_append]
        case measure => simp [intOf]; omega
end Go.Proofs.Ytoboecenlangmaa.No
end
section
namespace Go.Proofs.Ytoboecenlangmaa.No
open Go.ChangeShapes Go.WideShapes Go.ChangeAt Go.RowKit
open Me Np
set_option linter.unusedVariables false
set_option linter.unusedSimpArgs false

theorem idx2 (x y z : Value) (w : World) : (Instr.index 110 (.agg #[x, y, z]) (.int .i64 2)).run Try.prog w = .ok z w := by kernel_rfl
theorem fld0' (x a b c d e f g h : Int) (w : World) : (Instr.field 69 (.agg #[.int .i64 x, .int .i64 a, .int .i64 b, .int .i64 c, .int .i64 d, .int .i64 e, .int .i64 f, .int .i64 g, .int .i64 h]) 0).run Try.prog w = .ok (.int .i64 x) w := by kernel_rfl
theorem fld0 (T : Tot) (h4 : T.st.length = 4) (h5 : T.sh.length = 4) (w : World) : (Instr.field 69 (.agg (tc T)) 0).run Try.prog w = .ok (.int .i64 T.nat) w := by
  obtain ⟨x, st, sh⟩ := T
  match st, sh, h4, h5 with
  | [a, b, c, d], [e, f, g, h], _, _ => exact fld0' x a b c d e f g h w
set_option maxHeartbeats 2000000 in
set_option maxRecDepth 100000 in
theorem along_disc (A : Option Addr) (ns : List Nd) (c k m : Nat) (ss : List Nat) (n : Nd) (v : Int) (w : World) (hc : chk ns = 0) (hcap : ns.length ≤ c) (hseg : Seg w w.heap.size A (ns.flatMap ncs)) (hk : ns[k]? = some n) (hm : endc (ns.drop k) 0 = some m) (hm2 : 2 ≤ m) (hd : D3 ss (ns.drop (k + 1)) 0 (m - 2)) (hn : n.kind = 10)
    (hsum : ∀ w1 A1 c1, (thr ss (ns.drop (k + 1)) 0 2).length ≤ c1 → Seg w1 w1.heap.size A1 ((thr ss (ns.drop (k + 1)) 0 2).flatMap ncs) → Calls Try.prog 63 #[.slice A1 (thr ss (ns.drop (k + 1)) 0 2).length c1, .bool false] w1 fun e w' => ∃ T : Tot, T.nat = v ∧ (T.st.length = 4 ∧ T.sh.length = 4) ∧ e = .returned (.agg (tc T)) ∧ Below w1.heap.size w1 w') :
    Calls Try.prog 112 #[.slice A ns.length c, .int .i64 (k : Int), .bool false] w fun e w' => e = .returned (.int .i64 v) ∧ Below w.heap.size w w' := by
  have hl := (chk_run hc).1
  have HT := Lib.hid fun w1 (h : Below w.heap.size w w1) => three_any A ns c k m ss n w1 hc hcap (Seg.belowW hseg h) hk hm hd hm2
  have HS := Lib.hid hsum
  obtain ⟨b, off, rfl, hb, hnode⟩ := seg_node hseg hk
  have hkl : k < ns.length := (List.getElem?_eq_some_iff.1 hk).1
  clear hseg hk hsum hm hd hc
  generalize thr ss (ns.drop (k + 1)) 0 = F at *
  generalize ns.length = len at *
  go_enter Try.func112, Try.ntmps112
  go_wp2_with (first | (refine wpList_load_node rfl _ rfl _ _ rfl _ (by repeat (first | apply NodeAt.row | (apply Blk.new'; first | rfl | (simp; done)) | (apply Blk.node; apply Blk.new'; first | rfl | (simp; done)) | assumption | apply NodeAt.alloc)) ?_) | (refine wpList_alloc_node rfl rfl ?_) | (refine wpList_store_node rfl _ _ rfl _ _ _ rfl rfl _ (by repeat (first | (apply Blk.new'; first | rfl | (simp; done)) | assumption | apply Blk.alloc)) ?_))
  refine (HT.out _ (andAlloc (Below.refl _ _) _)).mono ?_
  rintro e w1 ⟨vs, rfl, ho, hb1⟩
  obtain ⟨A2, c2, h2, hc2, _, hs2⟩ := Seg.of_own (ho.own 2 (by omega))
  have hl1 : Below w.heap.size w w1 := andThen (andAlloc (Below.refl _ _) _) hb1
  have hix : ∀ w, (Instr.index 110 (.agg (tc3 vs)) (.int .i64 2)).run Try.prog w = .ok (vs 2) w := fun w => idx2 _ _ _ w
  rw [h2] at hix
  generalize tc3 vs = cs at hix ⊢
  go_wp2_with fail
  refine (HS.out _ _ _ hc2 hs2).mono ?_
  rintro e w2 ⟨T, hT, ⟨h4, h5⟩, rfl, hb2⟩
  have ht0 := fld0 T h4 h5
  rw [hT] at ht0
  go_wp2_with fail
  go_ret
  exact ⟨rfl, andThen hl1 hb2⟩
set_option maxHeartbeats 1000000 in
/-- along: every item of a list. -/
theorem along_every (A : Option Addr) (ns : List Nd) (c k : Nat) (n : Nd) (down : Bool) (w : World) (hc : chk ns = 0) (hcap : ns.length ≤ c) (hseg : Seg w w.heap.size A (ns.flatMap ncs)) (hk : ns[k]? = some n) (h6 : ¬ n.kind = 6) (h11 : ¬ n.kind = 11) :
    Calls Try.prog 112 #[.slice A ns.length c, .int .i64 (k : Int), .bool down] w fun e w' => e = .returned (.int .i64 (alD ns down k)) ∧ Below w.heap.size w w' := by
  have hl := (chk_run hc).1
  have hr := chk_right hc
  by_cases hd : n.kind = 10 ∧ down = false
  · obtain ⟨h10, rfl⟩ := hd
    obtain ⟨m, hm⟩ := item_ends hc hk h6 h11
    obtain ⟨hm2, ss, hss⟩ := disc_steps hc hk h10 hm
    obtain ⟨xs, hxs, hsm⟩ := thr_its 2 0 hss
    have hv : AlV ns false k (tsum (thr ss (ns.drop (k + 1)) 0 2) (al0 (thr ss (ns.drop (k + 1)) 0 2) false) xs tz).nat := ⟨n, hk, by rw [if_pos ⟨h10, rfl⟩]; exact ⟨ss, m - 2, xs, hss, hxs, rfl⟩⟩
    rw [alD_of hv]
    have hr3 : ∀ y ∈ thr ss (ns.drop (k + 1)) 0 2, right y = true := fun y hy => hr y (List.mem_of_mem_drop (thr_mem y hy))
    have hlen : (thr ss (ns.drop (k + 1)) 0 2).length ≤ 2000 := by
      have h1 := thr_len (j := 2) hss
      have h2 := hss.le
      rw [List.length_drop] at h2
      omega
    refine along_disc A ns c k m ss n _ w hc hcap hseg hk hm hm2 hss h10 fun w1 A1 c1 hc1 hs1 => ?_
    refine (sum_of A1 (thr ss (ns.drop (k + 1)) 0 2) c1 xs false (al0 (thr ss (ns.drop (k + 1)) 0 2) false) w1 hlen hs1 hxs hr3 (fun x _ => by have := al0_bd hr3 false x; omega) fun x hx w2 hb2 => ?_).mono ?_
    · obtain ⟨y, hy, hsy⟩ := hsm x hx
      rw [Nat.sub_zero] at hy
      have e : al0 (thr ss (ns.drop (k + 1)) 0 2) false x = alongP y false := by simp [al0, hy]
      rw [e]
      refine along_any A1 _ c1 x y false w2 (by omega) (Seg.belowW hs1 hb2) hy (hr3 y (List.mem_of_getElem? hy)) (.inr fun h => ?_)
      simp [smallB, h] at hsy
    · rintro e w2 ⟨rfl, hb2⟩
      exact ⟨_, rfl, tsum_len _ _ _ _ ⟨rfl, rfl⟩, rfl, hb2⟩
  · have hv : AlV ns down k (alongP n down) := ⟨n, hk, by rw [if_neg hd]⟩
    rw [alD_of hv]
    refine along_any A ns c k n down w (by omega) hseg hk (hr n (List.mem_of_getElem? hk)) ?_
    cases down
    · right
      intro h
      exact hd ⟨h, rfl⟩
    · exact .inl rfl
theorem sum_any (A : Option Addr) (ns : List Nd) (c : Nat) (xs : List Nat) (down : Bool) (w : World) (hc : chk ns = 0) (hcap : ns.length ≤ c) (hseg : Seg w w.heap.size A (ns.flatMap ncs)) (hx : Its xs ns 0) :
    Calls Try.prog 63 #[.slice A ns.length c, .bool down] w fun e w' => e = .returned (.agg (tc (totD ns down xs))) ∧ Below w.heap.size w w' := by
  have hl := (chk_run hc).1
  refine sum_of A ns c xs down (alD ns down) w hl hseg hx (chk_right hc) (fun x hm => alV_bd hc (alD_spec down hc hx x hm)) fun x hm w1 hb1 => ?_
  obtain ⟨n, hn, h6, h11⟩ := its_beg hc hx x hm
  exact along_every A ns c x n down w1 hc hcap (Seg.belowW hseg hb1) hn h6 h11
theorem totals_ok (A : Option Addr) (ns : List Nd) (c : Nat) (xs : List Nat) (down : Bool) (w : World) (hc : chk ns = 0) (hcap : ns.length ≤ c) (hseg : Seg w w.heap.size A (ns.flatMap ncs)) (hx : Its xs ns 0) (hd : dimB (totD ns down xs).nat = true) :
    Calls Try.prog 31 #[.slice A ns.length c, .bool down] w fun e w' => e = .returned (.tuple #[.agg (tc (totD ns down xs)), .int .i64 0]) ∧ Below w.heap.size w w' :=
  totals_of A ns c down _ w (by have := (chk_run hc).1; omega) hseg hc (totD_len ns down xs).1 (totD_len ns down xs).2 hd fun w1 hb1 => sum_any A ns c xs down w1 hc hcap (Seg.belowW hseg hb1) hx
end Go.Proofs.Ytoboecenlangmaa.No
end
section
namespace Go.Proofs.Ytoboecenlangmaa.No
open Go.ChangeShapes Go.WideShapes Go.ChangeAt Go.RowKit
open Me Np
set_option linter.unusedVariables false
set_option linter.unusedSimpArgs false
set_option maxHeartbeats 1000000 in
set_option maxRecDepth 100000 in
theorem totals_off (A : Option Addr) (ns : List Nd) (c : Nat) (down : Bool) (T : Tot) (w : World) (hl : ns.length ≤ 9223372036854775806) (hseg : Seg w w.heap.size A (ns.flatMap ncs)) (hc : chk ns = 0) (h4 : T.st.length = 4) (h5 : T.sh.length = 4) (hd : dimB T.nat = false)
    (hsum : ∀ w1, Below w.heap.size w w1 → Calls Try.prog 63 #[.slice A ns.length c, .bool down] w1 fun e w' => e = .returned (.agg (tc T)) ∧ Below w1.heap.size w1 w') :
    Calls Try.prog 31 #[.slice A ns.length c, .bool down] w fun e w' => e = .returned (.tuple #[.agg (tc tz), .int .i64 20]) ∧ Below w.heap.size w w' := by
  have HC := Lib.hid fun w1 (h : Below w.heap.size w w1) => check_any A ns c w1 (by omega) (Seg.belowW hseg h)
  have HE := Lib.hid hc
  have HS := Lib.hid hsum
  have HD := Lib.hid hd
  have hn0 := tc_nat T
  have hsz := tc_size h4 h5
  have HSZ := Lib.hid hsz
  have htw : (Try.prog.info? 69).map (·.size) = some (tc T).size := by rw [hsz]; exact tot_info
  have HTW := Lib.hid htw
  clear hseg hc hsum hd hsz htw
  rw [HE.out] at HC
  generalize ns.length = len at *
  go_enter Try.func31, Try.ntmps31
  go_wp2_with fail
  refine (HC.out _ (andAlloc (Below.refl _ _) _)).mono ?_
  rintro e w1 ⟨rfl, hb1⟩
  have hr1 : Blk w1 w.heap.size 69 (tc tz) := Blk.below (Blk.new' rfl) hb1 (by simp)
  have hl1 : Below w.heap.size w w1 := andThen (andAlloc (Below.refl _ _) _) hb1
  clear hb1
  go_wp2_with fail
  refine (HS.out _ hl1).mono ?_
  rintro e w2 ⟨rfl, hb2⟩
  have hr2 : Blk w2 w.heap.size 69 (tc tz) := hr1.below hb2 hr1.lt
  have hl2 : Below w.heap.size w w2 := andThen hl1 hb2
  have hz2 := hr2.lt
  clear hr1 hl1 hb2
  have hr3 := hr2.alloc (.cells (tc T) 69)
  go_wp2_with (first | (refine wpList_store_row (o := ⟨none, .store _ (.tmp 7) _, _, _, _, _⟩) rfl 69 _ _ rfl w2.heap.size (tc T) rfl rfl 69 (tc tz) (Blk.new' rfl) HTW.out (by rw [HSZ.out]; rfl) (tc_one _) ?_) | (go_at_call 64; fail))
  have hk : Blk ((w2.alloc (.cells (tc T) 69)).alloc (.cells #[.int .i64 T.nat] 3)) w2.heap.size 69 (tc T) := Blk.alloc (Blk.new' rfl) _
  have hr4 : Blk ((w2.alloc (.cells (tc T) 69)).alloc (.cells #[.int .i64 T.nat] 3)) w.heap.size 69 (tc tz) := hr3.alloc _
  refine (dimen1 _ T.nat _ ((Blk.new' (by simp)).cell 0)).mono ?_
  rintro e w' ⟨rfl, rfl⟩
  rw [HD.out]
  generalize hW : (w2.alloc (.cells (tc T) 69)).alloc (.cells #[.int .i64 T.nat] 3) = W at hk hr4 ⊢
  have HWB := Lib.hid (by rw [← hW]; exact andAlloc (andAlloc hl2 _) _ : Below w.heap.size w W)
  clear hW hr2 hr3 hl2 hz2 hn0
  go_wp2_with (first
    | (refine wpList_store_row (o := ⟨none, .store _ (.tmp 4) _, _, _, _, _⟩) rfl 69 _ _ rfl w.heap.size (tc tz) rfl rfl 69 (tc tz) hr4 tot_info rfl (tc_one _) ?_))
  exact bodyPost_ret (v := .tuple #[.agg (tc tz), .int .i64 20]) (results_cell_tmp rfl _ _ w.heap.size 69 (tc tz) (0, 0) _ _ rfl rfl (Blk.row hr4 _) Try.underlying69 rfl tot_info) rfl ⟨rfl, below_setRow HWB.out _ _ (Nat.le_refl _)⟩
theorem totals_err (A : Option Addr) (ns : List Nd) (c : Nat) (xs : List Nat) (down : Bool) (w : World) (hc : chk ns = 0) (hcap : ns.length ≤ c) (hseg : Seg w w.heap.size A (ns.flatMap ncs)) (hx : Its xs ns 0) (hd : dimB (totD ns down xs).nat = false) :
    Calls Try.prog 31 #[.slice A ns.length c, .bool down] w fun e w' => e = .returned (.tuple #[.agg (tc tz), .int .i64 20]) ∧ Below w.heap.size w w' :=
  totals_off A ns c down _ w (by have := (chk_run hc).1; omega) hseg hc (totD_len ns down xs).1 (totD_len ns down xs).2 hd fun w1 hb1 => sum_any A ns c xs down w1 hc hcap (Seg.belowW hseg hb1) hx
/-- Totals, whatever they come to. -/
noncomputable def totR (ns : List Nd) (down : Bool) (xs : List Nat) : Tot := if dimB (totD ns down xs).nat = true then totD ns down xs else tz
theorem totals_any (A : Option Addr) (ns : List Nd) (c : Nat) (xs : List Nat) (down : Bool) (w : World) (hc : chk ns = 0) (hcap : ns.length ≤ c) (hseg : Seg w w.heap.size A (ns.flatMap ncs)) (hx : Its xs ns 0) :
    Calls Try.prog 31 #[.slice A ns.length c, .bool down] w fun e w' => e = .returned (.tuple #[.agg (tc (totR ns down xs)), .int .i64 (if dimB (totD ns down xs).nat = true then 0 else 20)]) ∧ Below w.heap.size w w' := by
  unfold totR
  cases h : dimB (totD ns down xs).nat
  · simpa using totals_err A ns c xs down w hc hcap hseg hx h
  · simpa using totals_ok A ns c xs down w hc hcap hseg hx h
theorem totR_len (ns : List Nd) (down : Bool) (xs : List Nat) : (totR ns down xs).st.length = 4 ∧ (totR ns down xs).sh.length = 4 := by
  unfold totR
  split
  · exact totD_len _ _ _
  · exact ⟨rfl, rfl⟩
end Go.Proofs.Ytoboecenlangmaa.No
end
section
namespace Go.Proofs.Ytoboecenlangmaa.No
open Go.ChangeShapes Go.WideShapes Go.ChangeAt Go.RowKit
open Me Np
set_option linter.unusedVariables false
set_option linter.unusedSimpArgs false

set_option maxHeartbeats 1000000 in
set_option maxRecDepth 100000 in
theorem totals_bad (A : Option Addr) (ns : List Nd) (c : Nat) (down : Bool) (w : World) (hl : ns.length ≤ 9223372036854775806) (hseg : Seg w w.heap.size A (ns.flatMap ncs)) (hc : ¬ chk ns = 0) :
    Calls Try.prog 31 #[.slice A ns.length c, .bool down] w fun e w' => e = .returned (.tuple #[.agg (tc tz), .int .i64 (chk ns)]) ∧ Below w.heap.size w w' := by
  have HC := Lib.hid fun w1 (h : Below w.heap.size w w1) => check_any A ns c w1 (by omega) (Seg.belowW hseg h)
  have e0 : (chk ns != 0) = true := by simp [hc]
  clear hseg hc
  generalize chk ns = v at *
  generalize ns.length = len at *
  go_enter Try.func31, Try.ntmps31
  go_wp2_with fail
  refine (HC.out _ (andAlloc (Below.refl _ _) _)).mono ?_
  rintro e w1 ⟨rfl, hb1⟩
  have hr1 : Blk w1 w.heap.size 69 (tc tz) := Blk.below (Blk.new' rfl) hb1 (by simp)
  have HL1 := Lib.hid (andThen (andAlloc (Below.refl _ _) _) hb1 : Below w.heap.size w w1)
  clear hb1
  go_wp2_with (first | (refine wpList_store_row (o := ⟨none, .store _ (.tmp 4) _, _, _, _, _⟩) rfl 69 _ _ rfl w.heap.size (tc tz) rfl rfl 69 (tc tz) hr1 tot_info rfl (tc_one _) ?_))
  exact bodyPost_ret (v := .tuple #[.agg (tc tz), .int .i64 v]) (results_cell_tmp rfl _ _ w.heap.size 69 (tc tz) (0, 0) _ _ rfl rfl (Blk.row hr1 _) Try.underlying69 rfl tot_info) rfl ⟨rfl, below_setRow HL1.out _ _ (Nat.le_refl _)⟩
end Go.Proofs.Ytoboecenlangmaa.No
end
section
namespace Go.Proofs.Ytoboecenlangmaa.No
open Go.ChangeShapes Go.WideShapes Go.ChangeAt Go.RowKit
open Me Np
set_option linter.unusedVariables false
set_option linter.unusedSimpArgs false
attribute [local go_sem ↓] ldN_eq
theorem box_shift {n : Nd} (h : right n = true) (h4 : n.kind = 4 ∨ n.kind = 5) : -1073741823 ≤ n.shift ∧ n.shift ≤ 1073741823 := by
  have hs : dimB n.shift = true := by
    rcases h4 with h4 | h4
    · have := right_kind (k := 4) h h4
      simp only [goodK, gBox, Bool.and_eq_true] at this
      exact this.1.2.2.2
    · have := right_kind (k := 5) h h4
      simp only [goodK, gBox, Bool.and_eq_true] at this
      exact this.1.2.2.2
  exact dm_of hs
set_option maxHeartbeats 4000000 in
set_option maxRecDepth 100000 in
theorem row_of (A : Option Addr) (ns : List Nd) (c : Nat) (xs : List Nat) (ra : Nat → Int × Int) (w : World) (hl : ns.length ≤ 2000) (hseg : Seg w w.heap.size A (ns.flatMap ncs)) (hx : Its xs ns 0) (hr : ∀ x ∈ ns, right x = true)
    (hrv : ∀ k ∈ xs, RV (ra k)) (hone : ∀ k ∈ xs, ∀ n, ns[k]? = some n → ¬ n.kind = 10 → ra k = rowP n)
    (hdisc : ∀ k ∈ xs, ∀ n, ns[k]? = some n → n.kind = 10 → ∀ w1, Below w.heap.size w w1 → Calls Try.prog 119 #[.slice A ns.length c, .int .i64 (k : Int)] w1 fun e w' => ∃ vs A2 c2 l2, e = .returned (.agg (tc3 vs)) ∧ vs 2 = .slice A2 l2 c2 ∧ Below w1.heap.size w1 w' ∧
      Calls Try.prog 77 #[.slice A2 l2 c2] w' fun e w2 => e = .returned (.tuple #[.int .i64 (ra k).1, .int .i64 (ra k).2]) ∧ Below w'.heap.size w' w2) :
    Calls Try.prog 77 #[.slice A ns.length c] w fun e w' => e = .returned (.tuple #[.int .i64 (rfold ra xs (0, 0)).1, .int .i64 (rfold ra xs (0, 0)).2]) ∧ Below w.heap.size w w' := by
  have HDI := Lib.hid hdisc
  have HON := Lib.hid hone
  have HRV := Lib.hid hrv
  have HRT := Lib.hid hr
  have HSEG := Lib.hid hseg
  have HITS := Lib.hid (items_any A ns c xs w hl hseg hx)
  have hxl := Its.len hx
  have HLT := Lib.hid (Its.lt hx)
  clear hdisc hone hrv hr hseg hx
  have HL := Lib.hid (rfl : ns.length = ns.length)
  generalize hlen : ns.length = len at hl HDI HITS HL hxl HLT ⊢
  clear HL
  have HL := Lib.hid hlen
  clear hlen
  go_enter Try.func77, Try.ntmps77
  go_wp2_with fail
  refine HITS.out.mono ?_
  rintro e w1 ⟨v, rfl, ho, hb1⟩
  obtain ⟨A', c', rfl⟩ := made_len ho
  have HO := Lib.hid ho
  have HB1 := Lib.hid hb1
  clear ho hb1
  go_wp2_with fail
  go_loopw [2, 3, 12] (fun h d i wr => ∃ (k : Nat) (s : Int × Int), k ≤ xs.length ∧ i = .int .i64 k ∧ h = .int .i64 s.1 ∧ d = .int .i64 s.2 ∧ RB s ∧ rfold ra (xs.drop k) s = rfold ra xs (0, 0) ∧ Below w1.heap.size w1 wr) (fun _ _ i _ => xs.length - (intOf i).toNat)
  case atStart => exact ⟨0, (0, 0), by omega, rfl, rfl, rfl, by unfold RB; simp only; omega, rfl, Below.refl _ _⟩
  case round =>
    obtain ⟨k, s, hk, rfl, rfl, rfl, hrb, hfo, hlow⟩ := hrel
    have HRB := Lib.hid hrb
    by_cases hlt : k < xs.length
    · obtain ⟨x, hx, hxd⟩ : ∃ x, xs[k]? = some x ∧ xs.drop k = x :: xs.drop (k + 1) := ⟨xs[k], List.getElem?_eq_getElem hlt, List.drop_eq_getElem_cons hlt⟩
      have hxm : x ∈ xs := List.mem_of_getElem? hx
      have hxl2 := (HLT.out x hxm).2
      obtain ⟨n, hn, hnd⟩ := get_drop (l := ns) (k := x) (by rw [HL.out]; omega)
      have HRN := Lib.hid (HRT.out n (List.mem_of_getElem? hn))
      have HNN := Lib.hid hn
      obtain ⟨b, off, rfl, hb, hnode⟩ := seg_node HSEG.out hn
      have HLW := Lib.hid (andThen HB1.out hlow)
      have hnr : NodeAt wr b (off + x * 19) n := hnode.below HLW.out hb
      have hld0 : (ldN ⟨b, off + x * 19, none⟩).run Try.prog wr = .ok (.agg (nc n)) wr := run_ldN hnr
      rw [hxd] at hfo
      have HFO := Lib.hid (show rfold ra (xs.drop (k + 1)) (rstep s (ra x)) = rfold ra xs (0, 0) from hfo)
      obtain ⟨g, rfl, hg⟩ : ∃ g, A' = some ⟨g, 0, none⟩ ∧ g < w1.heap.size := by
        rcases id HO.out.2 with ⟨_, h5⟩ | ⟨g, _, _, h5, _, h6, _⟩
        · omega
        · simp at h5
          exact ⟨g, h5.1, (Array.getElem?_eq_some_iff.1 h6).1⟩
      have hxc : wr.cell? ⟨g, k, none⟩ = some (.int .i64 x) := by
        rw [hlow.cell (p := ⟨g, k, none⟩) hg, World.ownsRow.cellAt HO.out k (by omega), List.getElem?_map, hx]
        rfl
      clear hn hnd hx hnode hxd hfo hnr hrb
      by_cases h10 : n.kind = 10
      · have e1 : (n.kind == 1) = false := by simp [h10]
        have e2 : (n.kind == 2) = false := by simp [h10]
        have e3 : (n.kind == 3) = false := by simp [h10]
        have e4 : (n.kind == 4) = false := by simp [h10]
        have e5 : (n.kind == 5) = false := by simp [h10]
        have e10 : (n.kind == 10) = true := by simp [h10]
        have HD3 := Lib.hid (HDI.out x hxm n HNN.out h10 (wr.alloc (.cells (nc n) 54)) (andAlloc HLW.out _))
        have hlw2 := andAlloc hlow (.cells (nc n) 54)
        clear h10
        go_wp2_with (first | (with_reducible show wpList _ _ _ _ _ _; refine wpList_alloc_node rfl rfl ?_) | (with_reducible show wpList _ _ _ _ _ _; refine wpList_store_node rfl _ _ rfl _ _ _ rfl rfl _ (by repeat (first | (apply Blk.new'; first | rfl | (simp; done)) | assumption | apply Blk.alloc)) ?_))
        refine HD3.out.mono ?_
        rintro e w4 ⟨vs, A2, c2, l2, rfl, hv2, hb4, hsum⟩
        have HSU := Lib.hid hsum
        have hlw4 := andThen hlw2 hb4
        have hix : ∀ w, (Instr.index 110 (.agg (tc3 vs)) (.int .i64 2)).run Try.prog w = .ok (vs 2) w := fun w => idx2 _ _ _ w
        rw [hv2] at hix
        clear hsum hv2 hb4 HD3 hlw2
        generalize tc3 vs = cs3 at hix ⊢
        go_wp2_with fail
        refine HSU.out.mono ?_
        rintro e w5 ⟨rfl, hb5⟩
        have hlw5 := andThen hlw4 hb5
        clear hb5 hlw4 HSU hix
        go_wp2_with fail
        go_roundw
        case rel => exact ⟨k + 1, rstep s (ra x), by omega, by go_num, rfl, rfl, HRB.out.step (HRV.out x hxm), HFO.out, by repeat (first | exact hlw5 | refine below_drewN ?_ _ | refine andAlloc ?_ _)⟩
        case measure => simp [intOf]; omega
      · by_cases hk5 : n.kind = 1 ∨ n.kind = 2 ∨ n.kind = 3 ∨ n.kind = 4 ∨ n.kind = 5
        · rcases hk5 with hk | hk | hk | hk | hk
          · have e1 : (n.kind == 1) = true := by simp [hk]
            have hra := HON.out x hxm n HNN.out (by omega)
            rw [show rowP n = (n.ht, n.dp) by unfold rowP; rw [if_pos (by omega)]] at hra
            have HRA := Lib.hid hra
            clear hra hk
            go_wp2_with (first | (with_reducible show wpList _ _ _ _ _ _; refine wpList_alloc_node rfl rfl ?_) | (with_reducible show wpList _ _ _ _ _ _; refine wpList_store_node rfl _ _ rfl _ _ _ rfl rfl _ (by repeat (first | (apply Blk.new'; first | rfl | (simp; done)) | assumption | apply Blk.alloc)) ?_))
            go_quiet (fail)
            go_wp2_with fail
            go_roundw
            case rel => exact ⟨k + 1, rstep s (n.ht, n.dp), by omega, by go_num, rfl, rfl, by rw [← HRA.out]; exact HRB.out.step (HRV.out x hxm), by rw [← HRA.out]; exact HFO.out, by repeat (first | exact hlow | refine below_drewN ?_ _ | refine andAlloc ?_ _)⟩
            case measure => simp [intOf]; omega
          · have e1 : (n.kind == 1) = false := by simp [hk]
            have e2 : (n.kind == 2) = true := by simp [hk]
            have hra := HON.out x hxm n HNN.out (by omega)
            rw [show rowP n = (n.ht, n.dp) by unfold rowP; rw [if_pos (by omega)]] at hra
            have HRA := Lib.hid hra
            clear hra hk
            go_wp2_with (first | (with_reducible show wpList _ _ _ _ _ _; refine wpList_alloc_node rfl rfl ?_) | (with_reducible show wpList _ _ _ _ _ _; refine wpList_store_node rfl _ _ rfl _ _ _ rfl rfl _ (by repeat (first | (apply Blk.new'; first | rfl | (simp; done)) | assumption | apply Blk.alloc)) ?_))
            go_quiet (fail)
            go_wp2_with fail
            go_roundw
            case rel => exact ⟨k + 1, rstep s (n.ht, n.dp), by omega, by go_num, rfl, rfl, by rw [← HRA.out]; exact HRB.out.step (HRV.out x hxm), by rw [← HRA.out]; exact HFO.out, by repeat (first | exact hlow | refine below_drewN ?_ _ | refine andAlloc ?_ _)⟩
            case measure => simp [intOf]; omega
          · have e1 : (n.kind == 1) = false := by simp [hk]
            have e2 : (n.kind == 2) = false := by simp [hk]
            have e3 : (n.kind == 3) = true := by simp [hk]
            have hra := HON.out x hxm n HNN.out (by omega)
            rw [show rowP n = (n.ht, n.dp) by unfold rowP; rw [if_pos (by omega)]] at hra
            have HRA := Lib.hid hra
            clear hra hk
            go_wp2_with (first | (with_reducible show wpList _ _ _ _ _ _; refine wpList_alloc_node rfl rfl ?_) | (with_reducible show wpList _ _ _ _ _ _; refine wpList_store_node rfl _ _ rfl _ _ _ rfl rfl _ (by repeat (first | (apply Blk.new'; first | rfl | (simp; done)) | assumption | apply Blk.alloc)) ?_))
            go_quiet (fail)
            go_wp2_with fail
            go_roundw
            case rel => exact ⟨k + 1, rstep s (n.ht, n.dp), by omega, by go_num, rfl, rfl, by rw [← HRA.out]; exact HRB.out.step (HRV.out x hxm), by rw [← HRA.out]; exact HFO.out, by repeat (first | exact hlow | refine below_drewN ?_ _ | refine andAlloc ?_ _)⟩
            case measure => simp [intOf]; omega
          · have e1 : (n.kind == 1) = false := by simp [hk]
            have e2 : (n.kind == 2) = false := by simp [hk]
            have e3 : (n.kind == 3) = false := by simp [hk]
            have e4 : (n.kind == 4) = true := by simp [hk]
            have hra := HON.out x hxm n HNN.out (by omega)
            rw [show rowP n = (n.ht - n.shift, n.dp + n.shift) by unfold rowP; rw [if_neg (by omega), if_pos (by omega)]] at hra
            have hd := right_hd HRN.out (by omega)
            unfold dm at hd
            have hsh := box_shift HRN.out (by omega)
            have hw1 : IntKind.i64.wrap (n.ht - n.shift) = n.ht - n.shift := IntWalk.i64_in _ (by omega)
            have hw2 : IntKind.i64.wrap (n.dp + n.shift) = n.dp + n.shift := IntWalk.i64_in _ (by omega)
            clear hd hsh
            have HRA := Lib.hid hra
            clear hra hk
            go_wp2_with (first | (with_reducible show wpList _ _ _ _ _ _; refine wpList_alloc_node rfl rfl ?_) | (with_reducible show wpList _ _ _ _ _ _; refine wpList_store_node rfl _ _ rfl _ _ _ rfl rfl _ (by repeat (first | (apply Blk.new'; first | rfl | (simp; done)) | assumption | apply Blk.alloc)) ?_))
            go_quiet (fail)
            go_wp2_with fail
            go_roundw
            case rel => exact ⟨k + 1, rstep s (n.ht - n.shift, n.dp + n.shift), by omega, by go_num, rfl, rfl, by rw [← HRA.out]; exact HRB.out.step (HRV.out x hxm), by rw [← HRA.out]; exact HFO.out, by repeat (first | exact hlow | refine below_drewN ?_ _ | refine andAlloc ?_ _)⟩
            case measure => simp [intOf]; omega
          · have e1 : (n.kind == 1) = false := by simp [hk]
            have e2 : (n.kind == 2) = false := by simp [hk]
            have e3 : (n.kind == 3) = false := by simp [hk]
            have e4 : (n.kind == 4) = false := by simp [hk]
            have e5 : (n.kind == 5) = true := by simp [hk]
            have hra := HON.out x hxm n HNN.out (by omega)
            rw [show rowP n = (n.ht - n.shift, n.dp + n.shift) by unfold rowP; rw [if_neg (by omega), if_pos (by omega)]] at hra
            have hd := right_hd HRN.out (by omega)
            unfold dm at hd
            have hsh := box_shift HRN.out (by omega)
            have hw1 : IntKind.i64.wrap (n.ht - n.shift) = n.ht - n.shift := IntWalk.i64_in _ (by omega)
            have hw2 : IntKind.i64.wrap (n.dp + n.shift) = n.dp + n.shift := IntWalk.i64_in _ (by omega)
            clear hd hsh
            have HRA := Lib.hid hra
            clear hra hk
            go_wp2_with (first | (with_reducible show wpList _ _ _ _ _ _; refine wpList_alloc_node rfl rfl ?_) | (with_reducible show wpList _ _ _ _ _ _; refine wpList_store_node rfl _ _ rfl _ _ _ rfl rfl _ (by repeat (first | (apply Blk.new'; first | rfl | (simp; done)) | assumption | apply Blk.alloc)) ?_))
            go_quiet (fail)
            go_wp2_with fail
            go_roundw
            case rel => exact ⟨k + 1, rstep s (n.ht - n.shift, n.dp + n.shift), by omega, by go_num, rfl, rfl, by rw [← HRA.out]; exact HRB.out.step (HRV.out x hxm), by rw [← HRA.out]; exact HFO.out, by repeat (first | exact hlow | refine below_drewN ?_ _ | refine andAlloc ?_ _)⟩
            case measure => simp [intOf]; omega
        · have e1 : (n.kind == 1) = false := by simp; omega
          have e2 : (n.kind == 2) = false := by simp; omega
          have e3 : (n.kind == 3) = false := by simp; omega
          have e4 : (n.kind == 4) = false := by simp; omega
          have e5 : (n.kind == 5) = false := by simp; omega
          have e10 : (n.kind == 10) = false := by simp; omega
          have hra := HON.out x hxm n HNN.out h10
          rw [show rowP n = (0, 0) by unfold rowP; rw [if_neg (by omega), if_neg (by omega)]] at hra
          have HRA := Lib.hid hra
          clear hra h10 hk5
          go_wp2_with (first | (with_reducible show wpList _ _ _ _ _ _; refine wpList_alloc_node rfl rfl ?_) | (with_reducible show wpList _ _ _ _ _ _; refine wpList_store_node rfl _ _ rfl _ _ _ rfl rfl _ (by repeat (first | (apply Blk.new'; first | rfl | (simp; done)) | assumption | apply Blk.alloc)) ?_))
          go_roundw
          case rel => exact ⟨k + 1, rstep s (0, 0), by omega, by go_num, rfl, rfl, by have hh := HRB.out.step (HRV.out x hxm); rw [HRA.out] at hh; exact hh, by have hf := HFO.out; rw [HRA.out] at hf; exact hf, by repeat (first | exact hlow | refine below_drewN ?_ _ | refine andAlloc ?_ _)⟩
          case measure => simp [intOf]; omega
    · obtain rfl : k = xs.length := by omega
      rw [List.drop_of_length_le (Nat.le_refl _)] at hfo
      have hfo : s = rfold ra xs (0, 0) := hfo
      subst hfo
      have HLW := Lib.hid (andThen HB1.out hlow)
      go_wp2_with fail
      go_ret2
      exact ⟨rfl, HLW.out⟩
end Go.Proofs.Ytoboecenlangmaa.No
end
section
namespace Go.Proofs.Ytoboecenlangmaa.No
open Go.ChangeShapes Go.WideShapes Go.ChangeAt Go.RowKit
open Me Np
set_option linter.unusedVariables false
set_option linter.unusedSimpArgs false
attribute [local go_sem ↓] ldN_eq
set_option maxHeartbeats 4000000 in
set_option maxRecDepth 100000 in
theorem column_of (A : Option Addr) (ns : List Nd) (c : Nat) (xs : List Nat) (w : World) (hl : ns.length ≤ 2000) (hseg : Seg w w.heap.size A (ns.flatMap ncs)) (hx : Its xs ns 0) (hr : ∀ x ∈ ns, right x = true) :
    Calls Try.prog 78 #[.slice A ns.length c] w fun e w' => e = .returned (.tuple #[.int .i64 (cfold ns xs (0, 0)).1, .int .i64 (cfold ns xs (0, 0)).2]) ∧ Below w.heap.size w w' := by
  have HRT := Lib.hid hr
  have HSEG := Lib.hid hseg
  have HITS := Lib.hid (items_any A ns c xs w hl hseg hx)
  have hxl := Its.len hx
  have HLT := Lib.hid (Its.lt hx)
  clear hr hseg hx
  have HL := Lib.hid (rfl : ns.length = ns.length)
  generalize hlen : ns.length = len at hl HITS HL hxl HLT ⊢
  clear HL
  have HL := Lib.hid hlen
  clear hlen
  go_enter Try.func78, Try.ntmps78
  go_wp2_with fail
  refine HITS.out.mono ?_
  rintro e w1 ⟨v, rfl, ho, hb1⟩
  obtain ⟨A', c', rfl⟩ := made_len ho
  have HO := Lib.hid ho
  have HB1 := Lib.hid hb1
  clear ho hb1
  go_wp2_with fail
  go_loopw [2, 3, 10] (fun h d i wr => ∃ (k : Nat) (s : Int × Int), k ≤ xs.length ∧ i = .int .i64 k ∧ h = .int .i64 s.1 ∧ d = .int .i64 s.2 ∧ cfold ns (xs.drop k) s = cfold ns xs (0, 0) ∧ Below w1.heap.size w1 wr) (fun _ _ i _ => xs.length - (intOf i).toNat)
  case atStart => exact ⟨0, (0, 0), by omega, rfl, rfl, rfl, rfl, Below.refl _ _⟩
  case round =>
    obtain ⟨k, s, hk, rfl, rfl, rfl, hfo, hlow⟩ := hrel
    by_cases hlt : k < xs.length
    · obtain ⟨x, hx, hxd⟩ : ∃ x, xs[k]? = some x ∧ xs.drop k = x :: xs.drop (k + 1) := ⟨xs[k], List.getElem?_eq_getElem hlt, List.drop_eq_getElem_cons hlt⟩
      have hxm : x ∈ xs := List.mem_of_getElem? hx
      have hxl2 := (HLT.out x hxm).2
      obtain ⟨n, hn, hnd⟩ := get_drop (l := ns) (k := x) (by rw [HL.out]; omega)
      have HRN := Lib.hid (HRT.out n (List.mem_of_getElem? hn))
      have HNN := Lib.hid hn
      obtain ⟨b, off, rfl, hb, hnode⟩ := seg_node HSEG.out hn
      have HLW := Lib.hid (andThen HB1.out hlow)
      have hnr : NodeAt wr b (off + x * 19) n := hnode.below HLW.out hb
      have hld0 : (ldN ⟨b, off + x * 19, none⟩).run Try.prog wr = .ok (.agg (nc n)) wr := run_ldN hnr
      rw [hxd] at hfo
      have HFO := Lib.hid (show cfold ns (xs.drop (k + 1)) (cstep s n) = cfold ns xs (0, 0) by simpa [cfold, hn] using hfo)
      obtain ⟨g, rfl, hg⟩ : ∃ g, A' = some ⟨g, 0, none⟩ ∧ g < w1.heap.size := by
        rcases id HO.out.2 with ⟨_, h5⟩ | ⟨g, _, _, h5, _, h6, _⟩
        · omega
        · simp at h5
          exact ⟨g, h5.1, (Array.getElem?_eq_some_iff.1 h6).1⟩
      have hxc : wr.cell? ⟨g, k, none⟩ = some (.int .i64 x) := by
        rw [hlow.cell (p := ⟨g, k, none⟩) hg, World.ownsRow.cellAt HO.out k (by omega), List.getElem?_map, hx]
        rfl
      have hgl : g < wr.heap.size := Nat.lt_of_lt_of_le hg hlow.size
      clear hn hnd hx hnode hxd hfo hnr
      by_cases hk5 : n.kind = 3 ∨ n.kind = 4 ∨ n.kind = 5
      · rcases hk5 with hk | hk | hk
        · have e3 : (n.kind == 3) = true := by simp [hk]
          have HST := Lib.hid (show cstep s n = (max s.1 n.wd, n.dp) by unfold cstep; rw [if_pos (by omega)])
          clear hk
          go_wp2_with (first | (with_reducible show wpList _ _ _ _ _ _; refine wpList_alloc_node rfl rfl ?_) | (with_reducible show wpList _ _ _ _ _ _; refine wpList_store_node rfl _ _ rfl _ _ _ rfl rfl _ (by repeat (first | (apply Blk.new'; first | rfl | (simp; done)) | assumption | apply Blk.alloc)) ?_))
          go_region
          all_goals go_wp2_with fail
          all_goals go_roundw
          all_goals first | (case measure => simp [intOf]; omega) | (case rel => exact ⟨k + 1, (max s.1 n.wd, n.dp), by omega, by go_num, rfl, rfl, by have hf := HFO.out; rw [HST.out] at hf; exact hf, by repeat (first | exact hlow | refine below_drewN ?_ _ | refine andAlloc ?_ _)⟩)
        · have e3 : (n.kind == 3) = false := by simp [hk]
          have e4 : (n.kind == 4) = true := by simp [hk]
          have HST := Lib.hid (show cstep s n = (max s.1 (n.wd + n.shift), n.dp) by unfold cstep; rw [if_neg (by omega), if_pos (by omega)])
          have hd := right_wd HRN.out (by omega)
          unfold dm at hd
          have hsh := box_shift HRN.out (by omega)
          have hw1 : IntKind.i64.wrap (n.wd + n.shift) = n.wd + n.shift := IntWalk.i64_in _ (by omega)
          clear hd hsh
          clear hk
          go_wp2_with (first | (with_reducible show wpList _ _ _ _ _ _; refine wpList_alloc_node rfl rfl ?_) | (with_reducible show wpList _ _ _ _ _ _; refine wpList_store_node rfl _ _ rfl _ _ _ rfl rfl _ (by repeat (first | (apply Blk.new'; first | rfl | (simp; done)) | assumption | apply Blk.alloc)) ?_))
          go_region
          all_goals go_wp2_with fail
          all_goals go_roundw
          all_goals first | (case measure => simp [intOf]; omega) | (case rel => exact ⟨k + 1, (max s.1 (n.wd + n.shift), n.dp), by omega, by go_num, rfl, rfl, by have hf := HFO.out; rw [HST.out] at hf; exact hf, by repeat (first | exact hlow | refine below_drewN ?_ _ | refine andAlloc ?_ _)⟩)
        · have e3 : (n.kind == 3) = false := by simp [hk]
          have e4 : (n.kind == 4) = false := by simp [hk]
          have e5 : (n.kind == 5) = true := by simp [hk]
          have HST := Lib.hid (show cstep s n = (max s.1 (n.wd + n.shift), n.dp) by unfold cstep; rw [if_neg (by omega), if_pos (by omega)])
          have hd := right_wd HRN.out (by omega)
          unfold dm at hd
          have hsh := box_shift HRN.out (by omega)
          have hw1 : IntKind.i64.wrap (n.wd + n.shift) = n.wd + n.shift := IntWalk.i64_in _ (by omega)
          clear hd hsh
          clear hk
          go_wp2_with (first | (with_reducible show wpList _ _ _ _ _ _; refine wpList_alloc_node rfl rfl ?_) | (with_reducible show wpList _ _ _ _ _ _; refine wpList_store_node rfl _ _ rfl _ _ _ rfl rfl _ (by repeat (first | (apply Blk.new'; first | rfl | (simp; done)) | assumption | apply Blk.alloc)) ?_))
          go_region
          all_goals go_wp2_with fail
          all_goals go_roundw
          all_goals first | (case measure => simp [intOf]; omega) | (case rel => exact ⟨k + 1, (max s.1 (n.wd + n.shift), n.dp), by omega, by go_num, rfl, rfl, by have hf := HFO.out; rw [HST.out] at hf; exact hf, by repeat (first | exact hlow | refine below_drewN ?_ _ | refine andAlloc ?_ _)⟩)
      · have e3 : (n.kind == 3) = false := by simp; omega
        have e4 : (n.kind == 4) = false := by simp; omega
        have e5 : (n.kind == 5) = false := by simp; omega
        have HST := Lib.hid (show cstep s n = (s.1, 0) by unfold cstep; rw [if_neg (by omega), if_neg (by omega)])
        clear hk5
        go_wp2_with (first | (with_reducible show wpList _ _ _ _ _ _; refine wpList_alloc_node rfl rfl ?_) | (with_reducible show wpList _ _ _ _ _ _; refine wpList_store_node rfl _ _ rfl _ _ _ rfl rfl _ (by repeat (first | (apply Blk.new'; first | rfl | (simp; done)) | assumption | apply Blk.alloc)) ?_))
        go_roundw
        case rel => exact ⟨k + 1, (s.1, 0), by omega, by go_num, rfl, rfl, by have hf := HFO.out; rw [HST.out] at hf; exact hf, by repeat (first | exact hlow | refine below_drewN ?_ _ | refine andAlloc ?_ _)⟩
        case measure => simp [intOf]; omega
    · obtain rfl : k = xs.length := by omega
      rw [List.drop_of_length_le (Nat.le_refl _)] at hfo
      have hfo : s = cfold ns xs (0, 0) := hfo
      subst hfo
      have HLW := Lib.hid (andThen HB1.out hlow)
      go_wp2_with fail
      go_ret2
      exact ⟨rfl, HLW.out⟩
end Go.Proofs.Ytoboecenlangmaa.No
end
section
namespace Go.Proofs.Ytoboecenlangmaa.No
open Go.ChangeShapes Go.WideShapes Go.ChangeAt Go.RowKit
open Me Np
set_option linter.unusedVariables false
set_option linter.unusedSimpArgs false

/-- A list's height and depth in a row. -/
noncomputable def rowD (ns : List Nd) (xs : List Nat) : Int × Int := rfold (roD ns) xs (0, 0)
/-- A list's extent. -/
noncomputable def extD (ns : List Nd) (down : Bool) (xs : List Nat) : Int × Int := if down = true then cfold ns xs (0, 0) else rowD ns xs
/-- What Extent answers. -/
def extV (P : Int × Int) : Value := .tuple #[.int .i64 (if (dimB P.1 && dimB P.2) = true then P.1 else 0), .int .i64 (if (dimB P.1 && dimB P.2) = true then P.2 else 0), .int .i64 (if (dimB P.1 && dimB P.2) = true then 0 else 20)]
theorem ext_yes {P : Int × Int} (h : (dimB P.1 && dimB P.2) = true) : Ending.returned (.tuple #[.int .i64 P.1, .int .i64 P.2, .int .i64 0]) = .returned (extV P) := by unfold extV; rw [if_pos h, if_pos h, if_pos h]
theorem ext_no {P : Int × Int} (h : (dimB P.1 && dimB P.2) = false) : Ending.returned (.tuple #[.int .i64 0, .int .i64 0, .int .i64 20]) = .returned (extV P) := by unfold extV; rw [if_neg (by rw [h]; decide), if_neg (by rw [h]; decide), if_neg (by rw [h]; decide)]
theorem row_any (A : Option Addr) (ns : List Nd) (c : Nat) (xs : List Nat) (w : World) (hc : chk ns = 0) (hcap : ns.length ≤ c) (hseg : Seg w w.heap.size A (ns.flatMap ncs)) (hx : Its xs ns 0) :
    Calls Try.prog 77 #[.slice A ns.length c] w fun e w' => e = .returned (.tuple #[.int .i64 (rowD ns xs).1, .int .i64 (rowD ns xs).2]) ∧ Below w.heap.size w w' := by
  have hl := (chk_run hc).1
  have hr := chk_right hc
  refine row_of A ns c xs (roD ns) w hl hseg hx hr (fun k _ => roD_rv hr k) ?_ ?_
  · intro k hk n hn h10
    exact roD_of ⟨n, hn, by rw [if_neg h10]⟩
  · intro k hk n hn h10 w1 hb1
    obtain ⟨m, hm⟩ := item_ends hc hn (by omega) (by omega)
    obtain ⟨hm2, ss, hss⟩ := disc_steps hc hn h10 hm
    obtain ⟨xs', hxs, hsm⟩ := thr_its 2 0 hss
    have hv : RoV ns k (rfold (ra0 (thr ss (ns.drop (k + 1)) 0 2)) xs' (0, 0)) := ⟨n, hn, by rw [if_pos h10]; exact ⟨ss, m - 2, xs', hss, hxs, rfl⟩⟩
    rw [roD_of hv]
    have hr3 : ∀ y ∈ thr ss (ns.drop (k + 1)) 0 2, right y = true := fun y hy => hr y (List.mem_of_mem_drop (thr_mem y hy))
    have hlen : (thr ss (ns.drop (k + 1)) 0 2).length ≤ 2000 := by
      have h1 := thr_len (j := 2) hss
      have h2 := hss.le
      rw [List.length_drop] at h2
      omega
    refine (three_any A ns c k m ss n w1 hc hcap (Seg.belowW hseg hb1) hn hm hss hm2).mono ?_
    rintro e w2 ⟨vs, rfl, ho, hb2⟩
    obtain ⟨A2, c2, h2, hc2, _, hs2⟩ := Seg.of_own (ho.own 2 (by omega))
    refine ⟨vs, A2, c2, _, rfl, h2, hb2, ?_⟩
    have hsm' : ∀ x ∈ xs', ∀ y, (thr ss (ns.drop (k + 1)) 0 2)[x]? = some y → smallB y = true := fun x hx' y hy => by
      obtain ⟨y', hy', hs⟩ := hsm x hx'
      rw [Nat.sub_zero, hy] at hy'
      injection hy' with e
      rw [e]
      exact hs
    refine row_of A2 (thr ss (ns.drop (k + 1)) 0 2) c2 xs' (ra0 (thr ss (ns.drop (k + 1)) 0 2)) w2 hlen hs2 hxs hr3 (fun x _ => ra0_rv hr3 x) (fun x hx' y hy _ => by simp [ra0, hy]) (fun x hx' y hy h => ?_)
    have := hsm' x hx' y hy
    simp [smallB, h] at this
set_option maxHeartbeats 1000000 in
set_option maxRecDepth 100000 in
theorem extent_bad (A : Option Addr) (ns : List Nd) (c : Nat) (down : Bool) (w : World) (hl : ns.length ≤ 9223372036854775806) (hseg : Seg w w.heap.size A (ns.flatMap ncs)) (hc : ¬ chk ns = 0) :
    Calls Try.prog 44 #[.slice A ns.length c, .bool down] w fun e w' => e = .returned (.tuple #[.int .i64 0, .int .i64 0, .int .i64 (chk ns)]) ∧ Below w.heap.size w w' := by
  have HC := Lib.hid (check_any A ns c w (by omega) hseg)
  have e0 : (chk ns != 0) = true := by simp [hc]
  clear hseg hc
  generalize chk ns = v at *
  generalize ns.length = len at *
  go_enter Try.func44, Try.ntmps44
  go_wp2_with fail
  refine HC.out.mono ?_
  rintro e w1 ⟨rfl, hb1⟩
  go_wp2_with fail
  go_ret3
  exact ⟨rfl, hb1⟩
set_option maxHeartbeats 1000000 in
set_option maxRecDepth 100000 in
theorem extent_good (A : Option Addr) (ns : List Nd) (c : Nat) (xs : List Nat) (down : Bool) (w : World) (hc : chk ns = 0) (hcap : ns.length ≤ c) (hseg : Seg w w.heap.size A (ns.flatMap ncs)) (hx : Its xs ns 0) :
    Calls Try.prog 44 #[.slice A ns.length c, .bool down] w fun e w' => e = .returned (extV (extD ns down xs)) ∧ Below w.heap.size w w' := by
  have hl := (chk_run hc).1
  have hr := chk_right hc
  have HC := Lib.hid (check_any A ns c w (by omega) hseg)
  have HR := Lib.hid fun w1 (h : Below w.heap.size w w1) => row_any A ns c xs w1 hc hcap (Seg.belowW hseg h) hx
  have HCO := Lib.hid fun w1 (h : Below w.heap.size w w1) => column_of A ns c xs w1 hl (Seg.belowW hseg h) hx hr
  rw [hc] at HC
  have HE0 := Lib.hid (show down = false → extD ns down xs = rowD ns xs from fun h => by rw [h]; rfl)
  have HE1 := Lib.hid (show down = true → extD ns down xs = cfold ns xs (0, 0) from fun h => by rw [h]; rfl)
  generalize extD ns down xs = E at *
  clear hseg hc hx hr hcap
  generalize hQ : cfold ns xs (0, 0) = Q at *
  generalize hP0 : rowD ns xs = P0 at *
  clear hQ hP0
  generalize ns.length = len at *
  go_enter Try.func44, Try.ntmps44
  go_wp2_with fail
  refine HC.out.mono ?_
  rintro e w1 ⟨rfl, hb1⟩
  go_wp2_with fail
  refine (HR.out _ hb1).mono ?_
  rintro e w2 ⟨rfl, hb2⟩
  have hb12 := andThen hb1 hb2
  cases down
  · have HLX := Lib.hid hb12
    clear hb1 hb2 hb12
    have hE := HE0.out (by first | rfl | trivial)
    clear HE0 HE1
    subst hE
    cases hD : dimB E.1 && dimB E.2
    all_goals
      have HD := Lib.hid hD
      clear hD
      go_wp2_with (go_at_call 64; refine (dimen2 _ E.1 E.2 _ (by simp [go_sem]) (by simp [go_sem])).mono ?_; rintro e w' ⟨rfl, rfl⟩; simp only [HD.out])
      go_ret3
      exact ⟨by first | exact ext_no HD.out | exact ext_yes HD.out, andAlloc HLX.out _⟩
  · go_wp2_with fail
    refine (HCO.out _ hb12).mono ?_
    rintro e w3 ⟨rfl, hb3⟩
    have HLX := Lib.hid (andThen hb12 hb3)
    clear hb1 hb2 hb12 hb3
    have hE := HE1.out (by first | rfl | trivial)
    clear HE0 HE1
    subst hE
    cases hD : dimB E.1 && dimB E.2
    all_goals
      have HD := Lib.hid hD
      clear hD
      go_wp2_with (go_at_call 64; refine (dimen2 _ E.1 E.2 _ (by simp [go_sem]) (by simp [go_sem])).mono ?_; rintro e w' ⟨rfl, rfl⟩; simp only [HD.out])
      go_ret3
      exact ⟨by first | exact ext_no HD.out | exact ext_yes HD.out, andAlloc HLX.out _⟩
end Go.Proofs.Ytoboecenlangmaa.No
end
section
namespace Go.Proofs.Ytoboecenlangmaa.No
open Go.ChangeShapes Go.WideShapes Go.ChangeAt Go.RowKit
open Me Np
set_option linter.unusedVariables false
set_option linter.unusedSimpArgs false

theorem run_append_seg {w : World} (ty : TypeId) (base : Nat) (hbase : base ≤ w.heap.size) (v : Value) (n : Nat) (xs : List Value) (hown : w.ownsRow base 54 19 v n xs) (B : Nat) (A : Option Addr) (c : Nat) (l : List Nd) (hs : Seg w B A (l.flatMap ncs)) (hA : A = none → c = 0) (hn : n + l.length ≤ 100000) :
    ∃ v' w', (Builtin.append_ #[34, 34] ty #[v, .slice A l.length c]).run Try.prog w = .ok v' w' ∧ w'.ownsRow base 54 19 v' (n + l.length) (xs ++ l.flatMap ncs) ∧ w.grownBy w' v.ownBlock := by
  obtain ⟨i, hi, hz, hsi, hbi⟩ := info_parts node_row
  have hl0 : l.flatMap ncs = [] → l = [] := fun h => by
    have := flat_length ncs_length l
    rw [h] at this
    simp only [List.length_nil] at this
    exact List.eq_nil_of_length_eq_zero (by omega)
  cases A with
  | none =>
    obtain rfl := hA rfl
    have hl : l = [] := by
      rcases hs with h | ⟨b, off, e, _⟩
      · exact hl0 h
      · cases e
    subst hl
    exact ⟨v, w, run_append_owned_none w base 34 ty 54 i 19 Try.underlying34 hi v n xs hown, by simpa using hown, rfl, rfl, rfl, Nat.le_refl _, fun k _ _ => rfl⟩
  | some ad =>
    have hc : ∀ j u, (l.flatMap ncs)[j]? = some u → w.cell? (ad.add j) = some u := by
      rcases hs with h | ⟨b, off, e, _, h⟩
      · intro j u hu
        rw [h] at hu
        simp at hu
      · injection e with e
        subst e
        intro j u hu
        have hadd : (⟨b, off, none⟩ : Addr).add j = ⟨b, off + j, none⟩ := by unfold Addr.add; split <;> simp_all
        rw [hadd]
        exact h j u hu
    obtain ⟨v', w', hr, h2, h3, _⟩ := run_append_own (P := Try.prog) w base 34 ty 54 i _ 19 160 Try.underlying34 hi hz hsi hbi rfl (by decide) v n xs hown ad l.length c (l.flatMap ncs) (flat_length ncs_length l) hc (ncs_one l) (by simp only [maxLen]; omega) (by omega) hbase
    exact ⟨v', w', hr, h2, h3⟩
theorem wpList_append_seg {ops : Array Oper} {rest : List Oper} {o : Oper} {a : Act} {w : World} {Q : Exit → Act → World → Prop} (hgd : o.guard = none) (s x : Operand) (ho : o.op = .call { callee := .builtin .append, args := #[s, x], argTypes := #[34, 34] })
    (base : Nat) (hbase : base ≤ w.heap.size) (v : Value) (n : Nat) (xs : List Value) (hs : a.eval s = v) (hown : w.ownsRow base 54 19 v n xs) (B : Nat) (A : Option Addr) (c len : Nat) (l : List Nd) (hx : a.eval x = .slice A len c) (hlen : len = l.length) (hseg : Seg w B A (l.flatMap ncs)) (hA : A = none → c = 0) (hn : n + l.length ≤ 100000)
    (h : ∀ v' w', w'.ownsRow base 54 19 v' (n + l.length) (xs ++ l.flatMap ncs) → w.grownBy w' v.ownBlock → wpList Try.prog ops Q rest (a.put o.dst v') w') : wpList Try.prog ops Q (o :: rest) a w :=
  wpList_plain hgd fun K hK => by
    subst hlen
    obtain ⟨v', w', hr, h2, h3⟩ := run_append_seg o.type base hbase v n xs hown B A c l hseg hA hn
    unfold Oper.wp execOp
    simp only [ho, resolve, invoke, builtin, Sem.run_bind, Sem.run_pure, Result.andThen_ok, List.map_toArray, List.map_cons, List.map_nil, hs, hx, hr]
    exact hK _ _ (h v' w' h2 h3)

end Go.Proofs.Ytoboecenlangmaa.No
end
section
namespace Go.Proofs.Ytoboecenlangmaa.No
open Go.ChangeShapes Go.WideShapes Go.ChangeAt Go.RowKit
open Me Np
set_option linter.unusedVariables false
set_option linter.unusedSimpArgs false

theorem own_one (w : World) (n : Nd) : (w.alloc (.cells (nc n) 54)).ownsRow w.heap.size 54 19 (.slice (some ⟨w.heap.size, 0, none⟩) 1 1) 1 (ncs n) :=
  ⟨by rw [ncs_length], .inr ⟨w.heap.size, 1, nc n, rfl, Nat.le_refl _, heap_alloc_new w _, Nat.le_refl _, by simp [maxLen], by simp [nc_size], List.take_of_length_le (by rw [nc_list]; omega)⟩⟩
attribute [local go_sem ↓] ldN_eq bldN_eq
set_option maxHeartbeats 2000000 in
set_option maxRecDepth 100000 in
theorem wrap_ok (n : Nd) (A : Option Addr) (l : List Nd) (c : Nat) (w : World) (hsrc : Src w A c l) (hr : right n = true) (ho : opensB n = true) (h10 : ¬ n.kind = 10) (hc : chk l = 0) (hw : chk (wrapL n l) = 0) :
    Calls Try.prog 79 #[.agg (nc n), .slice A l.length c] w (MadeNE w (wrapL n l)) := by
  have hl := (chk_run hc).1
  have e10 : (n.kind == 10) = false := by simp [h10]
  have HO := Lib.hid ho
  have HR := Lib.hid hr
  have HC := Lib.hid fun w1 (h : Below w.heap.size w w1) => check_any A l c w1 (by omega) (Src.below hsrc h).seg
  have HE := Lib.hid hc
  have HS := Lib.hid hsrc
  have HW := Lib.hid hw
  rw [HE.out] at HC
  clear hc ho hr hsrc hw h10
  go_enter Try.func79, Try.ntmps79
  go_wp2_with fail
  refine (kinds_any _).mono ?_
  rintro e w1 ⟨rfl, hq, hz1, hb1⟩
  have HQ := Lib.hid hq
  have HZ1 := Lib.hid hz1
  have hn1 : NodeAt w1 w.heap.size 0 n := NodeAt.below (Blk.node (Blk.new' rfl)) hb1 (by simp)
  have hl1 : Below w.heap.size w w1 := andThen (andAlloc (Below.refl _ _) _) hb1
  clear hq hz1 hb1
  have hld1 : ∀ o : Obj, (ldN ⟨w.heap.size, 0, none⟩).run Try.prog (w1.alloc o) = .ok (.agg (nc n)) (w1.alloc o) := fun o => run_ldN (hn1.alloc o)
  go_wp2_with (first
    | (refine wpList_store_row rfl 117 _ _ rfl w1.heap.size (ktab (w.heap.size + 1 + 1)) rfl rfl 117 Try.zeroCells117 (Blk.new' rfl) (by rw [ktab_size]; exact kinds_info) (by rw [ktab_size]; exact zero_size) (ktab_one _) ?_)
    | fail)
  have hq2 : (w1.alloc (.cells (ktab (w.heap.size + 1 + 1)) 117)).cell? ⟨w.heap.size + 1 + 1, 0, none⟩ = some (.func (.func 87) #[] #[]) := by
    have h1 := HQ.out
    have h2 := HZ1.out
    simp at h1 h2
    exact (World.cell?_alloc_past (w := w1) _ _ _ (by omega)).trans h1
  have hw2 := andAlloc hl1 (.cells (ktab (w.heap.size + 1 + 1)) 117)
  have hn2 := hn1.alloc (.cells (ktab (w.heap.size + 1 + 1)) 117)
  refine (right_any n w1.heap.size (w.heap.size + 1 + 1) _ (Blk.new' rfl) hq2).mono ?_
  rintro e w2 ⟨rfl, hb2⟩
  have hl2 := andThen hw2 hb2
  have hn2' := hn2.below hb2 hn2.lt
  have hc2 : w2.cell? ⟨w.heap.size, 0, none⟩ = some (.int .i64 n.kind) := hn2' 0 _ rfl
  have hz2 := hn2'.lt
  rw [HR.out]
  have hld2 : (ldN ⟨w.heap.size, 0, none⟩).run Try.prog w2 = .ok (.agg (nc n)) w2 := run_ldN hn2'
  have hld3 : ∀ o : Obj, (ldN ⟨w.heap.size, 0, none⟩).run Try.prog (w2.alloc o) = .ok (.agg (nc n)) (w2.alloc o) := fun o => run_ldN (hn2'.alloc o)
  clear hq2 hw2 hn2 hb2 hn1 hl1 HQ HZ1 hld1
  go_wp2_with (first
    | (go_at_call 53; (with_reducible refine (opens_any _ _).mono ?_); rintro e w' ⟨rfl, rfl⟩; simp only [HO.out]))
  have hl3 := andAlloc hl2 (.cells (nc n) 54)
  have hn3 := hn2'.alloc (.cells (nc n) 54)
  refine (HC.out _ hl3).mono ?_
  rintro e w3 ⟨rfl, hb3⟩
  have HL3 := Lib.hid (andThen hl3 hb3)
  have hn4 := hn3.below hb3 hn3.lt
  have hld4 : (ldN ⟨w.heap.size, 0, none⟩).run Try.prog w3 = .ok (.agg (nc n)) w3 := run_ldN hn4
  have hb6 := run_bldN 6
  have HSR := Lib.hid (fun (W : World) (h : Below w.heap.size w W) => Src.below HS.out h)
  have HO1 := Lib.hid (own_one w3 n)
  have HLA := Lib.hid (andAlloc HL3.out (.cells (nc n) 54))
  clear hl2 hn2' hc2 hz2 hld2 hld3 hl3 hn3 hb3 hn4 HC
  go_wp2_with (first
    | (refine wpList_ex (o := ⟨some 30, _, _, _, _, _⟩) (v := .slice (some ⟨w3.heap.size, 0, none⟩) 1 1) (w' := w3.alloc (.cells (nc n) 54)) rfl (by kernel_rfl) ?_)
    | (at_builtin; refine wpList_append_nodes rfl (.tmp 30) (.tmp 31) rfl w3.heap.size ?_ _ 1 _ rfl HO1.out A c l rfl (HSR.out _ HLA.out) ?_ ?_; simp; omega; intro v1 W1 hown1 hg1; have hlw1 : Below w.heap.size w W1 := below_grown (Nat.le_refl _) HLA.out hg1 (fun g hg => by have hh := HL3.out.size; have hg' : some w3.heap.size = some g := hg; injection hg' with hg'; omega))
    | (refine wpList_build_eq (o := ⟨some 34, _, _, _, _, _⟩) rfl _ _ rfl (nc (nz 6)) (by kernel_rfl) ?_)
    | (refine wpList_ex (o := ⟨some 35, _, _, _, _, _⟩) (v := .slice (some ⟨W1.heap.size, 0, none⟩) 1 1) (w' := W1.alloc (.cells (nc (nz 6)) 54)) rfl (by kernel_rfl) ?_)
    | (at_builtin; refine wpList_push rfl (.tmp 33) (.tmp 35) 34 rfl w3.heap.size 54 _ 19 160 Try.underlying34 node_row rfl (by decide) (by decide) _ _ _ rfl hown1 ?_ _ rfl rfl rfl rfl ?_ ?_; (have hh := hg1.size; simp at hh; omega); omega; intro v2 W2 hown2 hg2 hnn2)
    | fail)
  have hg2' : (W1.alloc (.cells (nc (nz 6)) 54)).grownBy W2 v1.ownBlock := hg2
  clear hg2 hnn2
  have hlw2 : Below w.heap.size w W2 := below_grown (Nat.le_refl _) (andAlloc hlw1 _) hg2' (fun g hg => by
    have h1 := hown1.lt g hg
    have h2 := HL3.out.size
    omega)
  have hfl : (wrapL n l).flatMap ncs = ncs n ++ l.flatMap ncs ++ (nc (nz 6)).toList := by
    show _ = ncs n ++ l.flatMap ncs ++ ncs (nz 6)
    simp [wrapL, List.flatMap_append]
  have hln : 1 + l.length + 1 = (wrapL n l).length := by
    simp [wrapL]
    omega
  rw [← hfl, hln] at hown2
  have HOW := Lib.hid (own_base hown2 (show w.heap.size ≤ w3.heap.size from HL3.out.size))
  obtain ⟨A2, c2, rfl, hc2, hm2, hs2⟩ := Seg.of_own hown2
  have hch := check_any A2 (wrapL n l) c2 W2 (by rw [← hln]; omega) hs2
  rw [HW.out] at hch
  have HLW2 := Lib.hid hlw2
  clear hg2' hown2 hown1 hg1 hlw1 hlw2 hfl hs2 hm2 HSR HO1 HLA hld4 hb6
  generalize hwl : (wrapL n l).length = wl at *
  have HWL := Lib.hid hwl
  clear hwl
  refine hch.mono ?_
  rintro e w5 ⟨rfl, hb5⟩
  have HF := Lib.hid (own_below HOW.out hb5)
  have HLF := Lib.hid (andThen HLW2.out hb5)
  clear hch hb5 HOW HLW2
  go_wp2_with fail
  go_ret2
  exact ⟨.slice A2 wl c2, rfl, by rw [HWL.out]; exact HF.out, HLF.out⟩
end Go.Proofs.Ytoboecenlangmaa.No
end
section
namespace Go.Proofs.Ytoboecenlangmaa.Pk
open Go.ChangeShapes Go.WideShapes Go.ChangeAt Go.RowKit
open Me Np No
set_option linter.unusedVariables false
set_option linter.unusedSimpArgs false

/-- What a list measures. -/
structure Msr (l : List Nd) (down : Bool) (x a b c d p q r s e1 h v e2 : Int) : Prop where
  tot : ∀ (A : Option Addr) (k : Nat) (w : World), l.length ≤ k → Seg w w.heap.size A (l.flatMap ncs) → Calls Try.prog 31 #[.slice A l.length k, .bool down] w fun e w' => e = .returned (.tuple #[.agg #[.int .i64 x, .int .i64 a, .int .i64 b, .int .i64 c, .int .i64 d, .int .i64 p, .int .i64 q, .int .i64 r, .int .i64 s], .int .i64 e1]) ∧ Below w.heap.size w w'
  ext : ∀ (A : Option Addr) (k : Nat) (w : World), l.length ≤ k → Seg w w.heap.size A (l.flatMap ncs) → Calls Try.prog 44 #[.slice A l.length k, .bool down] w fun e w' => e = .returned (.tuple #[.int .i64 h, .int .i64 v, .int .i64 e2]) ∧ Below w.heap.size w w'
  nat : e1 = 0 → dimB x = true
  near : e1 = 0 → Gl.nearB a = true ∧ Gl.nearB b = true ∧ Gl.nearB c = true ∧ Gl.nearB d = true ∧ Gl.nearB p = true ∧ Gl.nearB q = true ∧ Gl.nearB r = true ∧ Gl.nearB s = true
  err : e1 = 0 → e2 = 0 ∨ e2 = 20
  hv : e2 = 0 → dimB h = true ∧ dimB v = true
theorem near_of {z : Int} (h : -(1073741823 * ((2000 : Nat) : Int)) ≤ z ∧ z ≤ 1073741823 * ((2000 : Nat) : Int)) : Gl.nearB z = true := by
  unfold Gl.nearB
  rw [decide_eq_true_eq]
  omega
attribute [local go_sem ↓] ldN_eq
set_option maxRecDepth 100000 in
/-- The maker's wrap. -/
theorem mwrap_any (g : Nat) (n : Nd) (x a b c d p q r s : Int) (em : Bool) (bad ov : Int) (S L : List Nd) (e0 : Int) (A : Option Addr) (k : Nat) (w : World) (hg : Mk w g n x a b c d p q r s em bad ov 0)
    (hw : ∀ (A : Option Addr) (c : Nat) (w : World), Src w A c S → Calls Try.prog 79 #[.agg (nc n), .slice A S.length c] w fun e' w' => ∃ v, e' = .returned (.tuple #[v, .int .i64 e0]) ∧ w'.ownsRow w.heap.size 54 19 v L.length (L.flatMap ncs) ∧ Below w.heap.size w w') (hs : Src w A k S) :
    Calls Try.prog 45 #[.pointer (some ⟨g, 0, none⟩), .slice A S.length k] w fun e' w' => ∃ v, e' = .returned (.tuple #[v, .int .i64 e0]) ∧ w'.ownsRow w.heap.size 54 19 v L.length (L.flatMap ncs) ∧ Below w.heap.size w w' := by
  have hc31 : w.cell? ⟨g, 31, none⟩ = some (.int .i64 0) := Blk.cell hg 31
  have hld := run_ldN hg.node
  have HW := Lib.hid (hw A k w hs)
  clear hg hw hs
  generalize S.length = len at *
  go_enter Try.func45, Try.ntmps45
  go_wp2_with fail
  refine HW.out.mono ?_
  rintro e w1 ⟨v, rfl, ho, hb⟩
  have HO := Lib.hid (And.intro ho hb)
  clear ho hb HW
  go_wp2_with fail
  go_ret2
  exact ⟨v, rfl, HO.out.1, HO.out.2⟩
end Go.Proofs.Ytoboecenlangmaa.Pk
end
section
namespace Go.Proofs.Ytoboecenlangmaa.Pk
open Go.ChangeShapes Go.WideShapes Go.ChangeAt Go.RowKit
open Me Np No
set_option linter.unusedVariables false
set_option linter.unusedSimpArgs false

/-- An append of nodes that lie somewhere; where the answer lies. -/
theorem wpList_append_at {ops : Array Oper} {rest : List Oper} {o : Oper} {a : Act} {w : World} {Q : Exit → Act → World → Prop} (hgd : o.guard = none) (s x : Operand) (ho : o.op = .call { callee := .builtin .append, args := #[s, x], argTypes := #[34, 34] })
    (base : Nat) (hbase : base ≤ w.heap.size) (v : Value) (n : Nat) (xs : List Value) (hs : a.eval s = v) (hown : w.ownsRow base 54 19 v n xs) (b off c len : Nat) (l : List Nd) (hx : a.eval x = .slice (some ⟨b, off, none⟩) len c) (hlen : len = l.length) (hb : l = [] ∨ b < w.heap.size) (hc : ∀ j u, (l.flatMap ncs)[j]? = some u → w.cell? ⟨b, off + j, none⟩ = some u) (hn : n + l.length ≤ 100000)
    (h : ∀ v' w', w'.ownsRow base 54 19 v' (n + l.length) (xs ++ l.flatMap ncs) → w.grownBy w' v.ownBlock → (v'.ownBlock = v.ownBlock ∨ v'.ownBlock = some w.heap.size) → wpList Try.prog ops Q rest (a.put o.dst v') w') : wpList Try.prog ops Q (o :: rest) a w :=
  wpList_plain hgd fun K hK => by
    subst hlen
    obtain ⟨v', w', hr, h2, h3, h4⟩   := Go.Proofs.Ytoboecenlangmaa.No.run_append_own_at o.type base hbase v n xs hown b off c l hb hc hn
    unfold Oper.wp execOp
    simp only [ho, resolve, invoke, builtin, Sem.run_bind, Sem.run_pure, Result.andThen_ok, List.map_toArray, List.map_cons, List.map_nil, hs, hx, hr]
    exact hK _ _ (h v' w' h2 h3 h4)
theorem beg_of {ns : List Nd} {a : Nat} {x : Nd} (hx : ns[a]? = some x) (h6 : ¬ x.kind = 6) (h11 : ¬ x.kind = 11) : begB ns a = true := by
  simp [begB, hx, h6, h11]
/-- Two rows of the call's own, each of its own block. -/
structure Own2 (w : World) (base : Nat) (v u : Value) (l m : List Nd) : Prop where
  one : w.ownsRow base 54 19 v l.length (l.flatMap ncs)
  two : w.ownsRow base 54 19 u m.length (m.flatMap ncs)
  dist : v.ownBlock = none ∨ v.ownBlock ≠ u.ownBlock
  dist' : u.ownBlock = none ∨ u.ownBlock ≠ v.ownBlock
theorem Own2.below {w w' : World} {base : Nat} {v u : Value} {l m : List Nd} (h : Own2 w base v u l m) (hb : Below w.heap.size w w') : Own2 w' base v u l m := ⟨own_below h.one hb, own_below h.two hb, h.dist, h.dist'⟩
theorem Own2.swap {w : World} {base : Nat} {v u : Value} {l m : List Nd} (h : Own2 w base v u l m) : Own2 w base u v m l := ⟨h.two, h.one, h.dist', h.dist⟩
theorem Own2.grow {w w' : World} {base : Nat} {v v' u : Value} {l m k : List Nd} (h : Own2 w base v u l m) (ho : w'.ownsRow base 54 19 v' (l.length + k.length) (l.flatMap ncs ++ k.flatMap ncs)) (hg : w.grownBy w' v.ownBlock) (hw : v'.ownBlock = v.ownBlock ∨ v'.ownBlock = some w.heap.size) : Own2 w' base v' u (l ++ k) m := by
  have hu : ∀ q, u.ownBlock = some q → q < w.heap.size := fun q hq => (h.two.lt q hq).2
  have hd : v'.ownBlock = none ∨ v'.ownBlock ≠ u.ownBlock := by
    rcases hw with e | e
    · rw [e]; exact h.dist
    · refine .inr ?_
      rw [e]
      intro e2
      have := hu _ e2.symm
      omega
  refine ⟨by rw [List.length_append, List.flatMap_append]; exact ho, h.two.kept hg h.dist', hd, ?_⟩
  cases e : u.ownBlock with
  | none => exact .inl rfl
  | some q =>
    refine .inr ?_
    rw [← e]
    rcases hd with hd | hd
    · rw [hd, e]; intro e2; cases e2
    · exact fun e2 => hd e2.symm
/-- What the loop of parted holds. -/
structure InvQ (ns : List Nd) (w : World) (R : List Nd × List Nd) (a : Nat) (v u : Value) (wr : World) : Prop where
  rest : ∃ ys s, Stand ns a ys ∧ partF ns ys s = R ∧ s.1.length ≤ a ∧ s.2.length ≤ a ∧ Own2 wr w.heap.size v u s.1 s.2
  low : Below w.heap.size w wr
theorem take_len {ns : List Nd} {a m : Nat} (h : a + m ≤ ns.length) : ((ns.drop a).take m).length = m := by
  rw [List.length_take, List.length_drop]; omega
theorem inn_len {ns : List Nd} {a m : Nat} (h : a + m ≤ ns.length) (h2 : 2 ≤ m) : (inn ns a m).length = m - 2 := by
  unfold inn
  rw [List.length_take, List.length_drop]; omega
set_option maxHeartbeats 4000000 in
set_option maxRecDepth 100000 in
theorem parted_any (A : Option Addr) (ns : List Nd) (c : Nat) (w : World) (hc : chk ns = 0) (hcap : ns.length ≤ c) (hseg : Seg w w.heap.size A (ns.flatMap ncs)) :
    Calls Try.prog 42 #[.slice A ns.length c] w fun e w' => ∃ v u, e = .returned (.tuple #[v, u]) ∧ Own2 w' w.heap.size v u (partD ns).1 (partD ns).2 ∧ Below w.heap.size w w' := by
  have hl := (chk_run hc).1
  have HIT := Lib.hid (fun (a m : Nat) w1 (h : Below w.heap.size w w1) hb hm => item_ok A ns c a m w1 (by omega) (Seg.belowW hseg h) hc hb hm)
  have HSG := Lib.hid hseg
  have HST := Lib.hid (stand0 hc (itsD_is hc))
  have HCK := Lib.hid hc
  have HR := Lib.hid (show partF ns (itsD ns) ([], []) = partD ns from rfl)
  generalize partD ns = R at HR ⊢
  clear hc hseg
  have hl0 := Lib.hid hl
  generalize hlen : ns.length = len at *
  have HL := Lib.hid hlen
  clear hlen
  go_enter Try.func42, Try.ntmps42
  go_wp2_with fail
  go_loopw [2, 3, 4] (fun v2 v3 v4 wr => ∃ a : Nat, v4 = .int .i64 (a : Int) ∧ InvQ ns w R a v2 v3 wr) (fun _ _ v4 _ => len - (intOf v4).toNat)
  case atStart => exact ⟨0, rfl, ⟨itsD ns, ([], []), HST.out, HR.out, by simp, by simp, World.ownsRow_nil _ _ _ _, World.ownsRow_nil _ _ _ _, .inl rfl, .inl rfl⟩, Below.refl _ _⟩
  case round =>
    obtain ⟨a, rfl, hI⟩ := hrel
    obtain ⟨ys, s, hst, hR, h1, h2, hO⟩ := hI.rest
    have HLOW := Lib.hid hI.low
    have hal := hst.le
    rw [HL.out] at hal
    by_cases hlt : a < len
    · obtain ⟨m, zs, x, rfl, hm, hm1, ham, hst', _, hx, h6, h11⟩ := hst.step (by rw [HL.out]; exact hl) (by rw [HL.out]; exact hlt)
      rw [HL.out] at ham
      obtain ⟨b, off, rfl, hb, hnode⟩ := seg_node HSG.out hx
      have HNO := Lib.hid hnode
      have HS := Lib.hid (And.intro hst' (And.intro hR hO))
      have HX := Lib.hid (And.intro hx hm)
      have HB := Lib.hid (beg_of hx h6 h11)
      have HH := Lib.hid (And.intro h1 h2)
      clear hst' hR hO hx hm hnode hI hst h1 h2
      have hifs : (if c = a then some (⟨b, off, none⟩ : Addr) else some ⟨b, off + a * 19, none⟩) = some ⟨b, off + a * 19, none⟩ := if_neg (by omega)
      have HIF := Lib.hid hifs
      have HTL := Lib.hid (show ((ns.drop a).take m).length = m from take_len (by rw [HL.out]; exact ham))
      have HAD := Lib.hid (fun w1 (h : Below w.heap.size w w1) => show ∀ j u, (((ns.drop a).take m).flatMap ncs)[j]? = some u → w1.cell? ⟨b, off + a * 19 + j, none⟩ = some u by
        rw [flat_take ncs_length, flat_drop ncs_length]
        intro j u hu
        have := seg_cells (Seg.take (Seg.drop (HSG.out.below h) (a * 19)) (m * 19)) j u hu
        have hadd : (⟨b, off + a * 19, none⟩ : Addr).add j = ⟨b, off + a * 19 + j, none⟩ := by unfold Addr.add; split <;> simp_all
        rwa [hadd] at this)
      clear hifs
      have hal1 : (a : Int) + m ≤ len := by omega
      have hal2 : (a : Int) + m ≤ c := by omega
      have hal3 : (a : Int) ≤ a + m := by omega
      have HTI : (inn ns a m).length ≤ m := by unfold inn; rw [List.length_take]; omega
      by_cases k13 : x.kind = 13
      · have e13 : (x.kind == 13) = true := by simp [k13]
        have HP := Lib.hid (pstep_out (s := s) HX.out.1 HX.out.2 (.inl k13))
        clear k13 h6 h11
        go_wp2_with (first | (go_at_call 48; refine (HIT.out a m _ HLOW.out HB.out HX.out.2).mono ?_; rintro e w1 ⟨rfl, hb1⟩; have hn1 : w1.cell? ⟨b, off + a * 19, none⟩ = some (.int .i64 x.kind) := (HNO.out.below HLOW.out hb).below hb1 (Nat.lt_of_lt_of_le hb HLOW.out.size) 0 _ rfl; have HB1 := Lib.hid hb1; have HO1 := Lib.hid (HS.out.2.2.below hb1); have HL1 := Lib.hid (andThen HLOW.out hb1); clear hb1) | (at_builtin; go_loud (refine wpList_append_at rfl (.tmp 28) (.tmp 32) rfl w.heap.size HL1.out.size _ _ _ rfl HO1.out.two b (off + a * 19) (c - a) (a + m - a) ((ns.drop a).take m) rfl (by rw [HTL.out]; omega) (.inr (Nat.lt_of_lt_of_le hb HL1.out.size)) (HAD.out _ HL1.out) (by rw [HTL.out]; have := HH.out.2; omega) ?_; intro v3 W3 hown3 hg3 hv3; have HG3 := Lib.hid (HO1.out.swap.grow hown3 hg3 hv3); have hlow3 := below_grown (Nat.le_refl _) HL1.out hg3 (fun q hq => (HO1.out.two.lt q hq).1); have HLW3 := Lib.hid hlow3; clear hown3 hg3 hv3 hlow3)))
        go_roundw
        case rel =>
          refine ⟨a + m, by go_num, ⟨zs, _, HS.out.1, HS.out.2.1, ?_, ?_, ?_⟩, HLW3.out⟩
          · rw [HP.out]; have := HH.out; have := HTL.out; simp only [List.length_append]; omega
          · rw [HP.out]; have := HH.out; have := HTL.out; have := HTI; simp only [List.length_append]; omega
          · rw [HP.out]; exact HG3.out.swap
        case measure => simp [intOf]; omega
      · have e13 : (x.kind == 13) = false := by simp [k13]
        by_cases k12 : x.kind = 12
        · have e12 : (x.kind == 12) = true := by simp [k12]
          have HP := Lib.hid (pstep_out (s := s) HX.out.1 HX.out.2 (.inr k12))
          clear k13 k12 h6 h11
          go_wp2_with (first | (go_at_call 48; refine (HIT.out a m _ HLOW.out HB.out HX.out.2).mono ?_; rintro e w1 ⟨rfl, hb1⟩; have hn1 : w1.cell? ⟨b, off + a * 19, none⟩ = some (.int .i64 x.kind) := (HNO.out.below HLOW.out hb).below hb1 (Nat.lt_of_lt_of_le hb HLOW.out.size) 0 _ rfl; have HB1 := Lib.hid hb1; have HO1 := Lib.hid (HS.out.2.2.below hb1); have HL1 := Lib.hid (andThen HLOW.out hb1); clear hb1) | (at_builtin; go_loud (refine wpList_append_at rfl (.tmp 28) (.tmp 32) rfl w.heap.size HL1.out.size _ _ _ rfl HO1.out.two b (off + a * 19) (c - a) (a + m - a) ((ns.drop a).take m) rfl (by rw [HTL.out]; omega) (.inr (Nat.lt_of_lt_of_le hb HL1.out.size)) (HAD.out _ HL1.out) (by rw [HTL.out]; have := HH.out.2; omega) ?_; intro v3 W3 hown3 hg3 hv3; have HG3 := Lib.hid (HO1.out.swap.grow hown3 hg3 hv3); have hlow3 := below_grown (Nat.le_refl _) HL1.out hg3 (fun q hq => (HO1.out.two.lt q hq).1); have HLW3 := Lib.hid hlow3; clear hown3 hg3 hv3 hlow3)))
          go_roundw
          case rel =>
            refine ⟨a + m, by go_num, ⟨zs, _, HS.out.1, HS.out.2.1, ?_, ?_, ?_⟩, HLW3.out⟩
            · rw [HP.out]; have := HH.out; have := HTL.out; simp only [List.length_append]; omega
            · rw [HP.out]; have := HH.out; have := HTL.out; have := HTI; simp only [List.length_append]; omega
            · rw [HP.out]; exact HG3.out.swap
          case measure => simp [intOf]; omega
        · have e12 : (x.kind == 12) = false := by simp [k12]
          by_cases k17 : x.kind = 17
          · have e17 : (x.kind == 17) = true := by simp [k17]
            have HP := Lib.hid (pstep_in (s := s) HX.out.1 HX.out.2 k17)
            have hm2 : 2 ≤ m := endc_two HX.out.1 (by simp [opensB, k17]) HX.out.2
            have HTN := Lib.hid (inn_len (ns := ns) (by rw [HL.out]; exact ham) hm2)
            have HAI := Lib.hid (fun w1 (h : Below w.heap.size w w1) => show ∀ j u, ((inn ns a m).flatMap ncs)[j]? = some u → w1.cell? ⟨b, off + (a + 1) * 19 + j, none⟩ = some u by
              unfold inn
              rw [flat_take ncs_length, flat_drop ncs_length]
              intro j u hu
              have := seg_cells (Seg.take (Seg.drop (HSG.out.below h) ((a + 1) * 19)) ((m - 2) * 19)) j u hu
              have hadd : (⟨b, off + (a + 1) * 19, none⟩ : Addr).add j = ⟨b, off + (a + 1) * 19 + j, none⟩ := by unfold Addr.add; split <;> simp_all
              rwa [hadd] at this)
            clear k13 k12 k17 h6 h11
            go_wp2_with (first | (go_at_call 48; refine (HIT.out a m _ HLOW.out HB.out HX.out.2).mono ?_; rintro e w1 ⟨rfl, hb1⟩; have hn1 : w1.cell? ⟨b, off + a * 19, none⟩ = some (.int .i64 x.kind) := (HNO.out.below HLOW.out hb).below hb1 (Nat.lt_of_lt_of_le hb HLOW.out.size) 0 _ rfl; have HB1 := Lib.hid hb1; have HO1 := Lib.hid (HS.out.2.2.below hb1); have HL1 := Lib.hid (andThen HLOW.out hb1); clear hb1) | (at_builtin; go_loud (refine wpList_append_at rfl (.tmp 34) (.tmp 40) rfl w.heap.size HL1.out.size _ _ _ rfl HO1.out.two b (off + (a + 1) * 19) (c - (a + 1)) (a + m - 1 - (a + 1)) (inn ns a m) rfl (by rw [HTN.out]; omega) (.inr (Nat.lt_of_lt_of_le hb HL1.out.size)) (HAI.out _ HL1.out) (by rw [HTN.out]; have := HH.out.2; omega) ?_; intro v3 W3 hown3 hg3 hv3; have HG3 := Lib.hid (HO1.out.swap.grow hown3 hg3 hv3); have hlow3 := below_grown (Nat.le_refl _) HL1.out hg3 (fun q hq => (HO1.out.two.lt q hq).1); have HLW3 := Lib.hid hlow3; clear hown3 hg3 hv3 hlow3)))
            go_roundw
            case rel =>
              refine ⟨a + m, by go_num, ⟨zs, _, HS.out.1, HS.out.2.1, ?_, ?_, ?_⟩, HLW3.out⟩
              · rw [HP.out]; have := HH.out; simp only; omega
              · rw [HP.out]; have := HH.out; have := HTI; simp only [List.length_append]; omega
              · rw [HP.out]; exact HG3.out.swap
            case measure => simp [intOf]; omega
          · have e17 : (x.kind == 17) = false := by simp [k17]
            have HP := Lib.hid (pstep_stay (s := s) HX.out.1 HX.out.2 k13 k12 k17)
            clear k13 k12 k17 h6 h11
            go_wp2_with (first | (go_at_call 48; refine (HIT.out a m _ HLOW.out HB.out HX.out.2).mono ?_; rintro e w1 ⟨rfl, hb1⟩; have hn1 : w1.cell? ⟨b, off + a * 19, none⟩ = some (.int .i64 x.kind) := (HNO.out.below HLOW.out hb).below hb1 (Nat.lt_of_lt_of_le hb HLOW.out.size) 0 _ rfl; have HB1 := Lib.hid hb1; have HO1 := Lib.hid (HS.out.2.2.below hb1); have HL1 := Lib.hid (andThen HLOW.out hb1); clear hb1) | (at_builtin; go_loud (refine wpList_append_at rfl (.tmp 42) (.tmp 46) rfl w.heap.size HL1.out.size _ _ _ rfl HO1.out.one b (off + a * 19) (c - a) (a + m - a) ((ns.drop a).take m) rfl (by rw [HTL.out]; omega) (.inr (Nat.lt_of_lt_of_le hb HL1.out.size)) (HAD.out _ HL1.out) (by rw [HTL.out]; have := HH.out.1; omega) ?_; intro v3 W3 hown3 hg3 hv3; have HG3 := Lib.hid (HO1.out.grow hown3 hg3 hv3); have hlow3 := below_grown (Nat.le_refl _) HL1.out hg3 (fun q hq => (HO1.out.one.lt q hq).1); have HLW3 := Lib.hid hlow3; clear hown3 hg3 hv3 hlow3)))
            go_roundw
            case rel =>
              refine ⟨a + m, by go_num, ⟨zs, _, HS.out.1, HS.out.2.1, ?_, ?_, ?_⟩, HLW3.out⟩
              · rw [HP.out]; have := HH.out; have := HTL.out; simp only [List.length_append]; omega
              · rw [HP.out]; have := HH.out; have := HTL.out; have := HTI; simp only [List.length_append]; omega
              · rw [HP.out]; exact HG3.out
            case measure => simp [intOf]; omega
    · obtain rfl : a = len := by omega
      have he : ys = [] := (show Stand ns ns.length ys from HL.out ▸ hst).done
      subst he
      have HS := Lib.hid (And.intro hR hO)
      clear hI hst hR hO h1 h2
      go_wp2_with fail
      go_ret2
      exact ⟨_, _, rfl, HS.out.1 ▸ HS.out.2, HLOW.out⟩
end Go.Proofs.Ytoboecenlangmaa.Pk
end
section
namespace Go.Proofs.Ytoboecenlangmaa.Pk
open Go.ChangeShapes Go.WideShapes Go.ChangeAt Go.RowKit
open Me Np No
set_option linter.unusedVariables false
set_option linter.unusedSimpArgs false

/-- What Hpack holds: the maker, and two rows. -/
structure Hs (w0 : World) (v u : Value) (S O : List Nd) (g : Nat) (n : Nd) (x a b c d p q r s : Int) (em : Bool) (bad ov wr : Int) (w : World) : Prop where
  mkr : Mk w g n x a b c d p q r s em bad ov wr
  own : Own2 w w0.heap.size v u S O
  low : Below w0.heap.size w0 w
  gl : w0.heap.size ≤ g
theorem Hs.below {w0 : World} {v u : Value} {S O : List Nd} {g : Nat} {n : Nd} {x a b c d p q r s : Int} {em : Bool} {bad ov wr : Int} {w w' : World} (h : Hs w0 v u S O g n x a b c d p q r s em bad ov wr w) (hb : Below w.heap.size w w') : Hs w0 v u S O g n x a b c d p q r s em bad ov wr w' :=
  ⟨h.mkr.below hb, h.own.below hb, andThen h.low hb, h.gl⟩
theorem ne_maker : (54 : Nat) ≠ 97 := by decide
theorem own_not_g {w w' : World} {base n g : Nat} {v : Value} {xs : List Value} {cs : Array Value} (h : w.ownsRow base 54 19 v n xs) (hb : Blk w g 97 cs) (hg : w.grownBy w' (some g)) : w'.ownsRow base 54 19 v n xs := by
  refine h.kept hg ?_
  rcases h.2 with ⟨rfl, _⟩ | ⟨q, cap, cur, rfl, _, hq, _⟩
  · exact .inl rfl
  · refine .inr ?_
    intro e
    have e' : q = g := by injection e
    subst e'
    have hp : w.heap[q]? = some (.cells _ 97 (0, 0)) := hb
    rw [hq] at hp
    simp only [Option.some.injEq, Obj.cells.injEq] at hp
    exact ne_maker hp.2.1
theorem Hs.turn {w0 : World} {v u : Value} {S O : List Nd} {g : Nat} {n n' : Nd} {x a b c d p q r s : Int} {x' a' b' c' d' p' q' r' s' : Int} {em : Bool} {bad ov wr bad' ov' wr' : Int} {w w' : World} (h : Hs w0 v u S O g n x a b c d p q r s em bad ov wr w) (hg : w.grownBy w' (some g)) (hm : Mk w' g n' x' a' b' c' d' p' q' r' s' em bad' ov' wr') :
    Hs w0 v u S O g n' x' a' b' c' d' p' q' r' s' em bad' ov' wr' w' :=
  ⟨hm, ⟨own_not_g h.own.one h.mkr hg, own_not_g h.own.two h.mkr hg, h.own.dist, h.own.dist'⟩, ⟨hg.os.trans h.low.os, hg.tape.trans h.low.tape, hg.output.trans h.low.output, Nat.le_trans h.low.size hg.size, fun q hq => (hg.block q (by have := h.low.size; omega) (by intro e; injection e with e; have := h.gl; omega)).trans (h.low.block q hq)⟩, h.gl⟩
/-- What Hpack answers. -/
def HOut (R : List Nd × List Nd × Int × Int × Int) (w : World) (e : Ending) (w' : World) : Prop := ∃ v u, e = .returned (.tuple #[v, u, .int .i64 R.2.2.1, .int .i64 R.2.2.2.1, .int .i64 R.2.2.2.2]) ∧ Own2 w' w.heap.size v u R.1 R.2.1 ∧ Below w.heap.size w w'
theorem HOut.no {w w' : World} (hb : Below w.heap.size w w') (E : Int) : HOut ([], [], 0, 0, E) w (.returned (.tuple #[.slice none 0 0, .slice none 0 0, .int .i64 0, .int .i64 0, .int .i64 E])) w' := ⟨_, _, rfl, ⟨World.ownsRow_nil _ _ _ _, World.ownsRow_nil _ _ _ _, .inl rfl, .inl rfl⟩, hb⟩
theorem dimen_any (z : Int) (w : World) : Calls Try.prog 41 #[.int .i64 z] w fun e w' => e = .returned (.bool (dimB z)) ∧ w = w' := by
  by_cases h0 : -1073741823 ≤ z
  · by_cases h1 : z ≤ 1073741823
    · have HD := Lib.hid (show dimB z = true by simp [dimB, h0, h1])
      go_enter Try.func41, Try.ntmps41
      go_wp2
      go_ret
      exact ⟨ret_bool (by rw [HD.out]), rfl⟩
    · have HD := Lib.hid (show dimB z = false by simp [dimB]; omega)
      go_enter Try.func41, Try.ntmps41
      go_wp2
      go_ret
      exact ⟨ret_bool (by rw [HD.out]), rfl⟩
  · have HD := Lib.hid (show dimB z = false by simp [dimB]; omega)
    go_enter Try.func41, Try.ntmps41
    go_wp2
    go_ret
    exact ⟨ret_bool (by rw [HD.out]), rfl⟩
theorem hpack_err (A : Option Addr) (ns : List Nd) (k : Nat) (tw : Int) (ex : Bool) (w : World) (hl : ns.length ≤ 9223372036854775806) (hseg : Seg w w.heap.size A (ns.flatMap ncs)) (hc : ¬ chk ns = 0) :
    Calls Try.prog 20 #[.slice A ns.length k, .int .i64 tw, .bool ex] w (HOut ([], [], 0, 0, chk ns) w) := by
  have e0 : (chk ns != 0) = true := by simp [hc]
  have HC := Lib.hid (check_any A ns k w (by omega) hseg)
  clear hseg hc
  generalize chk ns = q0 at *
  generalize ns.length = len at *
  go_enter Try.func20, Try.ntmps20
  go_wp2_with fail
  refine HC.out.mono ?_
  rintro e w1 ⟨rfl, hb1⟩
  go_wp2_with fail
  go_returns
  exact HOut.no hb1 _
theorem hpack_far (A : Option Addr) (ns : List Nd) (k : Nat) (tw : Int) (ex : Bool) (w : World) (hl : ns.length ≤ 9223372036854775806) (hseg : Seg w w.heap.size A (ns.flatMap ncs)) (hc : chk ns = 0) (ht : dimB tw = false) :
    Calls Try.prog 20 #[.slice A ns.length k, .int .i64 tw, .bool ex] w (HOut ([], [], 0, 0, 11) w) := by
  have HC := Lib.hid (check_any A ns k w (by omega) hseg)
  rw [hc] at HC
  have HD := Lib.hid (fun w => dimen_any tw w)
  rw [ht] at HD
  clear hseg hc
  generalize ns.length = len at *
  go_enter Try.func20, Try.ntmps20
  go_wp2_with fail
  refine HC.out.mono ?_
  rintro e w1 ⟨rfl, hb1⟩
  go_wp2_with (go_at_call 41; refine (HD.out _).mono ?_; rintro e w' ⟨rfl, rfl⟩)
  go_returns
  exact HOut.no hb1 _
theorem Mk.s19 {w : World} {g : Nat} {n : Nd} {x a b c d p q r s : Int} {em : Bool} {bad ov wr : Int} (h : Mk w g n x a b c d p q r s em bad ov wr) (z : Int) : Mk (w.setCell ⟨g, 19, none⟩ (.int .i64 z)) g n z a b c d p q r s em bad ov wr := Blk.set h 19 (.int .i64 z)
theorem Mk.s20 {w : World} {g : Nat} {n : Nd} {x a b c d p q r s : Int} {em : Bool} {bad ov wr : Int} (h : Mk w g n x a b c d p q r s em bad ov wr) (z : Int) : Mk (w.setCell ⟨g, 20, none⟩ (.int .i64 z)) g n x z b c d p q r s em bad ov wr := Blk.set h 20 (.int .i64 z)
theorem Mk.s21 {w : World} {g : Nat} {n : Nd} {x a b c d p q r s : Int} {em : Bool} {bad ov wr : Int} (h : Mk w g n x a b c d p q r s em bad ov wr) (z : Int) : Mk (w.setCell ⟨g, 21, none⟩ (.int .i64 z)) g n x a z c d p q r s em bad ov wr := Blk.set h 21 (.int .i64 z)
theorem Mk.s22 {w : World} {g : Nat} {n : Nd} {x a b c d p q r s : Int} {em : Bool} {bad ov wr : Int} (h : Mk w g n x a b c d p q r s em bad ov wr) (z : Int) : Mk (w.setCell ⟨g, 22, none⟩ (.int .i64 z)) g n x a b z d p q r s em bad ov wr := Blk.set h 22 (.int .i64 z)
theorem Mk.s23 {w : World} {g : Nat} {n : Nd} {x a b c d p q r s : Int} {em : Bool} {bad ov wr : Int} (h : Mk w g n x a b c d p q r s em bad ov wr) (z : Int) : Mk (w.setCell ⟨g, 23, none⟩ (.int .i64 z)) g n x a b c z p q r s em bad ov wr := Blk.set h 23 (.int .i64 z)
theorem Mk.s24 {w : World} {g : Nat} {n : Nd} {x a b c d p q r s : Int} {em : Bool} {bad ov wr : Int} (h : Mk w g n x a b c d p q r s em bad ov wr) (z : Int) : Mk (w.setCell ⟨g, 24, none⟩ (.int .i64 z)) g n x a b c d z q r s em bad ov wr := Blk.set h 24 (.int .i64 z)
theorem Mk.s25 {w : World} {g : Nat} {n : Nd} {x a b c d p q r s : Int} {em : Bool} {bad ov wr : Int} (h : Mk w g n x a b c d p q r s em bad ov wr) (z : Int) : Mk (w.setCell ⟨g, 25, none⟩ (.int .i64 z)) g n x a b c d p z r s em bad ov wr := Blk.set h 25 (.int .i64 z)
theorem Mk.s26 {w : World} {g : Nat} {n : Nd} {x a b c d p q r s : Int} {em : Bool} {bad ov wr : Int} (h : Mk w g n x a b c d p q r s em bad ov wr) (z : Int) : Mk (w.setCell ⟨g, 26, none⟩ (.int .i64 z)) g n x a b c d p q z s em bad ov wr := Blk.set h 26 (.int .i64 z)
theorem Mk.s27 {w : World} {g : Nat} {n : Nd} {x a b c d p q r s : Int} {em : Bool} {bad ov wr : Int} (h : Mk w g n x a b c d p q r s em bad ov wr) (z : Int) : Mk (w.setCell ⟨g, 27, none⟩ (.int .i64 z)) g n x a b c d p q r z em bad ov wr := Blk.set h 27 (.int .i64 z)
theorem Mk.n3 {w : World} {g : Nat} {n : Nd} {x a b c d p q r s : Int} {em : Bool} {bad ov wr : Int} (h : Mk w g n x a b c d p q r s em bad ov wr) (z : Int) : Mk (w.setCell ⟨g, 3, none⟩ (.int .i64 z)) g { n with wd := z } x a b c d p q r s em bad ov wr := Blk.set h 3 (.int .i64 z)
theorem Mk.n4 {w : World} {g : Nat} {n : Nd} {x a b c d p q r s : Int} {em : Bool} {bad ov wr : Int} (h : Mk w g n x a b c d p q r s em bad ov wr) (z : Int) : Mk (w.setCell ⟨g, 4, none⟩ (.int .i64 z)) g { n with ht := z } x a b c d p q r s em bad ov wr := Blk.set h 4 (.int .i64 z)
theorem Mk.n5 {w : World} {g : Nat} {n : Nd} {x a b c d p q r s : Int} {em : Bool} {bad ov wr : Int} (h : Mk w g n x a b c d p q r s em bad ov wr) (z : Int) : Mk (w.setCell ⟨g, 5, none⟩ (.int .i64 z)) g { n with dp := z } x a b c d p q r s em bad ov wr := Blk.set h 5 (.int .i64 z)
theorem mk_tot {w : World} {g : Nat} {n : Nd} {em : Bool} {bad ov wr : Int} {x' a' b' c' d' p' q' r' s' : Int} (h : Mk w g n x' a' b' c' d' p' q' r' s' em bad ov wr) (x a b c d p q r s : Int) : Mk (w.setCells g 19 [.int .i64 x, .int .i64 a, .int .i64 b, .int .i64 c, .int .i64 d, .int .i64 p, .int .i64 q, .int .i64 r, .int .i64 s]) g n x a b c d p q r s em bad ov wr := by
  simp only [World.setCells]
  exact (((((((((h.s19 x).s20 a).s21 b).s22 c).s23 d).s24 p).s25 q).s26 r).s27 s)
theorem mk_there {w : World} {g : Nat} {n : Nd} {em : Bool} {bad ov wr : Int} {x a b c d p q r s : Int} (h : Mk w g n x a b c d p q r s em bad ov wr) : w.there g 19 9 := by
  intro j hj
  refine ⟨?_, Blk.free h _⟩
  rw [Blk.cell h]
  rw [Array.getElem?_eq_getElem (by show 19 + j < 32; omega)]
  rfl
end Go.Proofs.Ytoboecenlangmaa.Pk
end
section
namespace Go.Proofs.Ytoboecenlangmaa.Pk
open Go.ChangeShapes Go.WideShapes Go.ChangeAt Go.RowKit
open Me Np No
set_option linter.unusedVariables false
set_option linter.unusedSimpArgs false

theorem Hs.seg {w0 w : World} {A : Option Addr} {l k : Nat} {u : Value} {S O : List Nd} {g : Nat} {n : Nd} {x a b c d p q r s : Int} {em : Bool} {bad ov wr : Int} (h : Hs w0 (.slice A l k) u S O g n x a b c d p q r s em bad ov wr w) : Seg w w.heap.size A (S.flatMap ncs) := by
  obtain ⟨A', c, e, _, _, hs⟩ := Seg.of_own h.own.one
  injection e with e _ _
  subst e
  exact hs
theorem t9_one (x a b c d p q r s : Int) : (#[.int .i64 x, .int .i64 a, .int .i64 b, .int .i64 c, .int .i64 d, .int .i64 p, .int .i64 q, .int .i64 r, .int .i64 s] : Array Value).all (·.oneCell') = true := by simp [Value.oneCell']
theorem grown_cells (g : Nat) : ∀ (vs : List Value) (o : Nat) (w : World), w.grownBy (w.setCells g o vs) (some g)
  | [], _, w => ⟨rfl, rfl, rfl, Nat.le_refl _, fun _ _ _ => rfl⟩
  | v :: r, o, w => grown_trans (grown_set w g o v) (grown_cells g r (o + 1) _)
theorem Hs.n45 {w0 : World} {v u : Value} {S O : List Nd} {g : Nat} {n : Nd} {x a b c d p q r s : Int} {em : Bool} {bad ov wr : Int} {w : World} (h : Hs w0 v u S O g n x a b c d p q r s em bad ov wr w) (z y : Int) : Hs w0 v u S O g { n with ht := z, dp := y } x a b c d p q r s em bad ov wr ((w.setCell ⟨g, 4, none⟩ (.int .i64 z)).setCell ⟨g, 5, none⟩ (.int .i64 y)) :=
  h.turn (grown_trans (grown_set _ _ _ _) (grown_set _ _ _ _)) ((h.mkr.n4 z).n5 y)
theorem Hs.n3 {w0 : World} {v u : Value} {S O : List Nd} {g : Nat} {n : Nd} {x a b c d p q r s : Int} {em : Bool} {bad ov wr : Int} {w : World} (h : Hs w0 v u S O g n x a b c d p q r s em bad ov wr w) (z : Int) : Hs w0 v u S O g { n with wd := z } x a b c d p q r s em bad ov wr (w.setCell ⟨g, 3, none⟩ (.int .i64 z)) :=
  h.turn (grown_set _ _ _ _) (h.mkr.n3 z)
theorem Hs.src {w0 w : World} {A : Option Addr} {l k : Nat} {u : Value} {S O : List Nd} {g : Nat} {n : Nd} {x a b c d p q r s : Int} {em : Bool} {bad ov wr : Int} (h : Hs w0 (.slice A l k) u S O g n x a b c d p q r s em bad ov wr w) : Src w A k S := by
  obtain ⟨A', c, e, _, _, hs⟩ := Src.own h.own.one
  injection e with e1 e2 e3
  subst e1
  subst e3
  exact hs
theorem Hs.out {w0 w w' : World} {v : Value} {u : Value} {S O L : List Nd} {g : Nat} {n : Nd} {x a b c d p q r s : Int} {em : Bool} {bad ov wr : Int} (h : Hs w0 v u S O g n x a b c d p q r s em bad ov wr w) {vL : Value} (ho : w'.ownsRow w.heap.size 54 19 vL L.length (L.flatMap ncs)) (hb : Below w.heap.size w w') (y z : Int) :
    HOut (L, O, y, z, 0) w0 (.returned (.tuple #[vL, u, .int .i64 y, .int .i64 z, .int .i64 0])) w' := by
  have hq : ∀ q, vL.ownBlock = some q → u.ownBlock ≠ some q := fun q h1 h2 => by
    have := (ho.lt q h1).1
    have := (h.own.two.lt q h2).2
    omega
  refine ⟨vL, u, rfl, ⟨own_base ho h.low.size, own_below h.own.two hb, ?_, ?_⟩, andThen h.low hb⟩
  · cases e : vL.ownBlock with
    | none => exact .inl rfl
    | some q => exact .inr (fun e' => hq q e e'.symm)
  · cases e : u.ownBlock with
    | none => exact .inl rfl
    | some q => exact .inr (fun e' => hq q e'.symm e)
theorem HOut.drewN {R : List Nd × List Nd × Int × Int × Int} {w w' : World} {e : Ending} (h : HOut R w e w') (n : Nat) : HOut R w e (w'.drewN n) := by
  obtain ⟨v, u, rfl, ho, hb⟩ := h
  exact ⟨v, u, rfl, ho.below (below_drewN (Below.refl _ _) n), below_drewN hb n⟩
theorem partF_len {ns : List Nd} (hl : ns.length ≤ 2000) : ∀ (ys : List Nat) (a : Nat) (s : List Nd × List Nd), Stand ns a ys → s.1.length ≤ a → s.2.length ≤ a → (partF ns ys s).1.length ≤ ns.length ∧ (partF ns ys s).2.length ≤ ns.length
  | [], a, s, h, h1, h2 => by have := h.le; exact ⟨Nat.le_trans h1 this, Nat.le_trans h2 this⟩
  | y :: ys, a, s, h, h1, h2 => by
    have hi := h.its
    obtain ⟨rfl, m0, hm0, _⟩ := hi
    have hb := endc_bd hm0
    rw [List.length_drop] at hb
    obtain ⟨m, zs, x, he, hm, hm1, ham, hst, _, hx, h6, h11⟩ := h.step hl (by omega)
    injection he with _ he
    subst he
    rw [partF_cons]
    have hti : ((ns.drop y).take m).length = m := by rw [List.length_take, List.length_drop]; omega
    have hin : (inn ns y m).length ≤ m := by unfold inn; rw [List.length_take]; omega
    refine partF_len hl ys (y + m) _ hst ?_ ?_
    · by_cases k1 : x.kind = 13 ∨ x.kind = 12
      · rw [pstep_out hx hm k1]; show s.1.length ≤ _; omega
      · by_cases k2 : x.kind = 17
        · rw [pstep_in hx hm k2]; show s.1.length ≤ _; omega
        · rw [pstep_stay hx hm (by omega) (by omega) k2]; simp only [List.length_append]; omega
    · by_cases k1 : x.kind = 13 ∨ x.kind = 12
      · rw [pstep_out hx hm k1]; simp only [List.length_append]; omega
      · by_cases k2 : x.kind = 17
        · rw [pstep_in hx hm k2]; simp only [List.length_append]; omega
        · rw [pstep_stay hx hm (by omega) (by omega) k2]; show s.2.length ≤ _; omega
theorem partD_len {ns : List Nd} (hc : chk ns = 0) : (partD ns).1.length ≤ 2000 ∧ (partD ns).2.length ≤ 2000 := by
  have hl := (chk_run hc).1
  have := partF_len hl (itsD ns) 0 ([], []) (stand0 hc (itsD_is hc)) (by simp) (by simp)
  exact ⟨Nat.le_trans this.1 hl, Nat.le_trans this.2 hl⟩
/-- What Hpack comes to, where the list is one and the width may be. -/
def hpkR (e1 e2 : Int) (dW : Bool) (e3 : Int) (L O : List Nd) (bad ov : Int) : List Nd × List Nd × Int × Int × Int :=
  if e1 = 0 then (if e2 = 0 then (if dW = true then (if e3 = 0 then (L, O, bad, ov, 0) else ([], [], 0, 0, e3)) else ([], [], 0, 0, 20)) else ([], [], 0, 0, e2)) else ([], [], 0, 0, e1)
def hN (W h v : Int) : Nd := { nz 4 with wd := W, ht := h, dp := v }
end Go.Proofs.Ytoboecenlangmaa.Pk
end
section
namespace Go.Proofs.Ytoboecenlangmaa.Pk
open Np No
set_option linter.unusedVariables false
set_option linter.unusedSimpArgs false

theorem run_endc : ∀ {l : List Nd} {st st1 : List Int} {d d1 : Int} (r : List Nd), run l (st, d) = some (st1, d1) → endc (l ++ r) ((st.length : Int) + 1) = (endc r ((st1.length : Int) + 1)).map (· + l.length)
  | [], st, st1, d, d1, r, h => by
    simp only [run, Option.some.injEq, Prod.mk.injEq] at h
    obtain ⟨rfl, rfl⟩ := h
    simp
  | x :: l, st, st1, d, d1, r, h => by
    simp only [run] at h
    cases hs : stp (st, d) x with
    | none => rw [hs] at h; cases h
    | some s2 =>
      obtain ⟨st2, d2⟩ := s2
      rw [hs] at h
      simp only at h
      have hc := stp_cnt hs
      have ih := run_endc r h
      show endc (x :: (l ++ r)) _ = _
      simp only [endc]
      rw [cnt_plus, ← hc, if_neg (by omega), ih]
      cases endc r ((st1.length : Int) + 1) with
      | none => rfl
      | some v => simp only [Option.map_some, List.length_cons, Nat.add_assoc]
/-- A list, wrapped: one item. -/
theorem endc_wrap {n : Nd} {l : List Nd} (ho : opensB n = true) (hc : chk l = 0) : endc (wrapL n l) 0 = some (l.length + 2) := by
  obtain ⟨_, d, hr, _⟩ := chk_run hc
  have h := run_endc [nz 6] hr
  have h1 : cnt n 0 = 1 := by unfold cnt; rw [if_pos ho]; rfl
  unfold wrapL
  simp only [endc]
  rw [h1, if_neg (by decide)]
  have h2 : ((([] : List Int).length : Int) + 1) = 1 := rfl
  rw [h2] at h
  rw [h]
  have h3 : endc [nz 6] 1 = some 1 := rfl
  rw [h3]
  simp only [Option.map_some]
  congr 1
  omega
theorem inner_wrap (n : Nd) (l : List Nd) : innerL (wrapL n l) 0 (l.length + 2) = l := by
  unfold innerL wrapL
  simp
theorem inn_chk {ns : List Nd} {y m : Nat} {x : Nd} (hc : chk ((ns.drop y).take m) = 0) (hm : endc (ns.drop y) 0 = some m) (hx : ns[y]? = some x) (ho : opensB x = true) (h10 : ¬ x.kind = 10) (hl : y + m ≤ ns.length) : chk (inn ns y m) = 0 := by
  have h2 := endc_two hx ho hm
  have hp : ((ns.drop y).take m)[0]? = some x := by
    rw [List.getElem?_take, if_pos (by omega), List.getElem?_drop]
    exact hx
  have h := (item_wrap hc (endc_just hm) (by rw [List.length_take, List.length_drop]; omega) hp h2 h10).2.2.2
  have e : (((ns.drop y).take m).drop 1).take (m - 2) = inn ns y m := by
    unfold inn
    rw [List.drop_take, List.take_take, List.drop_drop, Nat.min_eq_left (by omega)]
  rw [e] at h
  exact h
theorem partF_chk {ns : List Nd} (hl : ns.length ≤ 2000) : ∀ (ys : List Nat) (a : Nat) (s : List Nd × List Nd), Stand ns a ys → s.1.length ≤ a → s.2.length ≤ a → chk s.1 = 0 → chk s.2 = 0 → chk (partF ns ys s).1 = 0 ∧ chk (partF ns ys s).2 = 0
  | [], a, s, h, h1, h2, c1, c2 => ⟨c1, c2⟩
  | y :: ys, a, s, h, h1, h2, c1, c2 => by
    have hi := h.its
    obtain ⟨rfl, m0, hm0, _⟩ := hi
    have hb := endc_bd hm0
    rw [List.length_drop] at hb
    obtain ⟨m, zs, x, he, hm, hm1, ham, hst, hci, hx, h6, h11⟩ := h.step hl (by omega)
    injection he with _ he
    subst he
    rw [partF_cons]
    have hti : ((ns.drop y).take m).length = m := by rw [List.length_take, List.length_drop]; omega
    have hin : (inn ns y m).length ≤ m := by unfold inn; rw [List.length_take]; omega
    by_cases k1 : x.kind = 13 ∨ x.kind = 12
    · rw [pstep_out hx hm k1]
      exact partF_chk hl ys (y + m) _ hst (by show s.1.length ≤ _; omega) (by simp only [List.length_append]; omega) c1 (chk_join c2 hci (by omega))
    · by_cases k2 : x.kind = 17
      · rw [pstep_in hx hm k2]
        exact partF_chk hl ys (y + m) _ hst (by show s.1.length ≤ _; omega) (by simp only [List.length_append]; omega) c1 (chk_join c2 (inn_chk hci hm hx (by simp [opensB, k2]) (by omega) ham) (by omega))
      · rw [pstep_stay hx hm (by omega) (by omega) k2]
        exact partF_chk hl ys (y + m) _ hst (by simp only [List.length_append]; omega) (by show s.2.length ≤ _; omega) (chk_join c1 hci (by omega)) c2
theorem chk_nil : chk [] = 0 := rfl
theorem partD_chk {ns : List Nd} (hc : chk ns = 0) : chk (partD ns).1 = 0 ∧ chk (partD ns).2 = 0 :=
  partF_chk (chk_run hc).1 (itsD ns) 0 ([], []) (stand0 hc (itsD_is hc)) (by simp) (by simp) chk_nil chk_nil
end Go.Proofs.Ytoboecenlangmaa.Pk
end
