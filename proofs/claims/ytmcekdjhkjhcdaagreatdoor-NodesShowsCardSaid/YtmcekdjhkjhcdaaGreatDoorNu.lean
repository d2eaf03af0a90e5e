import Derived.Test.YtmcekdjhkjhcdaaGreatDoorNs
/- A Disc's lists, in plain Lean. No Go in sight. Conditions: those that each theorem names. -/
namespace Go.Proofs.YtmcekdjhkjhcdaaGreatDoor.Np
set_option linter.unusedSimpArgs false
set_option linter.unusedVariables false

theorem endc_more : ∀ {l : List Nd} {n : Int} {m : Nat} (r : List Nd), endc l n = some m → endc (l ++ r) n = some m
  | [], n, m, r, h => by simp [endc] at h
  | x :: l, n, m, r, h => by
    simp only [endc, List.cons_append] at h ⊢
    split
    · rename_i h0
      rw [if_pos h0] at h
      exact h
    · rename_i h0
      rw [if_neg h0, Option.map_eq_some_iff] at h
      obtain ⟨m', h1, rfl⟩ := h
      rw [endc_more r h1]
      rfl
theorem endc_just : ∀ {l : List Nd} {n : Int} {m : Nat}, endc l n = some m → endc (l.take m) n = some m
  | [], n, m, h => by simp [endc] at h
  | x :: l, n, m, h => by
    have hb := endc_bd h
    cases m with
    | zero => omega
    | succ m =>
      simp only [endc, List.take_succ_cons] at h ⊢
      split
      · rename_i h0
        rw [if_pos h0] at h
        exact h
      · rename_i h0
        rw [if_neg h0, Option.map_eq_some_iff] at h
        obtain ⟨m', h1, h2⟩ := h
        obtain rfl : m' = m := by omega
        rw [endc_just h1]
        rfl
theorem cnt_plus (x : Nd) (n q : Int) : cnt x (n + q) = cnt x n + q := by
  unfold cnt
  split
  · omega
  · split <;> omega
theorem cnt_least (x : Nd) (n : Int) : n - 1 ≤ cnt x n := by
  unfold cnt
  split
  · omega
  · split <;> omega
/-- An item within: what is left, seen from outside. -/
theorem endc_over : ∀ {l : List Nd} {n q : Int} {m : Nat}, 1 ≤ n → 1 ≤ q → endc l n = some m → endc l (n + q) = (endc (l.drop m) q).map (· + m)
  | [], n, q, m, _, _, h => by simp [endc] at h
  | x :: l, n, q, m, hn, hq, h => by
    have hc := cnt_least x n
    simp only [endc] at h ⊢
    rw [cnt_plus, if_neg (by omega)]
    split at h
    · rename_i h0
      simp at h
      subst h
      rw [h0, Int.zero_add]
      simp
    · rename_i h0
      rw [Option.map_eq_some_iff] at h
      obtain ⟨m', h1, rfl⟩ := h
      rw [endc_over (by omega) hq h1, List.drop_succ_cons]
      cases endc (l.drop m') q with
      | none => rfl
      | some z => simp; omega
theorem endc_over0 {x : Nd} {l : List Nd} {q : Int} {m : Nat} (hx : ¬ x.kind = 6) (hq : 1 ≤ q) (h : endc (x :: l) 0 = some m) : endc (x :: l) q = (endc ((x :: l).drop m) q).map (· + m) := by
  have hc0 : 0 ≤ cnt x 0 := by
    unfold cnt
    split
    · omega
    · first | omega | (rw [if_neg hx]; omega)
  have hcq : cnt x q = cnt x 0 + q := by rw [← cnt_plus, Int.zero_add]
  simp only [endc] at h ⊢
  rw [hcq, if_neg (by omega)]
  split at h
  · rename_i h0
    simp at h
    subst h
    rw [h0, Int.zero_add]
    simp
  · rename_i h0
    rw [Option.map_eq_some_iff] at h
    obtain ⟨m', h1, rfl⟩ := h
    rw [endc_over (by omega) hq h1, List.drop_succ_cons]
    cases endc (l.drop m') q with
    | none => rfl
    | some z => simp; omega

/-- The walk over a Disc's contents: 0 is a Sep, else an item of so many nodes; l: what is left, with all that comes behind; k: Seps so far; r: nodes till the Disc's End. -/
def D3 : List Nat → List Nd → Nat → Nat → Prop
  | [], l, k, r => r = 0 ∧ k = 2 ∧ ∃ x, l.head? = some x ∧ x.kind = 6
  | m :: ss, l, k, r => ∃ x l' r', l = x :: l' ∧ ¬ x.kind = 6 ∧
      ((m = 0 ∧ x.kind = 11 ∧ k < 2 ∧ r = r' + 1 ∧ D3 ss l' (k + 1) r') ∨
       (m ≠ 0 ∧ ¬ x.kind = 11 ∧ smallB x = true ∧ k ≤ 2 ∧ r = r' + m ∧ endc l 0 = some m ∧ D3 ss (l.drop m) k r'))
/-- One of a Disc's lists. -/
def thr : List Nat → List Nd → Nat → Nat → List Nd
  | [], _, _, _ => []
  | 0 :: ss, l, k, j => thr ss (l.drop 1) (k + 1) j
  | m :: ss, l, k, j => (if j = k then l.take m else []) ++ thr ss (l.drop m) k j
theorem d3_of_run : ∀ (f : Nat) {l : List Nd} {t : Int} {st0 : List Int} {d : Int} {s' : St} {r k : Nat}, l.length ≤ f → run l (t :: st0, d) = some s' → s'.1.length ≤ st0.length → endc l 1 = some (r + 1) → t = 2 - (k : Int) → 0 ≤ t → ∃ ss, D3 ss l k r
  | f, [], t, st0, d, s', r, k, hf, hrun, hs, he, ht, h0 => by simp [endc] at he
  | 0, x :: l, t, st0, d, s', r, k, hf, hrun, hs, he, ht, h0 => by simp at hf
  | f + 1, x :: l, t, st0, d, s', r, k, hf, hrun, hs, he, ht, h0 => by
    simp only [List.length_cons] at hf
    by_cases h6 : x.kind = 6
    · have hno : opensB x = false := by simp [opensB, h6]
      have hc : cnt x 1 = 0 := by simp [cnt, hno, h6]
      simp only [endc, hc, if_true] at he
      simp at he
      subst he
      simp only [run] at hrun
      cases h1 : stp (t :: st0, d) x with
      | none => rw [h1] at hrun; cases hrun
      | some s1 =>
        unfold stp at h1
        split at h1
        · try simp only at h1
          try rw [if_pos h6] at h1
          split at h1
          · cases h1
          · exact ⟨[], rfl, by omega, x, rfl, h6⟩
        · cases h1
    · by_cases h11 : x.kind = 11
      · have hno : opensB x = false := by simp [opensB, h11]
        have hc : cnt x 1 = 1 := by simp [cnt, hno, h11]
        simp only [endc, hc] at he
        rw [if_neg (by omega), Option.map_eq_some_iff] at he
        obtain ⟨r', he', hr⟩ := he
        have hb := endc_bd he'
        simp only [run] at hrun
        cases h1 : stp (t :: st0, d) x with
        | none => rw [h1] at hrun; cases hrun
        | some s1 =>
          rw [h1] at hrun
          simp only at hrun
          unfold stp at h1
          split at h1
          · try rw [if_neg h6] at h1
            try rw [if_pos h11] at h1
            simp only at h1
            split at h1
            · cases h1
            · simp at h1
              subst h1
              obtain ⟨ss, hss⟩ := d3_of_run f (l := l) (t := t - 1) (k := k + 1) (r := r' - 1) (by omega) hrun hs (by rw [he']; congr 1; omega) (by omega) (by omega)
              exact ⟨0 :: ss, x, l, r' - 1, rfl, h6, .inl ⟨rfl, h11, by omega, by omega, hss⟩⟩
          · cases h1
      · obtain ⟨m, d1, h2, h3, h4⟩ := run_inner (st := []) (st0 := t :: st0) (l := x :: l) hrun (by simp; omega) (.inr ⟨x, rfl, h6, h11⟩)
        have hb := endc_bd h2
        simp only [List.length_nil, List.length_cons] at h2 hb
        have h2' : endc (x :: l) 0 = some m := h2
        have h5 := endc_over0 h6 (q := 1) (by omega) h2'
        rw [he] at h5
        have h5 := h5.symm
        rw [Option.map_eq_some_iff] at h5
        obtain ⟨r', h6', h7⟩ := h5
        have hb' := endc_bd h6'
        obtain ⟨ss, hss⟩ := d3_of_run f (l := (x :: l).drop m) (t := t) (k := k) (r := r' - 1) (by simp only [List.length_drop, List.length_cons]; omega) h4 hs (by rw [h6']; congr 1; omega) ht h0
        have hsm : smallB x = true := by
          simp only [run] at hrun
          cases h1 : stp (t :: st0, d) x with
          | none => rw [h1] at hrun; cases hrun
          | some s1 =>
            unfold stp at h1
            split at h1
            · try rw [if_neg h6] at h1
              try rw [if_neg h11] at h1
              split at h1
              · cases h1
              · rename_i hbl
                simp only [blocked, decide_eq_true h0, Bool.true_and] at hbl
                simpa using hbl
            · cases h1
        exact ⟨m :: ss, x, l, r' - 1, rfl, h6, .inr ⟨by omega, h11, hsm, by omega, by omega, h2', hss⟩⟩
/-- A Disc's contents. -/
theorem disc_steps {ns : List Nd} {a m : Nat} {n : Nd} (h : chk ns = 0) (hn : ns[a]? = some n) (h10 : n.kind = 10) (hm : endc (ns.drop a) 0 = some m) : 2 ≤ m ∧ ∃ ss, D3 ss (ns.drop (a + 1)) 0 (m - 2) := by
  have hal : a < ns.length := (List.getElem?_eq_some_iff.1 hn).1
  have hd : ns.drop a = n :: ns.drop (a + 1) := by
    have := List.drop_eq_getElem_cons hal
    rw [this]
    congr 1
    have := List.getElem?_eq_getElem hal
    rw [hn] at this
    exact (Option.some.inj this).symm
  have ho : opensB n = true := by simp [opensB, h10]
  have hc : cnt n 0 = 1 := by simp [cnt, ho]
  rw [hd] at hm
  simp only [endc, hc] at hm
  rw [if_neg (by omega), Option.map_eq_some_iff] at hm
  obtain ⟨m', h1, rfl⟩ := hm
  have hb := endc_bd h1
  refine ⟨by omega, ?_⟩
  obtain ⟨_, d, h2, _⟩ := chk_run h
  rw [← List.take_append_drop a ns, run_append] at h2
  cases h3 : run (ns.take a) ([], 0) with
  | none => rw [h3] at h2; cases h2
  | some s =>
    obtain ⟨st0, d0⟩ := s
    rw [h3] at h2
    simp only [Option.bind_some] at h2
    rw [hd] at h2
    simp only [run] at h2
    cases h4 : stp (st0, d0) n with
    | none => rw [h4] at h2; cases h2
    | some s1 =>
      rw [h4] at h2
      simp only at h2
      unfold stp at h4
      split at h4
      · try rw [if_neg (by omega : ¬ n.kind = 6)] at h4
        try rw [if_neg (by omega : ¬ n.kind = 11)] at h4
        split at h4
        · cases h4
        · simp only [Option.some.injEq, if_pos ho, if_pos h10] at h4
          subst h4
          obtain ⟨ss, hss⟩ := d3_of_run (ns.drop (a + 1)).length (k := 0) (r := m' - 1) (Nat.le_refl _) h2 (by simp) (by rw [h1]; congr 1; omega) (by omega) (by omega)
          exact ⟨ss, by simpa using hss⟩
      · cases h4
theorem D3.append : ∀ {ss : List Nat} {l : List Nd} {k r : Nat} (t : List Nd), D3 ss l k r → D3 ss (l ++ t) k r
  | [], l, k, r, t, h => by
    obtain ⟨h1, h2, x, hx, h6⟩ := h
    refine ⟨h1, h2, x, ?_, h6⟩
    cases l with
    | nil => cases hx
    | cons y l => exact hx
  | m :: ss, l, k, r, t, h => by
    obtain ⟨x, l', r', rfl, h6, h | h⟩ := h
    · obtain ⟨h1, h2, h3, h4, h5⟩ := h
      exact ⟨x, l' ++ t, r', rfl, h6, .inl ⟨h1, h2, h3, h4, h5.append t⟩⟩
    · obtain ⟨h1, h2, h3, h4, h5, h7, h8⟩ := h
      have hb := endc_bd h7
      refine ⟨x, l' ++ t, r', rfl, h6, .inr ⟨h1, h2, h3, h4, h5, endc_more t h7, ?_⟩⟩
      rw [List.drop_append_of_le_length hb.2]
      exact h8.append t
theorem D3.unique : ∀ {ss tt : List Nat} {l : List Nd} {k r q : Nat}, D3 ss l k r → D3 tt l k q → ss = tt
  | [], [], l, k, r, q, _, _ => rfl
  | [], m :: tt, l, k, r, q, h, h' => by
    obtain ⟨_, _, x, hx, h6⟩ := h
    obtain ⟨y, l', r', rfl, h6', _⟩ := h'
    cases hx
    exact absurd h6 h6'
  | m :: ss, [], l, k, r, q, h, h' => by
    obtain ⟨_, _, x, hx, h6⟩ := h'
    obtain ⟨y, l', r', rfl, h6', _⟩ := h
    cases hx
    exact absurd h6 h6'
  | m :: ss, m' :: tt, l, k, r, q, h, h' => by
    obtain ⟨x, l', r', rfl, h6, h | h⟩ := h <;> obtain ⟨y, l2, r2, e, h6', h' | h'⟩ := h'
    · injection e with e1 e2
      subst e1; subst e2
      rw [D3.unique h.2.2.2.2 h'.2.2.2.2, h.1, h'.1]
    · injection e with e1 e2
      subst e1
      exact absurd h.2.1 h'.2.1
    · injection e with e1 e2
      subst e1
      exact absurd h'.2.1 h.2.1
    · injection e with e1 e2
      subst e1; subst e2
      have h1 := h.2.2.2.2.2.1
      have h2 := h'.2.2.2.2.2.1
      rw [h1] at h2
      injection h2 with e
      subst e
      rw [D3.unique h.2.2.2.2.2.2 h'.2.2.2.2.2.2]
theorem thr_append : ∀ {ss : List Nat} {l : List Nd} {k r : Nat} (t : List Nd) (j : Nat), D3 ss l k r → thr ss (l ++ t) k j = thr ss l k j
  | [], l, k, r, t, j, h => rfl
  | m :: ss, l, k, r, t, j, h => by
    obtain ⟨x, l', r', rfl, h6, h | h⟩ := h
    · obtain ⟨rfl, h2, h3, h4, h5⟩ := h
      simp only [thr, List.cons_append, List.drop_succ_cons, List.drop_zero]
      exact thr_append t j h5
    · obtain ⟨h1, h2, h3, h4, h5, h7, h8⟩ := h
      have hb := endc_bd h7
      obtain ⟨m, rfl⟩ : ∃ q, m = q + 1 := ⟨m - 1, by omega⟩
      simp only [thr]
      rw [List.take_append_of_le_length hb.2, List.drop_append_of_le_length hb.2, thr_append t j h8]
theorem thr_mem : ∀ {ss : List Nat} {l : List Nd} {k j : Nat}, ∀ x ∈ thr ss l k j, x ∈ l
  | [], l, k, j, x, h => by cases h
  | 0 :: ss, l, k, j, x, h => List.mem_of_mem_drop (thr_mem (ss := ss) (l := l.drop 1) x h)
  | (m + 1) :: ss, l, k, j, x, h => by
    simp only [thr, List.mem_append] at h
    rcases h with h | h
    · split at h
      · exact List.mem_of_mem_take h
      · cases h
    · exact List.mem_of_mem_drop (thr_mem (ss := ss) (l := l.drop (m + 1)) x h)
theorem thr_len : ∀ {ss : List Nat} {l : List Nd} {k r j : Nat}, D3 ss l k r → (thr ss l k j).length ≤ r
  | [], l, k, r, j, h => by simp [thr]
  | m :: ss, l, k, r, j, h => by
    obtain ⟨x, l', r', rfl, h6, h | h⟩ := h
    · obtain ⟨rfl, h2, h3, h4, h5⟩ := h
      simp only [thr, List.drop_succ_cons, List.drop_zero]
      have := thr_len (j := j) h5
      omega
    · obtain ⟨h1, h2, h3, h4, h5, h7, h8⟩ := h
      have hb := endc_bd h7
      obtain ⟨m, rfl⟩ : ∃ q, m = q + 1 := ⟨m - 1, by omega⟩
      have := thr_len (j := j) h8
      simp only [thr, List.length_append]
      split
      · simp only [List.length_take]
        omega
      · simp only [List.length_nil]
        omega
/-- The items of one of the lists: small ones. -/
theorem thr_its : ∀ {ss : List Nat} {l : List Nd} {k r : Nat} (j o : Nat), D3 ss l k r → ∃ xs, Its xs (thr ss l k j) o ∧ ∀ x ∈ xs, ∃ n, (thr ss l k j)[x - o]? = some n ∧ smallB n = true
  | [], l, k, r, j, o, h => ⟨[], rfl, fun x hx => by cases hx⟩
  | m :: ss, l, k, r, j, o, h => by
    obtain ⟨x, l', r', rfl, h6, h | h⟩ := h
    · obtain ⟨rfl, h2, h3, h4, h5⟩ := h
      simp only [thr, List.drop_succ_cons, List.drop_zero]
      exact thr_its j o h5
    · obtain ⟨h1, h2, h3, h4, h5, h7, h8⟩ := h
      have hb := endc_bd h7
      obtain ⟨m, rfl⟩ : ∃ q, m = q + 1 := ⟨m - 1, by omega⟩
      simp only [thr]
      by_cases hj : j = k
      · rw [if_pos hj]
        obtain ⟨xs, hx, hs⟩ := thr_its j (o + (m + 1)) h8
        have hlt : ((x :: l').take (m + 1)).length = m + 1 := by rw [List.length_take]; omega
        refine ⟨o :: xs, ⟨rfl, m + 1, endc_more _ (endc_just h7), ?_⟩, ?_⟩
        · rw [List.drop_append_of_le_length (by omega), List.drop_of_length_le (by omega), List.nil_append]
          exact hx
        · intro y hy
          rcases List.mem_cons.1 hy with rfl | hy
          · refine ⟨x, ?_, h3⟩
            rw [Nat.sub_self]
            simp
          · obtain ⟨n, hn, hs'⟩ := hs y hy
            have := (Its.lt hx y hy).1
            refine ⟨n, ?_, hs'⟩
            rw [List.getElem?_append_right (by omega), hlt, ← hn]
            congr 1
            omega
      · rw [if_neg hj, List.nil_append]
        exact thr_its j o h8
/-- No more than so much is left. -/
theorem D3.le : ∀ {ss : List Nat} {l : List Nd} {k r : Nat}, D3 ss l k r → r < l.length
  | [], l, k, r, h => by
    obtain ⟨rfl, _, x, hx, _⟩ := h
    cases l with
    | nil => cases hx
    | cons y l => simp
  | m :: ss, l, k, r, h => by
    obtain ⟨x, l', r', rfl, h6, h | h⟩ := h
    · obtain ⟨rfl, h2, h3, rfl, h5⟩ := h
      have := h5.le
      simp only [List.length_cons]
      omega
    · obtain ⟨h1, h2, h3, h4, rfl, h7, h8⟩ := h
      have hb := endc_bd h7
      have := h8.le
      simp only [List.length_drop] at this
      omega
end Go.Proofs.YtmcekdjhkjhcdaaGreatDoor.Np
