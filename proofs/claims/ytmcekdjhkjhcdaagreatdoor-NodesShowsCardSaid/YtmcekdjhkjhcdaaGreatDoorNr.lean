import Derived.Test.YtmcekdjhkjhcdaaGreatDoorNq
/- Items of a list of nodes, in plain Lean: where an item ends, where items begin. No Go in sight. Conditions: those that each theorem names. -/
namespace Go.Proofs.YtmcekdjhkjhcdaaGreatDoor.Np

/-- How deep one is behind a node. -/
def cnt (x : Nd) (n : Int) : Int := if opensB x = true then n + 1 else if x.kind = 6 then n - 1 else n
/-- How many nodes till one is as deep as outside. -/
def endc : List Nd → Int → Option Nat
  | [], _ => none
  | x :: l, n => if cnt x n = 0 then some 1 else (endc l (cnt x n)).map (· + 1)
theorem endc_bd : ∀ {l : List Nd} {n : Int} {m : Nat}, endc l n = some m → 1 ≤ m ∧ m ≤ l.length
  | [], n, m, h => by simp [endc] at h
  | x :: l, n, m, h => by
    simp only [endc] at h
    split at h
    · simp at h; subst h; simp
    · rw [Option.map_eq_some_iff] at h
      obtain ⟨m', h1, rfl⟩ := h
      have := endc_bd h1
      simp only [List.length_cons]
      omega
theorem stp_cnt {st st1 : List Int} {d d1 : Int} {x : Nd} (h : stp (st, d) x = some (st1, d1)) : (st1.length : Int) = cnt x st.length := by
  unfold stp at h
  split at h
  · split at h
    · rename_i h6
      have ho : opensB x = false := by simp [opensB, h6]
      split at h
      · cases h
      · rename_i hst
        simp only at hst
        subst hst
        split at h
        · cases h
        · simp at h; obtain ⟨rfl, rfl⟩ := h; simp [cnt, ho, h6]
    · rename_i h6
      split at h
      · rename_i h11
        have ho : opensB x = false := by simp [opensB, h11]
        split at h
        · cases h
        · rename_i hst
          simp only at hst
          subst hst
          split at h
          · cases h
          · simp at h; obtain ⟨rfl, rfl⟩ := h; simp [cnt, ho, h6]
      · split at h
        · cases h
        · simp only [Option.some.injEq, Prod.mk.injEq] at h
          obtain ⟨h1, h2⟩ := h
          subst h1
          unfold cnt
          split
          · simp
          · first | rfl | rw [if_neg h6]
  · cases h
theorem run_nil_st {st : List Int} {d d' : Int} (h : run [] (st, d) = some ([], d')) : st = [] ∧ d = d' := by
  simp [run] at h
  exact h
/-- A list that comes to nothing open: its first item. -/
theorem run_item : ∀ {l : List Nd} {st : List Int} {d d' : Int}, run l (st, d) = some ([], d') → l ≠ [] →
    ∃ (m : Nat) (d1 : Int), endc l st.length = some m ∧ run (l.take m) (st, d) = some ([], d1) ∧ run (l.drop m) ([], d1) = some ([], d')
  | [], _, _, _, _, h => absurd rfl h
  | x :: l, st, d, d', h, _ => by
    simp only [run] at h
    cases h1 : stp (st, d) x with
    | none => rw [h1] at h; cases h
    | some s1 =>
      obtain ⟨st1, d1⟩ := s1
      rw [h1] at h
      simp only at h
      have hc := stp_cnt h1
      by_cases h0 : st1 = []
      · subst h0
        refine ⟨1, d1, ?_, ?_, ?_⟩
        · simp only [endc]
          rw [if_pos (by rw [← hc]; rfl)]
        · simp [run, h1]
        · simpa using h
      · have hl : l ≠ [] := by
          rintro rfl
          exact h0 (run_nil_st h).1
        obtain ⟨m, d2, h2, h3, h4⟩ := run_item h hl
        refine ⟨m + 1, d2, ?_, ?_, ?_⟩
        · simp only [endc]
          rw [if_neg, ← hc, h2]
          · rfl
          · rw [← hc]
            have : 0 < st1.length := List.length_pos_iff.2 h0
            omega
        · simp [run, h1, h3]
        · simpa using h4
/-- Where the items of a list begin (it stands behind o nodes). -/
def Its : List Nat → List Nd → Nat → Prop
  | [], l, _ => l = []
  | x :: xs, l, o => x = o ∧ ∃ m, endc l 0 = some m ∧ Its xs (l.drop m) (o + m)
theorem its_of_run : ∀ (k : Nat) {l : List Nd} {d d' : Int} (o : Nat), l.length ≤ k → run l ([], d) = some ([], d') → ∃ xs, Its xs l o
  | k, [], d, d', o, hk, h => ⟨[], rfl⟩
  | 0, x :: l, d, d', o, hk, h => by simp at hk
  | k + 1, x :: l, d, d', o, hk, h => by
    obtain ⟨m, d1, h1, h2, h3⟩ := run_item h (by simp)
    have hb := endc_bd h1
    simp only [List.length_cons] at hk hb
    obtain ⟨xs, hx⟩ := its_of_run k (o + m) (by simp only [List.length_drop, List.length_cons]; omega) h3
    exact ⟨o :: xs, rfl, m, h1, hx⟩
theorem chk_run {l : List Nd} (h : chk l = 0) : l.length ≤ 2000 ∧ ∃ d, run l ([], 0) = some ([], d) ∧ d ≤ 40 := by
  unfold chk at h
  split at h
  · omega
  · refine ⟨by omega, ?_⟩
    split at h
    · omega
    · rename_i s hs
      obtain ⟨st, d⟩ := s
      simp only at h
      split at h
      · rename_i h0
        subst h0
        split at h
        · omega
        · exact ⟨d, hs, by omega⟩
      · omega
theorem its_of_chk {l : List Nd} (h : chk l = 0) : ∃ xs, Its xs l 0 := by
  obtain ⟨_, d, h1, _⟩ := chk_run h
  exact its_of_run l.length 0 (Nat.le_refl _) h1
theorem Its.lt : ∀ {xs : List Nat} {l : List Nd} {o : Nat}, Its xs l o → ∀ x ∈ xs, o ≤ x ∧ x < o + l.length
  | [], l, o, h => fun x hx => by cases hx
  | y :: xs, l, o, h => by
    obtain ⟨rfl, m, hm, hx⟩ := h
    have hb := endc_bd hm
    intro x hx'
    rcases List.mem_cons.1 hx' with rfl | hx'
    · omega
    · have := Its.lt hx x hx'
      simp only [List.length_drop] at this
      omega
theorem Its.len : ∀ {xs : List Nat} {l : List Nd} {o : Nat}, Its xs l o → xs.length ≤ l.length
  | [], l, o, h => by simp
  | y :: xs, l, o, h => by
    obtain ⟨rfl, m, hm, hx⟩ := h
    have hb := endc_bd hm
    have ih := Its.len hx
    simp only [List.length_drop, List.length_cons] at ih ⊢
    omega
theorem Its.unique : ∀ {xs ys : List Nat} {l : List Nd} {o : Nat}, Its xs l o → Its ys l o → xs = ys
  | [], [], l, o, _, _ => rfl
  | [], y :: ys, l, o, h, h' => by
    obtain ⟨rfl, m, hm, hx⟩ := h'
    have h : l = [] := h
    subst h
    simp [endc] at hm
  | x :: xs, [], l, o, h, h' => by
    obtain ⟨rfl, m, hm, hx⟩ := h
    have h' : l = [] := h'
    subst h'
    simp [endc] at hm
  | x :: xs, y :: ys, l, o, h, h' => by
    obtain ⟨rfl, m, hm, hx⟩ := h
    obtain ⟨rfl, m', hm', hx'⟩ := h'
    rw [hm] at hm'
    injection hm' with e
    subst e
    rw [Its.unique hx hx']
/-- Does an item begin there? -/
def begB (l : List Nd) (a : Int) : Bool := decide (0 ≤ a) && (match l[a.toNat]? with | none => false | some x => x.kind != 6 && x.kind != 11)
theorem stp_base {st st0 s1 : List Int} {d d1 : Int} {x : Nd} (h : stp (st ++ st0, d) x = some (s1, d1)) (hx : st ≠ [] ∨ (¬ x.kind = 6 ∧ ¬ x.kind = 11)) : ∃ st1, s1 = st1 ++ st0 ∧ (st1.length : Int) = cnt x st.length := by
  have hlen := stp_cnt h
  unfold stp at h
  split at h
  · split at h
    · rename_i h6
      have hne : st ≠ [] := by
        rcases hx with hx | ⟨hx, _⟩
        · exact hx
        · exact absurd h6 hx
      have ho : opensB x = false := by simp [opensB, h6]
      cases st with
      | nil => exact absurd rfl hne
      | cons t r =>
        simp only [List.cons_append] at h
        split at h
        · cases h
        · simp at h
          obtain ⟨rfl, rfl⟩ := h
          exact ⟨r, rfl, by simp [cnt, ho, h6]⟩
    · rename_i h6
      split at h
      · rename_i h11
        have hne : st ≠ [] := by
          rcases hx with hx | ⟨_, hx⟩
          · exact hx
          · exact absurd h11 hx
        have ho : opensB x = false := by simp [opensB, h11]
        cases st with
        | nil => exact absurd rfl hne
        | cons t r =>
          simp only [List.cons_append] at h
          split at h
          · cases h
          · simp at h
            obtain ⟨rfl, rfl⟩ := h
            exact ⟨(t - 1) :: r, rfl, by simp [cnt, ho, h6]⟩
      · split at h
        · cases h
        · simp only [Option.some.injEq, Prod.mk.injEq] at h
          obtain ⟨h1, h2⟩ := h
          subst h1
          unfold cnt
          split
          · exact ⟨_ :: st, rfl, by simp⟩
          · exact ⟨st, rfl, by simp⟩
  · cases h
/-- An item within a list, however deep: what is open around it stays. -/
theorem run_inner : ∀ {l : List Nd} {st st0 : List Int} {d : Int} {s' : St}, run l (st ++ st0, d) = some s' → s'.1.length ≤ st0.length → (st ≠ [] ∨ ∃ x, l.head? = some x ∧ ¬ x.kind = 6 ∧ ¬ x.kind = 11) →
    ∃ (m : Nat) (d1 : Int), endc l st.length = some m ∧ run (l.take m) (st ++ st0, d) = some (st0, d1) ∧ run (l.drop m) (st0, d1) = some s'
  | [], st, st0, d, s', h, hs, hx => by
    rcases hx with hx | ⟨x, hx, _⟩
    · simp [run] at h
      subst h
      simp only [List.length_append] at hs
      exact absurd (List.eq_nil_of_length_eq_zero (by omega)) hx
    · cases hx
  | x :: l, st, st0, d, s', h, hs, hx => by
    simp only [run] at h
    cases h1 : stp (st ++ st0, d) x with
    | none => rw [h1] at h; cases h
    | some s1 =>
      obtain ⟨st1', d1⟩ := s1
      rw [h1] at h
      simp only at h
      have hx' : st ≠ [] ∨ (¬ x.kind = 6 ∧ ¬ x.kind = 11) := by
        rcases hx with hx | ⟨y, hy, hx⟩
        · exact .inl hx
        · simp at hy
          subst hy
          exact .inr hx
      obtain ⟨st1, rfl, hc⟩ := stp_base h1 hx'
      by_cases h0 : st1 = []
      · subst h0
        refine ⟨1, d1, ?_, ?_, ?_⟩
        · simp only [endc]
          rw [if_pos (by rw [← hc]; rfl)]
        · simp [run, h1]
        · simpa using h
      · obtain ⟨m, d2, h2, h3, h4⟩ := run_inner h hs (.inl h0)
        refine ⟨m + 1, d2, ?_, ?_, ?_⟩
        · simp only [endc]
          rw [if_neg, ← hc, h2]
          · rfl
          · rw [← hc]
            have : 0 < st1.length := List.length_pos_iff.2 h0
            omega
        · simp [run, h1, h3]
        · simpa using h4
/-- Where an item begins it ends. -/
theorem item_ends {l : List Nd} {a : Nat} {x : Nd} (h : chk l = 0) (hx : l[a]? = some x) (h6 : ¬ x.kind = 6) (h11 : ¬ x.kind = 11) : ∃ m, endc (l.drop a) 0 = some m := by
  obtain ⟨_, d, h1, _⟩ := chk_run h
  rw [← List.take_append_drop a l, run_append] at h1
  cases h2 : run (l.take a) ([], 0) with
  | none => rw [h2] at h1; cases h1
  | some s =>
    obtain ⟨st0, d0⟩ := s
    rw [h2] at h1
    simp only [Option.bind_some] at h1
    have hh : (l.drop a).head? = some x := by rw [List.head?_drop]; exact hx
    obtain ⟨m, d1, h3, _⟩ := run_inner (st := []) (st0 := st0) h1 (by simp) (.inr ⟨x, hh, h6, h11⟩)
    exact ⟨m, h3⟩
theorem beg_ends {l : List Nd} {a : Int} (h : chk l = 0) (hb : begB l a = true) : ∃ m, 0 ≤ a ∧ endc (l.drop a.toNat) 0 = some m := by
  unfold begB at hb
  simp only [Bool.and_eq_true, decide_eq_true_eq] at hb
  obtain ⟨h0, hb⟩ := hb
  split at hb
  · cases hb
  · rename_i x hx
    simp only [Bool.and_eq_true, bne_iff_ne, ne_eq] at hb
    obtain ⟨m, hm⟩ := item_ends h hx hb.1 hb.2
    exact ⟨m, h0, hm⟩
end Go.Proofs.YtmcekdjhkjhcdaaGreatDoor.Np
