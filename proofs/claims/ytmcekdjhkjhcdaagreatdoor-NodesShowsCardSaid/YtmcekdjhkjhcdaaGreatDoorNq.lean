import Derived.Test.YtmcekdjhkjhcdaaGreatDoorNp
/- Lists of nodes, in plain Lean: laws on the walk over a list. No Go in sight. Conditions: those that each theorem names. -/
namespace Go.Proofs.YtmcekdjhkjhcdaaGreatDoor.Np
theorem run_take {l : List Nd} {k : Nat} {n : Nd} {s s' : St} (h : run (l.take k) ([], 0) = some s) (hk : l[k]? = some n) (hs : stp s n = some s') : run (l.take (k + 1)) ([], 0) = some s' := by
  rw [List.take_add_one, hk]
  show run (l.take k ++ [n]) _ = _
  rw [run_snoc, h]
  exact hs
theorem run_none {s : St} {n : Nd} (hs : stp s n = none) : ∀ {l : List Nd} {k : Nat} {s0 : St}, run (l.take k) s0 = some s → l[k]? = some n → run l s0 = none
  | [], k, s0, h, hk => by simp at hk
  | m :: l, 0, s0, h, hk => by
    simp at hk
    subst hk
    simp [run] at h
    subst h
    simp [run, hs]
  | m :: l, k + 1, s0, h, hk => by
    simp only [List.take_succ_cons, run] at h
    simp only [run]
    cases h1 : stp s0 m with
    | none => rfl
    | some s1 =>
      rw [h1] at h
      exact run_none hs h (by simpa using hk)
theorem chk_none {l : List Nd} {k : Nat} {n : Nd} {s : St} (hl : l.length ≤ 2000) (h : run (l.take k) ([], 0) = some s) (hk : l[k]? = some n) (hs : stp s n = none) : chk l = 50 := by
  unfold chk
  rw [if_neg (by omega), run_none hs h hk]
theorem chk_end {l : List Nd} {st : List Int} {d : Int} (hl : l.length ≤ 2000) (h : run l ([], 0) = some (st, d)) : chk l = if st = [] then (if 40 < d then 51 else 0) else 50 := by
  unfold chk
  rw [if_neg (by omega), h]
theorem stp_bd {s s' : St} {n : Nd} {k : Nat} (h : stp s n = some s') (h0 : s.1.length ≤ k) (h1 : 0 ≤ s.2) (h2 : s.2 ≤ k) : s'.1.length ≤ k + 1 ∧ 0 ≤ s'.2 ∧ s'.2 ≤ k + 1 := by
  obtain ⟨st, d⟩ := s
  simp only at h0 h1 h2
  unfold stp at h
  split at h
  · split at h
    · split at h
      · cases h
      · rename_i hst
        simp only at hst
        subst hst
        split at h
        · cases h
        · simp at h; subst h; simp at h0 ⊢; omega
    · split at h
      · split at h
        · cases h
        · rename_i hst
          simp only at hst
          subst hst
          split at h
          · cases h
          · simp at h; subst h; simp at h0 ⊢; omega
      · split at h
        · cases h
        · simp only [Option.some.injEq] at h
          subst h
          simp only
          split <;> (first | (simp only [List.length_cons]; omega) | omega)
  · cases h
theorem run_bd : ∀ {l : List Nd} {s s' : St} {k : Nat}, run l s = some s' → s.1.length ≤ k → 0 ≤ s.2 → s.2 ≤ k → s'.1.length ≤ k + l.length ∧ 0 ≤ s'.2 ∧ s'.2 ≤ k + l.length
  | [], s, s', k, h, h0, h1, h2 => by simp [run] at h; subst h; simp; omega
  | n :: l, s, s', k, h, h0, h1, h2 => by
    simp only [run] at h
    cases h3 : stp s n with
    | none => rw [h3] at h; cases h
    | some s1 =>
      rw [h3] at h
      obtain ⟨a, b, c⟩ := stp_bd h3 h0 h1 h2
      have := run_bd (k := k + 1) h a b (by omega)
      simp only [List.length_cons]
      omega
theorem stp_other {st : List Int} {d : Int} {n : Nd} (hR : right n = true) (k6 : ¬ n.kind = 6) (k11 : ¬ n.kind = 11) (hb : blocked st n = false) :
    stp (st, d) n = some (if opensB n = true then (if n.kind = 10 then 2 else -1) :: st else st, max d (st.length + 1)) := by
  simp [stp, hR, k6, k11, hb]
theorem stp_blocked {st : List Int} {d : Int} {n : Nd} (hR : right n = true) (k6 : ¬ n.kind = 6) (k11 : ¬ n.kind = 11) (hb : blocked st n = true) : stp (st, d) n = none := by
  simp [stp, hR, k6, k11, hb]
/-- What stands open: -1, or how many Seps are still wanted. -/
def El (st : List Int) : Prop := ∀ x ∈ st, -1 ≤ x ∧ x ≤ 2
theorem stp_el {s s' : St} {n : Nd} (h : stp s n = some s') (h0 : El s.1) : El s'.1 := by
  obtain ⟨st, d⟩ := s
  simp only at h0
  unfold stp at h
  split at h
  · split at h
    · split at h
      · cases h
      · rename_i hst
        simp only at hst
        subst hst
        split at h
        · cases h
        · simp at h; subst h; exact fun x hx => h0 x (by simp [hx])
    · split at h
      · split at h
        · cases h
        · rename_i hst
          simp only at hst
          subst hst
          split at h
          · cases h
          · simp at h
            subst h
            intro x hx
            rcases List.mem_cons.1 hx with rfl | hx
            · have := h0 _ (List.mem_cons_self ..); omega
            · exact h0 x (by simp [hx])
      · split at h
        · cases h
        · simp only [Option.some.injEq] at h
          subst h
          simp only
          split
          · intro x hx
            rcases List.mem_cons.1 hx with rfl | hx
            · split <;> omega
            · exact h0 x hx
          · exact h0
  · cases h
theorem run_el : ∀ {l : List Nd} {s s' : St}, run l s = some s' → El s.1 → El s'.1
  | [], s, s', h, h0 => by simp [run] at h; subst h; exact h0
  | n :: l, s, s', h, h0 => by
    simp only [run] at h
    cases h3 : stp s n with
    | none => rw [h3] at h; cases h
    | some s1 =>
      rw [h3] at h
      exact run_el h (stp_el h3 h0)
end Go.Proofs.YtmcekdjhkjhcdaaGreatDoor.Np
