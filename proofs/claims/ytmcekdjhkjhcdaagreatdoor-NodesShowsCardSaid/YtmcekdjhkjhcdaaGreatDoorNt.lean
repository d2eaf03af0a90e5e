import Derived.Test.YtmcekdjhkjhcdaaGreatDoorNr
/- A list without one of the nodes that open or close is none, in plain Lean. No Go in sight. Conditions: those that each theorem names. -/
namespace Go.Proofs.YtmcekdjhkjhcdaaGreatDoor.Np

/-- How deep a whole list comes out. -/
def dep : List Nd → Int
  | [] => 0
  | x :: l => cnt x 0 + dep l
theorem cnt_add (x : Nd) (n : Int) : cnt x n = n + cnt x 0 := by
  unfold cnt
  split
  · omega
  · split <;> omega
theorem run_dep : ∀ {l : List Nd} {s s' : St}, run l s = some s' → (s'.1.length : Int) = s.1.length + dep l
  | [], s, s', h => by simp [run] at h; subst h; simp [dep]
  | x :: l, s, s', h => by
    simp only [run] at h
    cases h1 : stp s x with
    | none => rw [h1] at h; cases h
    | some s1 =>
      rw [h1] at h
      have h2 := run_dep h
      obtain ⟨st, d⟩ := s
      obtain ⟨st1, d1⟩ := s1
      have h3 := stp_cnt h1
      rw [cnt_add] at h3
      simp only [dep] at *
      omega
theorem dep_append : ∀ (l m : List Nd), dep (l ++ m) = dep l + dep m
  | [], m => by simp [dep]
  | x :: l, m => by simp only [List.cons_append, dep]; rw [dep_append l m]; omega
theorem chk_without {l m : List Nd} {x : Nd} (h : chk (l ++ x :: m) = 0) (hx : opensB x = true ∨ x.kind = 6) : chk (l ++ m) = 50 := by
  obtain ⟨hl, d, h1, _⟩ := chk_run h
  have h2 := run_dep h1
  rw [dep_append] at h2
  simp only [dep, List.length_nil] at h2
  have hlen : (l ++ m).length ≤ 2000 := by
    simp only [List.length_append, List.length_cons] at hl ⊢
    omega
  have hc : cnt x 0 ≠ 0 := by
    unfold cnt
    rcases hx with h | h
    · rw [if_pos h]; omega
    · have ho : opensB x = false := by simp [opensB, h]
      rw [ho, if_neg (by simp), if_pos h]; omega
  unfold chk
  rw [if_neg (by omega)]
  cases h3 : run (l ++ m) ([], 0) with
  | none => rfl
  | some s =>
    have h4 := run_dep h3
    rw [dep_append] at h4
    simp only [List.length_nil] at h4
    have : s.1 ≠ [] := by
      intro e
      rw [e] at h4
      simp only [List.length_nil] at h4
      omega
    simp only
    rw [if_neg this]
end Go.Proofs.YtmcekdjhkjhcdaaGreatDoor.Np
