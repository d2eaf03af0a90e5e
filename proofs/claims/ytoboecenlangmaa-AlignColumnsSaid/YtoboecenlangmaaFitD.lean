import Derived.Test.YtoboecenlangmaaGlueG
/- How a row is set, in plain Lean. No Go in sight. Conditions: those that each theorem names. -/
namespace Go.Proofs.Ytoboecenlangmaa.Gl

def great (a b c d : Int) : Int := if 0 < d then 3 else if 0 < c then 2 else if 0 < b then 1 else if 0 < a then 0 else -1
def pick4 (a b c d o : Int) : Int := if o = 3 then d else if o = 2 then c else if o = 1 then b else a
theorem great_cases (a b c d : Int) : (great a b c d = -1 ∧ a ≤ 0 ∧ b ≤ 0 ∧ c ≤ 0 ∧ d ≤ 0) ∨ (great a b c d = 0 ∧ 0 < a ∧ b ≤ 0 ∧ c ≤ 0 ∧ d ≤ 0) ∨ (great a b c d = 1 ∧ 0 < b ∧ c ≤ 0 ∧ d ≤ 0) ∨ (great a b c d = 2 ∧ 0 < c ∧ d ≤ 0) ∨ (great a b c d = 3 ∧ 0 < d) := by
  unfold great
  split
  · simp; omega
  · split
    · simp; omega
    · split
      · simp; omega
      · split
        · simp; omega
        · simp; omega
theorem great_pos {a b c d : Int} (h : 0 ≤ great a b c d) : great a b c d ≤ 3 ∧ 0 < pick4 a b c d (great a b c d) := by
  rcases great_cases a b c d with ⟨e, h1⟩ | ⟨e, h1⟩ | ⟨e, h1⟩ | ⟨e, h1⟩ | ⟨e, h1⟩
  · omega
  all_goals rw [e]; simp [pick4]; omega

/-- Sign, order, numerator, denominator of a row whose totals are in range. -/
def fit (a b c d p q r s ex : Int) : Int × Int × Int × Int :=
  if 0 < ex then (if great a b c d < 0 then (0, 0, 0, 0) else (1, great a b c d, ex, pick4 a b c d (great a b c d)))
  else if ex < 0 then (if great p q r s < 0 then (0, 0, 0, 0) else (2, great p q r s, if great p q r s = 0 then min (-ex) (pick4 p q r s (great p q r s)) else -ex, pick4 p q r s (great p q r s)))
  else (0, 0, 0, 0)
end Go.Proofs.Ytoboecenlangmaa.Gl
