import Derived.Test.YtoboecenlangmaaGlueD
/- Rows of glue, in plain Lean: their errors, sums and sizes. No Go in sight. Conditions: those that each theorem names. -/
namespace Go.Proofs.Ytoboecenlangmaa.Gl

structure G where
  n : Int
  s : Int
  h : Int
  a : Int
  b : Int

def G.ok (g : G) : Bool := glueB g.n g.s g.h g.a g.b
def G.chk (g : G) : Int := Gl.chk g.n g.s g.h g.a g.b
theorem G.chk_ok {g : G} (h : g.ok = true) : g.chk = 0 := chk_yes h
theorem G.chk_bad {g : G} (h : g.ok = false) : g.chk = 30 := chk_no h
def rowE (l : List G) : Int := if 2000 < l.length then 6 else if l.all G.ok = true then 0 else 30
theorem rowE_long {l : List G} (h : 2000 < l.length) : rowE l = 6 := if_pos h
theorem rowE_ok {l : List G} (h : l.length ≤ 2000) (hg : l.all G.ok = true) : rowE l = 0 := by unfold rowE; rw [if_neg (by omega), if_pos hg]
theorem rowE_bad {l : List G} (h : l.length ≤ 2000) {k : Nat} {g : G} (hk : l[k]? = some g) (hg : g.ok = false) : rowE l = 30 := by
  unfold rowE
  rw [if_neg (by omega), if_neg]
  intro ha
  rw [List.all_eq_true] at ha
  rw [ha g (List.mem_of_getElem? hk)] at hg
  cases hg
theorem rowE_zero {l : List G} (h : rowE l = 0) : l.length ≤ 2000 ∧ l.all G.ok = true := by
  unfold rowE at h
  by_cases h1 : 2000 < l.length
  · rw [if_pos h1] at h; omega
  · rw [if_neg h1] at h
    by_cases h2 : l.all G.ok = true
    · exact ⟨by omega, h2⟩
    · rw [if_neg h2] at h; omega
theorem take_all {l : List G} {k : Nat} {g : G} (hk : l[k]? = some g) (h : (l.take k).all G.ok = true) (hg : g.ok = true) : (l.take (k + 1)).all G.ok = true := by
  rw [List.take_add_one, hk, List.all_append, h]
  simp [hg]
theorem rowE_cases (l : List G) : rowE l = 0 ∨ rowE l = 6 ∨ rowE l = 30 := by
  unfold rowE; split
  · exact .inr (.inl rfl)
  · split
    · exact .inl rfl
    · exact .inr (.inr rfl)
end Go.Proofs.Ytoboecenlangmaa.Gl
