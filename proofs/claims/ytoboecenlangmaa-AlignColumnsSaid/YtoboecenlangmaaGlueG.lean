import Derived.Test.YtoboecenlangmaaGlueE
/- Sizes of a row that is set, in plain Lean. No Go in sight. Conditions: those that each theorem names. -/
namespace Go.Proofs.Ytoboecenlangmaa.Gl

theorem psV_bd (s n d : Int) : -70368744177664 ≤ psV s n d ∧ psV s n d ≤ 70368744177664 := by
  by_cases h : psE s n d = 0
  · have hok : shOk s n d = true := by
      cases h1 : shOk s n d
      · rw [psE_range h1] at h; omega
      · rfl
    have hp : pOk (mag n * mag s) d = true := by
      cases h1 : pOk (mag n * mag s) d
      · rw [psE_far hok h1] at h; omega
      · rfl
    have hd := (shOk_iff.1 hok).1
    have hm : 0 ≤ mag n * mag s := Int.mul_nonneg (mag_nonneg n) (mag_nonneg s)
    rw [psV_ok h]
    unfold pOk at hp
    simp only [Bool.and_eq_true, decide_eq_true_eq] at hp
    have h0 : 0 ≤ pq (mag n * mag s) d := by
      have h0 : 0 ≤ mag n * mag s / d := Int.ediv_nonneg hm (by omega)
      unfold pq
      split
      · exact Int.emod_nonneg _ (by rw [W64_eq]; omega)
      · exact h0
    rcases sgn_cases s n with h1 | h1 <;> rw [h1] <;> omega
  · rw [psV_err h]; omega
theorem psE_in {s n d : Int} (h : shOk s n d = true) : psE s n d = 0 ∨ psE s n d = 20 := by
  cases h1 : pOk (mag n * mag s) d
  · exact .inr (psE_far h h1)
  · exact .inl (psE_ok h h1)

/-- What is known ahead of a piece: the sum of those that stretch (or shrink), the share told last, the sizes so far. -/
structure Sz where
  S : Int
  L : Int
  o : List Int

/-- One piece more; none: its share is too great. -/
def step (sign order N D : Int) (z : Sz) (g : G) : Option Sz :=
  if sign = 1 ∧ g.a = order then (if psE (z.S + g.s) N D = 0 then some ⟨z.S + g.s, psV (z.S + g.s) N D, z.o ++ [g.n + (psV (z.S + g.s) N D - z.L)]⟩ else none)
  else if sign = 2 ∧ g.b = order then (if psE (z.S + g.h) N D = 0 then some ⟨z.S + g.h, psV (z.S + g.h) N D, z.o ++ [g.n - (psV (z.S + g.h) N D - z.L)]⟩ else none)
  else some ⟨z.S, z.L, z.o ++ [g.n]⟩

def run (sign order N D : Int) (l : List G) : Option Sz := l.foldl (fun z g => z.bind fun z => step sign order N D z g) (some ⟨0, 0, []⟩)

theorem run_nil (sign order N D : Int) : run sign order N D [] = some ⟨0, 0, []⟩ := rfl
theorem run_snoc {sign order N D : Int} {l : List G} {k : Nat} {g : G} {z : Sz} (hk : l[k]? = some g) (h : run sign order N D (l.take k) = some z) :
    run sign order N D (l.take (k + 1)) = step sign order N D z g := by
  unfold run at h ⊢
  rw [List.take_add_one, hk, List.foldl_append, h]
  rfl
theorem fold_none {sign order N D : Int} (l : List G) : l.foldl (fun z g => z.bind fun z => step sign order N D z g) none = none := by
  induction l with
  | nil => rfl
  | cons g l ih => simpa using ih
theorem run_stop {sign order N D : Int} {l : List G} {k : Nat} {g : G} {z : Sz} (hk : l[k]? = some g) (h : run sign order N D (l.take k) = some z) (hs : step sign order N D z g = none) :
    run sign order N D l = none := by
  have h1 := run_snoc hk h
  rw [hs] at h1
  have e : l = l.take (k + 1) ++ l.drop (k + 1) := (List.take_append_drop _ _).symm
  unfold run at h1 ⊢
  rw [e, List.foldl_append, h1, fold_none]

/-- The bounds that hold ahead of the k-th piece. -/
def Sz.In (z : Sz) (k : Nat) : Prop := -(k * 1073741823 : Int) ≤ z.S ∧ z.S ≤ k * 1073741823 ∧ (-70368744177664 ≤ z.L ∧ z.L ≤ 70368744177664) ∧ z.o.length = k
theorem Sz.In.zero : Sz.In ⟨0, 0, []⟩ 0 := ⟨by simp, by simp, by simp, rfl⟩
theorem step_in {sign order N D : Int} {z z' : Sz} {g : G} {k : Nat} (h : z.In k) (hg : g.ok = true) (hs : step sign order N D z g = some z') : z'.In (k + 1) := by
  obtain ⟨h1, h2, h3, h4⟩ := h
  obtain ⟨_, ⟨s0, s1⟩, ⟨t0, t1⟩, _, _⟩ := glueB_iff.1 hg
  unfold step at hs
  split at hs
  · split at hs
    · simp only [Option.some.injEq] at hs
      subst hs
      refine ⟨?_, ?_, psV_bd _ _ _, by simp [h4]⟩ <;> simp only <;> push_cast <;> omega
    · cases hs
  · split at hs
    · split at hs
      · simp only [Option.some.injEq] at hs
        subst hs
        refine ⟨?_, ?_, psV_bd _ _ _, by simp [h4]⟩ <;> simp only <;> push_cast <;> omega
      · cases hs
    · simp only [Option.some.injEq] at hs
      subst hs
      refine ⟨?_, ?_, h3, by simp [h4]⟩ <;> simp only <;> push_cast <;> omega

def argOk (sign order : Int) : Bool := decide (0 ≤ sign ∧ sign ≤ 2 ∧ 0 ≤ order ∧ order ≤ 3)
def rngOk (sign N D : Int) : Bool := nearB N && nearB D && decide (sign = 0 ∨ 1 ≤ D)
/-- The error of Sizes. -/
def szE (l : List G) (sign order N D : Int) : Int :=
  if rowE l ≠ 0 then rowE l else if argOk sign order = true then (if rngOk sign N D = true then (if (run sign order N D l).isSome = true then 0 else 20) else 11) else 1
def szL (l : List G) (sign order N D : Int) : List Int := ((run sign order N D l).map Sz.o).getD []
theorem szE_row {l : List G} {sign order N D : Int} (h : rowE l ≠ 0) : szE l sign order N D = rowE l := if_pos h
theorem szE_arg {l : List G} {sign order N D : Int} (h : rowE l = 0) (ha : argOk sign order = false) : szE l sign order N D = 1 := by simp [szE, h, ha]
theorem szE_rng {l : List G} {sign order N D : Int} (h : rowE l = 0) (ha : argOk sign order = true) (hr : rngOk sign N D = false) : szE l sign order N D = 11 := by simp [szE, h, ha, hr]
theorem szE_none {l : List G} {sign order N D : Int} (h : rowE l = 0) (ha : argOk sign order = true) (hr : rngOk sign N D = true) (hz : run sign order N D l = none) : szE l sign order N D = 20 := by simp [szE, h, ha, hr, hz]
theorem szE_some {l : List G} {sign order N D : Int} {z : Sz} (h : rowE l = 0) (ha : argOk sign order = true) (hr : rngOk sign N D = true) (hz : run sign order N D l = some z) :
    szE l sign order N D = 0 ∧ szL l sign order N D = z.o := by simp [szE, szL, h, ha, hr, hz]
theorem szE_zero {l : List G} {sign order N D : Int} (h : szE l sign order N D = 0) : rowE l = 0 ∧ argOk sign order = true ∧ rngOk sign N D = true ∧ ∃ z, run sign order N D l = some z := by
  unfold szE at h
  by_cases h1 : rowE l = 0
  · rw [if_neg (by simp [h1])] at h
    by_cases h2 : argOk sign order = true
    · rw [if_pos h2] at h
      by_cases h3 : rngOk sign N D = true
      · rw [if_pos h3] at h
        cases h4 : run sign order N D l with
        | none => simp [h4] at h
        | some z => exact ⟨h1, h2, h3, z, rfl⟩
      · rw [if_neg h3] at h; omega
    · rw [if_neg h2] at h; omega
  · rw [if_pos h1] at h; exact absurd h h1
theorem rngOk_iff {sign N D : Int} : rngOk sign N D = true ↔ (-70368744177664 ≤ N ∧ N ≤ 70368744177664) ∧ (-70368744177664 ≤ D ∧ D ≤ 70368744177664) ∧ (sign = 0 ∨ 1 ≤ D) := by
  simp [rngOk, nearB_iff, and_assoc]
theorem argOk_iff {sign order : Int} : argOk sign order = true ↔ 0 ≤ sign ∧ sign ≤ 2 ∧ 0 ≤ order ∧ order ≤ 3 := decide_eq_true_iff
/-- Within a row the shares are in range. -/
theorem share_ok {sign N D S : Int} {k : Nat} (hr : rngOk sign N D = true) (hs : sign ≠ 0) (hk : k ≤ 2000) (h0 : -(k * 1073741823 : Int) ≤ S) (h1 : S ≤ k * 1073741823) : shOk S N D = true := by
  obtain ⟨a, b, c⟩ := rngOk_iff.1 hr
  exact shOk_iff.2 ⟨by omega, by omega, a, b⟩
end Go.Proofs.Ytoboecenlangmaa.Gl
