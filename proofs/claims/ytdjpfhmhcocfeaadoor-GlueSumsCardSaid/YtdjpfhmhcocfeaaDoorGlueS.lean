import Derived.Test.YtdjpfhmhcocfeaaDoorGlueR
/- Contracts of glue.tidy, Plus, Times, Over. Conditions: those that each theorem names. -/
namespace Go.Proofs.YtdjpfhmhcocfeaaDoor.Gl
open Go.ChangeShapes Go.WideShapes Go.ChangeAt Go.RowKit
open Me
set_option linter.unusedVariables false

/-- What tidy does, told by the tidied orders. -/
theorem tidy_yes {n s h a b a' b' : Int} {r : G} {E : Int} (hh : tidyG ⟨n, s, h, a, b⟩ = (r, E)) (ha : a' = if s = 0 then 0 else a) (hb : b' = if h = 0 then 0 else b) :
    ((chk n s h a' b' != 0) = false ∧ r = ⟨n, s, h, a', b'⟩ ∧ E = 0) ∨ ((chk n s h a' b' != 0) = true ∧ r = ⟨0, 0, 0, 0, 0⟩ ∧ E = 20) := by
  subst ha hb
  unfold tidyG at hh
  have ht : tidied ⟨n, s, h, a, b⟩ = ⟨n, s, h, if s = 0 then 0 else a, if h = 0 then 0 else b⟩ := rfl
  rw [ht] at hh
  cases hg : glueB n s h (if s = 0 then 0 else a) (if h = 0 then 0 else b)
  · right
    rw [if_neg (by unfold G.ok; simp [hg])] at hh
    injection hh with h1 h2
    exact ⟨by rw [chk_no hg]; rfl, h1.symm, h2.symm⟩
  · left
    rw [if_pos (by unfold G.ok; simp [hg])] at hh
    injection hh with h1 h2
    exact ⟨by rw [chk_yes hg]; rfl, h1.symm, h2.symm⟩

theorem tidy_any (n s h a b : Int) (r : G) (E : Int) (hh : tidyG ⟨n, s, h, a, b⟩ = (r, E)) (w : World) :
    Calls Tryd.prog 17 #[.agg #[.int .i64 n, .int .i64 s, .int .i64 h, .int .i64 a, .int .i64 b]] w fun e w' =>
      e = .returned (.tuple #[.agg #[.int .i64 r.n, .int .i64 r.s, .int .i64 r.h, .int .i64 r.a, .int .i64 r.b], .int .i64 E]) ∧ Below w.heap.size w w' := by
  by_cases hs : s = 0 <;> by_cases hk : h = 0
  · rcases tidy_yes (a' := 0) (b' := 0) hh (by rw [if_pos hs]) (by rw [if_pos hk]) with ⟨hc, rfl, rfl⟩ | ⟨hc, rfl, rfl⟩
    · have hs' : (s == 0) = true := by simp [hs]
      have hk' : (h == 0) = true := by simp [hk]
      clear hh hs hk
      go_enter Tryd.func17, Tryd.ntmps17
      go_wp2_with (go_at_call 11; refine (check_any _ _ _ _ _ _).mono ?_; rintro e w' ⟨rfl, rfl⟩)
      refine bodyPost_ret (v := .tuple #[.agg #[.int .i64 n, .int .i64 s, .int .i64 h, .int .i64 0, .int .i64 0], .int .i64 0]) (by simp [results, Tryd.results17, go_sem]) rfl ⟨rfl, ?_⟩
      repeat (first | refine Below.setCell ?_ (by simp) _ | refine andAlloc ?_ _)
      exact Below.refl _ _
    · have hs' : (s == 0) = true := by simp [hs]
      have hk' : (h == 0) = true := by simp [hk]
      clear hh hs hk
      go_enter Tryd.func17, Tryd.ntmps17
      go_wp2_with (go_at_call 11; refine (check_any _ _ _ _ _ _).mono ?_; rintro e w' ⟨rfl, rfl⟩)
      refine bodyPost_ret (v := .tuple #[.agg #[.int .i64 0, .int .i64 0, .int .i64 0, .int .i64 0, .int .i64 0], .int .i64 20]) (by simp [results, Tryd.results17, go_sem]) rfl ⟨rfl, ?_⟩
      repeat (first | refine Below.setCell ?_ (by simp) _ | refine andAlloc ?_ _)
      exact Below.refl _ _
  · rcases tidy_yes (a' := 0) (b' := b) hh (by rw [if_pos hs]) (by rw [if_neg hk]) with ⟨hc, rfl, rfl⟩ | ⟨hc, rfl, rfl⟩
    · have hs' : (s == 0) = true := by simp [hs]
      have hk' : (h == 0) = false := by simp [hk]
      clear hh hs hk
      go_enter Tryd.func17, Tryd.ntmps17
      go_wp2_with (go_at_call 11; refine (check_any _ _ _ _ _ _).mono ?_; rintro e w' ⟨rfl, rfl⟩)
      refine bodyPost_ret (v := .tuple #[.agg #[.int .i64 n, .int .i64 s, .int .i64 h, .int .i64 0, .int .i64 b], .int .i64 0]) (by simp [results, Tryd.results17, go_sem]) rfl ⟨rfl, ?_⟩
      repeat (first | refine Below.setCell ?_ (by simp) _ | refine andAlloc ?_ _)
      exact Below.refl _ _
    · have hs' : (s == 0) = true := by simp [hs]
      have hk' : (h == 0) = false := by simp [hk]
      clear hh hs hk
      go_enter Tryd.func17, Tryd.ntmps17
      go_wp2_with (go_at_call 11; refine (check_any _ _ _ _ _ _).mono ?_; rintro e w' ⟨rfl, rfl⟩)
      refine bodyPost_ret (v := .tuple #[.agg #[.int .i64 0, .int .i64 0, .int .i64 0, .int .i64 0, .int .i64 0], .int .i64 20]) (by simp [results, Tryd.results17, go_sem]) rfl ⟨rfl, ?_⟩
      repeat (first | refine Below.setCell ?_ (by simp) _ | refine andAlloc ?_ _)
      exact Below.refl _ _
  · rcases tidy_yes (a' := a) (b' := 0) hh (by rw [if_neg hs]) (by rw [if_pos hk]) with ⟨hc, rfl, rfl⟩ | ⟨hc, rfl, rfl⟩
    · have hs' : (s == 0) = false := by simp [hs]
      have hk' : (h == 0) = true := by simp [hk]
      clear hh hs hk
      go_enter Tryd.func17, Tryd.ntmps17
      go_wp2_with (go_at_call 11; refine (check_any _ _ _ _ _ _).mono ?_; rintro e w' ⟨rfl, rfl⟩)
      refine bodyPost_ret (v := .tuple #[.agg #[.int .i64 n, .int .i64 s, .int .i64 h, .int .i64 a, .int .i64 0], .int .i64 0]) (by simp [results, Tryd.results17, go_sem]) rfl ⟨rfl, ?_⟩
      repeat (first | refine Below.setCell ?_ (by simp) _ | refine andAlloc ?_ _)
      exact Below.refl _ _
    · have hs' : (s == 0) = false := by simp [hs]
      have hk' : (h == 0) = true := by simp [hk]
      clear hh hs hk
      go_enter Tryd.func17, Tryd.ntmps17
      go_wp2_with (go_at_call 11; refine (check_any _ _ _ _ _ _).mono ?_; rintro e w' ⟨rfl, rfl⟩)
      refine bodyPost_ret (v := .tuple #[.agg #[.int .i64 0, .int .i64 0, .int .i64 0, .int .i64 0, .int .i64 0], .int .i64 20]) (by simp [results, Tryd.results17, go_sem]) rfl ⟨rfl, ?_⟩
      repeat (first | refine Below.setCell ?_ (by simp) _ | refine andAlloc ?_ _)
      exact Below.refl _ _
  · rcases tidy_yes (a' := a) (b' := b) hh (by rw [if_neg hs]) (by rw [if_neg hk]) with ⟨hc, rfl, rfl⟩ | ⟨hc, rfl, rfl⟩
    · have hs' : (s == 0) = false := by simp [hs]
      have hk' : (h == 0) = false := by simp [hk]
      clear hh hs hk
      go_enter Tryd.func17, Tryd.ntmps17
      go_wp2_with (go_at_call 11; refine (check_any _ _ _ _ _ _).mono ?_; rintro e w' ⟨rfl, rfl⟩)
      refine bodyPost_ret (v := .tuple #[.agg #[.int .i64 n, .int .i64 s, .int .i64 h, .int .i64 a, .int .i64 b], .int .i64 0]) (by simp [results, Tryd.results17, go_sem]) rfl ⟨rfl, ?_⟩
      repeat (first | refine Below.setCell ?_ (by simp) _ | refine andAlloc ?_ _)
      exact Below.refl _ _
    · have hs' : (s == 0) = false := by simp [hs]
      have hk' : (h == 0) = false := by simp [hk]
      clear hh hs hk
      go_enter Tryd.func17, Tryd.ntmps17
      go_wp2_with (go_at_call 11; refine (check_any _ _ _ _ _ _).mono ?_; rintro e w' ⟨rfl, rfl⟩)
      refine bodyPost_ret (v := .tuple #[.agg #[.int .i64 0, .int .i64 0, .int .i64 0, .int .i64 0, .int .i64 0], .int .i64 20]) (by simp [results, Tryd.results17, go_sem]) rfl ⟨rfl, ?_⟩
      repeat (first | refine Below.setCell ?_ (by simp) _ | refine andAlloc ?_ _)
      exact Below.refl _ _
end Go.Proofs.YtdjpfhmhcocfeaaDoor.Gl
