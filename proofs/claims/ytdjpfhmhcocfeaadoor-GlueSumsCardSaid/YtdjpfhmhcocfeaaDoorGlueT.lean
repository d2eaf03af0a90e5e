import Derived.Test.YtdjpfhmhcocfeaaDoorGlueS
/- Contracts of glue.Plus, Times, Over. Conditions: those that each theorem names. -/
namespace Go.Proofs.YtdjpfhmhcocfeaaDoor.Gl
open Go.ChangeShapes Go.WideShapes Go.ChangeAt Go.RowKit
open Me
set_option linter.unusedVariables false

theorem tidy_calls {n s h a b : Int} {r : G} {E : Int} (hh : tidyG ⟨n, s, h, a, b⟩ = (r, E)) {rn rs rh ra rb : Int} (hr : r = ⟨rn, rs, rh, ra, rb⟩) : ∀ w : World,
    Calls Tryd.prog 17 #[.agg #[.int .i64 n, .int .i64 s, .int .i64 h, .int .i64 a, .int .i64 b]] w fun e w' =>
      e = .returned (.tuple #[.agg #[.int .i64 rn, .int .i64 rs, .int .i64 rh, .int .i64 ra, .int .i64 rb], .int .i64 E]) ∧ Below w.heap.size w w' := by
  intro w
  subst hr
  exact tidy_any n s h a b _ E hh w

theorem plus_any (n1 s1 h1 a1 b1 n2 s2 h2 a2 b2 rn rs rh ra rb : Int) (E : Int) (hh : plusG ⟨n1, s1, h1, a1, b1⟩ ⟨n2, s2, h2, a2, b2⟩ = (⟨rn, rs, rh, ra, rb⟩, E)) (w : World) :
    Calls Tryd.prog 4 #[.agg #[.int .i64 n1, .int .i64 s1, .int .i64 h1, .int .i64 a1, .int .i64 b1], .agg #[.int .i64 n2, .int .i64 s2, .int .i64 h2, .int .i64 a2, .int .i64 b2]] w fun e w' =>
      e = .returned (.tuple #[.agg #[.int .i64 rn, .int .i64 rs, .int .i64 rh, .int .i64 ra, .int .i64 rb], .int .i64 E]) ∧ Below w.heap.size w w' := by
  unfold plusG at hh
  cases g1 : glueB n1 s1 h1 a1 b1
  · rw [if_neg (by simp [G.ok, g1])] at hh
    have hc1 : (chk n1 s1 h1 a1 b1 != 0) = true := by rw [chk_no g1]; rfl
    simp only [zeroG, Prod.mk.injEq, G.mk.injEq] at hh
    obtain ⟨⟨rfl, rfl, rfl, rfl, rfl⟩, rfl⟩ := hh
    clear g1
    go_enter Tryd.func4, Tryd.ntmps4
    go_wp2_with (go_at_call 11; refine (check_any _ _ _ _ _ _).mono ?_; rintro e w' ⟨rfl, rfl⟩)
    refine bodyPost_ret (v := .tuple #[.agg #[.int .i64 0, .int .i64 0, .int .i64 0, .int .i64 0, .int .i64 0], .int .i64 30]) (by simp [results, Tryd.results4, go_sem]) rfl ⟨rfl, ?_⟩
    repeat (first | refine Below.setCell ?_ (by simp) _ | refine andAlloc ?_ _ )
    exact Below.refl _ _
  · cases g2 : glueB n2 s2 h2 a2 b2
    · rw [if_neg (by simp [G.ok, g2])] at hh
      have hc1 : (chk n1 s1 h1 a1 b1 != 0) = false := by rw [chk_yes g1]; rfl
      have hc2 : (chk n2 s2 h2 a2 b2 != 0) = true := by rw [chk_no g2]; rfl
      simp only [zeroG, Prod.mk.injEq, G.mk.injEq] at hh
      obtain ⟨⟨rfl, rfl, rfl, rfl, rfl⟩, rfl⟩ := hh
      clear g1 g2
      go_enter Tryd.func4, Tryd.ntmps4
      go_wp2_with (go_at_call 11; refine (check_any _ _ _ _ _ _).mono ?_; rintro e w' ⟨rfl, rfl⟩)
      refine bodyPost_ret (v := .tuple #[.agg #[.int .i64 0, .int .i64 0, .int .i64 0, .int .i64 0, .int .i64 0], .int .i64 30]) (by simp [results, Tryd.results4, go_sem]) rfl ⟨rfl, ?_⟩
      repeat (first | refine Below.setCell ?_ (by simp) _ | refine andAlloc ?_ _ )
      exact Below.refl _ _
    · rw [if_pos ⟨by simp [G.ok, g1], by simp [G.ok, g2]⟩] at hh
      have hc1 : (chk n1 s1 h1 a1 b1 != 0) = false := by rw [chk_yes g1]; rfl
      have hc2 : (chk n2 s2 h2 a2 b2 != 0) = false := by rw [chk_yes g2]; rfl
      obtain ⟨⟨x0, x1⟩, ⟨x2, x3⟩, ⟨x4, x5⟩, -, -⟩ := glueB_iff.1 g1
      obtain ⟨⟨y0, y1⟩, ⟨y2, y3⟩, ⟨y4, y5⟩, -, -⟩ := glueB_iff.1 g2
      have j1 := fun w => joined_any s1 a1 s2 a2 w (by omega) (by omega)
      have j2 := fun w => joined_any h1 b1 h2 b2 w (by omega) (by omega)
      simp only [rawPlus] at hh
      generalize (joinI s1 a1 s2 a2).1 = p at hh j1
      generalize (joinI s1 a1 s2 a2).2 = q at hh j1
      generalize (joinI h1 b1 h2 b2).1 = u at hh j2
      generalize (joinI h1 b1 h2 b2).2 = v at hh j2
      have ht := tidy_calls hh rfl
      have J1 := Lib.hid j1
      have J2 := Lib.hid j2
      have HT := Lib.hid ht
      clear g1 g2 hh j1 j2 ht
      go_enter Tryd.func4, Tryd.ntmps4
      go_wp2_with (go_at_call 11; refine (check_any _ _ _ _ _ _).mono ?_; rintro e w' ⟨rfl, rfl⟩)
      refine (J1.out _).mono ?_
      rintro e w' ⟨rfl, rfl⟩
      go_wp2_with fail
      refine (J2.out _).mono ?_
      rintro e w' ⟨rfl, rfl⟩
      go_wp2_with fail
      refine (HT.out _).mono ?_
      rintro e w3 ⟨rfl, hb3⟩
      obtain ⟨ho, hf⟩ := old_cells hb3
      go_wp2_with fail
      refine bodyPost_ret (v := .tuple #[.agg #[.int .i64 rn, .int .i64 rs, .int .i64 rh, .int .i64 ra, .int .i64 rb], .int .i64 E]) (by simp [results, Tryd.results4, go_sem, ho]) rfl ⟨rfl, ?_⟩
      iterate 5 refine Below.setCell ?_ (by first | (simp; done) | (simp; omega)) _
      refine andThen ?_ hb3
      repeat (first | refine Below.setCell ?_ (by simp) _ | refine andAlloc ?_ _ )
      exact Below.refl _ _
end Go.Proofs.YtdjpfhmhcocfeaaDoor.Gl
