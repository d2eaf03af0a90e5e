import Derived.Test.YtoboecenlangmaaFitW
/- glue.Fit where all is near. Conditions: those that each theorem names. -/
namespace Go.Proofs.Ytoboecenlangmaa.Gl
open Go.ChangeShapes Go.WideShapes Go.ChangeAt Go.RowKit
open Me
set_option linter.unusedVariables false
set_option linter.unusedSimpArgs false

theorem fit_all (n a b c d p q r s ex : Int) (w : World) (e0 : nearB ex = true) (e1 : nearB a = true) (e2 : nearB p = true) (e3 : nearB b = true) (e4 : nearB q = true) (e5 : nearB c = true) (e6 : nearB r = true) (e7 : nearB d = true) (e8 : nearB s = true) : Calls Try.prog 74 #[.agg #[.int .i64 n, .int .i64 a, .int .i64 b, .int .i64 c, .int .i64 d, .int .i64 p, .int .i64 q, .int .i64 r, .int .i64 s], .int .i64 ex] w fun e w' => e = .returned (.tuple #[.int .i64 (fit a b c d p q r s ex).1, .int .i64 (fit a b c d p q r s ex).2.1, .int .i64 (fit a b c d p q r s ex).2.2.1, .int .i64 (fit a b c d p q r s ex).2.2.2, .int .i64 0]) ∧ Below w.heap.size w w' := by
  have hx0 : -70368744177664 ≤ ex := by simp [nearB] at e0; omega
  rcases Int.lt_trichotomy 0 ex with hx | hx | hx
  · rcases great_cases a b c d with ⟨hg, h⟩ | ⟨hg, h⟩ | ⟨hg, h⟩ | ⟨hg, h⟩ | ⟨hg, h⟩
    · exact fit_upm n a b c d p q r s ex w e0 e1 e2 e3 e4 e5 e6 e7 e8 hx0 hx hg
    · exact fit_up0 n a b c d p q r s ex w e0 e1 e2 e3 e4 e5 e6 e7 e8 hx0 hx hg
    · exact fit_up1 n a b c d p q r s ex w e0 e1 e2 e3 e4 e5 e6 e7 e8 hx0 hx hg
    · exact fit_up2 n a b c d p q r s ex w e0 e1 e2 e3 e4 e5 e6 e7 e8 hx0 hx hg
    · exact fit_up3 n a b c d p q r s ex w e0 e1 e2 e3 e4 e5 e6 e7 e8 hx0 hx hg
  · subst hx
    refine (fit_zero n a b c d p q r s w e0 e1 e2 e3 e4 e5 e6 e7 e8).mono ?_
    rintro e w' ⟨rfl, hb⟩
    exact ⟨rfl, hb⟩
  · rcases great_cases p q r s with ⟨hg, h⟩ | ⟨hg, h⟩ | ⟨hg, h⟩ | ⟨hg, h⟩ | ⟨hg, h⟩
    · exact fit_downm n a b c d p q r s ex w e0 e1 e2 e3 e4 e5 e6 e7 e8 hx0 hx hg
    · exact fit_down0 n a b c d p q r s ex w e0 e1 e2 e3 e4 e5 e6 e7 e8 hx0 hx hg
    · exact fit_down1 n a b c d p q r s ex w e0 e1 e2 e3 e4 e5 e6 e7 e8 hx0 hx hg
    · exact fit_down2 n a b c d p q r s ex w e0 e1 e2 e3 e4 e5 e6 e7 e8 hx0 hx hg
    · exact fit_down3 n a b c d p q r s ex w e0 e1 e2 e3 e4 e5 e6 e7 e8 hx0 hx hg
end Go.Proofs.Ytoboecenlangmaa.Gl
