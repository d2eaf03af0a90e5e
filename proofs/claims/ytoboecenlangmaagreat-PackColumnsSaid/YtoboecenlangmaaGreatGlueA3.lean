import Derived.Test.YtoboecenlangmaaGreatGlueA0
/- The contracts of the document's within and Share. Conditions: those that each theorem names. -/
namespace Go.Proofs.YtoboecenlangmaaGreat.Gl
open Go.ChangeShapes Go.WideShapes Go.ChangeAt Go.RowKit

theorem within_any (x : Int) (w : World) :
    Calls Tryz.prog 163 #[.int .i64 x] w fun e w' => e = .returned (.bool (nearB x)) ∧ w = w' := by
  by_cases h0 : -70368744177664 ≤ x
  · by_cases h1 : x ≤ 70368744177664
    · go_enter Tryz.func163, Tryz.ntmps163
      go_wp2
      go_ret
      exact ⟨ret_bool (nearB_yes h0 h1).symm, rfl⟩
    · go_enter Tryz.func163, Tryz.ntmps163
      go_wp2
      go_ret
      exact ⟨ret_bool (nearB_no (by omega)).symm, rfl⟩
  · go_enter Tryz.func163, Tryz.ntmps163
    go_wp2
    go_ret
    exact ⟨ret_bool (nearB_no (by omega)).symm, rfl⟩
end Go.Proofs.YtoboecenlangmaaGreat.Gl
