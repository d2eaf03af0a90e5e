import Derived.Test.YtmcekdjhkjhcdaaGreatDoorScAf
/- The contracts of far, of the document's Far (printed by gen_sca.py). Conditions: those that each theorem names. -/
namespace Go.Proofs.YtmcekdjhkjhcdaaGreatDoor.Ss
open Go.ChangeShapes Go.WideShapes Go.ChangeAt Go.RowKit
open Me Sc
set_option linter.unusedVariables false
set_option linter.unusedSimpArgs false

theorem refFar (x : Int) (w : World) : Calls Tryz.prog 80 #[.int .i64 x] w fun e w' => e = .returned (.bool (farB x)) ∧ w = w' := by
  by_cases h0 : x < -2147483647
  · go_enter Tryz.func80, Tryz.ntmps80
    go_wp2
    go_ret
    exact ⟨ret_bool (decide_eq_true (.inl h0)).symm, rfl⟩
  · by_cases h1 : 2147483647 < x
    · go_enter Tryz.func80, Tryz.ntmps80
      go_wp2
      go_ret
      exact ⟨ret_bool (decide_eq_true (.inr h1)).symm, rfl⟩
    · go_enter Tryz.func80, Tryz.ntmps80
      go_wp2
      go_ret
      exact ⟨ret_bool (decide_eq_false (by omega)).symm, rfl⟩
end Go.Proofs.YtmcekdjhkjhcdaaGreatDoor.Ss
