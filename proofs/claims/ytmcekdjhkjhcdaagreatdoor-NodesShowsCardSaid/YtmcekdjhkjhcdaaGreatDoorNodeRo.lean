import Derived.Test.YtmcekdjhkjhcdaaGreatDoorNodeE
/- The contract of the document's Opens. Conditions: those that each theorem names. -/
namespace Go.Proofs.YtmcekdjhkjhcdaaGreatDoor.No
open Go.ChangeShapes Go.WideShapes Go.ChangeAt Go.RowKit
open Me Np
set_option linter.unusedVariables false
set_option linter.unusedSimpArgs false

theorem ropens_any (n : Nd) (w : World) : Calls Tryz.prog 31 #[.agg (nc n)] w fun e w' => e = .returned (.bool (opensB n)) ∧ w.alloc (.cells (nc n) 36) = w' := by
  go_enter Tryz.func31, Tryz.ntmps31
  go_wp2_with fail
  all_goals (go_ret; exact ⟨ret_bool (by simp_all [opensB]), rfl⟩)
end Go.Proofs.YtmcekdjhkjhcdaaGreatDoor.No
