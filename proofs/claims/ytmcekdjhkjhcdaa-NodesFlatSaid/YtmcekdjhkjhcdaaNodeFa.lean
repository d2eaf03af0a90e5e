import Derived.Test.YtmcekdjhkjhcdaaNodeGc
import Derived.Test.YtmcekdjhkjhcdaaNodeWr
import Derived.Test.YtmcekdjhkjhcdaaNodeKw
import Derived.Test.YtmcekdjhkjhcdaaNodeSm
/- NodesFlat's walk, where the list is none: the document says so too. Conditions: those that each theorem names. -/
namespace Go.Proofs.Ytmcekdjhkjhcdaa.No
open Go.ChangeShapes Go.WideShapes Go.ChangeAt Go.RowKit
open Me Np
set_option linter.unusedVariables false
set_option linter.unusedSimpArgs false

set_option maxHeartbeats 2000000 in
set_option maxRecDepth 100000 in
theorem flat_bad (A : Option Addr) (ns : List Nd) (c : Nat) (w : World) (hl : ns.length ≤ 9223372036854775806) (hseg : Seg w w.heap.size A (ns.flatMap ncs)) (h0 : ¬ chk ns = 0) :
    Calls Try.prog 7 #[.slice A ns.length c] w fun e w' => e = .returned (.bool true) ∧ Below w.heap.size w w' := by
  have HC := Lib.hid fun w1 (h : Below w.heap.size w w1) => check_any A ns c w1 (by omega) (Seg.belowW hseg h)
  have HD := Lib.hid fun w1 (h : Below w.heap.size w w1) => rcheckl_any A ns c w1 (by omega) (Seg.belowW hseg h)
  have e0 : (chk ns != 0) = true := by simp [h0]
  clear h0 hseg
  generalize chk ns = v at *
  generalize ns.length = len at *
  go_enter Try.func7, Try.ntmps7
  go_wp2_with fail
  refine (HC.out _ (Below.refl _ _)).mono ?_
  rintro e w1 ⟨rfl, hb1⟩
  go_wp2_with (go_at_call 15; refine (num_any _ _).mono ?_; rintro e w' ⟨rfl, rfl⟩)
  refine (HC.out _ hb1).mono ?_
  rintro e w2 ⟨rfl, hb2⟩
  have hb12 := andThen hb1 hb2
  go_wp2_with (go_at_call 15; refine (num_any _ _).mono ?_; rintro e w' ⟨rfl, rfl⟩)
  refine (HD.out _ hb12).mono ?_
  rintro e w3 ⟨rfl, hb3⟩
  have hb13 := andThen hb12 hb3
  go_wp2_with fail
  refine (knows_any _).mono ?_
  rintro e w4 ⟨rfl, hb4⟩
  have hb14 := andThen hb13 hb4
  go_wp2_with fail
  go_ret
  exact ⟨ret_bool (by simp), hb14⟩
end Go.Proofs.Ytmcekdjhkjhcdaa.No
