import Derived.Test.YtoboecenlangmaaGreatNodeTe
/- The contract of Totals, where the list is none. Conditions: those that each theorem names. -/
namespace Go.Proofs.YtoboecenlangmaaGreat.No
open Go.ChangeShapes Go.WideShapes Go.ChangeAt Go.RowKit
open Me Np
set_option linter.unusedVariables false
set_option linter.unusedSimpArgs false

set_option maxHeartbeats 1000000 in
set_option maxRecDepth 100000 in
theorem totals_bad (A : Option Addr) (ns : List Nd) (c : Nat) (down : Bool) (w : World) (hl : ns.length ≤ 9223372036854775806) (hseg : Seg w w.heap.size A (ns.flatMap ncs)) (hc : ¬ chk ns = 0) :
    Calls Tryz.prog 44 #[.slice A ns.length c, .bool down] w fun e w' => e = .returned (.tuple #[.agg (tc tz), .int .i64 (chk ns)]) ∧ Below w.heap.size w w' := by
  have HC := Lib.hid fun w1 (h : Below w.heap.size w w1) => check_any A ns c w1 (by omega) (Seg.belowW hseg h)
  have e0 : (chk ns != 0) = true := by simp [hc]
  clear hseg hc
  generalize chk ns = v at *
  generalize ns.length = len at *
  go_enter Tryz.func44, Tryz.ntmps44
  go_wp2_with fail
  refine (HC.out _ (andAlloc (Below.refl _ _) _)).mono ?_
  rintro e w1 ⟨rfl, hb1⟩
  have hr1 : Blk w1 w.heap.size 109 (tc tz) := Blk.below (Blk.new' rfl) hb1 (by simp)
  have HL1 := Lib.hid (andThen (andAlloc (Below.refl _ _) _) hb1 : Below w.heap.size w w1)
  clear hb1
  go_wp2_with (first | (refine wpList_store_row (o := ⟨none, .store _ (.tmp 4) _, _, _, _, _⟩) rfl 109 _ _ rfl w.heap.size (tc tz) rfl rfl 109 (tc tz) hr1 tot_info rfl (tc_one _) ?_))
  exact bodyPost_ret (v := .tuple #[.agg (tc tz), .int .i64 v]) (results_cell_tmp rfl _ _ w.heap.size 109 (tc tz) (0, 0) _ _ rfl rfl (Blk.row hr1 _) Tryz.underlying109 rfl tot_info) rfl ⟨rfl, below_setRow HL1.out _ _ (Nat.le_refl _)⟩
end Go.Proofs.YtoboecenlangmaaGreat.No
