import Derived.Test.YtpnlhphpmkfckaaDoorScR2
import Derived.Test.YtpnlhphpmkfckaaDoorScR3
import Derived.Test.YtpnlhphpmkfckaaDoorScP
/- The walk of ScaledPrints. Conditions: those that each theorem names. -/
namespace Go.Proofs.YtpnlhphpmkfckaaDoor.Ss
open Go.ChangeShapes Go.WideShapes Go.ChangeAt Go.RowKit
open Me Sc
set_option linter.unusedVariables false
set_option linter.unusedSimpArgs false

set_option maxHeartbeats 1000000 in
set_option maxRecDepth 100000 in
theorem prints_walk (s n : Int) (w : World) (htab : Tab w) : Calls Tryd.prog 10 #[.int .i64 s, .int .i64 n] w fun e w' => e = .returned (.bool true) ∧ Below w.heap.size w w' := by
  have HTAB := Lib.hid htab
  clear htab
  go_enter Tryd.func10, Tryd.ntmps10
  go_wp2_with fail
  refine (print_any s _ HTAB.out).mono ?_
  rintro e w1 ⟨rfl, hl1⟩
  go_wp2_with fail
  refine (refPrint s _).mono ?_
  rintro e w2 ⟨rfl, hb2⟩
  have hl2 := andThen hl1 hb2
  clear hl1 hb2
  generalize prS s = q1
  go_wp2_with fail
  refine (roman_any n _).mono ?_
  rintro e w3 ⟨rfl, hb3⟩
  have hl3 := andThen hl2 hb3
  clear hl2 hb3
  go_wp2_with fail
  refine (refRoman n _).mono ?_
  rintro e w' ⟨rfl, rfl⟩
  generalize roS n = q2
  go_wp2_with fail
  refine (knows_any _ (HTAB.out.below hl3)).mono ?_
  rintro e wk ⟨rfl, hbk⟩
  go_wp2_with fail
  go_ret
  exact ⟨rfl, andThen hl3 hbk⟩
end Go.Proofs.YtpnlhphpmkfckaaDoor.Ss
