import Derived.Test.YtpnlhphpmkfckaaDoorScP
/- The walks of ScaledSums, ScaledParts (printed by gen_scw.py). Conditions: those that each theorem names. -/
namespace Go.Proofs.YtpnlhphpmkfckaaDoor.Ss
open Go.ChangeShapes Go.WideShapes Go.ChangeAt Go.RowKit
open Me Sc
set_option linter.unusedVariables false
set_option linter.unusedSimpArgs false

set_option maxHeartbeats 1000000 in
set_option maxRecDepth 100000 in
theorem sums_walk (x y n d : Int) (w : World) (htab : Tab w) : Calls Tryd.prog 5 #[.int .i64 x, .int .i64 y, .int .i64 n, .int .i64 d] w fun e w' => e = .returned (.bool true) ∧ Below w.heap.size w w' := by
  have HTAB := Lib.hid htab
  clear htab
  go_enter Tryd.func5, Tryd.ntmps5
  go_wp2_with fail
  refine (add_any x y _).mono ?_
  rintro e w1 ⟨rfl, hb1⟩
  have hl1 := hb1
  clear hb1
  go_wp2_with fail
  refine (times_any n x y _).mono ?_
  rintro e w2 ⟨rfl, hb2⟩
  have hl2 := andThen hl1 hb2
  clear hl1 hb2
  go_wp2_with fail
  refine (over_any x n _).mono ?_
  rintro e w3 ⟨rfl, hb3⟩
  have hl3 := andThen hl2 hb3
  clear hl2 hb3
  go_wp2_with fail
  refine (frac_any x n d _).mono ?_
  rintro e w4 ⟨rfl, hb4⟩
  have hl4 := andThen hl3 hb4
  clear hl3 hb4
  go_wp2_with fail
  refine (refAdd x y _).mono ?_
  rintro e w5 ⟨rfl, hb5⟩
  have hl5 := andThen hl4 hb5
  clear hl4 hb5
  go_wp2_with fail
  refine (refTimes n x y _).mono ?_
  rintro e w6 ⟨rfl, hb6⟩
  have hl6 := andThen hl5 hb6
  clear hl5 hb6
  go_wp2_with fail
  refine (refOver x n _).mono ?_
  rintro e w7 ⟨rfl, hb7⟩
  have hl7 := andThen hl6 hb7
  clear hl6 hb7
  go_wp2_with fail
  refine (refFrac x n d _).mono ?_
  rintro e w8 ⟨rfl, hb8⟩
  have hl8 := andThen hl7 hb8
  clear hl7 hb8
  generalize addV x y = g0
  generalize addE x y = g1
  generalize timV n x y = g2
  generalize timE n x y = g3
  generalize ovQ x n = g4
  generalize ovR x n = g5
  generalize ovE x n = g6
  generalize frQ x n d = g7
  generalize frR x n d = g8
  generalize frE x n d = g9
  go_wp2_with (go_at_call 16; refine (num_any _ _).mono ?_; rintro e w' ⟨rfl, rfl⟩)
  refine (knows_any _ (HTAB.out.below hl8)).mono ?_
  rintro e wk ⟨rfl, hbk⟩
  go_wp2_with fail
  go_ret
  exact ⟨rfl, andThen hl8 hbk⟩
set_option maxHeartbeats 1000000 in
set_option maxRecDepth 100000 in
theorem parts_walk (x n d : Int) (w : World) (htab : Tab w) : Calls Tryd.prog 9 #[.int .i64 x, .int .i64 n, .int .i64 d] w fun e w' => e = .returned (.bool true) ∧ Below w.heap.size w w' := by
  have HTAB := Lib.hid htab
  clear htab
  go_enter Tryd.func9, Tryd.ntmps9
  go_wp2_with fail
  refine (part_any x n d _).mono ?_
  rintro e w1 ⟨rfl, hb1⟩
  have hl1 := hb1
  clear hb1
  go_wp2_with fail
  refine (bad_any x n _).mono ?_
  rintro e w2 ⟨rfl, hb2⟩
  have hl2 := andThen hl1 hb2
  clear hl1 hb2
  go_wp2_with fail
  refine (refPart x n d _).mono ?_
  rintro e w3 ⟨rfl, hb3⟩
  have hl3 := andThen hl2 hb3
  clear hl2 hb3
  go_wp2_with fail
  refine (refBad x n _).mono ?_
  rintro e w4 ⟨rfl, hb4⟩
  have hl4 := andThen hl3 hb4
  clear hl3 hb4
  generalize paV x n d = g0
  generalize paE x n d = g1
  generalize bdV x n = g2
  generalize bdE x n = g3
  go_wp2_with (go_at_call 16; refine (num_any _ _).mono ?_; rintro e w' ⟨rfl, rfl⟩)
  refine (knows_any _ (HTAB.out.below hl4)).mono ?_
  rintro e wk ⟨rfl, hbk⟩
  go_wp2_with fail
  go_ret
  exact ⟨rfl, andThen hl4 hbk⟩
end Go.Proofs.YtpnlhphpmkfckaaDoor.Ss
