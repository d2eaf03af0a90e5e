import Derived.Test.YtpnlhphpmkfckaaDoorScP
/- The walk of ScaledTexts (printed by gen_scv.py). Conditions: those that each theorem names. -/
namespace Go.Proofs.YtpnlhphpmkfckaaDoor.Ss
open Go.ChangeShapes Go.WideShapes Go.ChangeAt Go.RowKit
open Me Sc
set_option linter.unusedVariables false
set_option linter.unusedSimpArgs false

set_option maxHeartbeats 1000000 in
set_option maxRecDepth 100000 in
theorem texts_walk (s : ByteArray) (w : World) (htab : Tab w) (hs : s.size ≤ 140737488355328) : Calls Tryd.prog 7 #[.string s] w fun e w' => e = .returned (.bool true) ∧ Below w.heap.size w w' := by
  have HTAB := Lib.hid htab
  clear htab
  go_enter Tryd.func7, Tryd.ntmps7
  go_wp2_with fail
  refine (Decimals_any s _ hs).mono ?_
  rintro e w1 ⟨rfl, hb1⟩
  have hl1 := hb1
  clear hb1
  go_wp2_with fail
  refine (Parse_any s _ hs).mono ?_
  rintro e w2 ⟨rfl, hb2⟩
  have hl2 := andThen hl1 hb2
  clear hl1 hb2
  go_wp2_with fail
  refine (Dimen_any s _ hs).mono ?_
  rintro e w3 ⟨rfl, hb3⟩
  have hl3 := andThen hl2 hb3
  clear hl2 hb3
  go_wp2_with fail
  refine (refDecimals s _ hs).mono ?_
  rintro e w' ⟨rfl, rfl⟩
  go_wp2_with fail
  refine (refParse s _ hs).mono ?_
  rintro e w' ⟨rfl, rfl⟩
  go_wp2_with fail
  refine (refDimen s _ hs).mono ?_
  rintro e w' ⟨rfl, rfl⟩
  generalize dcvT s = g0
  generalize dceT s = g1
  generalize paT s = g2
  generalize peT s = g3
  generalize diT s = g4
  generalize deT s = g5
  go_wp2_with (go_at_call 16; refine (num_any _ _).mono ?_; rintro e w' ⟨rfl, rfl⟩)
  refine (knows_any _ (HTAB.out.below hl3)).mono ?_
  rintro e wk ⟨rfl, hbk⟩
  go_wp2_with fail
  go_ret
  exact ⟨rfl, andThen hl3 hbk⟩
end Go.Proofs.YtpnlhphpmkfckaaDoor.Ss
