import Derived.Test.YtpnlhphpmkfckaaDoorScN
import Derived.Test.YtpnlhphpmkfckaaDoorScL
/- The law's own num and knows; the walks of ScaledSums, ScaledParts, ScaledTexts. Conditions: those that each theorem names. -/
namespace Go.Proofs.YtpnlhphpmkfckaaDoor.Ss
open Go.ChangeShapes Go.WideShapes Go.ChangeAt Go.RowKit
open Me Sc
set_option linter.unusedVariables false
set_option linter.unusedSimpArgs false

theorem num_any (x : Int) (w : World) : Calls Tryd.prog 16 #[.int .i64 x] w fun e w' => e = .returned (.int .i64 x) ∧ w = w' := by
  go_enter Tryd.func16, Tryd.ntmps16
  go_wp2
  go_ret
  exact ⟨rfl, rfl⟩
theorem kn_print : prS 65536 = ⟨#[49, 46, 48]⟩ := by
  have h : Lib.decDigits 1 = [49] := by rw [Lib.decDigits, dif_pos (by decide)]; rfl
  have e := prS_pos (n := 65536) (by decide)
  rw [show ((65536 : Nat) : Int) = 65536 from rfl] at e
  rw [e]
  unfold prA
  rw [show 65536 / 65536 = 1 from rfl, h]
  rfl
theorem kn_over : ovQ (-7) 2 = -3 ∧ ovR (-7) 2 = -1 ∧ ovE (-7) 2 = 0 := by decide
theorem kn_parse : paT ⟨#[49, 46, 53]⟩ = 98304 ∧ peT ⟨#[49, 46, 53]⟩ = 0 := by decide
set_option maxHeartbeats 1000000 in
set_option maxRecDepth 100000 in
theorem knows_any (w : World) (htab : Tab w) : Calls Tryd.prog 17 #[] w fun e w' => e = .returned (.bool true) ∧ Below w.heap.size w w' := by
  have HTAB := Lib.hid htab
  clear htab
  go_enter Tryd.func17, Tryd.ntmps17
  go_wp2_with fail
  have ho := over_any (-7) 2 w
  rw [kn_over.1, kn_over.2.1, kn_over.2.2] at ho
  refine ho.mono ?_
  clear ho
  rintro e w1 ⟨rfl, hb1⟩
  go_wp2_with fail
  have hp := Parse_any ⟨#[49, 46, 53]⟩ w1 (by decide)
  rw [kn_parse.1, kn_parse.2] at hp
  refine hp.mono ?_
  clear hp
  rintro e w2 ⟨rfl, hb2⟩
  have hl2 := andThen hb1 hb2
  go_wp2_with (first | (go_at_call 16; refine (num_any _ _).mono ?_; rintro e w' ⟨rfl, rfl⟩))
  have hq := print_any 65536 w2 (HTAB.out.below hl2)
  rw [kn_print] at hq
  refine hq.mono ?_
  clear hq
  rintro e w3 ⟨rfl, hb3⟩
  go_wp2_with fail
  go_ret
  exact ⟨rfl, andThen hl2 hb3⟩
end Go.Proofs.YtpnlhphpmkfckaaDoor.Ss
