/-
  DERIVED. GIVEN WITH THE SEED: THE CARDS: each row of YtpnlhphpmkfckaaDoorRows.lean that lists a variable, with what it lists TIED to the program's text (the seventh form; the later family's looks); each row that meets fmt, with fmt's text TOLD by the authors' own Lean function (tested against real Go, not proved from fmt's source: count such statements apart). THE CARD IS WHAT COUNTS. Prove the row's statement (the work); the ties are given (YtpnlhphpmkfckaaDoorTie.lean); close each card by the builder's one call (the guide's Derived/Test/ToyasCard.lean, 'card_holds'). Laid BY PROGRAM, IN A SANDBOX (cutbox-door.mjs). By AI agents, Wed Nov 11 2026. No macro, syntax, notation, axiom, sorry.
-/
import Derived.Test.YtpnlhphpmkfckaaDoorRows
import GoSem.ClaimSeven
namespace Go.Proofs.YtpnlhphpmkfckaaDoor
namespace Rows

/-- THE TIED CARD OF 'galleylaw01.ScaledKnuth'. -/
def scaledKnuthCard : Claim7 := { stood := { row := scaledKnuthRow, standIns := [], harness := (true, "5a8079a5cda5598853c8afb89fc0f05c2fa5e5af7db8ea6a33bf17570e5cc32b"), looks := false }, kinds := [], alts := [], laidByText := true, laidKinds := [.data, .data, .data], laidTests := true, laidLooks := .later }
def ScaledKnuthCardSaid : Prop := Claim7.holds Tryd.pinned (.plain (OpenSpec.ofChange scaledKnuthSpec)) scaledKnuthCard

/-- THE TIED CARD OF 'galleylaw01.ScaledBadness'. -/
def scaledBadnessCard : Claim7 := { stood := { row := scaledBadnessRow, standIns := [], harness := (true, "5a8079a5cda5598853c8afb89fc0f05c2fa5e5af7db8ea6a33bf17570e5cc32b"), looks := false }, kinds := [], alts := [], laidByText := true, laidKinds := [.data, .data, .data], laidTests := true, laidLooks := .later }
def ScaledBadnessCardSaid : Prop := Claim7.holds Tryd.pinned (.plain (OpenSpec.ofChange scaledBadnessSpec)) scaledBadnessCard

/-- THE TIED CARD OF 'galleylaw01.ScaledSums'. -/
def scaledSumsCard : Claim7 := { stood := { row := scaledSumsRow, standIns := [], harness := (true, "5a8079a5cda5598853c8afb89fc0f05c2fa5e5af7db8ea6a33bf17570e5cc32b"), looks := false }, kinds := [], alts := [], laidByText := true, laidKinds := [.data, .data, .data], laidTests := true, laidLooks := .later }
def ScaledSumsCardSaid : Prop := Claim7.holds Tryd.pinned (.plain (OpenSpec.ofChange scaledSumsSpec)) scaledSumsCard

/-- THE TIED CARD OF 'galleylaw01.ScaledUnits'. -/
def scaledUnitsCard : Claim7 := { stood := { row := scaledUnitsRow, standIns := [], harness := (true, "5a8079a5cda5598853c8afb89fc0f05c2fa5e5af7db8ea6a33bf17570e5cc32b"), looks := false }, kinds := [], alts := [], laidByText := true, laidKinds := [.data, .data, .data], laidTests := true, laidLooks := .later }
def ScaledUnitsCardSaid : Prop := Claim7.holds Tryd.pinned (.plain (OpenSpec.ofChange scaledUnitsSpec)) scaledUnitsCard

/-- THE TIED CARD OF 'galleylaw01.ScaledTexts'. -/
def scaledTextsCard : Claim7 := { stood := { row := scaledTextsRow, standIns := [], harness := (true, "5a8079a5cda5598853c8afb89fc0f05c2fa5e5af7db8ea6a33bf17570e5cc32b"), looks := false }, kinds := [], alts := [], laidByText := true, laidKinds := [.data, .data, .data], laidTests := true, laidLooks := .later }
def ScaledTextsCardSaid : Prop := Claim7.holds Tryd.pinned (.plain (OpenSpec.ofChange scaledTextsSpec)) scaledTextsCard

/-- THE TIED CARD OF 'galleylaw01.ScaledExact'. -/
def scaledExactCard : Claim7 := { stood := { row := scaledExactRow, standIns := [], harness := (true, "5a8079a5cda5598853c8afb89fc0f05c2fa5e5af7db8ea6a33bf17570e5cc32b"), looks := false }, kinds := [], alts := [], laidByText := true, laidKinds := [.data, .data, .data], laidTests := true, laidLooks := .later }
def ScaledExactCardSaid : Prop := Claim7.holds Tryd.pinned (.plain (OpenSpec.ofChange scaledExactSpec)) scaledExactCard

/-- THE TIED CARD OF 'galleylaw01.ScaledParts'. -/
def scaledPartsCard : Claim7 := { stood := { row := scaledPartsRow, standIns := [], harness := (true, "5a8079a5cda5598853c8afb89fc0f05c2fa5e5af7db8ea6a33bf17570e5cc32b"), looks := false }, kinds := [], alts := [], laidByText := true, laidKinds := [.data, .data, .data], laidTests := true, laidLooks := .later }
def ScaledPartsCardSaid : Prop := Claim7.holds Tryd.pinned (.plain (OpenSpec.ofChange scaledPartsSpec)) scaledPartsCard

/-- THE TIED CARD OF 'galleylaw01.ScaledPrints'. -/
def scaledPrintsCard : Claim7 := { stood := { row := scaledPrintsRow, standIns := [], harness := (true, "5a8079a5cda5598853c8afb89fc0f05c2fa5e5af7db8ea6a33bf17570e5cc32b"), looks := false }, kinds := [], alts := [], laidByText := true, laidKinds := [.data, .data, .data], laidTests := true, laidLooks := .later }
def ScaledPrintsCardSaid : Prop := Claim7.holds Tryd.pinned (.plain (OpenSpec.ofChange scaledPrintsSpec)) scaledPrintsCard

/-- THE TIED CARD OF 'galleylaw01.ScaledRoman'. -/
def scaledRomanCard : Claim7 := { stood := { row := scaledRomanRow, standIns := [], harness := (true, "5a8079a5cda5598853c8afb89fc0f05c2fa5e5af7db8ea6a33bf17570e5cc32b"), looks := false }, kinds := [], alts := [], laidByText := true, laidKinds := [.data, .data, .data], laidTests := true, laidLooks := .later }
def ScaledRomanCardSaid : Prop := Claim7.holds Tryd.pinned (.plain (OpenSpec.ofChange scaledRomanSpec)) scaledRomanCard

/-- THE SECOND FORM's CARD OF 'galleylaw01.ScaledKnuth'. -/
def scaledKnuthUptoCard : Claim7 := { stood := { row := scaledKnuthUptoRow, standIns := [], harness := (true, "5a8079a5cda5598853c8afb89fc0f05c2fa5e5af7db8ea6a33bf17570e5cc32b"), looks := false }, kinds := [], alts := [], laidByText := true, laidKinds := [.data, .data, .data], laidTests := true, laidLooks := .later }
def ScaledKnuthUptoCardSaid : Prop := Claim7.holds Tryd.pinned (.plain (OpenSpec.upto scaledKnuthSpec)) scaledKnuthUptoCard

/-- THE SECOND FORM's CARD OF 'galleylaw01.ScaledBadness'. -/
def scaledBadnessUptoCard : Claim7 := { stood := { row := scaledBadnessUptoRow, standIns := [], harness := (true, "5a8079a5cda5598853c8afb89fc0f05c2fa5e5af7db8ea6a33bf17570e5cc32b"), looks := false }, kinds := [], alts := [], laidByText := true, laidKinds := [.data, .data, .data], laidTests := true, laidLooks := .later }
def ScaledBadnessUptoCardSaid : Prop := Claim7.holds Tryd.pinned (.plain (OpenSpec.upto scaledBadnessSpec)) scaledBadnessUptoCard

/-- THE SECOND FORM's CARD OF 'galleylaw01.ScaledSums'. -/
def scaledSumsUptoCard : Claim7 := { stood := { row := scaledSumsUptoRow, standIns := [], harness := (true, "5a8079a5cda5598853c8afb89fc0f05c2fa5e5af7db8ea6a33bf17570e5cc32b"), looks := false }, kinds := [], alts := [], laidByText := true, laidKinds := [.data, .data, .data], laidTests := true, laidLooks := .later }
def ScaledSumsUptoCardSaid : Prop := Claim7.holds Tryd.pinned (.plain (OpenSpec.upto scaledSumsSpec)) scaledSumsUptoCard

/-- THE SECOND FORM's CARD OF 'galleylaw01.ScaledUnits'. -/
def scaledUnitsUptoCard : Claim7 := { stood := { row := scaledUnitsUptoRow, standIns := [], harness := (true, "5a8079a5cda5598853c8afb89fc0f05c2fa5e5af7db8ea6a33bf17570e5cc32b"), looks := false }, kinds := [], alts := [], laidByText := true, laidKinds := [.data, .data, .data], laidTests := true, laidLooks := .later }
def ScaledUnitsUptoCardSaid : Prop := Claim7.holds Tryd.pinned (.plain (OpenSpec.upto scaledUnitsSpec)) scaledUnitsUptoCard

/-- THE SECOND FORM's CARD OF 'galleylaw01.ScaledTexts'. -/
def scaledTextsUptoCard : Claim7 := { stood := { row := scaledTextsUptoRow, standIns := [], harness := (true, "5a8079a5cda5598853c8afb89fc0f05c2fa5e5af7db8ea6a33bf17570e5cc32b"), looks := false }, kinds := [], alts := [], laidByText := true, laidKinds := [.data, .data, .data], laidTests := true, laidLooks := .later }
def ScaledTextsUptoCardSaid : Prop := Claim7.holds Tryd.pinned (.plain (OpenSpec.upto scaledTextsSpec)) scaledTextsUptoCard

/-- THE SECOND FORM's CARD OF 'galleylaw01.ScaledExact'. -/
def scaledExactUptoCard : Claim7 := { stood := { row := scaledExactUptoRow, standIns := [], harness := (true, "5a8079a5cda5598853c8afb89fc0f05c2fa5e5af7db8ea6a33bf17570e5cc32b"), looks := false }, kinds := [], alts := [], laidByText := true, laidKinds := [.data, .data, .data], laidTests := true, laidLooks := .later }
def ScaledExactUptoCardSaid : Prop := Claim7.holds Tryd.pinned (.plain (OpenSpec.upto scaledExactSpec)) scaledExactUptoCard

/-- THE SECOND FORM's CARD OF 'galleylaw01.ScaledParts'. -/
def scaledPartsUptoCard : Claim7 := { stood := { row := scaledPartsUptoRow, standIns := [], harness := (true, "5a8079a5cda5598853c8afb89fc0f05c2fa5e5af7db8ea6a33bf17570e5cc32b"), looks := false }, kinds := [], alts := [], laidByText := true, laidKinds := [.data, .data, .data], laidTests := true, laidLooks := .later }
def ScaledPartsUptoCardSaid : Prop := Claim7.holds Tryd.pinned (.plain (OpenSpec.upto scaledPartsSpec)) scaledPartsUptoCard

/-- THE SECOND FORM's CARD OF 'galleylaw01.ScaledPrints'. -/
def scaledPrintsUptoCard : Claim7 := { stood := { row := scaledPrintsUptoRow, standIns := [], harness := (true, "5a8079a5cda5598853c8afb89fc0f05c2fa5e5af7db8ea6a33bf17570e5cc32b"), looks := false }, kinds := [], alts := [], laidByText := true, laidKinds := [.data, .data, .data], laidTests := true, laidLooks := .later }
def ScaledPrintsUptoCardSaid : Prop := Claim7.holds Tryd.pinned (.plain (OpenSpec.upto scaledPrintsSpec)) scaledPrintsUptoCard

/-- THE SECOND FORM's CARD OF 'galleylaw01.ScaledRoman'. -/
def scaledRomanUptoCard : Claim7 := { stood := { row := scaledRomanUptoRow, standIns := [], harness := (true, "5a8079a5cda5598853c8afb89fc0f05c2fa5e5af7db8ea6a33bf17570e5cc32b"), looks := false }, kinds := [], alts := [], laidByText := true, laidKinds := [.data, .data, .data], laidTests := true, laidLooks := .later }
def ScaledRomanUptoCardSaid : Prop := Claim7.holds Tryd.pinned (.plain (OpenSpec.upto scaledRomanSpec)) scaledRomanUptoCard
end Rows
end Go.Proofs.YtpnlhphpmkfckaaDoor
