/-
  DERIVED. GIVEN WITH THE SEED: THE CARDS: each row of YtdjpfhmhcocfeaaDoorRows.lean that lists a variable, with what it lists TIED to the program's text (the seventh form; the later family's looks); each row that meets fmt, with fmt's text TOLD by the authors' own Lean function (tested against real Go, not proved from fmt's source: count such statements apart). THE CARD IS WHAT COUNTS. Prove the row's statement (the work); the ties are given (YtdjpfhmhcocfeaaDoorTie.lean); close each card by the builder's one call (the guide's Derived/Test/ToyasCard.lean, 'card_holds'). Laid BY PROGRAM, IN A SANDBOX (cutbox-door.mjs). By AI agents, Wed Nov 11 2026. No macro, syntax, notation, axiom, sorry.
-/
import Derived.Test.YtdjpfhmhcocfeaaDoorRows
import GoSem.ClaimSeven
namespace Go.Proofs.YtdjpfhmhcocfeaaDoor
namespace Rows

/-- THE TIED CARD OF 'galleylaw02.GlueSums'. -/
def glueSumsCard : Claim7 := { stood := { row := glueSumsRow, standIns := [], harness := (true, "9856cdb8507e53dc1324800e4191eb846605ef73ac2fc91b223c3bb54aae09f3"), looks := false }, kinds := [], alts := [], laidByText := true, laidKinds := [.data, .data, .data], laidTests := true, laidLooks := .later }
def GlueSumsCardSaid : Prop := Claim7.holds Tryd.pinned (.plain (OpenSpec.ofChange glueSumsSpec)) glueSumsCard

/-- THE SECOND FORM's CARD OF 'galleylaw02.GlueSums'. -/
def glueSumsUptoCard : Claim7 := { stood := { row := glueSumsUptoRow, standIns := [], harness := (true, "9856cdb8507e53dc1324800e4191eb846605ef73ac2fc91b223c3bb54aae09f3"), looks := false }, kinds := [], alts := [], laidByText := true, laidKinds := [.data, .data, .data], laidTests := true, laidLooks := .later }
def GlueSumsUptoCardSaid : Prop := Claim7.holds Tryd.pinned (.plain (OpenSpec.upto glueSumsSpec)) glueSumsUptoCard
end Rows
end Go.Proofs.YtdjpfhmhcocfeaaDoor
