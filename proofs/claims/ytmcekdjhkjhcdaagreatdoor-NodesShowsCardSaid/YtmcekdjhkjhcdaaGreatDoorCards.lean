/-
  DERIVED. GIVEN WITH THE SEED: THE CARDS: each row of YtmcekdjhkjhcdaaGreatDoorRows.lean that lists a variable, with what it lists TIED to the program's text (the seventh form; the later family's looks); each row that meets fmt, with fmt's text TOLD by the authors' own Lean function (tested against real Go, not proved from fmt's source: count such statements apart). THE CARD IS WHAT COUNTS. Prove the row's statement (the work); the ties are given (YtmcekdjhkjhcdaaGreatDoorTie.lean); close each card by the builder's one call (the guide's Derived/Test/ToyasCard.lean, 'card_holds'). Laid BY PROGRAM, IN A SANDBOX (cutbox-door.mjs). By AI agents, Wed Nov 11 2026. No macro, syntax, notation, axiom, sorry.
-/
import Derived.Test.YtmcekdjhkjhcdaaGreatDoorRows
import GoSem.ClaimSeven
namespace Go.Proofs.YtmcekdjhkjhcdaaGreatDoor
namespace Rows

/-- THE TIED CARD OF 'galleylaw05.NodesShows'. -/
def nodesShowsCard : Claim7 := { stood := { row := nodesShowsRow, standIns := [], harness := (true, "2a67b31a5e9e86c080ccdfc10b881423de430d4f86c24587aa8ce34493866f3a"), looks := false }, kinds := [], alts := [], laidByText := true, laidKinds := [.data, .data, .data], laidTests := true, laidLooks := .later }
def NodesShowsCardSaid : Prop := Claim7.holds Tryz.pinned (.plain (OpenSpec.ofChange nodesShowsSpec)) nodesShowsCard

/-- THE SECOND FORM's CARD OF 'galleylaw05.NodesShows'. -/
def nodesShowsUptoCard : Claim7 := { stood := { row := nodesShowsUptoRow, standIns := [], harness := (true, "2a67b31a5e9e86c080ccdfc10b881423de430d4f86c24587aa8ce34493866f3a"), looks := false }, kinds := [], alts := [], laidByText := true, laidKinds := [.data, .data, .data], laidTests := true, laidLooks := .later }
def NodesShowsUptoCardSaid : Prop := Claim7.holds Tryz.pinned (.plain (OpenSpec.upto nodesShowsSpec)) nodesShowsUptoCard
end Rows
end Go.Proofs.YtmcekdjhkjhcdaaGreatDoor
