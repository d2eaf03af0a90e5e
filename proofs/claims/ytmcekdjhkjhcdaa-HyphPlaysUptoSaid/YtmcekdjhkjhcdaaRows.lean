/-
  No cell of these rows narrows 'for every input' (looked for: loops, veiled, ifaces, maps, wideKeys, modest, calm, conditions, laid).
  DERIVED. THE GIVEN ROWS OF THIS SEAT. 12 by the template 'for every input the law returns true; each argument reads behind the call as it read before'; 0 by the template 'total and deterministic' (their statements: YtmcekdjhkjhcdaaTotals.lean).
  GIVEN WITH THE SEED: the statements are not yours to turn. If you find one false, say at which input.
  Laid BY PROGRAM, IN A SANDBOX (cutbox-rows.mjs): the forced cells as the released guide's own fill.sh prints them over the translation 80db4d96d9c9e7be… (all of the seat's roots in one cut). By AI agents, Wed Nov 11 2026. No macro, syntax, notation, axiom, sorry.
-/
import Derived.Test.YtmcekdjhkjhcdaaChecked
import GoSem.Claim
import GoSem.ClaimJoined
import GoSem.ClaimMapViews
import Derived.JoinedTies
import Derived.KernelRfl
namespace Go.Proofs.Ytmcekdjhkjhcdaa
/- THE CELL 'sum', in the pinned program and in every row, IS THE sha256 OF THE DUMP (.gsa) THAT YtmcekdjhkjhcdaaProg.lean LOADS. Nothing in Lean hashes anything: it is a label: what it is worth is what the hold of that sum in a sandbox is worth. -/
noncomputable def Try.pinned : Pinned := { name := "ytmcekdjhkjhcdaa", sum := "80db4d96d9c9e7be94ad7cb5af4e299a9bdeae8d98d33707d767566570a4494d", checked := Try.checked }
namespace Rows
def none {H : Type} : Left H := { results := [], args := [] }

/-- 'galleylaw05.NodesBroken': WHATEVER THE INPUT: true; the input reads as it did. -/
def nodesBrokenSpec : ChangeSpec := { name := "nodesBroken", fn := fun _ => fun
  | [d1, d2] => { results := [.lit (.bool true)], args := [d1, d2] }
  | _ => none }
def nodesBrokenRow : OpenClaim := { program := "ytmcekdjhkjhcdaa", sum := "80db4d96d9c9e7be94ad7cb5af4e299a9bdeae8d98d33707d767566570a4494d", func := "galley/galleylaw05.NodesBroken", spec := "nodesBroken", unfollowed := true, recurses := true, apart := false }
def NodesBrokenSaid : Prop := nodesBrokenRow.holds Try.pinned (OpenSpec.ofChange nodesBrokenSpec)

/-- ITS FALSE NEIGHBOUR: 'it returns false'. Refute it at one input. -/
def nodesBrokenWrong : ChangeSpec := { name := "nodesBroken", fn := fun _ => fun
  | [d1, d2] => { results := [.lit (.bool false)], args := [d1, d2] }
  | _ => none }
def NodesBrokenWrongFalsely : Prop := nodesBrokenRow.holds Try.pinned (OpenSpec.ofChange nodesBrokenWrong)

/-- 'galleylaw05.NodesJoined': WHATEVER THE INPUT: true; the input reads as it did. -/
def nodesJoinedSpec : ChangeSpec := { name := "nodesJoined", fn := fun _ => fun
  | [d1, d2, d3] => { results := [.lit (.bool true)], args := [d1, d2, d3] }
  | _ => none }
def nodesJoinedRow : OpenClaim := { program := "ytmcekdjhkjhcdaa", sum := "80db4d96d9c9e7be94ad7cb5af4e299a9bdeae8d98d33707d767566570a4494d", func := "galley/galleylaw05.NodesJoined", spec := "nodesJoined", unfollowed := true, recurses := true, apart := false }
def NodesJoinedSaid : Prop := nodesJoinedRow.holds Try.pinned (OpenSpec.ofChange nodesJoinedSpec)

/-- ITS FALSE NEIGHBOUR: 'it returns false'. Refute it at one input. -/
def nodesJoinedWrong : ChangeSpec := { name := "nodesJoined", fn := fun _ => fun
  | [d1, d2, d3] => { results := [.lit (.bool false)], args := [d1, d2, d3] }
  | _ => none }
def NodesJoinedWrongFalsely : Prop := nodesJoinedRow.holds Try.pinned (OpenSpec.ofChange nodesJoinedWrong)

/-- 'galleylaw07.HyphLiang': WHATEVER THE INPUT: true; the input reads as it did. -/
def hyphLiangSpec : ChangeSpec := { name := "hyphLiang", fn := fun _ => fun
  | [d1, d2] => { results := [.lit (.bool true)], args := [d1, d2] }
  | _ => none }
def hyphLiangRow : OpenClaim := { program := "ytmcekdjhkjhcdaa", sum := "80db4d96d9c9e7be94ad7cb5af4e299a9bdeae8d98d33707d767566570a4494d", func := "galley/galleylaw07.HyphLiang", spec := "hyphLiang", inPlace := ["internal/bytealg.IndexByteString", "internal/bytealg.IndexString", "internal/bytealg.abigen_runtime_cmpstring"], unfollowed := true, recurses := true, named := ["internal/bytealg.MaxLen"], apart := false }
def HyphLiangSaid : Prop := hyphLiangRow.holds Try.pinned (OpenSpec.ofChange hyphLiangSpec)

/-- ITS FALSE NEIGHBOUR: 'it returns false'. Refute it at one input. -/
def hyphLiangWrong : ChangeSpec := { name := "hyphLiang", fn := fun _ => fun
  | [d1, d2] => { results := [.lit (.bool false)], args := [d1, d2] }
  | _ => none }
def HyphLiangWrongFalsely : Prop := hyphLiangRow.holds Try.pinned (OpenSpec.ofChange hyphLiangWrong)

/-- 'galleylaw07.HyphEdges': WHATEVER THE INPUT: true; the input reads as it did. -/
def hyphEdgesSpec : ChangeSpec := { name := "hyphEdges", fn := fun _ => fun
  | [d1, d2, d3, d4, d5, d6] => { results := [.lit (.bool true)], args := [d1, d2, d3, d4, d5, d6] }
  | _ => none }
def hyphEdgesRow : OpenClaim := { program := "ytmcekdjhkjhcdaa", sum := "80db4d96d9c9e7be94ad7cb5af4e299a9bdeae8d98d33707d767566570a4494d", func := "galley/galleylaw07.HyphEdges", spec := "hyphEdges", inPlace := ["internal/bytealg.IndexByteString", "internal/bytealg.IndexString", "internal/bytealg.abigen_runtime_cmpstring"], unfollowed := true, recurses := true, named := ["internal/bytealg.MaxLen"], apart := false }
def HyphEdgesSaid : Prop := hyphEdgesRow.holds Try.pinned (OpenSpec.ofChange hyphEdgesSpec)

/-- ITS FALSE NEIGHBOUR: 'it returns false'. Refute it at one input. -/
def hyphEdgesWrong : ChangeSpec := { name := "hyphEdges", fn := fun _ => fun
  | [d1, d2, d3, d4, d5, d6] => { results := [.lit (.bool false)], args := [d1, d2, d3, d4, d5, d6] }
  | _ => none }
def HyphEdgesWrongFalsely : Prop := hyphEdgesRow.holds Try.pinned (OpenSpec.ofChange hyphEdgesWrong)

/-- 'galleylaw05.NodesFlat': WHATEVER THE INPUT: true; the input reads as it did. -/
def nodesFlatSpec : ChangeSpec := { name := "nodesFlat", fn := fun _ => fun
  | [d] => { results := [.lit (.bool true)], args := [d] }
  | _ => none }
def nodesFlatRow : OpenClaim := { program := "ytmcekdjhkjhcdaa", sum := "80db4d96d9c9e7be94ad7cb5af4e299a9bdeae8d98d33707d767566570a4494d", func := "galley/galleylaw05.NodesFlat", spec := "nodesFlat", unfollowed := true, recurses := true, apart := false }
def NodesFlatSaid : Prop := nodesFlatRow.holds Try.pinned (OpenSpec.ofChange nodesFlatSpec)

/-- ITS FALSE NEIGHBOUR: 'it returns false'. Refute it at one input. -/
def nodesFlatWrong : ChangeSpec := { name := "nodesFlat", fn := fun _ => fun
  | [d] => { results := [.lit (.bool false)], args := [d] }
  | _ => none }
def NodesFlatWrongFalsely : Prop := nodesFlatRow.holds Try.pinned (OpenSpec.ofChange nodesFlatWrong)

/-- 'galleylaw05.NodesParts': WHATEVER THE INPUT: true; the input reads as it did. -/
def nodesPartsSpec : ChangeSpec := { name := "nodesParts", fn := fun _ => fun
  | [d1, d2, d3] => { results := [.lit (.bool true)], args := [d1, d2, d3] }
  | _ => none }
def nodesPartsRow : OpenClaim := { program := "ytmcekdjhkjhcdaa", sum := "80db4d96d9c9e7be94ad7cb5af4e299a9bdeae8d98d33707d767566570a4494d", func := "galley/galleylaw05.NodesParts", spec := "nodesParts", unfollowed := true, recurses := true, apart := false }
def NodesPartsSaid : Prop := nodesPartsRow.holds Try.pinned (OpenSpec.ofChange nodesPartsSpec)

/-- ITS FALSE NEIGHBOUR: 'it returns false'. Refute it at one input. -/
def nodesPartsWrong : ChangeSpec := { name := "nodesParts", fn := fun _ => fun
  | [d1, d2, d3] => { results := [.lit (.bool false)], args := [d1, d2, d3] }
  | _ => none }
def NodesPartsWrongFalsely : Prop := nodesPartsRow.holds Try.pinned (OpenSpec.ofChange nodesPartsWrong)

/-- 'galleylaw05.NodesMeasures': WHATEVER THE INPUT: true; the input reads as it did. -/
def nodesMeasuresSpec : ChangeSpec := { name := "nodesMeasures", fn := fun _ => fun
  | [d1, d2] => { results := [.lit (.bool true)], args := [d1, d2] }
  | _ => none }
def nodesMeasuresRow : OpenClaim := { program := "ytmcekdjhkjhcdaa", sum := "80db4d96d9c9e7be94ad7cb5af4e299a9bdeae8d98d33707d767566570a4494d", func := "galley/galleylaw05.NodesMeasures", spec := "nodesMeasures", unfollowed := true, recurses := true, apart := false }
def NodesMeasuresSaid : Prop := nodesMeasuresRow.holds Try.pinned (OpenSpec.ofChange nodesMeasuresSpec)

/-- ITS FALSE NEIGHBOUR: 'it returns false'. Refute it at one input. -/
def nodesMeasuresWrong : ChangeSpec := { name := "nodesMeasures", fn := fun _ => fun
  | [d1, d2] => { results := [.lit (.bool false)], args := [d1, d2] }
  | _ => none }
def NodesMeasuresWrongFalsely : Prop := nodesMeasuresRow.holds Try.pinned (OpenSpec.ofChange nodesMeasuresWrong)

/-- 'galleylaw07.HyphSize': WHATEVER THE INPUT: true; the input reads as it did. -/
def hyphSizeSpec : ChangeSpec := { name := "hyphSize", fn := fun _ => fun
  | [d] => { results := [.lit (.bool true)], args := [d] }
  | _ => none }
def hyphSizeRow : OpenClaim := { program := "ytmcekdjhkjhcdaa", sum := "80db4d96d9c9e7be94ad7cb5af4e299a9bdeae8d98d33707d767566570a4494d", func := "galley/galleylaw07.HyphSize", spec := "hyphSize", inPlace := ["internal/bytealg.IndexByteString", "internal/bytealg.IndexString", "internal/bytealg.abigen_runtime_cmpstring"], unfollowed := true, recurses := true, named := ["internal/bytealg.MaxLen"], apart := false }
def HyphSizeSaid : Prop := hyphSizeRow.holds Try.pinned (OpenSpec.ofChange hyphSizeSpec)

/-- ITS FALSE NEIGHBOUR: 'it returns false'. Refute it at one input. -/
def hyphSizeWrong : ChangeSpec := { name := "hyphSize", fn := fun _ => fun
  | [d] => { results := [.lit (.bool false)], args := [d] }
  | _ => none }
def HyphSizeWrongFalsely : Prop := hyphSizeRow.holds Try.pinned (OpenSpec.ofChange hyphSizeWrong)

/-- 'galleylaw07.HyphOrder': WHATEVER THE INPUT: true; the input reads as it did. -/
def hyphOrderSpec : ChangeSpec := { name := "hyphOrder", fn := fun _ => fun
  | [d1, d2, d3] => { results := [.lit (.bool true)], args := [d1, d2, d3] }
  | _ => none }
def hyphOrderRow : OpenClaim := { program := "ytmcekdjhkjhcdaa", sum := "80db4d96d9c9e7be94ad7cb5af4e299a9bdeae8d98d33707d767566570a4494d", func := "galley/galleylaw07.HyphOrder", spec := "hyphOrder", inPlace := ["internal/bytealg.IndexByteString", "internal/bytealg.IndexString", "internal/bytealg.abigen_runtime_cmpstring"], unfollowed := true, recurses := true, named := ["internal/bytealg.MaxLen"], apart := false }
def HyphOrderSaid : Prop := hyphOrderRow.holds Try.pinned (OpenSpec.ofChange hyphOrderSpec)

/-- ITS FALSE NEIGHBOUR: 'it returns false'. Refute it at one input. -/
def hyphOrderWrong : ChangeSpec := { name := "hyphOrder", fn := fun _ => fun
  | [d1, d2, d3] => { results := [.lit (.bool false)], args := [d1, d2, d3] }
  | _ => none }
def HyphOrderWrongFalsely : Prop := hyphOrderRow.holds Try.pinned (OpenSpec.ofChange hyphOrderWrong)

/-- 'galleylaw07.HyphExcepts': WHATEVER THE INPUT: true; the input reads as it did. -/
def hyphExceptsSpec : ChangeSpec := { name := "hyphExcepts", fn := fun _ => fun
  | [d1, d2, d3] => { results := [.lit (.bool true)], args := [d1, d2, d3] }
  | _ => none }
def hyphExceptsRow : OpenClaim := { program := "ytmcekdjhkjhcdaa", sum := "80db4d96d9c9e7be94ad7cb5af4e299a9bdeae8d98d33707d767566570a4494d", func := "galley/galleylaw07.HyphExcepts", spec := "hyphExcepts", inPlace := ["internal/bytealg.IndexByteString", "internal/bytealg.IndexString", "internal/bytealg.abigen_runtime_cmpstring", "slices.overlaps[galley/hyph.exception]"], unfollowed := true, recurses := true, named := ["internal/bytealg.MaxLen"], apart := false }
def HyphExceptsSaid : Prop := hyphExceptsRow.holds Try.pinned (OpenSpec.ofChange hyphExceptsSpec)

/-- ITS FALSE NEIGHBOUR: 'it returns false'. Refute it at one input. -/
def hyphExceptsWrong : ChangeSpec := { name := "hyphExcepts", fn := fun _ => fun
  | [d1, d2, d3] => { results := [.lit (.bool false)], args := [d1, d2, d3] }
  | _ => none }
def HyphExceptsWrongFalsely : Prop := hyphExceptsRow.holds Try.pinned (OpenSpec.ofChange hyphExceptsWrong)

/-- 'galleylaw07.HyphPlays': WHATEVER THE INPUT: true; the input reads as it did. -/
def hyphPlaysSpec : ChangeSpec := { name := "hyphPlays", fn := fun _ => fun
  | [d1, d2] => { results := [.lit (.bool true)], args := [d1, d2] }
  | _ => none }
def hyphPlaysRow : OpenClaim := { program := "ytmcekdjhkjhcdaa", sum := "80db4d96d9c9e7be94ad7cb5af4e299a9bdeae8d98d33707d767566570a4494d", func := "galley/galleylaw07.HyphPlays", spec := "hyphPlays", inPlace := ["internal/bytealg.IndexByteString", "internal/bytealg.IndexString", "internal/bytealg.abigen_runtime_cmpstring", "slices.overlaps[galley/hyph.exception]"], unfollowed := true, recurses := true, named := ["internal/bytealg.MaxLen"], apart := false }
def HyphPlaysSaid : Prop := hyphPlaysRow.holds Try.pinned (OpenSpec.ofChange hyphPlaysSpec)

/-- ITS FALSE NEIGHBOUR: 'it returns false'. Refute it at one input. -/
def hyphPlaysWrong : ChangeSpec := { name := "hyphPlays", fn := fun _ => fun
  | [d1, d2] => { results := [.lit (.bool false)], args := [d1, d2] }
  | _ => none }
def HyphPlaysWrongFalsely : Prop := hyphPlaysRow.holds Try.pinned (OpenSpec.ofChange hyphPlaysWrong)

/-- 'galleylaw07.HyphNil': WHATEVER THE INPUT: true; the input reads as it did. -/
def hyphNilSpec : ChangeSpec := { name := "hyphNil", fn := fun _ => fun
  | [d] => { results := [.lit (.bool true)], args := [d] }
  | _ => none }
def hyphNilRow : OpenClaim := { program := "ytmcekdjhkjhcdaa", sum := "80db4d96d9c9e7be94ad7cb5af4e299a9bdeae8d98d33707d767566570a4494d", func := "galley/galleylaw07.HyphNil", spec := "hyphNil", inPlace := ["internal/bytealg.IndexByteString", "internal/bytealg.IndexString", "internal/bytealg.abigen_runtime_cmpstring", "slices.overlaps[galley/hyph.exception]"], unfollowed := true, recurses := true, named := ["internal/bytealg.MaxLen"], apart := false }
def HyphNilSaid : Prop := hyphNilRow.holds Try.pinned (OpenSpec.ofChange hyphNilSpec)

/-- ITS FALSE NEIGHBOUR: 'it returns false'. Refute it at one input. -/
def hyphNilWrong : ChangeSpec := { name := "hyphNil", fn := fun _ => fun
  | [d] => { results := [.lit (.bool false)], args := [d] }
  | _ => none }
def HyphNilWrongFalsely : Prop := hyphNilRow.holds Try.pinned (OpenSpec.ofChange hyphNilWrong)

/- THE SECOND FORM. 'bulk': how many values and letters a reading holds, each counted each time it is reached (what is shared counts as often as it is met; a slice's spare places count too). A statement '..UptoSaid' is the law's where the arguments, and the package variables that the reading takes, are together of bulk at most 1048576: NARROWER than '..Said'. Prove '..Said' where nothing that the law and all that it calls make is longer than what came in: it says more and counts as full. Else prove '..UptoSaid'. A law counts once. -/
mutual
def uptoBulk {H : Type} : DataW H → Nat
  | .lit (.string bytes) => bytes.length + 1
  | .lit _ => 1
  | .nil => 1
  | .ptr d => uptoBulk d + 1
  | .slice elems spare => uptoBulkAll elems + uptoBulkAll spare + 1
  | .agg parts => uptoBulkAll parts + 1
  | .iface _ d => uptoBulk d + 1
  | .map entries => uptoBulkEntries entries + 1
  | .held _ => 1
def uptoBulkAll {H : Type} : List (DataW H) → Nat
  | [] => 0
  | d :: r => uptoBulk d + uptoBulkAll r
def uptoBulkEntries {H : Type} : List (Lit × DataW H) → Nat
  | [] => 0
  | x :: r => uptoBulkEntry x + uptoBulkEntries r
def uptoBulkEntry {H : Type} : Lit × DataW H → Nat
  | (.string bytes, d) => bytes.length + uptoBulk d + 1
  | (_, d) => uptoBulk d + 1
 end
def uptoSmall : (H : Type) → List (DataW H) → Bool := fun _ ds => decide (uptoBulkAll ds ≤ 1048576)
def OpenSpec.upto (s : _root_.Go.ChangeSpec) : _root_.Go.OpenSpec := { _root_.Go.OpenSpec.ofChange s with cond := some uptoSmall }

/-- 'galleylaw05.NodesBroken', WHERE WHAT IT READS IS OF BULK AT MOST 1048576: true; the input reads as it did. -/
def nodesBrokenUptoRow : OpenClaim := { program := "ytmcekdjhkjhcdaa", sum := "80db4d96d9c9e7be94ad7cb5af4e299a9bdeae8d98d33707d767566570a4494d", func := "galley/galleylaw05.NodesBroken", spec := "nodesBroken", unfollowed := true, recurses := true, apart := false, narrowed := true }
def NodesBrokenUptoSaid : Prop := nodesBrokenUptoRow.holds Try.pinned (OpenSpec.upto nodesBrokenSpec)

/-- 'galleylaw05.NodesJoined', WHERE WHAT IT READS IS OF BULK AT MOST 1048576: true; the input reads as it did. -/
def nodesJoinedUptoRow : OpenClaim := { program := "ytmcekdjhkjhcdaa", sum := "80db4d96d9c9e7be94ad7cb5af4e299a9bdeae8d98d33707d767566570a4494d", func := "galley/galleylaw05.NodesJoined", spec := "nodesJoined", unfollowed := true, recurses := true, apart := false, narrowed := true }
def NodesJoinedUptoSaid : Prop := nodesJoinedUptoRow.holds Try.pinned (OpenSpec.upto nodesJoinedSpec)

/-- 'galleylaw07.HyphLiang', WHERE WHAT IT READS IS OF BULK AT MOST 1048576: true; the input reads as it did. -/
def hyphLiangUptoRow : OpenClaim := { program := "ytmcekdjhkjhcdaa", sum := "80db4d96d9c9e7be94ad7cb5af4e299a9bdeae8d98d33707d767566570a4494d", func := "galley/galleylaw07.HyphLiang", spec := "hyphLiang", inPlace := ["internal/bytealg.IndexByteString", "internal/bytealg.IndexString", "internal/bytealg.abigen_runtime_cmpstring"], unfollowed := true, recurses := true, named := ["internal/bytealg.MaxLen"], apart := false, narrowed := true }
def HyphLiangUptoSaid : Prop := hyphLiangUptoRow.holds Try.pinned (OpenSpec.upto hyphLiangSpec)

/-- 'galleylaw07.HyphEdges', WHERE WHAT IT READS IS OF BULK AT MOST 1048576: true; the input reads as it did. -/
def hyphEdgesUptoRow : OpenClaim := { program := "ytmcekdjhkjhcdaa", sum := "80db4d96d9c9e7be94ad7cb5af4e299a9bdeae8d98d33707d767566570a4494d", func := "galley/galleylaw07.HyphEdges", spec := "hyphEdges", inPlace := ["internal/bytealg.IndexByteString", "internal/bytealg.IndexString", "internal/bytealg.abigen_runtime_cmpstring"], unfollowed := true, recurses := true, named := ["internal/bytealg.MaxLen"], apart := false, narrowed := true }
def HyphEdgesUptoSaid : Prop := hyphEdgesUptoRow.holds Try.pinned (OpenSpec.upto hyphEdgesSpec)

/-- 'galleylaw05.NodesFlat', WHERE WHAT IT READS IS OF BULK AT MOST 1048576: true; the input reads as it did. -/
def nodesFlatUptoRow : OpenClaim := { program := "ytmcekdjhkjhcdaa", sum := "80db4d96d9c9e7be94ad7cb5af4e299a9bdeae8d98d33707d767566570a4494d", func := "galley/galleylaw05.NodesFlat", spec := "nodesFlat", unfollowed := true, recurses := true, apart := false, narrowed := true }
def NodesFlatUptoSaid : Prop := nodesFlatUptoRow.holds Try.pinned (OpenSpec.upto nodesFlatSpec)

/-- 'galleylaw05.NodesParts', WHERE WHAT IT READS IS OF BULK AT MOST 1048576: true; the input reads as it did. -/
def nodesPartsUptoRow : OpenClaim := { program := "ytmcekdjhkjhcdaa", sum := "80db4d96d9c9e7be94ad7cb5af4e299a9bdeae8d98d33707d767566570a4494d", func := "galley/galleylaw05.NodesParts", spec := "nodesParts", unfollowed := true, recurses := true, apart := false, narrowed := true }
def NodesPartsUptoSaid : Prop := nodesPartsUptoRow.holds Try.pinned (OpenSpec.upto nodesPartsSpec)

/-- 'galleylaw05.NodesMeasures', WHERE WHAT IT READS IS OF BULK AT MOST 1048576: true; the input reads as it did. -/
def nodesMeasuresUptoRow : OpenClaim := { program := "ytmcekdjhkjhcdaa", sum := "80db4d96d9c9e7be94ad7cb5af4e299a9bdeae8d98d33707d767566570a4494d", func := "galley/galleylaw05.NodesMeasures", spec := "nodesMeasures", unfollowed := true, recurses := true, apart := false, narrowed := true }
def NodesMeasuresUptoSaid : Prop := nodesMeasuresUptoRow.holds Try.pinned (OpenSpec.upto nodesMeasuresSpec)

/-- 'galleylaw07.HyphSize', WHERE WHAT IT READS IS OF BULK AT MOST 1048576: true; the input reads as it did. -/
def hyphSizeUptoRow : OpenClaim := { program := "ytmcekdjhkjhcdaa", sum := "80db4d96d9c9e7be94ad7cb5af4e299a9bdeae8d98d33707d767566570a4494d", func := "galley/galleylaw07.HyphSize", spec := "hyphSize", inPlace := ["internal/bytealg.IndexByteString", "internal/bytealg.IndexString", "internal/bytealg.abigen_runtime_cmpstring"], unfollowed := true, recurses := true, named := ["internal/bytealg.MaxLen"], apart := false, narrowed := true }
def HyphSizeUptoSaid : Prop := hyphSizeUptoRow.holds Try.pinned (OpenSpec.upto hyphSizeSpec)

/-- 'galleylaw07.HyphOrder', WHERE WHAT IT READS IS OF BULK AT MOST 1048576: true; the input reads as it did. -/
def hyphOrderUptoRow : OpenClaim := { program := "ytmcekdjhkjhcdaa", sum := "80db4d96d9c9e7be94ad7cb5af4e299a9bdeae8d98d33707d767566570a4494d", func := "galley/galleylaw07.HyphOrder", spec := "hyphOrder", inPlace := ["internal/bytealg.IndexByteString", "internal/bytealg.IndexString", "internal/bytealg.abigen_runtime_cmpstring"], unfollowed := true, recurses := true, named := ["internal/bytealg.MaxLen"], apart := false, narrowed := true }
def HyphOrderUptoSaid : Prop := hyphOrderUptoRow.holds Try.pinned (OpenSpec.upto hyphOrderSpec)

/-- 'galleylaw07.HyphExcepts', WHERE WHAT IT READS IS OF BULK AT MOST 1048576: true; the input reads as it did. -/
def hyphExceptsUptoRow : OpenClaim := { program := "ytmcekdjhkjhcdaa", sum := "80db4d96d9c9e7be94ad7cb5af4e299a9bdeae8d98d33707d767566570a4494d", func := "galley/galleylaw07.HyphExcepts", spec := "hyphExcepts", inPlace := ["internal/bytealg.IndexByteString", "internal/bytealg.IndexString", "internal/bytealg.abigen_runtime_cmpstring", "slices.overlaps[galley/hyph.exception]"], unfollowed := true, recurses := true, named := ["internal/bytealg.MaxLen"], apart := false, narrowed := true }
def HyphExceptsUptoSaid : Prop := hyphExceptsUptoRow.holds Try.pinned (OpenSpec.upto hyphExceptsSpec)

/-- 'galleylaw07.HyphPlays', WHERE WHAT IT READS IS OF BULK AT MOST 1048576: true; the input reads as it did. -/
def hyphPlaysUptoRow : OpenClaim := { program := "ytmcekdjhkjhcdaa", sum := "80db4d96d9c9e7be94ad7cb5af4e299a9bdeae8d98d33707d767566570a4494d", func := "galley/galleylaw07.HyphPlays", spec := "hyphPlays", inPlace := ["internal/bytealg.IndexByteString", "internal/bytealg.IndexString", "internal/bytealg.abigen_runtime_cmpstring", "slices.overlaps[galley/hyph.exception]"], unfollowed := true, recurses := true, named := ["internal/bytealg.MaxLen"], apart := false, narrowed := true }
def HyphPlaysUptoSaid : Prop := hyphPlaysUptoRow.holds Try.pinned (OpenSpec.upto hyphPlaysSpec)

/-- 'galleylaw07.HyphNil', WHERE WHAT IT READS IS OF BULK AT MOST 1048576: true; the input reads as it did. -/
def hyphNilUptoRow : OpenClaim := { program := "ytmcekdjhkjhcdaa", sum := "80db4d96d9c9e7be94ad7cb5af4e299a9bdeae8d98d33707d767566570a4494d", func := "galley/galleylaw07.HyphNil", spec := "hyphNil", inPlace := ["internal/bytealg.IndexByteString", "internal/bytealg.IndexString", "internal/bytealg.abigen_runtime_cmpstring", "slices.overlaps[galley/hyph.exception]"], unfollowed := true, recurses := true, named := ["internal/bytealg.MaxLen"], apart := false, narrowed := true }
def HyphNilUptoSaid : Prop := hyphNilUptoRow.holds Try.pinned (OpenSpec.upto hyphNilSpec)

end Rows
end Go.Proofs.Ytmcekdjhkjhcdaa
