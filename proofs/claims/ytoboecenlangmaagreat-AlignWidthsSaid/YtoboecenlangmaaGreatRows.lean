/-
  No cell of these rows narrows 'for every input' (looked for: loops, veiled, ifaces, maps, wideKeys, modest, calm, conditions, laid).
  DERIVED. THE GIVEN ROWS OF THIS SEAT. 4 by the template 'for every input the law returns true; each argument reads behind the call as it read before'; 0 by the template 'total and deterministic' (their statements: YtoboecenlangmaaGreatTotals.lean).
  GIVEN WITH THE SEED: the statements are not yours to turn. If you find one false, say at which input.
  Laid BY PROGRAM, IN A SANDBOX (cutbox-rows.mjs): the forced cells as the released guide's own fill.sh prints them over the translation 5302e8e7c9a3d3d3… (all of the seat's roots in one cut). By AI agents, Wed Nov 11 2026. No macro, syntax, notation, axiom, sorry.
-/
import Derived.Test.YtoboecenlangmaaGreatChecked
import GoSem.Claim
import GoSem.ClaimJoined
import GoSem.ClaimMapViews
import Derived.JoinedTies
import Derived.KernelRfl
namespace Go.Proofs.YtoboecenlangmaaGreat
/- THE CELL 'sum', in the pinned program and in every row, IS THE sha256 OF THE DUMP (.gsa) THAT YtoboecenlangmaaGreatProg.lean LOADS. Nothing in Lean hashes anything: it is a label: what it is worth is what the hold of that sum in a sandbox is worth. -/
noncomputable def Tryz.pinned : Pinned := { name := "ytoboecenlangmaagreat", sum := "5302e8e7c9a3d3d31fa0160fb949daea67a6f7db278866e0ed9e5526a19fc484", checked := Tryz.checked }
namespace Rows
def none {H : Type} : Left H := { results := [], args := [] }

/-- 'galleylaw21.AlignWidths': WHATEVER THE INPUT: true; the input reads as it did. -/
def alignWidthsSpec : ChangeSpec := { name := "alignWidths", fn := fun _ => fun
  | [d1, d2] => { results := [.lit (.bool true)], args := [d1, d2] }
  | _ => none }
def alignWidthsRow : OpenClaim := { program := "ytoboecenlangmaagreat", sum := "5302e8e7c9a3d3d31fa0160fb949daea67a6f7db278866e0ed9e5526a19fc484", func := "galley/galleylaw21.AlignWidths", spec := "alignWidths", unfollowed := true, recurses := true, apart := false }
def AlignWidthsSaid : Prop := alignWidthsRow.holds Tryz.pinned (OpenSpec.ofChange alignWidthsSpec)

/-- ITS FALSE NEIGHBOUR: 'it returns false'. Refute it at one input. -/
def alignWidthsWrong : ChangeSpec := { name := "alignWidths", fn := fun _ => fun
  | [d1, d2] => { results := [.lit (.bool false)], args := [d1, d2] }
  | _ => none }
def AlignWidthsWrongFalsely : Prop := alignWidthsRow.holds Tryz.pinned (OpenSpec.ofChange alignWidthsWrong)

/-- 'galleylaw06.PackRows': WHATEVER THE INPUT: true; the input reads as it did. -/
def packRowsSpec : ChangeSpec := { name := "packRows", fn := fun _ => fun
  | [d1, d2, d3] => { results := [.lit (.bool true)], args := [d1, d2, d3] }
  | _ => none }
def packRowsRow : OpenClaim := { program := "ytoboecenlangmaagreat", sum := "5302e8e7c9a3d3d31fa0160fb949daea67a6f7db278866e0ed9e5526a19fc484", func := "galley/galleylaw06.PackRows", spec := "packRows", unfollowed := true, recurses := true, named := ["math/bits.divideError", "math/bits.overflowError"], apart := false }
def PackRowsSaid : Prop := packRowsRow.holds Tryz.pinned (OpenSpec.ofChange packRowsSpec)

/-- ITS FALSE NEIGHBOUR: 'it returns false'. Refute it at one input. -/
def packRowsWrong : ChangeSpec := { name := "packRows", fn := fun _ => fun
  | [d1, d2, d3] => { results := [.lit (.bool false)], args := [d1, d2, d3] }
  | _ => none }
def PackRowsWrongFalsely : Prop := packRowsRow.holds Tryz.pinned (OpenSpec.ofChange packRowsWrong)

/-- 'galleylaw06.PackColumns': WHATEVER THE INPUT: true; the input reads as it did. -/
def packColumnsSpec : ChangeSpec := { name := "packColumns", fn := fun _ => fun
  | [d1, d2, d3, d4] => { results := [.lit (.bool true)], args := [d1, d2, d3, d4] }
  | _ => none }
def packColumnsRow : OpenClaim := { program := "ytoboecenlangmaagreat", sum := "5302e8e7c9a3d3d31fa0160fb949daea67a6f7db278866e0ed9e5526a19fc484", func := "galley/galleylaw06.PackColumns", spec := "packColumns", unfollowed := true, recurses := true, named := ["math/bits.divideError", "math/bits.overflowError"], apart := false }
def PackColumnsSaid : Prop := packColumnsRow.holds Tryz.pinned (OpenSpec.ofChange packColumnsSpec)

/-- ITS FALSE NEIGHBOUR: 'it returns false'. Refute it at one input. -/
def packColumnsWrong : ChangeSpec := { name := "packColumns", fn := fun _ => fun
  | [d1, d2, d3, d4] => { results := [.lit (.bool false)], args := [d1, d2, d3, d4] }
  | _ => none }
def PackColumnsWrongFalsely : Prop := packColumnsRow.holds Tryz.pinned (OpenSpec.ofChange packColumnsWrong)

/-- 'galleylaw23.DviNil': WHATEVER THE INPUT: true; the input reads as it did. -/
def dviNilSpec : ChangeSpec := { name := "dviNil", fn := fun _ => fun
  | [d] => { results := [.lit (.bool true)], args := [d] }
  | _ => none }
def dviNilRow : OpenClaim := { program := "ytoboecenlangmaagreat", sum := "5302e8e7c9a3d3d31fa0160fb949daea67a6f7db278866e0ed9e5526a19fc484", func := "galley/galleylaw23.DviNil", spec := "dviNil", unfollowed := true, recurses := true, named := ["math/bits.divideError", "math/bits.overflowError"], apart := false }
def DviNilSaid : Prop := dviNilRow.holds Tryz.pinned (OpenSpec.ofChange dviNilSpec)

/-- ITS FALSE NEIGHBOUR: 'it returns false'. Refute it at one input. -/
def dviNilWrong : ChangeSpec := { name := "dviNil", fn := fun _ => fun
  | [d] => { results := [.lit (.bool false)], args := [d] }
  | _ => none }
def DviNilWrongFalsely : Prop := dviNilRow.holds Tryz.pinned (OpenSpec.ofChange dviNilWrong)

/- THE SECOND FORM. 'bulk': how many values and letters a reading holds, each counted each time it is reached (what is shared counts as often as it is met; a slice's spare places count too). A statement '..UptoSaid' is the law's where the arguments, and the package variables that the reading takes, are together of bulk at most 1048576: NARROWER than '..Said'. Prove '..Said' where nothing that the law and all that it calls make is longer than what came in: it says more and counts as full. Else prove '..UptoSaid'. A law counts once. -/
mutual
def uptoBulk {H : Type} : DataW H → Nat
  | .lit (.string bytes) => bytes.length + 1
  | .lit _ => 1
  | .nil => 1
  | .ptr d => uptoBulk d + 1
  | .slice elems spare => uptoBulkAll elems + uptoBulkAll spare + 1
  | .agg parts => uptoBulkAll parts + 1
  | .iface _ d => uptoBulk d + 1
  | .map entries => uptoBulkEntries entries + 1
  | .held _ => 1
def uptoBulkAll {H : Type} : List (DataW H) → Nat
  | [] => 0
  | d :: r => uptoBulk d + uptoBulkAll r
def uptoBulkEntries {H : Type} : List (Lit × DataW H) → Nat
  | [] => 0
  | x :: r => uptoBulkEntry x + uptoBulkEntries r
def uptoBulkEntry {H : Type} : Lit × DataW H → Nat
  | (.string bytes, d) => bytes.length + uptoBulk d + 1
  | (_, d) => uptoBulk d + 1
 end
def uptoSmall : (H : Type) → List (DataW H) → Bool := fun _ ds => decide (uptoBulkAll ds ≤ 1048576)
def OpenSpec.upto (s : _root_.Go.ChangeSpec) : _root_.Go.OpenSpec := { _root_.Go.OpenSpec.ofChange s with cond := some uptoSmall }

/-- 'galleylaw21.AlignWidths', WHERE WHAT IT READS IS OF BULK AT MOST 1048576: true; the input reads as it did. -/
def alignWidthsUptoRow : OpenClaim := { program := "ytoboecenlangmaagreat", sum := "5302e8e7c9a3d3d31fa0160fb949daea67a6f7db278866e0ed9e5526a19fc484", func := "galley/galleylaw21.AlignWidths", spec := "alignWidths", unfollowed := true, recurses := true, apart := false, narrowed := true }
def AlignWidthsUptoSaid : Prop := alignWidthsUptoRow.holds Tryz.pinned (OpenSpec.upto alignWidthsSpec)

/-- 'galleylaw06.PackRows', WHERE WHAT IT READS IS OF BULK AT MOST 1048576: true; the input reads as it did. -/
def packRowsUptoRow : OpenClaim := { program := "ytoboecenlangmaagreat", sum := "5302e8e7c9a3d3d31fa0160fb949daea67a6f7db278866e0ed9e5526a19fc484", func := "galley/galleylaw06.PackRows", spec := "packRows", unfollowed := true, recurses := true, named := ["math/bits.divideError", "math/bits.overflowError"], apart := false, narrowed := true }
def PackRowsUptoSaid : Prop := packRowsUptoRow.holds Tryz.pinned (OpenSpec.upto packRowsSpec)

/-- 'galleylaw06.PackColumns', WHERE WHAT IT READS IS OF BULK AT MOST 1048576: true; the input reads as it did. -/
def packColumnsUptoRow : OpenClaim := { program := "ytoboecenlangmaagreat", sum := "5302e8e7c9a3d3d31fa0160fb949daea67a6f7db278866e0ed9e5526a19fc484", func := "galley/galleylaw06.PackColumns", spec := "packColumns", unfollowed := true, recurses := true, named := ["math/bits.divideError", "math/bits.overflowError"], apart := false, narrowed := true }
def PackColumnsUptoSaid : Prop := packColumnsUptoRow.holds Tryz.pinned (OpenSpec.upto packColumnsSpec)

/-- 'galleylaw23.DviNil', WHERE WHAT IT READS IS OF BULK AT MOST 1048576: true; the input reads as it did. -/
def dviNilUptoRow : OpenClaim := { program := "ytoboecenlangmaagreat", sum := "5302e8e7c9a3d3d31fa0160fb949daea67a6f7db278866e0ed9e5526a19fc484", func := "galley/galleylaw23.DviNil", spec := "dviNil", unfollowed := true, recurses := true, named := ["math/bits.divideError", "math/bits.overflowError"], apart := false, narrowed := true }
def DviNilUptoSaid : Prop := dviNilUptoRow.holds Tryz.pinned (OpenSpec.upto dviNilSpec)

end Rows
end Go.Proofs.YtoboecenlangmaaGreat
