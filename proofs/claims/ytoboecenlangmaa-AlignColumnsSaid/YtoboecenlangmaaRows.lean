/-
  No cell of these rows narrows 'for every input' (looked for: loops, veiled, ifaces, maps, wideKeys, modest, calm, conditions, laid).
  DERIVED. THE GIVEN ROWS OF THIS SEAT. 8 by the template 'for every input the law returns true; each argument reads behind the call as it read before'; 0 by the template 'total and deterministic' (their statements: YtoboecenlangmaaTotals.lean).
  GIVEN WITH THE SEED: the statements are not yours to turn. If you find one false, say at which input.
  Laid BY PROGRAM, IN A SANDBOX (cutbox-rows.mjs): the forced cells as the released guide's own fill.sh prints them over the translation 91e2a8a1f5f16902… (all of the seat's roots in one cut). By AI agents, Wed Nov 11 2026. No macro, syntax, notation, axiom, sorry.
-/
import Derived.Test.YtoboecenlangmaaChecked
import GoSem.Claim
import GoSem.ClaimJoined
import GoSem.ClaimMapViews
import Derived.JoinedTies
import Derived.KernelRfl
namespace Go.Proofs.Ytoboecenlangmaa
/- THE CELL 'sum', in the pinned program and in every row, IS THE sha256 OF THE DUMP (.gsa) THAT YtoboecenlangmaaProg.lean LOADS. Nothing in Lean hashes anything: it is a label: what it is worth is what the hold of that sum in a sandbox is worth. -/
noncomputable def Try.pinned : Pinned := { name := "ytoboecenlangmaa", sum := "91e2a8a1f5f16902b412c577b12fee78b0be04f165d6a27ba87d49a87bcc0ef9", checked := Try.checked }
namespace Rows
def none {H : Type} : Left H := { results := [], args := [] }

/-- 'galleylaw21.AlignWide': WHATEVER THE INPUT: true; the input reads as it did. -/
def alignWideSpec : ChangeSpec := { name := "alignWide", fn := fun _ => fun
  | [d1, d2] => { results := [.lit (.bool true)], args := [d1, d2] }
  | _ => none }
def alignWideRow : OpenClaim := { program := "ytoboecenlangmaa", sum := "91e2a8a1f5f16902b412c577b12fee78b0be04f165d6a27ba87d49a87bcc0ef9", func := "galley/galleylaw21.AlignWide", spec := "alignWide", unfollowed := true, recurses := true, apart := false }
def AlignWideSaid : Prop := alignWideRow.holds Try.pinned (OpenSpec.ofChange alignWideSpec)

/-- ITS FALSE NEIGHBOUR: 'it returns false'. Refute it at one input. -/
def alignWideWrong : ChangeSpec := { name := "alignWide", fn := fun _ => fun
  | [d1, d2] => { results := [.lit (.bool false)], args := [d1, d2] }
  | _ => none }
def AlignWideWrongFalsely : Prop := alignWideRow.holds Try.pinned (OpenSpec.ofChange alignWideWrong)

/-- 'galleylaw21.AlignOrder': WHATEVER THE INPUT: true; the input reads as it did. -/
def alignOrderSpec : ChangeSpec := { name := "alignOrder", fn := fun _ => fun
  | [d1, d2, d3, d4] => { results := [.lit (.bool true)], args := [d1, d2, d3, d4] }
  | _ => none }
def alignOrderRow : OpenClaim := { program := "ytoboecenlangmaa", sum := "91e2a8a1f5f16902b412c577b12fee78b0be04f165d6a27ba87d49a87bcc0ef9", func := "galley/galleylaw21.AlignOrder", spec := "alignOrder", unfollowed := true, recurses := true, apart := false }
def AlignOrderSaid : Prop := alignOrderRow.holds Try.pinned (OpenSpec.ofChange alignOrderSpec)

/-- ITS FALSE NEIGHBOUR: 'it returns false'. Refute it at one input. -/
def alignOrderWrong : ChangeSpec := { name := "alignOrder", fn := fun _ => fun
  | [d1, d2, d3, d4] => { results := [.lit (.bool false)], args := [d1, d2, d3, d4] }
  | _ => none }
def AlignOrderWrongFalsely : Prop := alignOrderRow.holds Try.pinned (OpenSpec.ofChange alignOrderWrong)

/-- 'galleylaw23.DviMoved': WHATEVER THE INPUT: true; the input reads as it did. -/
def dviMovedSpec : ChangeSpec := { name := "dviMoved", fn := fun _ => fun
  | [d1, d2, d3] => { results := [.lit (.bool true)], args := [d1, d2, d3] }
  | _ => none }
def dviMovedRow : OpenClaim := { program := "ytoboecenlangmaa", sum := "91e2a8a1f5f16902b412c577b12fee78b0be04f165d6a27ba87d49a87bcc0ef9", func := "galley/galleylaw23.DviMoved", spec := "dviMoved", unfollowed := true, recurses := true, named := ["math/bits.divideError", "math/bits.overflowError"], apart := false }
def DviMovedSaid : Prop := dviMovedRow.holds Try.pinned (OpenSpec.ofChange dviMovedSpec)

/-- ITS FALSE NEIGHBOUR: 'it returns false'. Refute it at one input. -/
def dviMovedWrong : ChangeSpec := { name := "dviMoved", fn := fun _ => fun
  | [d1, d2, d3] => { results := [.lit (.bool false)], args := [d1, d2, d3] }
  | _ => none }
def DviMovedWrongFalsely : Prop := dviMovedRow.holds Try.pinned (OpenSpec.ofChange dviMovedWrong)

/-- 'galleylaw06.PackWidth': WHATEVER THE INPUT: true; the input reads as it did. -/
def packWidthSpec : ChangeSpec := { name := "packWidth", fn := fun _ => fun
  | [d1, d2] => { results := [.lit (.bool true)], args := [d1, d2] }
  | _ => none }
def packWidthRow : OpenClaim := { program := "ytoboecenlangmaa", sum := "91e2a8a1f5f16902b412c577b12fee78b0be04f165d6a27ba87d49a87bcc0ef9", func := "galley/galleylaw06.PackWidth", spec := "packWidth", unfollowed := true, recurses := true, named := ["math/bits.divideError", "math/bits.overflowError"], apart := false }
def PackWidthSaid : Prop := packWidthRow.holds Try.pinned (OpenSpec.ofChange packWidthSpec)

/-- ITS FALSE NEIGHBOUR: 'it returns false'. Refute it at one input. -/
def packWidthWrong : ChangeSpec := { name := "packWidth", fn := fun _ => fun
  | [d1, d2] => { results := [.lit (.bool false)], args := [d1, d2] }
  | _ => none }
def PackWidthWrongFalsely : Prop := packWidthRow.holds Try.pinned (OpenSpec.ofChange packWidthWrong)

/-- 'galleylaw06.PackLists': WHATEVER THE INPUT: true; the input reads as it did. -/
def packListsSpec : ChangeSpec := { name := "packLists", fn := fun _ => fun
  | [d1, d2, d3, d4] => { results := [.lit (.bool true)], args := [d1, d2, d3, d4] }
  | _ => none }
def packListsRow : OpenClaim := { program := "ytoboecenlangmaa", sum := "91e2a8a1f5f16902b412c577b12fee78b0be04f165d6a27ba87d49a87bcc0ef9", func := "galley/galleylaw06.PackLists", spec := "packLists", unfollowed := true, recurses := true, named := ["math/bits.divideError", "math/bits.overflowError"], apart := false }
def PackListsSaid : Prop := packListsRow.holds Try.pinned (OpenSpec.ofChange packListsSpec)

/-- ITS FALSE NEIGHBOUR: 'it returns false'. Refute it at one input. -/
def packListsWrong : ChangeSpec := { name := "packLists", fn := fun _ => fun
  | [d1, d2, d3, d4] => { results := [.lit (.bool false)], args := [d1, d2, d3, d4] }
  | _ => none }
def PackListsWrongFalsely : Prop := packListsRow.holds Try.pinned (OpenSpec.ofChange packListsWrong)

/-- 'galleylaw06.PackHung': WHATEVER THE INPUT: true; the input reads as it did. -/
def packHungSpec : ChangeSpec := { name := "packHung", fn := fun _ => fun
  | [d1, d2, d3] => { results := [.lit (.bool true)], args := [d1, d2, d3] }
  | _ => none }
def packHungRow : OpenClaim := { program := "ytoboecenlangmaa", sum := "91e2a8a1f5f16902b412c577b12fee78b0be04f165d6a27ba87d49a87bcc0ef9", func := "galley/galleylaw06.PackHung", spec := "packHung", unfollowed := true, recurses := true, named := ["math/bits.divideError", "math/bits.overflowError"], apart := false }
def PackHungSaid : Prop := packHungRow.holds Try.pinned (OpenSpec.ofChange packHungSpec)

/-- ITS FALSE NEIGHBOUR: 'it returns false'. Refute it at one input. -/
def packHungWrong : ChangeSpec := { name := "packHung", fn := fun _ => fun
  | [d1, d2, d3] => { results := [.lit (.bool false)], args := [d1, d2, d3] }
  | _ => none }
def PackHungWrongFalsely : Prop := packHungRow.holds Try.pinned (OpenSpec.ofChange packHungWrong)

/-- 'galleylaw21.AlignColumns': WHATEVER THE INPUT: true; the input reads as it did. -/
def alignColumnsSpec : ChangeSpec := { name := "alignColumns", fn := fun _ => fun
  | [d1, d2, d3, d4] => { results := [.lit (.bool true)], args := [d1, d2, d3, d4] }
  | _ => none }
def alignColumnsRow : OpenClaim := { program := "ytoboecenlangmaa", sum := "91e2a8a1f5f16902b412c577b12fee78b0be04f165d6a27ba87d49a87bcc0ef9", func := "galley/galleylaw21.AlignColumns", spec := "alignColumns", unfollowed := true, recurses := true, named := ["math/bits.divideError", "math/bits.overflowError"], apart := false }
def AlignColumnsSaid : Prop := alignColumnsRow.holds Try.pinned (OpenSpec.ofChange alignColumnsSpec)

/-- ITS FALSE NEIGHBOUR: 'it returns false'. Refute it at one input. -/
def alignColumnsWrong : ChangeSpec := { name := "alignColumns", fn := fun _ => fun
  | [d1, d2, d3, d4] => { results := [.lit (.bool false)], args := [d1, d2, d3, d4] }
  | _ => none }
def AlignColumnsWrongFalsely : Prop := alignColumnsRow.holds Try.pinned (OpenSpec.ofChange alignColumnsWrong)

/-- 'galleylaw21.AlignExact': WHATEVER THE INPUT: true; the input reads as it did. -/
def alignExactSpec : ChangeSpec := { name := "alignExact", fn := fun _ => fun
  | [d1, d2, d3] => { results := [.lit (.bool true)], args := [d1, d2, d3] }
  | _ => none }
def alignExactRow : OpenClaim := { program := "ytoboecenlangmaa", sum := "91e2a8a1f5f16902b412c577b12fee78b0be04f165d6a27ba87d49a87bcc0ef9", func := "galley/galleylaw21.AlignExact", spec := "alignExact", unfollowed := true, recurses := true, named := ["math/bits.divideError", "math/bits.overflowError"], apart := false }
def AlignExactSaid : Prop := alignExactRow.holds Try.pinned (OpenSpec.ofChange alignExactSpec)

/-- ITS FALSE NEIGHBOUR: 'it returns false'. Refute it at one input. -/
def alignExactWrong : ChangeSpec := { name := "alignExact", fn := fun _ => fun
  | [d1, d2, d3] => { results := [.lit (.bool false)], args := [d1, d2, d3] }
  | _ => none }
def AlignExactWrongFalsely : Prop := alignExactRow.holds Try.pinned (OpenSpec.ofChange alignExactWrong)

/- THE SECOND FORM. 'bulk': how many values and letters a reading holds, each counted each time it is reached (what is shared counts as often as it is met; a slice's spare places count too). A statement '..UptoSaid' is the law's where the arguments, and the package variables that the reading takes, are together of bulk at most 1048576: NARROWER than '..Said'. Prove '..Said' where nothing that the law and all that it calls make is longer than what came in: it says more and counts as full. Else prove '..UptoSaid'. A law counts once. -/
mutual
def uptoBulk {H : Type} : DataW H → Nat
  | .lit (.string bytes) => bytes.length + 1
  | .lit _ => 1
  | .nil => 1
  | .ptr d => uptoBulk d + 1
  | .slice elems spare => uptoBulkAll elems + uptoBulkAll spare + 1
  | .agg parts => uptoBulkAll parts + 1
  | .iface _ d => uptoBulk d + 1
  | .map entries => uptoBulkEntries entries + 1
  | .held _ => 1
def uptoBulkAll {H : Type} : List (DataW H) → Nat
  | [] => 0
  | d :: r => uptoBulk d + uptoBulkAll r
def uptoBulkEntries {H : Type} : List (Lit × DataW H) → Nat
  | [] => 0
  | x :: r => uptoBulkEntry x + uptoBulkEntries r
def uptoBulkEntry {H : Type} : Lit × DataW H → Nat
  | (.string bytes, d) => bytes.length + uptoBulk d + 1
  | (_, d) => uptoBulk d + 1
 end
def uptoSmall : (H : Type) → List (DataW H) → Bool := fun _ ds => decide (uptoBulkAll ds ≤ 1048576)
def OpenSpec.upto (s : _root_.Go.ChangeSpec) : _root_.Go.OpenSpec := { _root_.Go.OpenSpec.ofChange s with cond := some uptoSmall }

/-- 'galleylaw21.AlignWide', WHERE WHAT IT READS IS OF BULK AT MOST 1048576: true; the input reads as it did. -/
def alignWideUptoRow : OpenClaim := { program := "ytoboecenlangmaa", sum := "91e2a8a1f5f16902b412c577b12fee78b0be04f165d6a27ba87d49a87bcc0ef9", func := "galley/galleylaw21.AlignWide", spec := "alignWide", unfollowed := true, recurses := true, apart := false, narrowed := true }
def AlignWideUptoSaid : Prop := alignWideUptoRow.holds Try.pinned (OpenSpec.upto alignWideSpec)

/-- 'galleylaw21.AlignOrder', WHERE WHAT IT READS IS OF BULK AT MOST 1048576: true; the input reads as it did. -/
def alignOrderUptoRow : OpenClaim := { program := "ytoboecenlangmaa", sum := "91e2a8a1f5f16902b412c577b12fee78b0be04f165d6a27ba87d49a87bcc0ef9", func := "galley/galleylaw21.AlignOrder", spec := "alignOrder", unfollowed := true, recurses := true, apart := false, narrowed := true }
def AlignOrderUptoSaid : Prop := alignOrderUptoRow.holds Try.pinned (OpenSpec.upto alignOrderSpec)

/-- 'galleylaw23.DviMoved', WHERE WHAT IT READS IS OF BULK AT MOST 1048576: true; the input reads as it did. -/
def dviMovedUptoRow : OpenClaim := { program := "ytoboecenlangmaa", sum := "91e2a8a1f5f16902b412c577b12fee78b0be04f165d6a27ba87d49a87bcc0ef9", func := "galley/galleylaw23.DviMoved", spec := "dviMoved", unfollowed := true, recurses := true, named := ["math/bits.divideError", "math/bits.overflowError"], apart := false, narrowed := true }
def DviMovedUptoSaid : Prop := dviMovedUptoRow.holds Try.pinned (OpenSpec.upto dviMovedSpec)

/-- 'galleylaw06.PackWidth', WHERE WHAT IT READS IS OF BULK AT MOST 1048576: true; the input reads as it did. -/
def packWidthUptoRow : OpenClaim := { program := "ytoboecenlangmaa", sum := "91e2a8a1f5f16902b412c577b12fee78b0be04f165d6a27ba87d49a87bcc0ef9", func := "galley/galleylaw06.PackWidth", spec := "packWidth", unfollowed := true, recurses := true, named := ["math/bits.divideError", "math/bits.overflowError"], apart := false, narrowed := true }
def PackWidthUptoSaid : Prop := packWidthUptoRow.holds Try.pinned (OpenSpec.upto packWidthSpec)

/-- 'galleylaw06.PackLists', WHERE WHAT IT READS IS OF BULK AT MOST 1048576: true; the input reads as it did. -/
def packListsUptoRow : OpenClaim := { program := "ytoboecenlangmaa", sum := "91e2a8a1f5f16902b412c577b12fee78b0be04f165d6a27ba87d49a87bcc0ef9", func := "galley/galleylaw06.PackLists", spec := "packLists", unfollowed := true, recurses := true, named := ["math/bits.divideError", "math/bits.overflowError"], apart := false, narrowed := true }
def PackListsUptoSaid : Prop := packListsUptoRow.holds Try.pinned (OpenSpec.upto packListsSpec)

/-- 'galleylaw06.PackHung', WHERE WHAT IT READS IS OF BULK AT MOST 1048576: true; the input reads as it did. -/
def packHungUptoRow : OpenClaim := { program := "ytoboecenlangmaa", sum := "91e2a8a1f5f16902b412c577b12fee78b0be04f165d6a27ba87d49a87bcc0ef9", func := "galley/galleylaw06.PackHung", spec := "packHung", unfollowed := true, recurses := true, named := ["math/bits.divideError", "math/bits.overflowError"], apart := false, narrowed := true }
def PackHungUptoSaid : Prop := packHungUptoRow.holds Try.pinned (OpenSpec.upto packHungSpec)

/-- 'galleylaw21.AlignColumns', WHERE WHAT IT READS IS OF BULK AT MOST 1048576: true; the input reads as it did. -/
def alignColumnsUptoRow : OpenClaim := { program := "ytoboecenlangmaa", sum := "91e2a8a1f5f16902b412c577b12fee78b0be04f165d6a27ba87d49a87bcc0ef9", func := "galley/galleylaw21.AlignColumns", spec := "alignColumns", unfollowed := true, recurses := true, named := ["math/bits.divideError", "math/bits.overflowError"], apart := false, narrowed := true }
def AlignColumnsUptoSaid : Prop := alignColumnsUptoRow.holds Try.pinned (OpenSpec.upto alignColumnsSpec)

/-- 'galleylaw21.AlignExact', WHERE WHAT IT READS IS OF BULK AT MOST 1048576: true; the input reads as it did. -/
def alignExactUptoRow : OpenClaim := { program := "ytoboecenlangmaa", sum := "91e2a8a1f5f16902b412c577b12fee78b0be04f165d6a27ba87d49a87bcc0ef9", func := "galley/galleylaw21.AlignExact", spec := "alignExact", unfollowed := true, recurses := true, named := ["math/bits.divideError", "math/bits.overflowError"], apart := false, narrowed := true }
def AlignExactUptoSaid : Prop := alignExactUptoRow.holds Try.pinned (OpenSpec.upto alignExactSpec)

end Rows
end Go.Proofs.Ytoboecenlangmaa
