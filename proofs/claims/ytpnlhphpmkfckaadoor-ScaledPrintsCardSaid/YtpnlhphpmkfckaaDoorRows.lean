/-
  NARROWER THAN 'FOR EVERY INPUT', by the rows' own cells (each row's printed sentence says how): ScaledKnuth: laid · ScaledBadness: laid · ScaledSums: laid · ScaledUnits: laid · ScaledTexts: laid · ScaledExact: laid · ScaledParts: laid · ScaledPrints: laid · ScaledRoman: laid.
  DERIVED. THE GIVEN ROWS OF THIS SEAT. 9 by the template 'for every input the law returns true; each argument reads behind the call as it read before'; 0 by the template 'total and deterministic' (their statements: YtpnlhphpmkfckaaDoorTotals.lean).
  GIVEN WITH THE SEED: the statements are not yours to turn. If you find one false, say at which input.
  Laid BY PROGRAM, IN A SANDBOX (cutbox-rows.mjs): the forced cells as the released guide's own fill.sh prints them over the translation 11e4f74d4f9f5c08… (all of the seat's roots in one cut). By AI agents, Wed Nov 11 2026. No macro, syntax, notation, axiom, sorry.
-/
import Derived.Test.YtpnlhphpmkfckaaDoorChecked
import GoSem.Claim
import GoSem.ClaimJoined
import GoSem.ClaimMapViews
import Derived.JoinedTies
import Derived.KernelRfl
namespace Go.Proofs.YtpnlhphpmkfckaaDoor
/- THE CELL 'sum', in the pinned program and in every row, IS THE sha256 OF THE DUMP (.gsa) THAT YtpnlhphpmkfckaaDoorProg.lean LOADS. Nothing in Lean hashes anything: it is a label: what it is worth is what the hold of that sum in a sandbox is worth. -/
noncomputable def Tryd.pinned : Pinned := { name := "ytpnlhphpmkfckaadoor", sum := "11e4f74d4f9f5c08bb7302f0c8980642a3763d43214e7d11a3de0b74959ced9d", checked := Tryd.checked }
namespace Rows
def none {H : Type} : Left H := { results := [], args := [] }

/- WHAT THE LISTED PACKAGE-LEVEL VARIABLES READ AS WHEN THE CALL BEGINS. Each datum BY PROGRAM (the guide's laid-datum.mjs) off the statement by which the dump's own 'gosem.cut.vars' lays the variable. In a bare row this is a premise. The card (YtpnlhphpmkfckaaDoorCards.lean) ties it to the program's text. -/
def laid_math_bits_deBruijn32tab {H : Type} : DataW H := .agg [.lit (.int .u8 0), .lit (.int .u8 1), .lit (.int .u8 28), .lit (.int .u8 2), .lit (.int .u8 29), .lit (.int .u8 14), .lit (.int .u8 24), .lit (.int .u8 3), .lit (.int .u8 30), .lit (.int .u8 22), .lit (.int .u8 20), .lit (.int .u8 15), .lit (.int .u8 25), .lit (.int .u8 17), .lit (.int .u8 4), .lit (.int .u8 8), .lit (.int .u8 31), .lit (.int .u8 27), .lit (.int .u8 13), .lit (.int .u8 23), .lit (.int .u8 21), .lit (.int .u8 19), .lit (.int .u8 16), .lit (.int .u8 7), .lit (.int .u8 26), .lit (.int .u8 12), .lit (.int .u8 18), .lit (.int .u8 6), .lit (.int .u8 11), .lit (.int .u8 5), .lit (.int .u8 10), .lit (.int .u8 9)]
def laid_math_bits_deBruijn64tab {H : Type} : DataW H := .agg [.lit (.int .u8 0), .lit (.int .u8 1), .lit (.int .u8 56), .lit (.int .u8 2), .lit (.int .u8 57), .lit (.int .u8 49), .lit (.int .u8 28), .lit (.int .u8 3), .lit (.int .u8 61), .lit (.int .u8 58), .lit (.int .u8 42), .lit (.int .u8 50), .lit (.int .u8 38), .lit (.int .u8 29), .lit (.int .u8 17), .lit (.int .u8 4), .lit (.int .u8 62), .lit (.int .u8 47), .lit (.int .u8 59), .lit (.int .u8 36), .lit (.int .u8 45), .lit (.int .u8 43), .lit (.int .u8 51), .lit (.int .u8 22), .lit (.int .u8 53), .lit (.int .u8 39), .lit (.int .u8 33), .lit (.int .u8 30), .lit (.int .u8 24), .lit (.int .u8 18), .lit (.int .u8 12), .lit (.int .u8 5), .lit (.int .u8 63), .lit (.int .u8 55), .lit (.int .u8 48), .lit (.int .u8 27), .lit (.int .u8 60), .lit (.int .u8 41), .lit (.int .u8 37), .lit (.int .u8 16), .lit (.int .u8 46), .lit (.int .u8 35), .lit (.int .u8 44), .lit (.int .u8 21), .lit (.int .u8 52), .lit (.int .u8 32), .lit (.int .u8 23), .lit (.int .u8 11), .lit (.int .u8 54), .lit (.int .u8 26), .lit (.int .u8 40), .lit (.int .u8 15), .lit (.int .u8 34), .lit (.int .u8 20), .lit (.int .u8 31), .lit (.int .u8 10), .lit (.int .u8 25), .lit (.int .u8 14), .lit (.int .u8 19), .lit (.int .u8 9), .lit (.int .u8 13), .lit (.int .u8 8), .lit (.int .u8 7), .lit (.int .u8 6)]
def laid_internal_strconv_uint64pow10 {H : Type} : DataW H := .agg [.lit (.int .u64 1), .lit (.int .u64 10), .lit (.int .u64 100), .lit (.int .u64 1000), .lit (.int .u64 10000), .lit (.int .u64 100000), .lit (.int .u64 1000000), .lit (.int .u64 10000000), .lit (.int .u64 100000000), .lit (.int .u64 1000000000), .lit (.int .u64 10000000000), .lit (.int .u64 100000000000), .lit (.int .u64 1000000000000), .lit (.int .u64 10000000000000), .lit (.int .u64 100000000000000), .lit (.int .u64 1000000000000000), .lit (.int .u64 10000000000000000), .lit (.int .u64 100000000000000000), .lit (.int .u64 1000000000000000000), .lit (.int .u64 10000000000000000000)]

/-- 'galleylaw01.ScaledKnuth': WHATEVER THE INPUT: true; the input reads as it did. -/
def scaledKnuthSpec : ChangeSpec := { name := "scaledKnuth", fn := fun _ => fun
  | [d] => { results := [.lit (.bool true)], args := [d] }
  | _ => none }
def scaledKnuthRow : OpenClaim := { program := "ytpnlhphpmkfckaadoor", sum := "11e4f74d4f9f5c08bb7302f0c8980642a3763d43214e7d11a3de0b74959ced9d", func := "galley/galleylaw01.ScaledKnuth", spec := "scaledKnuth", inPlace := ["internal/abi.NoEscape"], unfollowed := true, recurses := true, named := ["internal/strconv.uint64pow10", "math/bits.deBruijn32tab", "math/bits.deBruijn64tab"], apart := false, laid := [("math/bits.deBruijn32tab", laid_math_bits_deBruijn32tab), ("math/bits.deBruijn64tab", laid_math_bits_deBruijn64tab), ("internal/strconv.uint64pow10", laid_internal_strconv_uint64pow10)] }
def ScaledKnuthSaid : Prop := scaledKnuthRow.holds Tryd.pinned (OpenSpec.ofChange scaledKnuthSpec)

/-- ITS FALSE NEIGHBOUR: 'it returns false'. Refute it at one input. -/
def scaledKnuthWrong : ChangeSpec := { name := "scaledKnuth", fn := fun _ => fun
  | [d] => { results := [.lit (.bool false)], args := [d] }
  | _ => none }
def ScaledKnuthWrongFalsely : Prop := scaledKnuthRow.holds Tryd.pinned (OpenSpec.ofChange scaledKnuthWrong)

/-- 'galleylaw01.ScaledBadness': WHATEVER THE INPUT: true; the input reads as it did. -/
def scaledBadnessSpec : ChangeSpec := { name := "scaledBadness", fn := fun _ => fun
  | [d1, d2, d3] => { results := [.lit (.bool true)], args := [d1, d2, d3] }
  | _ => none }
def scaledBadnessRow : OpenClaim := { program := "ytpnlhphpmkfckaadoor", sum := "11e4f74d4f9f5c08bb7302f0c8980642a3763d43214e7d11a3de0b74959ced9d", func := "galley/galleylaw01.ScaledBadness", spec := "scaledBadness", inPlace := ["internal/abi.NoEscape"], unfollowed := true, recurses := true, named := ["internal/strconv.uint64pow10", "math/bits.deBruijn32tab", "math/bits.deBruijn64tab"], apart := false, laid := [("math/bits.deBruijn32tab", laid_math_bits_deBruijn32tab), ("math/bits.deBruijn64tab", laid_math_bits_deBruijn64tab), ("internal/strconv.uint64pow10", laid_internal_strconv_uint64pow10)] }
def ScaledBadnessSaid : Prop := scaledBadnessRow.holds Tryd.pinned (OpenSpec.ofChange scaledBadnessSpec)

/-- ITS FALSE NEIGHBOUR: 'it returns false'. Refute it at one input. -/
def scaledBadnessWrong : ChangeSpec := { name := "scaledBadness", fn := fun _ => fun
  | [d1, d2, d3] => { results := [.lit (.bool false)], args := [d1, d2, d3] }
  | _ => none }
def ScaledBadnessWrongFalsely : Prop := scaledBadnessRow.holds Tryd.pinned (OpenSpec.ofChange scaledBadnessWrong)

/-- 'galleylaw01.ScaledSums': WHATEVER THE INPUT: true; the input reads as it did. -/
def scaledSumsSpec : ChangeSpec := { name := "scaledSums", fn := fun _ => fun
  | [d1, d2, d3, d4] => { results := [.lit (.bool true)], args := [d1, d2, d3, d4] }
  | _ => none }
def scaledSumsRow : OpenClaim := { program := "ytpnlhphpmkfckaadoor", sum := "11e4f74d4f9f5c08bb7302f0c8980642a3763d43214e7d11a3de0b74959ced9d", func := "galley/galleylaw01.ScaledSums", spec := "scaledSums", inPlace := ["internal/abi.NoEscape"], unfollowed := true, recurses := true, named := ["internal/strconv.uint64pow10", "math/bits.deBruijn32tab", "math/bits.deBruijn64tab"], apart := false, laid := [("math/bits.deBruijn32tab", laid_math_bits_deBruijn32tab), ("math/bits.deBruijn64tab", laid_math_bits_deBruijn64tab), ("internal/strconv.uint64pow10", laid_internal_strconv_uint64pow10)] }
def ScaledSumsSaid : Prop := scaledSumsRow.holds Tryd.pinned (OpenSpec.ofChange scaledSumsSpec)

/-- ITS FALSE NEIGHBOUR: 'it returns false'. Refute it at one input. -/
def scaledSumsWrong : ChangeSpec := { name := "scaledSums", fn := fun _ => fun
  | [d1, d2, d3, d4] => { results := [.lit (.bool false)], args := [d1, d2, d3, d4] }
  | _ => none }
def ScaledSumsWrongFalsely : Prop := scaledSumsRow.holds Tryd.pinned (OpenSpec.ofChange scaledSumsWrong)

/-- 'galleylaw01.ScaledUnits': WHATEVER THE INPUT: true; the input reads as it did. -/
def scaledUnitsSpec : ChangeSpec := { name := "scaledUnits", fn := fun _ => fun
  | [d1, d2] => { results := [.lit (.bool true)], args := [d1, d2] }
  | _ => none }
def scaledUnitsRow : OpenClaim := { program := "ytpnlhphpmkfckaadoor", sum := "11e4f74d4f9f5c08bb7302f0c8980642a3763d43214e7d11a3de0b74959ced9d", func := "galley/galleylaw01.ScaledUnits", spec := "scaledUnits", inPlace := ["internal/abi.NoEscape"], unfollowed := true, recurses := true, named := ["internal/strconv.uint64pow10", "math/bits.deBruijn32tab", "math/bits.deBruijn64tab"], apart := false, laid := [("math/bits.deBruijn32tab", laid_math_bits_deBruijn32tab), ("math/bits.deBruijn64tab", laid_math_bits_deBruijn64tab), ("internal/strconv.uint64pow10", laid_internal_strconv_uint64pow10)] }
def ScaledUnitsSaid : Prop := scaledUnitsRow.holds Tryd.pinned (OpenSpec.ofChange scaledUnitsSpec)

/-- ITS FALSE NEIGHBOUR: 'it returns false'. Refute it at one input. -/
def scaledUnitsWrong : ChangeSpec := { name := "scaledUnits", fn := fun _ => fun
  | [d1, d2] => { results := [.lit (.bool false)], args := [d1, d2] }
  | _ => none }
def ScaledUnitsWrongFalsely : Prop := scaledUnitsRow.holds Tryd.pinned (OpenSpec.ofChange scaledUnitsWrong)

/-- 'galleylaw01.ScaledTexts': WHATEVER THE INPUT: true; the input reads as it did. -/
def scaledTextsSpec : ChangeSpec := { name := "scaledTexts", fn := fun _ => fun
  | [d] => { results := [.lit (.bool true)], args := [d] }
  | _ => none }
def scaledTextsRow : OpenClaim := { program := "ytpnlhphpmkfckaadoor", sum := "11e4f74d4f9f5c08bb7302f0c8980642a3763d43214e7d11a3de0b74959ced9d", func := "galley/galleylaw01.ScaledTexts", spec := "scaledTexts", inPlace := ["internal/abi.NoEscape"], unfollowed := true, recurses := true, named := ["internal/strconv.uint64pow10", "math/bits.deBruijn32tab", "math/bits.deBruijn64tab"], apart := false, laid := [("math/bits.deBruijn32tab", laid_math_bits_deBruijn32tab), ("math/bits.deBruijn64tab", laid_math_bits_deBruijn64tab), ("internal/strconv.uint64pow10", laid_internal_strconv_uint64pow10)] }
def ScaledTextsSaid : Prop := scaledTextsRow.holds Tryd.pinned (OpenSpec.ofChange scaledTextsSpec)

/-- ITS FALSE NEIGHBOUR: 'it returns false'. Refute it at one input. -/
def scaledTextsWrong : ChangeSpec := { name := "scaledTexts", fn := fun _ => fun
  | [d] => { results := [.lit (.bool false)], args := [d] }
  | _ => none }
def ScaledTextsWrongFalsely : Prop := scaledTextsRow.holds Tryd.pinned (OpenSpec.ofChange scaledTextsWrong)

/-- 'galleylaw01.ScaledExact': WHATEVER THE INPUT: true; the input reads as it did. -/
def scaledExactSpec : ChangeSpec := { name := "scaledExact", fn := fun _ => fun
  | [d1, d2, d3] => { results := [.lit (.bool true)], args := [d1, d2, d3] }
  | _ => none }
def scaledExactRow : OpenClaim := { program := "ytpnlhphpmkfckaadoor", sum := "11e4f74d4f9f5c08bb7302f0c8980642a3763d43214e7d11a3de0b74959ced9d", func := "galley/galleylaw01.ScaledExact", spec := "scaledExact", inPlace := ["internal/abi.NoEscape"], unfollowed := true, recurses := true, named := ["internal/strconv.uint64pow10", "math/bits.deBruijn32tab", "math/bits.deBruijn64tab", "math/bits.divideError", "math/bits.overflowError"], apart := false, laid := [("math/bits.deBruijn32tab", laid_math_bits_deBruijn32tab), ("math/bits.deBruijn64tab", laid_math_bits_deBruijn64tab), ("internal/strconv.uint64pow10", laid_internal_strconv_uint64pow10)] }
def ScaledExactSaid : Prop := scaledExactRow.holds Tryd.pinned (OpenSpec.ofChange scaledExactSpec)

/-- ITS FALSE NEIGHBOUR: 'it returns false'. Refute it at one input. -/
def scaledExactWrong : ChangeSpec := { name := "scaledExact", fn := fun _ => fun
  | [d1, d2, d3] => { results := [.lit (.bool false)], args := [d1, d2, d3] }
  | _ => none }
def ScaledExactWrongFalsely : Prop := scaledExactRow.holds Tryd.pinned (OpenSpec.ofChange scaledExactWrong)

/-- 'galleylaw01.ScaledParts': WHATEVER THE INPUT: true; the input reads as it did. -/
def scaledPartsSpec : ChangeSpec := { name := "scaledParts", fn := fun _ => fun
  | [d1, d2, d3] => { results := [.lit (.bool true)], args := [d1, d2, d3] }
  | _ => none }
def scaledPartsRow : OpenClaim := { program := "ytpnlhphpmkfckaadoor", sum := "11e4f74d4f9f5c08bb7302f0c8980642a3763d43214e7d11a3de0b74959ced9d", func := "galley/galleylaw01.ScaledParts", spec := "scaledParts", inPlace := ["internal/abi.NoEscape"], unfollowed := true, recurses := true, named := ["math/bits.divideError", "math/bits.overflowError", "internal/strconv.uint64pow10", "math/bits.deBruijn32tab", "math/bits.deBruijn64tab"], apart := false, laid := [("math/bits.deBruijn32tab", laid_math_bits_deBruijn32tab), ("math/bits.deBruijn64tab", laid_math_bits_deBruijn64tab), ("internal/strconv.uint64pow10", laid_internal_strconv_uint64pow10)] }
def ScaledPartsSaid : Prop := scaledPartsRow.holds Tryd.pinned (OpenSpec.ofChange scaledPartsSpec)

/-- ITS FALSE NEIGHBOUR: 'it returns false'. Refute it at one input. -/
def scaledPartsWrong : ChangeSpec := { name := "scaledParts", fn := fun _ => fun
  | [d1, d2, d3] => { results := [.lit (.bool false)], args := [d1, d2, d3] }
  | _ => none }
def ScaledPartsWrongFalsely : Prop := scaledPartsRow.holds Tryd.pinned (OpenSpec.ofChange scaledPartsWrong)

/-- 'galleylaw01.ScaledPrints': WHATEVER THE INPUT: true; the input reads as it did. -/
def scaledPrintsSpec : ChangeSpec := { name := "scaledPrints", fn := fun _ => fun
  | [d1, d2] => { results := [.lit (.bool true)], args := [d1, d2] }
  | _ => none }
def scaledPrintsRow : OpenClaim := { program := "ytpnlhphpmkfckaadoor", sum := "11e4f74d4f9f5c08bb7302f0c8980642a3763d43214e7d11a3de0b74959ced9d", func := "galley/galleylaw01.ScaledPrints", spec := "scaledPrints", inPlace := ["internal/abi.NoEscape", "internal/bytealg.MakeNoZero"], unfollowed := true, recurses := true, named := ["internal/strconv.uint64pow10", "math/bits.deBruijn32tab", "math/bits.deBruijn64tab"], apart := false, laid := [("math/bits.deBruijn32tab", laid_math_bits_deBruijn32tab), ("math/bits.deBruijn64tab", laid_math_bits_deBruijn64tab), ("internal/strconv.uint64pow10", laid_internal_strconv_uint64pow10)] }
def ScaledPrintsSaid : Prop := scaledPrintsRow.holds Tryd.pinned (OpenSpec.ofChange scaledPrintsSpec)

/-- ITS FALSE NEIGHBOUR: 'it returns false'. Refute it at one input. -/
def scaledPrintsWrong : ChangeSpec := { name := "scaledPrints", fn := fun _ => fun
  | [d1, d2] => { results := [.lit (.bool false)], args := [d1, d2] }
  | _ => none }
def ScaledPrintsWrongFalsely : Prop := scaledPrintsRow.holds Tryd.pinned (OpenSpec.ofChange scaledPrintsWrong)

/-- 'galleylaw01.ScaledRoman': WHATEVER THE INPUT: true; the input reads as it did. -/
def scaledRomanSpec : ChangeSpec := { name := "scaledRoman", fn := fun _ => fun
  | [d] => { results := [.lit (.bool true)], args := [d] }
  | _ => none }
def scaledRomanRow : OpenClaim := { program := "ytpnlhphpmkfckaadoor", sum := "11e4f74d4f9f5c08bb7302f0c8980642a3763d43214e7d11a3de0b74959ced9d", func := "galley/galleylaw01.ScaledRoman", spec := "scaledRoman", inPlace := ["internal/abi.NoEscape", "internal/bytealg.MakeNoZero"], unfollowed := true, recurses := true, named := ["internal/strconv.uint64pow10", "math/bits.deBruijn32tab", "math/bits.deBruijn64tab"], apart := false, laid := [("math/bits.deBruijn32tab", laid_math_bits_deBruijn32tab), ("math/bits.deBruijn64tab", laid_math_bits_deBruijn64tab), ("internal/strconv.uint64pow10", laid_internal_strconv_uint64pow10)] }
def ScaledRomanSaid : Prop := scaledRomanRow.holds Tryd.pinned (OpenSpec.ofChange scaledRomanSpec)

/-- ITS FALSE NEIGHBOUR: 'it returns false'. Refute it at one input. -/
def scaledRomanWrong : ChangeSpec := { name := "scaledRoman", fn := fun _ => fun
  | [d] => { results := [.lit (.bool false)], args := [d] }
  | _ => none }
def ScaledRomanWrongFalsely : Prop := scaledRomanRow.holds Tryd.pinned (OpenSpec.ofChange scaledRomanWrong)

/- THE SECOND FORM. 'bulk': how many values and letters a reading holds, each counted each time it is reached (what is shared counts as often as it is met; a slice's spare places count too). A statement '..UptoSaid' is the law's where the arguments, and the package variables that the reading takes, are together of bulk at most 1048576: NARROWER than '..Said'. Prove '..Said' where nothing that the law and all that it calls make is longer than what came in: it says more and counts as full. Else prove '..UptoSaid'. A law counts once. -/
mutual
def uptoBulk {H : Type} : DataW H → Nat
  | .lit (.string bytes) => bytes.length + 1
  | .lit _ => 1
  | .nil => 1
  | .ptr d => uptoBulk d + 1
  | .slice elems spare => uptoBulkAll elems + uptoBulkAll spare + 1
  | .agg parts => uptoBulkAll parts + 1
  | .iface _ d => uptoBulk d + 1
  | .map entries => uptoBulkEntries entries + 1
  | .held _ => 1
def uptoBulkAll {H : Type} : List (DataW H) → Nat
  | [] => 0
  | d :: r => uptoBulk d + uptoBulkAll r
def uptoBulkEntries {H : Type} : List (Lit × DataW H) → Nat
  | [] => 0
  | x :: r => uptoBulkEntry x + uptoBulkEntries r
def uptoBulkEntry {H : Type} : Lit × DataW H → Nat
  | (.string bytes, d) => bytes.length + uptoBulk d + 1
  | (_, d) => uptoBulk d + 1
 end
def uptoSmall : (H : Type) → List (DataW H) → Bool := fun _ ds => decide (uptoBulkAll ds ≤ 1048576)
def OpenSpec.upto (s : _root_.Go.ChangeSpec) : _root_.Go.OpenSpec := { _root_.Go.OpenSpec.ofChange s with cond := some uptoSmall }

/-- 'galleylaw01.ScaledKnuth', WHERE WHAT IT READS IS OF BULK AT MOST 1048576: true; the input reads as it did. -/
def scaledKnuthUptoRow : OpenClaim := { program := "ytpnlhphpmkfckaadoor", sum := "11e4f74d4f9f5c08bb7302f0c8980642a3763d43214e7d11a3de0b74959ced9d", func := "galley/galleylaw01.ScaledKnuth", spec := "scaledKnuth", inPlace := ["internal/abi.NoEscape"], unfollowed := true, recurses := true, named := ["internal/strconv.uint64pow10", "math/bits.deBruijn32tab", "math/bits.deBruijn64tab"], apart := false, laid := [("math/bits.deBruijn32tab", laid_math_bits_deBruijn32tab), ("math/bits.deBruijn64tab", laid_math_bits_deBruijn64tab), ("internal/strconv.uint64pow10", laid_internal_strconv_uint64pow10)], narrowed := true }
def ScaledKnuthUptoSaid : Prop := scaledKnuthUptoRow.holds Tryd.pinned (OpenSpec.upto scaledKnuthSpec)

/-- 'galleylaw01.ScaledBadness', WHERE WHAT IT READS IS OF BULK AT MOST 1048576: true; the input reads as it did. -/
def scaledBadnessUptoRow : OpenClaim := { program := "ytpnlhphpmkfckaadoor", sum := "11e4f74d4f9f5c08bb7302f0c8980642a3763d43214e7d11a3de0b74959ced9d", func := "galley/galleylaw01.ScaledBadness", spec := "scaledBadness", inPlace := ["internal/abi.NoEscape"], unfollowed := true, recurses := true, named := ["internal/strconv.uint64pow10", "math/bits.deBruijn32tab", "math/bits.deBruijn64tab"], apart := false, laid := [("math/bits.deBruijn32tab", laid_math_bits_deBruijn32tab), ("math/bits.deBruijn64tab", laid_math_bits_deBruijn64tab), ("internal/strconv.uint64pow10", laid_internal_strconv_uint64pow10)], narrowed := true }
def ScaledBadnessUptoSaid : Prop := scaledBadnessUptoRow.holds Tryd.pinned (OpenSpec.upto scaledBadnessSpec)

/-- 'galleylaw01.ScaledSums', WHERE WHAT IT READS IS OF BULK AT MOST 1048576: true; the input reads as it did. -/
def scaledSumsUptoRow : OpenClaim := { program := "ytpnlhphpmkfckaadoor", sum := "11e4f74d4f9f5c08bb7302f0c8980642a3763d43214e7d11a3de0b74959ced9d", func := "galley/galleylaw01.ScaledSums", spec := "scaledSums", inPlace := ["internal/abi.NoEscape"], unfollowed := true, recurses := true, named := ["internal/strconv.uint64pow10", "math/bits.deBruijn32tab", "math/bits.deBruijn64tab"], apart := false, laid := [("math/bits.deBruijn32tab", laid_math_bits_deBruijn32tab), ("math/bits.deBruijn64tab", laid_math_bits_deBruijn64tab), ("internal/strconv.uint64pow10", laid_internal_strconv_uint64pow10)], narrowed := true }
def ScaledSumsUptoSaid : Prop := scaledSumsUptoRow.holds Tryd.pinned (OpenSpec.upto scaledSumsSpec)

/-- 'galleylaw01.ScaledUnits', WHERE WHAT IT READS IS OF BULK AT MOST 1048576: true; the input reads as it did. -/
def scaledUnitsUptoRow : OpenClaim := { program := "ytpnlhphpmkfckaadoor", sum := "11e4f74d4f9f5c08bb7302f0c8980642a3763d43214e7d11a3de0b74959ced9d", func := "galley/galleylaw01.ScaledUnits", spec := "scaledUnits", inPlace := ["internal/abi.NoEscape"], unfollowed := true, recurses := true, named := ["internal/strconv.uint64pow10", "math/bits.deBruijn32tab", "math/bits.deBruijn64tab"], apart := false, laid := [("math/bits.deBruijn32tab", laid_math_bits_deBruijn32tab), ("math/bits.deBruijn64tab", laid_math_bits_deBruijn64tab), ("internal/strconv.uint64pow10", laid_internal_strconv_uint64pow10)], narrowed := true }
def ScaledUnitsUptoSaid : Prop := scaledUnitsUptoRow.holds Tryd.pinned (OpenSpec.upto scaledUnitsSpec)

/-- 'galleylaw01.ScaledTexts', WHERE WHAT IT READS IS OF BULK AT MOST 1048576: true; the input reads as it did. -/
def scaledTextsUptoRow : OpenClaim := { program := "ytpnlhphpmkfckaadoor", sum := "11e4f74d4f9f5c08bb7302f0c8980642a3763d43214e7d11a3de0b74959ced9d", func := "galley/galleylaw01.ScaledTexts", spec := "scaledTexts", inPlace := ["internal/abi.NoEscape"], unfollowed := true, recurses := true, named := ["internal/strconv.uint64pow10", "math/bits.deBruijn32tab", "math/bits.deBruijn64tab"], apart := false, laid := [("math/bits.deBruijn32tab", laid_math_bits_deBruijn32tab), ("math/bits.deBruijn64tab", laid_math_bits_deBruijn64tab), ("internal/strconv.uint64pow10", laid_internal_strconv_uint64pow10)], narrowed := true }
def ScaledTextsUptoSaid : Prop := scaledTextsUptoRow.holds Tryd.pinned (OpenSpec.upto scaledTextsSpec)

/-- 'galleylaw01.ScaledExact', WHERE WHAT IT READS IS OF BULK AT MOST 1048576: true; the input reads as it did. -/
def scaledExactUptoRow : OpenClaim := { program := "ytpnlhphpmkfckaadoor", sum := "11e4f74d4f9f5c08bb7302f0c8980642a3763d43214e7d11a3de0b74959ced9d", func := "galley/galleylaw01.ScaledExact", spec := "scaledExact", inPlace := ["internal/abi.NoEscape"], unfollowed := true, recurses := true, named := ["internal/strconv.uint64pow10", "math/bits.deBruijn32tab", "math/bits.deBruijn64tab", "math/bits.divideError", "math/bits.overflowError"], apart := false, laid := [("math/bits.deBruijn32tab", laid_math_bits_deBruijn32tab), ("math/bits.deBruijn64tab", laid_math_bits_deBruijn64tab), ("internal/strconv.uint64pow10", laid_internal_strconv_uint64pow10)], narrowed := true }
def ScaledExactUptoSaid : Prop := scaledExactUptoRow.holds Tryd.pinned (OpenSpec.upto scaledExactSpec)

/-- 'galleylaw01.ScaledParts', WHERE WHAT IT READS IS OF BULK AT MOST 1048576: true; the input reads as it did. -/
def scaledPartsUptoRow : OpenClaim := { program := "ytpnlhphpmkfckaadoor", sum := "11e4f74d4f9f5c08bb7302f0c8980642a3763d43214e7d11a3de0b74959ced9d", func := "galley/galleylaw01.ScaledParts", spec := "scaledParts", inPlace := ["internal/abi.NoEscape"], unfollowed := true, recurses := true, named := ["math/bits.divideError", "math/bits.overflowError", "internal/strconv.uint64pow10", "math/bits.deBruijn32tab", "math/bits.deBruijn64tab"], apart := false, laid := [("math/bits.deBruijn32tab", laid_math_bits_deBruijn32tab), ("math/bits.deBruijn64tab", laid_math_bits_deBruijn64tab), ("internal/strconv.uint64pow10", laid_internal_strconv_uint64pow10)], narrowed := true }
def ScaledPartsUptoSaid : Prop := scaledPartsUptoRow.holds Tryd.pinned (OpenSpec.upto scaledPartsSpec)

/-- 'galleylaw01.ScaledPrints', WHERE WHAT IT READS IS OF BULK AT MOST 1048576: true; the input reads as it did. -/
def scaledPrintsUptoRow : OpenClaim := { program := "ytpnlhphpmkfckaadoor", sum := "11e4f74d4f9f5c08bb7302f0c8980642a3763d43214e7d11a3de0b74959ced9d", func := "galley/galleylaw01.ScaledPrints", spec := "scaledPrints", inPlace := ["internal/abi.NoEscape", "internal/bytealg.MakeNoZero"], unfollowed := true, recurses := true, named := ["internal/strconv.uint64pow10", "math/bits.deBruijn32tab", "math/bits.deBruijn64tab"], apart := false, laid := [("math/bits.deBruijn32tab", laid_math_bits_deBruijn32tab), ("math/bits.deBruijn64tab", laid_math_bits_deBruijn64tab), ("internal/strconv.uint64pow10", laid_internal_strconv_uint64pow10)], narrowed := true }
def ScaledPrintsUptoSaid : Prop := scaledPrintsUptoRow.holds Tryd.pinned (OpenSpec.upto scaledPrintsSpec)

/-- 'galleylaw01.ScaledRoman', WHERE WHAT IT READS IS OF BULK AT MOST 1048576: true; the input reads as it did. -/
def scaledRomanUptoRow : OpenClaim := { program := "ytpnlhphpmkfckaadoor", sum := "11e4f74d4f9f5c08bb7302f0c8980642a3763d43214e7d11a3de0b74959ced9d", func := "galley/galleylaw01.ScaledRoman", spec := "scaledRoman", inPlace := ["internal/abi.NoEscape", "internal/bytealg.MakeNoZero"], unfollowed := true, recurses := true, named := ["internal/strconv.uint64pow10", "math/bits.deBruijn32tab", "math/bits.deBruijn64tab"], apart := false, laid := [("math/bits.deBruijn32tab", laid_math_bits_deBruijn32tab), ("math/bits.deBruijn64tab", laid_math_bits_deBruijn64tab), ("internal/strconv.uint64pow10", laid_internal_strconv_uint64pow10)], narrowed := true }
def ScaledRomanUptoSaid : Prop := scaledRomanUptoRow.holds Tryd.pinned (OpenSpec.upto scaledRomanSpec)

end Rows
end Go.Proofs.YtpnlhphpmkfckaaDoor
