/-
  NARROWER THAN 'FOR EVERY INPUT', by the rows' own cells (each row's printed sentence says how): FracRatios: laid · FracField: laid · FracTurns: laid · FracLong: laid · FracTexts: laid · FracOrder: laid · FracFloors: laid · FracWrong: laid.
  DERIVED. THE GIVEN ROWS OF THIS SEAT. 8 by the template 'for every input the law returns true; each argument reads behind the call as it read before'; 0 by the template 'total and deterministic' (their statements: YtlkhafpkcfdlcaaDoorTotals.lean).
  GIVEN WITH THE SEED: the statements are not yours to turn. If you find one false, say at which input.
  Laid BY PROGRAM, IN A SANDBOX (cutbox-rows.mjs): the forced cells as the released guide's own fill.sh prints them over the translation bd0cea4aa368f215… (all of the seat's roots in one cut). By AI agents, Wed Nov 11 2026. No macro, syntax, notation, axiom, sorry.
-/
import Derived.Test.YtlkhafpkcfdlcaaDoorChecked
import GoSem.PinnedTables
import GoSem.Claim
import GoSem.ClaimJoined
import GoSem.ClaimMapViews
import Derived.JoinedTies
import Derived.KernelRfl
namespace Go.Proofs.YtlkhafpkcfdlcaaDoor
/- THE CELL 'sum', in the pinned program and in every row, IS THE sha256 OF THE DUMP (.gsa) THAT YtlkhafpkcfdlcaaDoorProg.lean LOADS. Nothing in Lean hashes anything: it is a label: what it is worth is what the hold of that sum in a sandbox is worth. -/
noncomputable def Tryd.pinned : Pinned := { name := "ytlkhafpkcfdlcaadoor", sum := "bd0cea4aa368f215afe7c75e0e55d2cf67ca9ba4a871653d0ba0c195a3472473", checked := Tryd.checked }
namespace Rows
def none {H : Type} : Left H := { results := [], args := [] }

/- WHAT THE LISTED PACKAGE-LEVEL VARIABLES READ AS WHEN THE CALL BEGINS. Each datum BY PROGRAM (the guide's laid-datum.mjs) off the statement by which the dump's own 'gosem.cut.vars' lays the variable. In a bare row this is a premise. The card (YtlkhafpkcfdlcaaDoorCards.lean) ties it to the program's text. -/
def laid_unicode_utf8_acceptRanges {H : Type} : DataW H := .agg [.agg [.lit (.int .u8 128), .lit (.int .u8 191)], .agg [.lit (.int .u8 160), .lit (.int .u8 191)], .agg [.lit (.int .u8 128), .lit (.int .u8 159)], .agg [.lit (.int .u8 144), .lit (.int .u8 191)], .agg [.lit (.int .u8 128), .lit (.int .u8 143)], .agg [.lit (.int .u8 0), .lit (.int .u8 0)], .agg [.lit (.int .u8 0), .lit (.int .u8 0)], .agg [.lit (.int .u8 0), .lit (.int .u8 0)], .agg [.lit (.int .u8 0), .lit (.int .u8 0)], .agg [.lit (.int .u8 0), .lit (.int .u8 0)], .agg [.lit (.int .u8 0), .lit (.int .u8 0)], .agg [.lit (.int .u8 0), .lit (.int .u8 0)], .agg [.lit (.int .u8 0), .lit (.int .u8 0)], .agg [.lit (.int .u8 0), .lit (.int .u8 0)], .agg [.lit (.int .u8 0), .lit (.int .u8 0)], .agg [.lit (.int .u8 0), .lit (.int .u8 0)]]
/-- One of Go's own tables, pinned by name: the form's constant. -/
def laid_unicode_utf8_first : DataW Unit := Go.Pinned.utf8First

/-- 'twistlocklaw01.FracRatios': WHATEVER THE INPUT: true; the input reads as it did. -/
def fracRatiosSpec : ChangeSpec := { name := "fracRatios", fn := fun _ => fun
  | [d1, d2] => { results := [.lit (.bool true)], args := [d1, d2] }
  | _ => none }
def fracRatiosRow : OpenClaim := { program := "ytlkhafpkcfdlcaadoor", sum := "bd0cea4aa368f215afe7c75e0e55d2cf67ca9ba4a871653d0ba0c195a3472473", func := "twistlock/twistlocklaw01.FracRatios", spec := "fracRatios", inPlace := ["internal/bytealg.IndexByteString", "internal/bytealg.IndexString", "internal/abi.NoEscape", "internal/bytealg.MakeNoZero"], unfollowed := true, recurses := true, named := ["unicode/utf8.first", "unicode/utf8.acceptRanges", "internal/bytealg.MaxLen"], apart := false, laid := [("unicode/utf8.acceptRanges", laid_unicode_utf8_acceptRanges), ("unicode/utf8.first", laid_unicode_utf8_first)] }
def FracRatiosSaid : Prop := fracRatiosRow.holds Tryd.pinned (OpenSpec.ofChange fracRatiosSpec)

/-- ITS FALSE NEIGHBOUR: 'it returns false'. Refute it at one input. -/
def fracRatiosWrong : ChangeSpec := { name := "fracRatios", fn := fun _ => fun
  | [d1, d2] => { results := [.lit (.bool false)], args := [d1, d2] }
  | _ => none }
def FracRatiosWrongFalsely : Prop := fracRatiosRow.holds Tryd.pinned (OpenSpec.ofChange fracRatiosWrong)

/-- 'twistlocklaw01.FracField': WHATEVER THE INPUT: true; the input reads as it did. -/
def fracFieldSpec : ChangeSpec := { name := "fracField", fn := fun _ => fun
  | [d1, d2, d3, d4, d5, d6] => { results := [.lit (.bool true)], args := [d1, d2, d3, d4, d5, d6] }
  | _ => none }
def fracFieldRow : OpenClaim := { program := "ytlkhafpkcfdlcaadoor", sum := "bd0cea4aa368f215afe7c75e0e55d2cf67ca9ba4a871653d0ba0c195a3472473", func := "twistlock/twistlocklaw01.FracField", spec := "fracField", inPlace := ["internal/bytealg.IndexByteString", "internal/bytealg.IndexString", "internal/abi.NoEscape", "internal/bytealg.MakeNoZero"], unfollowed := true, recurses := true, named := ["unicode/utf8.first", "unicode/utf8.acceptRanges", "internal/bytealg.MaxLen"], apart := false, laid := [("unicode/utf8.acceptRanges", laid_unicode_utf8_acceptRanges), ("unicode/utf8.first", laid_unicode_utf8_first)] }
def FracFieldSaid : Prop := fracFieldRow.holds Tryd.pinned (OpenSpec.ofChange fracFieldSpec)

/-- ITS FALSE NEIGHBOUR: 'it returns false'. Refute it at one input. -/
def fracFieldWrong : ChangeSpec := { name := "fracField", fn := fun _ => fun
  | [d1, d2, d3, d4, d5, d6] => { results := [.lit (.bool false)], args := [d1, d2, d3, d4, d5, d6] }
  | _ => none }
def FracFieldWrongFalsely : Prop := fracFieldRow.holds Tryd.pinned (OpenSpec.ofChange fracFieldWrong)

/-- 'twistlocklaw01.FracTurns': WHATEVER THE INPUT: true; the input reads as it did. -/
def fracTurnsSpec : ChangeSpec := { name := "fracTurns", fn := fun _ => fun
  | [d1, d2, d3, d4] => { results := [.lit (.bool true)], args := [d1, d2, d3, d4] }
  | _ => none }
def fracTurnsRow : OpenClaim := { program := "ytlkhafpkcfdlcaadoor", sum := "bd0cea4aa368f215afe7c75e0e55d2cf67ca9ba4a871653d0ba0c195a3472473", func := "twistlock/twistlocklaw01.FracTurns", spec := "fracTurns", inPlace := ["internal/bytealg.IndexByteString", "internal/bytealg.IndexString", "internal/abi.NoEscape", "internal/bytealg.MakeNoZero"], unfollowed := true, recurses := true, named := ["unicode/utf8.first", "unicode/utf8.acceptRanges", "internal/bytealg.MaxLen"], apart := false, laid := [("unicode/utf8.acceptRanges", laid_unicode_utf8_acceptRanges), ("unicode/utf8.first", laid_unicode_utf8_first)] }
def FracTurnsSaid : Prop := fracTurnsRow.holds Tryd.pinned (OpenSpec.ofChange fracTurnsSpec)

/-- ITS FALSE NEIGHBOUR: 'it returns false'. Refute it at one input. -/
def fracTurnsWrong : ChangeSpec := { name := "fracTurns", fn := fun _ => fun
  | [d1, d2, d3, d4] => { results := [.lit (.bool false)], args := [d1, d2, d3, d4] }
  | _ => none }
def FracTurnsWrongFalsely : Prop := fracTurnsRow.holds Tryd.pinned (OpenSpec.ofChange fracTurnsWrong)

/-- 'twistlocklaw01.FracLong': WHATEVER THE INPUT: true; the input reads as it did. -/
def fracLongSpec : ChangeSpec := { name := "fracLong", fn := fun _ => fun
  | [d1, d2, d3] => { results := [.lit (.bool true)], args := [d1, d2, d3] }
  | _ => none }
def fracLongRow : OpenClaim := { program := "ytlkhafpkcfdlcaadoor", sum := "bd0cea4aa368f215afe7c75e0e55d2cf67ca9ba4a871653d0ba0c195a3472473", func := "twistlock/twistlocklaw01.FracLong", spec := "fracLong", inPlace := ["internal/bytealg.IndexByteString", "internal/bytealg.IndexString", "internal/abi.NoEscape", "internal/bytealg.MakeNoZero"], unfollowed := true, recurses := true, named := ["unicode/utf8.first", "unicode/utf8.acceptRanges", "internal/bytealg.MaxLen"], apart := false, laid := [("unicode/utf8.acceptRanges", laid_unicode_utf8_acceptRanges), ("unicode/utf8.first", laid_unicode_utf8_first)] }
def FracLongSaid : Prop := fracLongRow.holds Tryd.pinned (OpenSpec.ofChange fracLongSpec)

/-- ITS FALSE NEIGHBOUR: 'it returns false'. Refute it at one input. -/
def fracLongWrong : ChangeSpec := { name := "fracLong", fn := fun _ => fun
  | [d1, d2, d3] => { results := [.lit (.bool false)], args := [d1, d2, d3] }
  | _ => none }
def FracLongWrongFalsely : Prop := fracLongRow.holds Tryd.pinned (OpenSpec.ofChange fracLongWrong)

/-- 'twistlocklaw01.FracTexts': WHATEVER THE INPUT: true; the input reads as it did. -/
def fracTextsSpec : ChangeSpec := { name := "fracTexts", fn := fun _ => fun
  | [d1, d2, d3, d4] => { results := [.lit (.bool true)], args := [d1, d2, d3, d4] }
  | _ => none }
def fracTextsRow : OpenClaim := { program := "ytlkhafpkcfdlcaadoor", sum := "bd0cea4aa368f215afe7c75e0e55d2cf67ca9ba4a871653d0ba0c195a3472473", func := "twistlock/twistlocklaw01.FracTexts", spec := "fracTexts", inPlace := ["internal/bytealg.IndexByteString", "internal/bytealg.IndexString", "internal/abi.NoEscape", "internal/bytealg.MakeNoZero"], unfollowed := true, recurses := true, named := ["unicode/utf8.first", "unicode/utf8.acceptRanges", "internal/bytealg.MaxLen"], apart := false, laid := [("unicode/utf8.acceptRanges", laid_unicode_utf8_acceptRanges), ("unicode/utf8.first", laid_unicode_utf8_first)] }
def FracTextsSaid : Prop := fracTextsRow.holds Tryd.pinned (OpenSpec.ofChange fracTextsSpec)

/-- ITS FALSE NEIGHBOUR: 'it returns false'. Refute it at one input. -/
def fracTextsWrong : ChangeSpec := { name := "fracTexts", fn := fun _ => fun
  | [d1, d2, d3, d4] => { results := [.lit (.bool false)], args := [d1, d2, d3, d4] }
  | _ => none }
def FracTextsWrongFalsely : Prop := fracTextsRow.holds Tryd.pinned (OpenSpec.ofChange fracTextsWrong)

/-- 'twistlocklaw01.FracOrder': WHATEVER THE INPUT: true; the input reads as it did. -/
def fracOrderSpec : ChangeSpec := { name := "fracOrder", fn := fun _ => fun
  | [d1, d2, d3, d4, d5, d6] => { results := [.lit (.bool true)], args := [d1, d2, d3, d4, d5, d6] }
  | _ => none }
def fracOrderRow : OpenClaim := { program := "ytlkhafpkcfdlcaadoor", sum := "bd0cea4aa368f215afe7c75e0e55d2cf67ca9ba4a871653d0ba0c195a3472473", func := "twistlock/twistlocklaw01.FracOrder", spec := "fracOrder", inPlace := ["internal/bytealg.IndexByteString", "internal/bytealg.IndexString", "internal/abi.NoEscape", "internal/bytealg.MakeNoZero"], unfollowed := true, recurses := true, named := ["unicode/utf8.first", "unicode/utf8.acceptRanges", "internal/bytealg.MaxLen"], apart := false, laid := [("unicode/utf8.acceptRanges", laid_unicode_utf8_acceptRanges), ("unicode/utf8.first", laid_unicode_utf8_first)] }
def FracOrderSaid : Prop := fracOrderRow.holds Tryd.pinned (OpenSpec.ofChange fracOrderSpec)

/-- ITS FALSE NEIGHBOUR: 'it returns false'. Refute it at one input. -/
def fracOrderWrong : ChangeSpec := { name := "fracOrder", fn := fun _ => fun
  | [d1, d2, d3, d4, d5, d6] => { results := [.lit (.bool false)], args := [d1, d2, d3, d4, d5, d6] }
  | _ => none }
def FracOrderWrongFalsely : Prop := fracOrderRow.holds Tryd.pinned (OpenSpec.ofChange fracOrderWrong)

/-- 'twistlocklaw01.FracFloors': WHATEVER THE INPUT: true; the input reads as it did. -/
def fracFloorsSpec : ChangeSpec := { name := "fracFloors", fn := fun _ => fun
  | [d1, d2] => { results := [.lit (.bool true)], args := [d1, d2] }
  | _ => none }
def fracFloorsRow : OpenClaim := { program := "ytlkhafpkcfdlcaadoor", sum := "bd0cea4aa368f215afe7c75e0e55d2cf67ca9ba4a871653d0ba0c195a3472473", func := "twistlock/twistlocklaw01.FracFloors", spec := "fracFloors", inPlace := ["internal/bytealg.IndexByteString", "internal/bytealg.IndexString", "internal/abi.NoEscape", "internal/bytealg.MakeNoZero"], unfollowed := true, recurses := true, named := ["unicode/utf8.first", "unicode/utf8.acceptRanges", "internal/bytealg.MaxLen"], apart := false, laid := [("unicode/utf8.acceptRanges", laid_unicode_utf8_acceptRanges), ("unicode/utf8.first", laid_unicode_utf8_first)] }
def FracFloorsSaid : Prop := fracFloorsRow.holds Tryd.pinned (OpenSpec.ofChange fracFloorsSpec)

/-- ITS FALSE NEIGHBOUR: 'it returns false'. Refute it at one input. -/
def fracFloorsWrong : ChangeSpec := { name := "fracFloors", fn := fun _ => fun
  | [d1, d2] => { results := [.lit (.bool false)], args := [d1, d2] }
  | _ => none }
def FracFloorsWrongFalsely : Prop := fracFloorsRow.holds Tryd.pinned (OpenSpec.ofChange fracFloorsWrong)

/-- 'twistlocklaw01.FracWrong': WHATEVER THE INPUT: true; the input reads as it did. -/
def fracWrongSpec : ChangeSpec := { name := "fracWrong", fn := fun _ => fun
  | [d1, d2, d3] => { results := [.lit (.bool true)], args := [d1, d2, d3] }
  | _ => none }
def fracWrongRow : OpenClaim := { program := "ytlkhafpkcfdlcaadoor", sum := "bd0cea4aa368f215afe7c75e0e55d2cf67ca9ba4a871653d0ba0c195a3472473", func := "twistlock/twistlocklaw01.FracWrong", spec := "fracWrong", inPlace := ["internal/bytealg.IndexByteString", "internal/bytealg.IndexString", "internal/abi.NoEscape", "internal/bytealg.MakeNoZero"], unfollowed := true, recurses := true, named := ["unicode/utf8.first", "unicode/utf8.acceptRanges", "internal/bytealg.MaxLen"], apart := false, laid := [("unicode/utf8.acceptRanges", laid_unicode_utf8_acceptRanges), ("unicode/utf8.first", laid_unicode_utf8_first)] }
def FracWrongSaid : Prop := fracWrongRow.holds Tryd.pinned (OpenSpec.ofChange fracWrongSpec)

/-- ITS FALSE NEIGHBOUR: 'it returns false'. Refute it at one input. -/
def fracWrongWrong : ChangeSpec := { name := "fracWrong", fn := fun _ => fun
  | [d1, d2, d3] => { results := [.lit (.bool false)], args := [d1, d2, d3] }
  | _ => none }
def FracWrongWrongFalsely : Prop := fracWrongRow.holds Tryd.pinned (OpenSpec.ofChange fracWrongWrong)

/- THE SECOND FORM. 'bulk': how many values and letters a reading holds, each counted each time it is reached (what is shared counts as often as it is met; a slice's spare places count too). A statement '..UptoSaid' is the law's where the arguments, and the package variables that the reading takes, are together of bulk at most 1048576: NARROWER than '..Said'. Prove '..Said' where nothing that the law and all that it calls make is longer than what came in: it says more and counts as full. Else prove '..UptoSaid'. A law counts once. -/
mutual
def uptoBulk {H : Type} : DataW H → Nat
  | .lit (.string bytes) => bytes.length + 1
  | .lit _ => 1
  | .nil => 1
  | .ptr d => uptoBulk d + 1
  | .slice elems spare => uptoBulkAll elems + uptoBulkAll spare + 1
  | .agg parts => uptoBulkAll parts + 1
  | .iface _ d => uptoBulk d + 1
  | .map entries => uptoBulkEntries entries + 1
  | .held _ => 1
def uptoBulkAll {H : Type} : List (DataW H) → Nat
  | [] => 0
  | d :: r => uptoBulk d + uptoBulkAll r
def uptoBulkEntries {H : Type} : List (Lit × DataW H) → Nat
  | [] => 0
  | x :: r => uptoBulkEntry x + uptoBulkEntries r
def uptoBulkEntry {H : Type} : Lit × DataW H → Nat
  | (.string bytes, d) => bytes.length + uptoBulk d + 1
  | (_, d) => uptoBulk d + 1
 end
def uptoSmall : (H : Type) → List (DataW H) → Bool := fun _ ds => decide (uptoBulkAll ds ≤ 1048576)
def OpenSpec.upto (s : _root_.Go.ChangeSpec) : _root_.Go.OpenSpec := { _root_.Go.OpenSpec.ofChange s with cond := some uptoSmall }

/-- 'twistlocklaw01.FracRatios', WHERE WHAT IT READS IS OF BULK AT MOST 1048576: true; the input reads as it did. -/
def fracRatiosUptoRow : OpenClaim := { program := "ytlkhafpkcfdlcaadoor", sum := "bd0cea4aa368f215afe7c75e0e55d2cf67ca9ba4a871653d0ba0c195a3472473", func := "twistlock/twistlocklaw01.FracRatios", spec := "fracRatios", inPlace := ["internal/bytealg.IndexByteString", "internal/bytealg.IndexString", "internal/abi.NoEscape", "internal/bytealg.MakeNoZero"], unfollowed := true, recurses := true, named := ["unicode/utf8.first", "unicode/utf8.acceptRanges", "internal/bytealg.MaxLen"], apart := false, laid := [("unicode/utf8.acceptRanges", laid_unicode_utf8_acceptRanges), ("unicode/utf8.first", laid_unicode_utf8_first)], narrowed := true }
def FracRatiosUptoSaid : Prop := fracRatiosUptoRow.holds Tryd.pinned (OpenSpec.upto fracRatiosSpec)

/-- 'twistlocklaw01.FracField', WHERE WHAT IT READS IS OF BULK AT MOST 1048576: true; the input reads as it did. -/
def fracFieldUptoRow : OpenClaim := { program := "ytlkhafpkcfdlcaadoor", sum := "bd0cea4aa368f215afe7c75e0e55d2cf67ca9ba4a871653d0ba0c195a3472473", func := "twistlock/twistlocklaw01.FracField", spec := "fracField", inPlace := ["internal/bytealg.IndexByteString", "internal/bytealg.IndexString", "internal/abi.NoEscape", "internal/bytealg.MakeNoZero"], unfollowed := true, recurses := true, named := ["unicode/utf8.first", "unicode/utf8.acceptRanges", "internal/bytealg.MaxLen"], apart := false, laid := [("unicode/utf8.acceptRanges", laid_unicode_utf8_acceptRanges), ("unicode/utf8.first", laid_unicode_utf8_first)], narrowed := true }
def FracFieldUptoSaid : Prop := fracFieldUptoRow.holds Tryd.pinned (OpenSpec.upto fracFieldSpec)

/-- 'twistlocklaw01.FracTurns', WHERE WHAT IT READS IS OF BULK AT MOST 1048576: true; the input reads as it did. -/
def fracTurnsUptoRow : OpenClaim := { program := "ytlkhafpkcfdlcaadoor", sum := "bd0cea4aa368f215afe7c75e0e55d2cf67ca9ba4a871653d0ba0c195a3472473", func := "twistlock/twistlocklaw01.FracTurns", spec := "fracTurns", inPlace := ["internal/bytealg.IndexByteString", "internal/bytealg.IndexString", "internal/abi.NoEscape", "internal/bytealg.MakeNoZero"], unfollowed := true, recurses := true, named := ["unicode/utf8.first", "unicode/utf8.acceptRanges", "internal/bytealg.MaxLen"], apart := false, laid := [("unicode/utf8.acceptRanges", laid_unicode_utf8_acceptRanges), ("unicode/utf8.first", laid_unicode_utf8_first)], narrowed := true }
def FracTurnsUptoSaid : Prop := fracTurnsUptoRow.holds Tryd.pinned (OpenSpec.upto fracTurnsSpec)

/-- 'twistlocklaw01.FracLong', WHERE WHAT IT READS IS OF BULK AT MOST 1048576: true; the input reads as it did. -/
def fracLongUptoRow : OpenClaim := { program := "ytlkhafpkcfdlcaadoor", sum := "bd0cea4aa368f215afe7c75e0e55d2cf67ca9ba4a871653d0ba0c195a3472473", func := "twistlock/twistlocklaw01.FracLong", spec := "fracLong", inPlace := ["internal/bytealg.IndexByteString", "internal/bytealg.IndexString", "internal/abi.NoEscape", "internal/bytealg.MakeNoZero"], unfollowed := true, recurses := true, named := ["unicode/utf8.first", "unicode/utf8.acceptRanges", "internal/bytealg.MaxLen"], apart := false, laid := [("unicode/utf8.acceptRanges", laid_unicode_utf8_acceptRanges), ("unicode/utf8.first", laid_unicode_utf8_first)], narrowed := true }
def FracLongUptoSaid : Prop := fracLongUptoRow.holds Tryd.pinned (OpenSpec.upto fracLongSpec)

/-- 'twistlocklaw01.FracTexts', WHERE WHAT IT READS IS OF BULK AT MOST 1048576: true; the input reads as it did. -/
def fracTextsUptoRow : OpenClaim := { program := "ytlkhafpkcfdlcaadoor", sum := "bd0cea4aa368f215afe7c75e0e55d2cf67ca9ba4a871653d0ba0c195a3472473", func := "twistlock/twistlocklaw01.FracTexts", spec := "fracTexts", inPlace := ["internal/bytealg.IndexByteString", "internal/bytealg.IndexString", "internal/abi.NoEscape", "internal/bytealg.MakeNoZero"], unfollowed := true, recurses := true, named := ["unicode/utf8.first", "unicode/utf8.acceptRanges", "internal/bytealg.MaxLen"], apart := false, laid := [("unicode/utf8.acceptRanges", laid_unicode_utf8_acceptRanges), ("unicode/utf8.first", laid_unicode_utf8_first)], narrowed := true }
def FracTextsUptoSaid : Prop := fracTextsUptoRow.holds Tryd.pinned (OpenSpec.upto fracTextsSpec)

/-- 'twistlocklaw01.FracOrder', WHERE WHAT IT READS IS OF BULK AT MOST 1048576: true; the input reads as it did. -/
def fracOrderUptoRow : OpenClaim := { program := "ytlkhafpkcfdlcaadoor", sum := "bd0cea4aa368f215afe7c75e0e55d2cf67ca9ba4a871653d0ba0c195a3472473", func := "twistlock/twistlocklaw01.FracOrder", spec := "fracOrder", inPlace := ["internal/bytealg.IndexByteString", "internal/bytealg.IndexString", "internal/abi.NoEscape", "internal/bytealg.MakeNoZero"], unfollowed := true, recurses := true, named := ["unicode/utf8.first", "unicode/utf8.acceptRanges", "internal/bytealg.MaxLen"], apart := false, laid := [("unicode/utf8.acceptRanges", laid_unicode_utf8_acceptRanges), ("unicode/utf8.first", laid_unicode_utf8_first)], narrowed := true }
def FracOrderUptoSaid : Prop := fracOrderUptoRow.holds Tryd.pinned (OpenSpec.upto fracOrderSpec)

/-- 'twistlocklaw01.FracFloors', WHERE WHAT IT READS IS OF BULK AT MOST 1048576: true; the input reads as it did. -/
def fracFloorsUptoRow : OpenClaim := { program := "ytlkhafpkcfdlcaadoor", sum := "bd0cea4aa368f215afe7c75e0e55d2cf67ca9ba4a871653d0ba0c195a3472473", func := "twistlock/twistlocklaw01.FracFloors", spec := "fracFloors", inPlace := ["internal/bytealg.IndexByteString", "internal/bytealg.IndexString", "internal/abi.NoEscape", "internal/bytealg.MakeNoZero"], unfollowed := true, recurses := true, named := ["unicode/utf8.first", "unicode/utf8.acceptRanges", "internal/bytealg.MaxLen"], apart := false, laid := [("unicode/utf8.acceptRanges", laid_unicode_utf8_acceptRanges), ("unicode/utf8.first", laid_unicode_utf8_first)], narrowed := true }
def FracFloorsUptoSaid : Prop := fracFloorsUptoRow.holds Tryd.pinned (OpenSpec.upto fracFloorsSpec)

/-- 'twistlocklaw01.FracWrong', WHERE WHAT IT READS IS OF BULK AT MOST 1048576: true; the input reads as it did. -/
def fracWrongUptoRow : OpenClaim := { program := "ytlkhafpkcfdlcaadoor", sum := "bd0cea4aa368f215afe7c75e0e55d2cf67ca9ba4a871653d0ba0c195a3472473", func := "twistlock/twistlocklaw01.FracWrong", spec := "fracWrong", inPlace := ["internal/bytealg.IndexByteString", "internal/bytealg.IndexString", "internal/abi.NoEscape", "internal/bytealg.MakeNoZero"], unfollowed := true, recurses := true, named := ["unicode/utf8.first", "unicode/utf8.acceptRanges", "internal/bytealg.MaxLen"], apart := false, laid := [("unicode/utf8.acceptRanges", laid_unicode_utf8_acceptRanges), ("unicode/utf8.first", laid_unicode_utf8_first)], narrowed := true }
def FracWrongUptoSaid : Prop := fracWrongUptoRow.holds Tryd.pinned (OpenSpec.upto fracWrongSpec)

end Rows
end Go.Proofs.YtlkhafpkcfdlcaaDoor
