/-
  NARROWER THAN 'FOR EVERY INPUT', by the rows' own cells (each row's printed sentence says how): IsoTells: laid · IsoMisses: laid · IsoBack: laid · IsoSwaps: laid · IsoCodes: laid · IsoKinds: laid · IsoSmall: laid.
  DERIVED. THE GIVEN ROWS OF THIS SEAT. 7 by the template 'for every input the law returns true; each argument reads behind the call as it read before'; 0 by the template 'total and deterministic' (their statements: YtedpadjlkddgjaaDoorTotals.lean).
  GIVEN WITH THE SEED: the statements are not yours to turn. If you find one false, say at which input.
  Laid BY PROGRAM, IN A SANDBOX (cutbox-rows.mjs): the forced cells as the released guide's own fill.sh prints them over the translation 270599c0470dace9… (all of the seat's roots in one cut). By AI agents, Wed Nov 11 2026. No macro, syntax, notation, axiom, sorry.
-/
import Derived.Test.YtedpadjlkddgjaaDoorChecked
import GoSem.Claim
import GoSem.ClaimJoined
import GoSem.ClaimMapViews
import Derived.JoinedTies
import Derived.KernelRfl
namespace Go.Proofs.YtedpadjlkddgjaaDoor
/- THE CELL 'sum', in the pinned program and in every row, IS THE sha256 OF THE DUMP (.gsa) THAT YtedpadjlkddgjaaDoorProg.lean LOADS. Nothing in Lean hashes anything: it is a label: what it is worth is what the hold of that sum in a sandbox is worth. -/
noncomputable def Tryd.pinned : Pinned := { name := "ytedpadjlkddgjaadoor", sum := "270599c0470dace93e2dcbf65da50449b32bb9858e06b9dd84663a9e72984609", checked := Tryd.checked }
namespace Rows
def none {H : Type} : Left H := { results := [], args := [] }

/- WHAT THE LISTED PACKAGE-LEVEL VARIABLES READ AS WHEN THE CALL BEGINS. Each datum BY PROGRAM (the guide's laid-datum.mjs) off the statement by which the dump's own 'gosem.cut.vars' lays the variable. In a bare row this is a premise. The card (YtedpadjlkddgjaaDoorCards.lean) ties it to the program's text. -/
def laid_twistlock_iso_kinds {H : Type} : DataW H := .slice [.agg [.lit (.string [50, 50, 71, 49]), .agg [.lit (.int .u8 20), .lit (.bool false), .lit (.bool false)]], .agg [.lit (.string [50, 50, 82, 49]), .agg [.lit (.int .u8 20), .lit (.bool false), .lit (.bool true)]], .agg [.lit (.string [52, 50, 71, 49]), .agg [.lit (.int .u8 40), .lit (.bool false), .lit (.bool false)]], .agg [.lit (.string [52, 50, 82, 49]), .agg [.lit (.int .u8 40), .lit (.bool false), .lit (.bool true)]], .agg [.lit (.string [52, 53, 71, 49]), .agg [.lit (.int .u8 40), .lit (.bool true), .lit (.bool false)]], .agg [.lit (.string [52, 53, 82, 49]), .agg [.lit (.int .u8 40), .lit (.bool true), .lit (.bool true)]]] []

/-- 'twistlocklaw03.IsoTells': WHATEVER THE INPUT: true; the input reads as it did. -/
def isoTellsSpec : ChangeSpec := { name := "isoTells", fn := fun _ => fun
  | [d] => { results := [.lit (.bool true)], args := [d] }
  | _ => none }
def isoTellsRow : OpenClaim := { program := "ytedpadjlkddgjaadoor", sum := "270599c0470dace93e2dcbf65da50449b32bb9858e06b9dd84663a9e72984609", func := "twistlock/twistlocklaw03.IsoTells", spec := "isoTells", inPlace := ["internal/abi.NoEscape", "internal/bytealg.MakeNoZero"], unfollowed := true, recurses := true, named := ["twistlock/iso.kinds"], apart := false, laid := [("twistlock/iso.kinds", laid_twistlock_iso_kinds)] }
def IsoTellsSaid : Prop := isoTellsRow.holds Tryd.pinned (OpenSpec.ofChange isoTellsSpec)

/-- ITS FALSE NEIGHBOUR: 'it returns false'. Refute it at one input. -/
def isoTellsWrong : ChangeSpec := { name := "isoTells", fn := fun _ => fun
  | [d] => { results := [.lit (.bool false)], args := [d] }
  | _ => none }
def IsoTellsWrongFalsely : Prop := isoTellsRow.holds Tryd.pinned (OpenSpec.ofChange isoTellsWrong)

/-- 'twistlocklaw03.IsoMisses': WHATEVER THE INPUT: true; the input reads as it did. -/
def isoMissesSpec : ChangeSpec := { name := "isoMisses", fn := fun _ => fun
  | [d1, d2, d3] => { results := [.lit (.bool true)], args := [d1, d2, d3] }
  | _ => none }
def isoMissesRow : OpenClaim := { program := "ytedpadjlkddgjaadoor", sum := "270599c0470dace93e2dcbf65da50449b32bb9858e06b9dd84663a9e72984609", func := "twistlock/twistlocklaw03.IsoMisses", spec := "isoMisses", inPlace := ["internal/abi.NoEscape", "internal/bytealg.MakeNoZero"], unfollowed := true, recurses := true, named := ["twistlock/iso.kinds"], apart := false, laid := [("twistlock/iso.kinds", laid_twistlock_iso_kinds)] }
def IsoMissesSaid : Prop := isoMissesRow.holds Tryd.pinned (OpenSpec.ofChange isoMissesSpec)

/-- ITS FALSE NEIGHBOUR: 'it returns false'. Refute it at one input. -/
def isoMissesWrong : ChangeSpec := { name := "isoMisses", fn := fun _ => fun
  | [d1, d2, d3] => { results := [.lit (.bool false)], args := [d1, d2, d3] }
  | _ => none }
def IsoMissesWrongFalsely : Prop := isoMissesRow.holds Tryd.pinned (OpenSpec.ofChange isoMissesWrong)

/-- 'twistlocklaw03.IsoBack': WHATEVER THE INPUT: true; the input reads as it did. -/
def isoBackSpec : ChangeSpec := { name := "isoBack", fn := fun _ => fun
  | [d1, d2] => { results := [.lit (.bool true)], args := [d1, d2] }
  | _ => none }
def isoBackRow : OpenClaim := { program := "ytedpadjlkddgjaadoor", sum := "270599c0470dace93e2dcbf65da50449b32bb9858e06b9dd84663a9e72984609", func := "twistlock/twistlocklaw03.IsoBack", spec := "isoBack", inPlace := ["internal/abi.NoEscape", "internal/bytealg.MakeNoZero"], unfollowed := true, recurses := true, named := ["twistlock/iso.kinds"], apart := false, laid := [("twistlock/iso.kinds", laid_twistlock_iso_kinds)] }
def IsoBackSaid : Prop := isoBackRow.holds Tryd.pinned (OpenSpec.ofChange isoBackSpec)

/-- ITS FALSE NEIGHBOUR: 'it returns false'. Refute it at one input. -/
def isoBackWrong : ChangeSpec := { name := "isoBack", fn := fun _ => fun
  | [d1, d2] => { results := [.lit (.bool false)], args := [d1, d2] }
  | _ => none }
def IsoBackWrongFalsely : Prop := isoBackRow.holds Tryd.pinned (OpenSpec.ofChange isoBackWrong)

/-- 'twistlocklaw03.IsoSwaps': WHATEVER THE INPUT: true; the input reads as it did. -/
def isoSwapsSpec : ChangeSpec := { name := "isoSwaps", fn := fun _ => fun
  | [d1, d2, d3] => { results := [.lit (.bool true)], args := [d1, d2, d3] }
  | _ => none }
def isoSwapsRow : OpenClaim := { program := "ytedpadjlkddgjaadoor", sum := "270599c0470dace93e2dcbf65da50449b32bb9858e06b9dd84663a9e72984609", func := "twistlock/twistlocklaw03.IsoSwaps", spec := "isoSwaps", inPlace := ["internal/abi.NoEscape", "internal/bytealg.MakeNoZero"], unfollowed := true, recurses := true, named := ["twistlock/iso.kinds"], apart := false, laid := [("twistlock/iso.kinds", laid_twistlock_iso_kinds)] }
def IsoSwapsSaid : Prop := isoSwapsRow.holds Tryd.pinned (OpenSpec.ofChange isoSwapsSpec)

/-- ITS FALSE NEIGHBOUR: 'it returns false'. Refute it at one input. -/
def isoSwapsWrong : ChangeSpec := { name := "isoSwaps", fn := fun _ => fun
  | [d1, d2, d3] => { results := [.lit (.bool false)], args := [d1, d2, d3] }
  | _ => none }
def IsoSwapsWrongFalsely : Prop := isoSwapsRow.holds Tryd.pinned (OpenSpec.ofChange isoSwapsWrong)

/-- 'twistlocklaw03.IsoCodes': WHATEVER THE INPUT: true; the input reads as it did. -/
def isoCodesSpec : ChangeSpec := { name := "isoCodes", fn := fun _ => fun
  | [d1, d2, d3] => { results := [.lit (.bool true)], args := [d1, d2, d3] }
  | _ => none }
def isoCodesRow : OpenClaim := { program := "ytedpadjlkddgjaadoor", sum := "270599c0470dace93e2dcbf65da50449b32bb9858e06b9dd84663a9e72984609", func := "twistlock/twistlocklaw03.IsoCodes", spec := "isoCodes", inPlace := ["internal/abi.NoEscape", "internal/bytealg.MakeNoZero"], unfollowed := true, recurses := true, named := ["twistlock/iso.kinds"], apart := false, laid := [("twistlock/iso.kinds", laid_twistlock_iso_kinds)] }
def IsoCodesSaid : Prop := isoCodesRow.holds Tryd.pinned (OpenSpec.ofChange isoCodesSpec)

/-- ITS FALSE NEIGHBOUR: 'it returns false'. Refute it at one input. -/
def isoCodesWrong : ChangeSpec := { name := "isoCodes", fn := fun _ => fun
  | [d1, d2, d3] => { results := [.lit (.bool false)], args := [d1, d2, d3] }
  | _ => none }
def IsoCodesWrongFalsely : Prop := isoCodesRow.holds Tryd.pinned (OpenSpec.ofChange isoCodesWrong)

/-- 'twistlocklaw03.IsoKinds': WHATEVER THE INPUT: true; the input reads as it did. -/
def isoKindsSpec : ChangeSpec := { name := "isoKinds", fn := fun _ => fun
  | [d1, d2, d3, d4] => { results := [.lit (.bool true)], args := [d1, d2, d3, d4] }
  | _ => none }
def isoKindsRow : OpenClaim := { program := "ytedpadjlkddgjaadoor", sum := "270599c0470dace93e2dcbf65da50449b32bb9858e06b9dd84663a9e72984609", func := "twistlock/twistlocklaw03.IsoKinds", spec := "isoKinds", inPlace := ["internal/abi.NoEscape", "internal/bytealg.MakeNoZero"], unfollowed := true, recurses := true, named := ["twistlock/iso.kinds"], apart := false, laid := [("twistlock/iso.kinds", laid_twistlock_iso_kinds)] }
def IsoKindsSaid : Prop := isoKindsRow.holds Tryd.pinned (OpenSpec.ofChange isoKindsSpec)

/-- ITS FALSE NEIGHBOUR: 'it returns false'. Refute it at one input. -/
def isoKindsWrong : ChangeSpec := { name := "isoKinds", fn := fun _ => fun
  | [d1, d2, d3, d4] => { results := [.lit (.bool false)], args := [d1, d2, d3, d4] }
  | _ => none }
def IsoKindsWrongFalsely : Prop := isoKindsRow.holds Tryd.pinned (OpenSpec.ofChange isoKindsWrong)

/-- 'twistlocklaw03.IsoSmall': WHATEVER THE INPUT: true; the input reads as it did. -/
def isoSmallSpec : ChangeSpec := { name := "isoSmall", fn := fun _ => fun
  | [] => { results := [.lit (.bool true)], args := [] }
  | _ => none }
def isoSmallRow : OpenClaim := { program := "ytedpadjlkddgjaadoor", sum := "270599c0470dace93e2dcbf65da50449b32bb9858e06b9dd84663a9e72984609", func := "twistlock/twistlocklaw03.IsoSmall", spec := "isoSmall", inPlace := ["internal/abi.NoEscape", "internal/bytealg.MakeNoZero"], unfollowed := true, recurses := true, named := ["twistlock/iso.kinds"], apart := false, laid := [("twistlock/iso.kinds", laid_twistlock_iso_kinds)] }
def IsoSmallSaid : Prop := isoSmallRow.holds Tryd.pinned (OpenSpec.ofChange isoSmallSpec)

/-- ITS FALSE NEIGHBOUR: 'it returns false'. Refute it at one input. -/
def isoSmallWrong : ChangeSpec := { name := "isoSmall", fn := fun _ => fun
  | [] => { results := [.lit (.bool false)], args := [] }
  | _ => none }
def IsoSmallWrongFalsely : Prop := isoSmallRow.holds Tryd.pinned (OpenSpec.ofChange isoSmallWrong)

/- THE SECOND FORM. 'bulk': how many values and letters a reading holds, each counted each time it is reached (what is shared counts as often as it is met; a slice's spare places count too). A statement '..UptoSaid' is the law's where the arguments, and the package variables that the reading takes, are together of bulk at most 1048576: NARROWER than '..Said'. Prove '..Said' where nothing that the law and all that it calls make is longer than what came in: it says more and counts as full. Else prove '..UptoSaid'. A law counts once. -/
mutual
def uptoBulk {H : Type} : DataW H → Nat
  | .lit (.string bytes) => bytes.length + 1
  | .lit _ => 1
  | .nil => 1
  | .ptr d => uptoBulk d + 1
  | .slice elems spare => uptoBulkAll elems + uptoBulkAll spare + 1
  | .agg parts => uptoBulkAll parts + 1
  | .iface _ d => uptoBulk d + 1
  | .map entries => uptoBulkEntries entries + 1
  | .held _ => 1
def uptoBulkAll {H : Type} : List (DataW H) → Nat
  | [] => 0
  | d :: r => uptoBulk d + uptoBulkAll r
def uptoBulkEntries {H : Type} : List (Lit × DataW H) → Nat
  | [] => 0
  | x :: r => uptoBulkEntry x + uptoBulkEntries r
def uptoBulkEntry {H : Type} : Lit × DataW H → Nat
  | (.string bytes, d) => bytes.length + uptoBulk d + 1
  | (_, d) => uptoBulk d + 1
 end
def uptoSmall : (H : Type) → List (DataW H) → Bool := fun _ ds => decide (uptoBulkAll ds ≤ 1048576)
def OpenSpec.upto (s : _root_.Go.ChangeSpec) : _root_.Go.OpenSpec := { _root_.Go.OpenSpec.ofChange s with cond := some uptoSmall }

/-- 'twistlocklaw03.IsoTells', WHERE WHAT IT READS IS OF BULK AT MOST 1048576: true; the input reads as it did. -/
def isoTellsUptoRow : OpenClaim := { program := "ytedpadjlkddgjaadoor", sum := "270599c0470dace93e2dcbf65da50449b32bb9858e06b9dd84663a9e72984609", func := "twistlock/twistlocklaw03.IsoTells", spec := "isoTells", inPlace := ["internal/abi.NoEscape", "internal/bytealg.MakeNoZero"], unfollowed := true, recurses := true, named := ["twistlock/iso.kinds"], apart := false, laid := [("twistlock/iso.kinds", laid_twistlock_iso_kinds)], narrowed := true }
def IsoTellsUptoSaid : Prop := isoTellsUptoRow.holds Tryd.pinned (OpenSpec.upto isoTellsSpec)

/-- 'twistlocklaw03.IsoMisses', WHERE WHAT IT READS IS OF BULK AT MOST 1048576: true; the input reads as it did. -/
def isoMissesUptoRow : OpenClaim := { program := "ytedpadjlkddgjaadoor", sum := "270599c0470dace93e2dcbf65da50449b32bb9858e06b9dd84663a9e72984609", func := "twistlock/twistlocklaw03.IsoMisses", spec := "isoMisses", inPlace := ["internal/abi.NoEscape", "internal/bytealg.MakeNoZero"], unfollowed := true, recurses := true, named := ["twistlock/iso.kinds"], apart := false, laid := [("twistlock/iso.kinds", laid_twistlock_iso_kinds)], narrowed := true }
def IsoMissesUptoSaid : Prop := isoMissesUptoRow.holds Tryd.pinned (OpenSpec.upto isoMissesSpec)

/-- 'twistlocklaw03.IsoBack', WHERE WHAT IT READS IS OF BULK AT MOST 1048576: true; the input reads as it did. -/
def isoBackUptoRow : OpenClaim := { program := "ytedpadjlkddgjaadoor", sum := "270599c0470dace93e2dcbf65da50449b32bb9858e06b9dd84663a9e72984609", func := "twistlock/twistlocklaw03.IsoBack", spec := "isoBack", inPlace := ["internal/abi.NoEscape", "internal/bytealg.MakeNoZero"], unfollowed := true, recurses := true, named := ["twistlock/iso.kinds"], apart := false, laid := [("twistlock/iso.kinds", laid_twistlock_iso_kinds)], narrowed := true }
def IsoBackUptoSaid : Prop := isoBackUptoRow.holds Tryd.pinned (OpenSpec.upto isoBackSpec)

/-- 'twistlocklaw03.IsoSwaps', WHERE WHAT IT READS IS OF BULK AT MOST 1048576: true; the input reads as it did. -/
def isoSwapsUptoRow : OpenClaim := { program := "ytedpadjlkddgjaadoor", sum := "270599c0470dace93e2dcbf65da50449b32bb9858e06b9dd84663a9e72984609", func := "twistlock/twistlocklaw03.IsoSwaps", spec := "isoSwaps", inPlace := ["internal/abi.NoEscape", "internal/bytealg.MakeNoZero"], unfollowed := true, recurses := true, named := ["twistlock/iso.kinds"], apart := false, laid := [("twistlock/iso.kinds", laid_twistlock_iso_kinds)], narrowed := true }
def IsoSwapsUptoSaid : Prop := isoSwapsUptoRow.holds Tryd.pinned (OpenSpec.upto isoSwapsSpec)

/-- 'twistlocklaw03.IsoCodes', WHERE WHAT IT READS IS OF BULK AT MOST 1048576: true; the input reads as it did. -/
def isoCodesUptoRow : OpenClaim := { program := "ytedpadjlkddgjaadoor", sum := "270599c0470dace93e2dcbf65da50449b32bb9858e06b9dd84663a9e72984609", func := "twistlock/twistlocklaw03.IsoCodes", spec := "isoCodes", inPlace := ["internal/abi.NoEscape", "internal/bytealg.MakeNoZero"], unfollowed := true, recurses := true, named := ["twistlock/iso.kinds"], apart := false, laid := [("twistlock/iso.kinds", laid_twistlock_iso_kinds)], narrowed := true }
def IsoCodesUptoSaid : Prop := isoCodesUptoRow.holds Tryd.pinned (OpenSpec.upto isoCodesSpec)

/-- 'twistlocklaw03.IsoKinds', WHERE WHAT IT READS IS OF BULK AT MOST 1048576: true; the input reads as it did. -/
def isoKindsUptoRow : OpenClaim := { program := "ytedpadjlkddgjaadoor", sum := "270599c0470dace93e2dcbf65da50449b32bb9858e06b9dd84663a9e72984609", func := "twistlock/twistlocklaw03.IsoKinds", spec := "isoKinds", inPlace := ["internal/abi.NoEscape", "internal/bytealg.MakeNoZero"], unfollowed := true, recurses := true, named := ["twistlock/iso.kinds"], apart := false, laid := [("twistlock/iso.kinds", laid_twistlock_iso_kinds)], narrowed := true }
def IsoKindsUptoSaid : Prop := isoKindsUptoRow.holds Tryd.pinned (OpenSpec.upto isoKindsSpec)

/-- 'twistlocklaw03.IsoSmall', WHERE WHAT IT READS IS OF BULK AT MOST 1048576: true; the input reads as it did. -/
def isoSmallUptoRow : OpenClaim := { program := "ytedpadjlkddgjaadoor", sum := "270599c0470dace93e2dcbf65da50449b32bb9858e06b9dd84663a9e72984609", func := "twistlock/twistlocklaw03.IsoSmall", spec := "isoSmall", inPlace := ["internal/abi.NoEscape", "internal/bytealg.MakeNoZero"], unfollowed := true, recurses := true, named := ["twistlock/iso.kinds"], apart := false, laid := [("twistlock/iso.kinds", laid_twistlock_iso_kinds)], narrowed := true }
def IsoSmallUptoSaid : Prop := isoSmallUptoRow.holds Tryd.pinned (OpenSpec.upto isoSmallSpec)

end Rows
end Go.Proofs.YtedpadjlkddgjaaDoor
