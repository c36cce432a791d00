/-
  No cell of these rows narrows 'for every input' (looked for: loops, veiled, ifaces, maps, wideKeys, modest, calm, conditions, laid).
  DERIVED. THE GIVEN ROWS OF THIS SEAT. 6 by the template 'for every input the law returns true; each argument reads behind the call as it read before'; 0 by the template 'total and deterministic' (their statements: YtomhfakkebaciaaTotals.lean).
  GIVEN WITH THE SEED: the statements are not yours to turn. If you find one false, say at which input.
  Laid BY PROGRAM, IN A SANDBOX (cutbox-rows.mjs): the forced cells as the released guide's own fill.sh prints them over the translation 3456dee3968875b3… (all of the seat's roots in one cut). By AI agents, Wed Nov 11 2026. No macro, syntax, notation, axiom, sorry.
-/
import Derived.Test.YtomhfakkebaciaaChecked
import GoSem.Claim
import GoSem.ClaimJoined
import GoSem.ClaimMapViews
import Derived.JoinedTies
import Derived.KernelRfl
namespace Go.Proofs.Ytomhfakkebaciaa
/- THE CELL 'sum', in the pinned program and in every row, IS THE sha256 OF THE DUMP (.gsa) THAT YtomhfakkebaciaaProg.lean LOADS. Nothing in Lean hashes anything: it is a label: what it is worth is what the hold of that sum in a sandbox is worth. -/
noncomputable def Try.pinned : Pinned := { name := "ytomhfakkebaciaa", sum := "3456dee3968875b34ee57c88c874ff3d481a3df17c7e99c8ab382591e0d5e717", checked := Try.checked }
namespace Rows
def none {H : Type} : Left H := { results := [], args := [] }

/-- 'twistlocklaw16.HydroTells': WHATEVER THE INPUT: true; the input reads as it did. -/
def hydroTellsSpec : ChangeSpec := { name := "hydroTells", fn := fun _ => fun
  | [d1, d2, d3] => { results := [.lit (.bool true)], args := [d1, d2, d3] }
  | _ => none }
def hydroTellsRow : OpenClaim := { program := "ytomhfakkebaciaa", sum := "3456dee3968875b34ee57c88c874ff3d481a3df17c7e99c8ab382591e0d5e717", func := "twistlock/twistlocklaw16.HydroTells", spec := "hydroTells", unfollowed := true, recurses := true, apart := false }
def HydroTellsSaid : Prop := hydroTellsRow.holds Try.pinned (OpenSpec.ofChange hydroTellsSpec)

/-- ITS FALSE NEIGHBOUR: 'it returns false'. Refute it at one input. -/
def hydroTellsWrong : ChangeSpec := { name := "hydroTells", fn := fun _ => fun
  | [d1, d2, d3] => { results := [.lit (.bool false)], args := [d1, d2, d3] }
  | _ => none }
def HydroTellsWrongFalsely : Prop := hydroTellsRow.holds Try.pinned (OpenSpec.ofChange hydroTellsWrong)

/-- 'twistlocklaw16.HydroSmall': WHATEVER THE INPUT: true; the input reads as it did. -/
def hydroSmallSpec : ChangeSpec := { name := "hydroSmall", fn := fun _ => fun
  | [] => { results := [.lit (.bool true)], args := [] }
  | _ => none }
def hydroSmallRow : OpenClaim := { program := "ytomhfakkebaciaa", sum := "3456dee3968875b34ee57c88c874ff3d481a3df17c7e99c8ab382591e0d5e717", func := "twistlock/twistlocklaw16.HydroSmall", spec := "hydroSmall", unfollowed := true, recurses := true, apart := false }
def HydroSmallSaid : Prop := hydroSmallRow.holds Try.pinned (OpenSpec.ofChange hydroSmallSpec)

/-- ITS FALSE NEIGHBOUR: 'it returns false'. Refute it at one input. -/
def hydroSmallWrong : ChangeSpec := { name := "hydroSmall", fn := fun _ => fun
  | [] => { results := [.lit (.bool false)], args := [] }
  | _ => none }
def HydroSmallWrongFalsely : Prop := hydroSmallRow.holds Try.pinned (OpenSpec.ofChange hydroSmallWrong)

/-- 'twistlocklaw16.HydroMean': WHATEVER THE INPUT: true; the input reads as it did. -/
def hydroMeanSpec : ChangeSpec := { name := "hydroMean", fn := fun _ => fun
  | [d1, d2, d3, d4] => { results := [.lit (.bool true)], args := [d1, d2, d3, d4] }
  | _ => none }
def hydroMeanRow : OpenClaim := { program := "ytomhfakkebaciaa", sum := "3456dee3968875b34ee57c88c874ff3d481a3df17c7e99c8ab382591e0d5e717", func := "twistlock/twistlocklaw16.HydroMean", spec := "hydroMean", unfollowed := true, recurses := true, apart := false }
def HydroMeanSaid : Prop := hydroMeanRow.holds Try.pinned (OpenSpec.ofChange hydroMeanSpec)

/-- ITS FALSE NEIGHBOUR: 'it returns false'. Refute it at one input. -/
def hydroMeanWrong : ChangeSpec := { name := "hydroMean", fn := fun _ => fun
  | [d1, d2, d3, d4] => { results := [.lit (.bool false)], args := [d1, d2, d3, d4] }
  | _ => none }
def HydroMeanWrongFalsely : Prop := hydroMeanRow.holds Try.pinned (OpenSpec.ofChange hydroMeanWrong)

/-- 'twistlocklaw16.HydroMore': WHATEVER THE INPUT: true; the input reads as it did. -/
def hydroMoreSpec : ChangeSpec := { name := "hydroMore", fn := fun _ => fun
  | [d1, d2, d3] => { results := [.lit (.bool true)], args := [d1, d2, d3] }
  | _ => none }
def hydroMoreRow : OpenClaim := { program := "ytomhfakkebaciaa", sum := "3456dee3968875b34ee57c88c874ff3d481a3df17c7e99c8ab382591e0d5e717", func := "twistlock/twistlocklaw16.HydroMore", spec := "hydroMore", unfollowed := true, recurses := true, apart := false }
def HydroMoreSaid : Prop := hydroMoreRow.holds Try.pinned (OpenSpec.ofChange hydroMoreSpec)

/-- ITS FALSE NEIGHBOUR: 'it returns false'. Refute it at one input. -/
def hydroMoreWrong : ChangeSpec := { name := "hydroMore", fn := fun _ => fun
  | [d1, d2, d3] => { results := [.lit (.bool false)], args := [d1, d2, d3] }
  | _ => none }
def HydroMoreWrongFalsely : Prop := hydroMoreRow.holds Try.pinned (OpenSpec.ofChange hydroMoreWrong)

/-- 'twistlocklaw16.HydroWrong': WHATEVER THE INPUT: true; the input reads as it did. -/
def hydroWrongSpec : ChangeSpec := { name := "hydroWrong", fn := fun _ => fun
  | [d1, d2, d3] => { results := [.lit (.bool true)], args := [d1, d2, d3] }
  | _ => none }
def hydroWrongRow : OpenClaim := { program := "ytomhfakkebaciaa", sum := "3456dee3968875b34ee57c88c874ff3d481a3df17c7e99c8ab382591e0d5e717", func := "twistlock/twistlocklaw16.HydroWrong", spec := "hydroWrong", unfollowed := true, recurses := true, apart := false }
def HydroWrongSaid : Prop := hydroWrongRow.holds Try.pinned (OpenSpec.ofChange hydroWrongSpec)

/-- ITS FALSE NEIGHBOUR: 'it returns false'. Refute it at one input. -/
def hydroWrongWrong : ChangeSpec := { name := "hydroWrong", fn := fun _ => fun
  | [d1, d2, d3] => { results := [.lit (.bool false)], args := [d1, d2, d3] }
  | _ => none }
def HydroWrongWrongFalsely : Prop := hydroWrongRow.holds Try.pinned (OpenSpec.ofChange hydroWrongWrong)

/-- 'twistlocklaw16.HydroTurns': WHATEVER THE INPUT: true; the input reads as it did. -/
def hydroTurnsSpec : ChangeSpec := { name := "hydroTurns", fn := fun _ => fun
  | [d1, d2, d3, d4, d5] => { results := [.lit (.bool true)], args := [d1, d2, d3, d4, d5] }
  | _ => none }
def hydroTurnsRow : OpenClaim := { program := "ytomhfakkebaciaa", sum := "3456dee3968875b34ee57c88c874ff3d481a3df17c7e99c8ab382591e0d5e717", func := "twistlock/twistlocklaw16.HydroTurns", spec := "hydroTurns", unfollowed := true, recurses := true, apart := false }
def HydroTurnsSaid : Prop := hydroTurnsRow.holds Try.pinned (OpenSpec.ofChange hydroTurnsSpec)

/-- ITS FALSE NEIGHBOUR: 'it returns false'. Refute it at one input. -/
def hydroTurnsWrong : ChangeSpec := { name := "hydroTurns", fn := fun _ => fun
  | [d1, d2, d3, d4, d5] => { results := [.lit (.bool false)], args := [d1, d2, d3, d4, d5] }
  | _ => none }
def HydroTurnsWrongFalsely : Prop := hydroTurnsRow.holds Try.pinned (OpenSpec.ofChange hydroTurnsWrong)

/- THE SECOND FORM. 'bulk': how many values and letters a reading holds, each counted each time it is reached (what is shared counts as often as it is met; a slice's spare places count too). A statement '..UptoSaid' is the law's where the arguments, and the package variables that the reading takes, are together of bulk at most 1048576: NARROWER than '..Said'. Prove '..Said' where nothing that the law and all that it calls make is longer than what came in: it says more and counts as full. Else prove '..UptoSaid'. A law counts once. -/
mutual
def uptoBulk {H : Type} : DataW H → Nat
  | .lit (.string bytes) => bytes.length + 1
  | .lit _ => 1
  | .nil => 1
  | .ptr d => uptoBulk d + 1
  | .slice elems spare => uptoBulkAll elems + uptoBulkAll spare + 1
  | .agg parts => uptoBulkAll parts + 1
  | .iface _ d => uptoBulk d + 1
  | .map entries => uptoBulkEntries entries + 1
  | .held _ => 1
def uptoBulkAll {H : Type} : List (DataW H) → Nat
  | [] => 0
  | d :: r => uptoBulk d + uptoBulkAll r
def uptoBulkEntries {H : Type} : List (Lit × DataW H) → Nat
  | [] => 0
  | x :: r => uptoBulkEntry x + uptoBulkEntries r
def uptoBulkEntry {H : Type} : Lit × DataW H → Nat
  | (.string bytes, d) => bytes.length + uptoBulk d + 1
  | (_, d) => uptoBulk d + 1
 end
def uptoSmall : (H : Type) → List (DataW H) → Bool := fun _ ds => decide (uptoBulkAll ds ≤ 1048576)
def OpenSpec.upto (s : _root_.Go.ChangeSpec) : _root_.Go.OpenSpec := { _root_.Go.OpenSpec.ofChange s with cond := some uptoSmall }

/-- 'twistlocklaw16.HydroTells', WHERE WHAT IT READS IS OF BULK AT MOST 1048576: true; the input reads as it did. -/
def hydroTellsUptoRow : OpenClaim := { program := "ytomhfakkebaciaa", sum := "3456dee3968875b34ee57c88c874ff3d481a3df17c7e99c8ab382591e0d5e717", func := "twistlock/twistlocklaw16.HydroTells", spec := "hydroTells", unfollowed := true, recurses := true, apart := false, narrowed := true }
def HydroTellsUptoSaid : Prop := hydroTellsUptoRow.holds Try.pinned (OpenSpec.upto hydroTellsSpec)

/-- 'twistlocklaw16.HydroSmall', WHERE WHAT IT READS IS OF BULK AT MOST 1048576: true; the input reads as it did. -/
def hydroSmallUptoRow : OpenClaim := { program := "ytomhfakkebaciaa", sum := "3456dee3968875b34ee57c88c874ff3d481a3df17c7e99c8ab382591e0d5e717", func := "twistlock/twistlocklaw16.HydroSmall", spec := "hydroSmall", unfollowed := true, recurses := true, apart := false, narrowed := true }
def HydroSmallUptoSaid : Prop := hydroSmallUptoRow.holds Try.pinned (OpenSpec.upto hydroSmallSpec)

/-- 'twistlocklaw16.HydroMean', WHERE WHAT IT READS IS OF BULK AT MOST 1048576: true; the input reads as it did. -/
def hydroMeanUptoRow : OpenClaim := { program := "ytomhfakkebaciaa", sum := "3456dee3968875b34ee57c88c874ff3d481a3df17c7e99c8ab382591e0d5e717", func := "twistlock/twistlocklaw16.HydroMean", spec := "hydroMean", unfollowed := true, recurses := true, apart := false, narrowed := true }
def HydroMeanUptoSaid : Prop := hydroMeanUptoRow.holds Try.pinned (OpenSpec.upto hydroMeanSpec)

/-- 'twistlocklaw16.HydroMore', WHERE WHAT IT READS IS OF BULK AT MOST 1048576: true; the input reads as it did. -/
def hydroMoreUptoRow : OpenClaim := { program := "ytomhfakkebaciaa", sum := "3456dee3968875b34ee57c88c874ff3d481a3df17c7e99c8ab382591e0d5e717", func := "twistlock/twistlocklaw16.HydroMore", spec := "hydroMore", unfollowed := true, recurses := true, apart := false, narrowed := true }
def HydroMoreUptoSaid : Prop := hydroMoreUptoRow.holds Try.pinned (OpenSpec.upto hydroMoreSpec)

/-- 'twistlocklaw16.HydroWrong', WHERE WHAT IT READS IS OF BULK AT MOST 1048576: true; the input reads as it did. -/
def hydroWrongUptoRow : OpenClaim := { program := "ytomhfakkebaciaa", sum := "3456dee3968875b34ee57c88c874ff3d481a3df17c7e99c8ab382591e0d5e717", func := "twistlock/twistlocklaw16.HydroWrong", spec := "hydroWrong", unfollowed := true, recurses := true, apart := false, narrowed := true }
def HydroWrongUptoSaid : Prop := hydroWrongUptoRow.holds Try.pinned (OpenSpec.upto hydroWrongSpec)

/-- 'twistlocklaw16.HydroTurns', WHERE WHAT IT READS IS OF BULK AT MOST 1048576: true; the input reads as it did. -/
def hydroTurnsUptoRow : OpenClaim := { program := "ytomhfakkebaciaa", sum := "3456dee3968875b34ee57c88c874ff3d481a3df17c7e99c8ab382591e0d5e717", func := "twistlock/twistlocklaw16.HydroTurns", spec := "hydroTurns", unfollowed := true, recurses := true, apart := false, narrowed := true }
def HydroTurnsUptoSaid : Prop := hydroTurnsUptoRow.holds Try.pinned (OpenSpec.upto hydroTurnsSpec)

end Rows
end Go.Proofs.Ytomhfakkebaciaa
