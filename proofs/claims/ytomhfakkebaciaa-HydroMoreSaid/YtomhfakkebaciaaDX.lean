/-
  A world that a law's row can be called in.
-/
import Derived.Test.YtomhfakkebaciaaRows
import Derived.Test.YtomhfakkebaciaaRow
import Derived.Test.YtomhfakkebaciaaSatA
import Derived.ProofKit
import Derived.OpenShut
import Derived.LaidMore
import Derived.PinnedBridge
import Derived.Deep.DeepHandedRow
import Derived.Deep.DeepWitnessRowRef
import Derived.Lib.LaidTab
import Derived.SizedLaws
set_option linter.unusedSimpArgs false
set_option linter.unusedVariables false
namespace Go.Proofs.Ytomhfakkebaciaa
open Go.ChangeShapes Go.WideShapes Go.ChangeAt Go.WideMaps Go.WideElems Go.RowKit
theorem own : ownKnob Try.prog.godebug = none := by kernel_rfl
theorem laidOut : laidOutB Try.prog = true := by kernel_rfl
noncomputable def laidWorld (os : Os) : World := World.doorLaid Try.prog 80 os
theorem laid_met (os : Os) (args : Array Value) : laidMet Try.prog Rows.hydroTellsRow.laid ((laidWorld os).forCall (fun _ _ => 0) ⟨#[], args, []⟩).memory :=
  laidMet_of_run' 8 (by kernel_rfl) (by kernel_rfl)
theorem door_vars (os : Os) (args : Array Value) : ((laidWorld os).forCall (fun _ _ => 0) ⟨#[], args, []⟩).variablesRefB Try.prog = true := by kernel_rfl
theorem door_rest (os : Os) (args : Array Value) : (((laidWorld os).forCall (fun _ _ => 0) ⟨#[], args, []⟩).heap.toList.drop Try.prog.globals.size).take ((begin Try.prog (fun _ _ => 0) default).world.heap.size - Try.prog.globals.size) =
      (begin Try.prog (fun _ _ => 0) default).world.heap.toList.drop Try.prog.globals.size := by kernel_rfl
theorem wf_of {W : World} {l : List (String × DataW Unit)} (_ : laidMetH Try.prog l W) (_ : W.ShapedOpen Try.prog) : True := trivial
end Go.Proofs.Ytomhfakkebaciaa
