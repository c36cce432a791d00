/-
  A world that a law's row can be called in.
-/
import Derived.Test.YtdejcgmaphmjbaaDoorCards
import Derived.Test.YtdejcgmaphmjbaaDoorTie
import Derived.Test.YtdejcgmaphmjbaaDoorRow
import Derived.Test.YtdejcgmaphmjbaaDoorSatA
import Derived.ProofKit
import Derived.OpenShut
import Derived.LaidMore
import Derived.PinnedBridge
import Derived.Deep.DeepHandedRow
import Derived.Deep.DeepWitnessRowRef
import Derived.Lib.LaidTab
import Derived.SizedLaws
set_option linter.unusedSimpArgs false
set_option linter.unusedVariables false
namespace Go.Proofs.YtdejcgmaphmjbaaDoor
open Go.ChangeShapes Go.WideShapes Go.ChangeAt Go.WideMaps Go.WideElems Go.RowKit
theorem own : ownKnob Tryd.prog.godebug = none := by kernel_rfl
theorem laidOut : laidOutB Tryd.prog = true := by kernel_rfl
noncomputable def laidWorld (os : Os) : World :=
  { World.doorLaid Tryd.prog 80 os with heap := (World.doorLaid Tryd.prog 80 os).heap.modify 0 fun
      | .cells _ t frozen => .cells (Pinned.utf8FirstZ.map fun n : Nat => Value.int .u8 (n : Int)).toArray t frozen
      | o => o }
theorem laid_met (os : Os) (args : Array Value) : laidMet Tryd.prog Rows.lexSmallRow.laid ((laidWorld os).forCall (fun _ _ => 0) ⟨#[], args, []⟩).memory :=
  laidMet_of_run' 8 (by kernel_rfl) (by kernel_rfl)
theorem door_vars (os : Os) (args : Array Value) : ((laidWorld os).forCall (fun _ _ => 0) ⟨#[], args, []⟩).variablesRefB Tryd.prog = true := by kernel_rfl
theorem door_rest (os : Os) (args : Array Value) : (((laidWorld os).forCall (fun _ _ => 0) ⟨#[], args, []⟩).heap.toList.drop Tryd.prog.globals.size).take ((begin Tryd.prog (fun _ _ => 0) default).world.heap.size - Tryd.prog.globals.size) =
      (begin Tryd.prog (fun _ _ => 0) default).world.heap.toList.drop Tryd.prog.globals.size := by kernel_rfl
theorem wf_of {W : World} {l : List (String × DataW Unit)} (_ : laidMetH Tryd.prog l W) (_ : W.ShapedOpen Tryd.prog) : True := trivial
end Go.Proofs.YtdejcgmaphmjbaaDoor
