/-
  A slice among a law's arguments, opened as cells that can be read ('Ro'). No program in sight. A slice of slices among a law's arguments, opened as a nest. No walk. Data among a law's arguments, opened as a nest. No walk. Messages among a law's arguments, opened as a nest. No walk.
-/
import Derived.ProofKit
import Derived.LaidMore
import Derived.Test.YtdohcglpcgahaaaGreatDoorSatB
import Derived.Test.YtdohcglpcgahaaaGreatDoorNX
import Derived.Test.YtdohcglpcgahaaaGreatDoorProg
import Derived.OpenShut
import Derived.SizedLaws
import Derived.Test.YtdohcglpcgahaaaGreatDoorSTX
import Derived.Test.YtdohcglpcgahaaaGreatDoorNZ
set_option linter.unusedSimpArgs false
set_option linter.unusedVariables false
namespace Go.Proofs.YtdohcglpcgahaaaGreatDoor
section
open Go.ChangeShapes Go.WideShapes Go.ChangeAt Go.WideMaps Go.WideElems Go.RowKit Sat
section
variable {H : Type} {enc : TypeId × Value → H} {P : Program} {w : World} {base : Nat} {spare : Nat → Bool} {held : Bool}
/-- the cells of a flat struct -/
inductive Leaf where
  | str | bool | int (k : IntKind)
end
end
section
set_option maxRecDepth 100000
open Go.ChangeShapes Go.WideShapes Go.ChangeAt Go.WideMaps Go.WideElems Go.RowKit Sat
section
variable {H : Type} {enc : TypeId × Value → H} {P : Program} {w : World} {base : Nat} {spare : Nat → Bool} {held : Bool}
end
section
variable {H : Type} {enc : TypeId × Value → H} {w : World} {base : Nat} {spare : Nat → Bool} {held : Bool}
end
end
section
set_option maxRecDepth 100000
open Go.ChangeShapes Go.WideShapes Go.ChangeAt Go.WideMaps Go.WideElems Go.RowKit Sat
section
variable {H : Type} {enc : TypeId × Value → H} {w : World} {base : Nat} {spare : Nat → Bool} {held : Bool}
end
end
section
set_option maxRecDepth 100000
open Go.ChangeShapes Go.WideShapes Go.ChangeAt Go.WideMaps Go.WideElems Go.RowKit Sat
section
variable {H : Type} {enc : TypeId × Value → H} {P : Program} {w : World} {base : Nat} {spare : Nat → Bool} {held : Bool}
end
section
variable {H : Type} {enc : TypeId × Value → H} {w : World} {base : Nat} {spare : Nat → Bool} {held : Bool}
/-- what is known of messages among a law's arguments -/
structure ArgM (l : List Msg) : Prop where
  top : l.length * 56 ≤ 140737488355328
  msg : ∀ m ∈ l, m.kind.size ≤ maxLen ∧ m.ref.size ≤ maxLen ∧ m.segs.length * 40 ≤ 140737488355328 ∧ ∀ s ∈ m.segs, s.1.size ≤ maxLen ∧ FewS s.2 ∧ s.2.length * 24 ≤ 140737488351232
end
end
end Go.Proofs.YtdohcglpcgahaaaGreatDoor
