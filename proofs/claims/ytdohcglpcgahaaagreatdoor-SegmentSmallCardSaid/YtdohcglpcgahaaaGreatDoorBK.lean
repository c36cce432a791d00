/-
  Segments made right, what is written of them, and what lies between. No program in sight.
-/
import Derived.Test.YtdohcglpcgahaaaGreatDoorRC
set_option linter.unusedSimpArgs false
set_option linter.unusedVariables false
namespace Go.Proofs.YtdohcglpcgahaaaGreatDoor
open Go Sat Go.RowKit Go.PlainAid
/-- how much a segment holds -/
def sumW {α : Type} (m : α → Nat) : List α → Nat
  | [] => 0
  | x :: l => m x + 1 + sumW m l
def mC (c : ByteArray) : Nat := c.size
def mE (e : Elem) : Nat := sumW mC e
def mS (s : Segm) : Nat := sumW mE s
/-- what is written with bytes between -/
structure Loose (l : List Segm) (k : Nat) (t : List UInt8) : Prop where
  go : Goes t rd0 fun r => r.mode = 0 ∧ r.out = l.take k
  len : t.length ≤ 70000 * k
end Go.Proofs.YtdohcglpcgahaaaGreatDoor
