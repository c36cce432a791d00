/-
  What Read of package lex makes of a text, byte by byte. No program in sight.
-/
import Derived.Test.YtdohcglpcgahaaaGreatDoorNX
set_option linter.unusedSimpArgs false
set_option linter.unusedVariables false
namespace Go.Proofs.YtdohcglpcgahaaaGreatDoor
open Go Sat Go.RowKit Go.PlainAid
def ba (l : List UInt8) : ByteArray := ⟨⟨l⟩⟩
abbrev Elem := List ByteArray
abbrev Segm := List Elem
/-- what was read so far: segments, elements of the one that is open, components of its last element, bytes of the last component; 0: between, 1: inside, 2: behind a ?; where the last ? was -/
structure Rd where
  out : List Segm
  seg : Segm
  el : Elem
  pc : List UInt8
  mode : Nat
  mark : Int
def svc (c : Int) : Prop := c = 39 ∨ c = 43 ∨ c = 58 ∨ c = 63
instance (c : Int) : Decidable (svc c) := inferInstanceAs (Decidable (_ ∨ _))
abbrev Step := Except (Int × Int) Rd
def chr (c : Int) : UInt8 := UInt8.ofNat c.toNat
def keepE (r : Rd) (at' c : Int) : Step := if r.pc.length = 100 then .error (at', 3) else .ok { r with pc := r.pc ++ [chr c], mode := 1 }
def insE (r : Rd) (i c : Int) : Step :=
  if c = 39 then .ok { r with out := r.out ++ [r.seg ++ [r.el ++ [ba r.pc]]], seg := [], el := [], pc := [], mode := 0 }
  else if c = 43 ∧ r.seg.length = 29 then .error (i, 5)
  else if c = 58 ∧ r.el.length = 9 then .error (i, 5)
  else if c = 43 then .ok { r with seg := r.seg ++ [r.el ++ [ba r.pc]], el := [], pc := [], mode := 1 }
  else if c = 58 then .ok { r with el := r.el ++ [ba r.pc], pc := [], mode := 1 }
  else if c < 32 ∨ 126 < c then .error (i, 40)
  else if c = 63 then .ok { r with mode := 2, mark := i }
  else keepE r i c
def btwE (r : Rd) (i c : Int) : Step :=
  if c = 10 ∨ c = 13 ∨ c = 32 then .ok r
  else if r.out.length = 5000 then .error (i, 5)
  else insE { r with seg := [], el := [], pc := [], mode := 1 } i c
def relE (r : Rd) (i c : Int) : Step := if c ≠ 32 ∧ ¬ svc c then .error (r.mark, 41) else keepE r r.mark c
def stepE (r : Rd) (i c : Int) : Step := if r.mode = 0 then btwE r i c else if r.mode = 1 then insE r i c else relE r i c
/-- what Read answers: segments, a position and an error's number -/
abbrev Ans := List Segm × Int × Int
def finE (r : Rd) (i : Int) : Ans := if r.mode = 2 then ([], r.mark, 41) else if r.mode = 1 then ([], i, 42) else (r.out, 0, 0)
def runE : List UInt8 → Nat → Rd → Ans
  | [], i, r => finE r i
  | b :: l, i, r => match stepE r i b.toNat with
    | .error e => ([], e.1, e.2)
    | .ok r' => runE l (i + 1) r'
def rd0 : Rd := ⟨[], [], [], [], 0, 0⟩
def readE (l : List UInt8) : Ans := if 65536 < l.length then ([], 0, 3) else runE l 0 rd0
/-- the lists are within their bounds -/
structure RdOk (r : Rd) : Prop where
  out : r.out.length ≤ 5000
  seg : r.seg.length ≤ 29
  el : r.el.length ≤ 9
  pc : r.pc.length ≤ 100
def uB (l : List UInt8) : List Value := l.map fun b => .int .u8 (b.toNat : Int)
theorem push_all (l : List UInt8) : ∀ r : ByteArray, ((l.map fun b => (b.toNat : Int)).foldl (fun r n => r.push (UInt8.ofNat n.toNat)) r).data.toList = r.data.toList ++ l := by
  induction l with
  | nil => intro r; simp
  | cons a l ih =>
    intro r
    rw [List.map_cons, List.foldl_cons, ih]
    simp
theorem ba_ext {a b : ByteArray} (h : a.data.toList = b.data.toList) : a = b := by
  obtain ⟨⟨x⟩⟩ := a
  obtain ⟨⟨y⟩⟩ := b
  exact congrArg (fun l => (⟨⟨l⟩⟩ : ByteArray)) h
theorem strOf_ba (l : List UInt8) : Sat.strOf (l.map fun b => (b.toNat : Int)) = ba l := ba_ext (push_all l _)
end Go.Proofs.YtdohcglpcgahaaaGreatDoor
