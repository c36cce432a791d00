/-
  What is right, and what Write makes of segments. No program in sight.
-/
import Derived.Test.YtdohcglpcgahaaaGreatDoorRX
import Derived.Lib.Strings
set_option linter.unusedSimpArgs false
set_option linter.unusedVariables false
namespace Go.Proofs.YtdohcglpcgahaaaGreatDoor
open Go Sat Go.RowKit Go.PlainAid
def badB (b : UInt8) : Bool := decide (b.toNat < 32 ∨ 126 < b.toNat)
def rightC (c : ByteArray) : Bool := decide (c.size ≤ 100) && !c.data.toList.any badB
def rightE (e : Elem) : Bool := decide (1 ≤ e.length ∧ e.length ≤ 10) && e.all rightC
/-- what Right of package lex answers of a segment -/
def rightS (s : Segm) : Bool := decide (1 ≤ s.length ∧ s.length ≤ 30) && s.all rightE
def relB (b : UInt8) : List UInt8 := if svc (b.toNat : Int) then [63, b] else [b]
def joinW {α : Type} (c : UInt8) (f : α → List UInt8) : List α → List UInt8
  | [] => []
  | x :: l => f x ++ l.flatMap (fun y => c :: f y)
def wC (c : ByteArray) : List UInt8 := c.data.toList.flatMap relB
def wE (e : Elem) : List UInt8 := joinW 58 wC e
def blankS (s : Segm) : Bool := match s with
  | (c :: _) :: _ => Lib.hasPrefix c.data.toList [32]
  | _ => false
def wS (s : Segm) : List UInt8 := (if blankS s = true then [63] else []) ++ joinW 43 wE s ++ [39]
def writeRun : List Segm → List UInt8 → ByteArray × Int
  | [], acc => (ba acc, 0)
  | s :: l, acc => if 65536 < (acc ++ wS s).length then (⟨#[]⟩, 3) else writeRun l (acc ++ wS s)
/-- what Write answers: a text and an error's number -/
def writeL (l : List Segm) : ByteArray × Int := if 5000 < l.length then (⟨#[]⟩, 5) else if l.all rightS = true then writeRun l [] else (⟨#[]⟩, 2)
theorem join_step {α : Type} (c : UInt8) (f : α → List UInt8) {l : List α} {k : Nat} {x : α} (h : l[k]? = some x) : joinW c f (l.take (k + 1)) = joinW c f (l.take k) ++ ((if 0 < k then [c] else []) ++ f x) := by
  rw [List.take_add_one, h]
  cases k with
  | zero => simp [joinW]
  | succ k =>
    cases l with
    | nil => cases h
    | cons y l => simp [joinW, List.flatMap_append]
theorem wC_step {l : List UInt8} {k : Nat} {b : UInt8} (h : l[k]? = some b) : (l.take (k + 1)).flatMap relB = (l.take k).flatMap relB ++ relB b := by
  rw [List.take_add_one, h, List.flatMap_append]
  simp
theorem relB_len (b : UInt8) : (relB b).length ≤ 2 := by
  unfold relB
  split <;> simp
theorem drop_at {α : Type} {l : List α} {k : Nat} {x : α} (h : l[k]? = some x) : l.drop k = x :: l.drop (k + 1) := by
  have hk : k < l.length := (List.getElem?_eq_some_iff.1 h).1
  rw [List.drop_eq_getElem_cons hk]
  congr 1
  exact (List.getElem?_eq_some_iff.1 h).2
theorem rightS_at {s : Segm} (h : rightS s = true) : (1 ≤ s.length ∧ s.length ≤ 30) ∧ ∀ e ∈ s, (1 ≤ e.length ∧ e.length ≤ 10) ∧ ∀ c ∈ e, c.size ≤ 100 ∧ c.data.toList.any badB = false := by
  unfold rightS at h
  rw [Bool.and_eq_true, decide_eq_true_iff, List.all_eq_true] at h
  refine ⟨h.1, fun e he => ?_⟩
  have h2 := h.2 e he
  unfold rightE at h2
  rw [Bool.and_eq_true, decide_eq_true_iff, List.all_eq_true] at h2
  refine ⟨h2.1, fun c hc => ?_⟩
  have h3 := h2.2 c hc
  unfold rightC at h3
  rw [Bool.and_eq_true, decide_eq_true_iff] at h3
  exact ⟨h3.1, by simpa using h3.2⟩
end Go.Proofs.YtdohcglpcgahaaaGreatDoor
