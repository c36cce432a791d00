/-
  What Read of package segment makes of a text, segment by segment. No program in sight.
-/
import Derived.Test.YtdohcglpcgahaaaDoorSS
import Derived.Test.YtdohcglpcgahaaaDoorW6
set_option linter.unusedSimpArgs false
set_option linter.unusedVariables false
namespace Go.Proofs.YtdohcglpcgahaaaDoor
open Go Sat Go.RowKit Go.PlainAid
structure Rst where
  opn : Bool
  kind : ByteArray
  ref : ByteArray
  segs : List Sg
  met : List ByteArray
  out : List Msg
def rst0 : Rst := ⟨false, emp, emp, [], [], []⟩
def Rst.msg (r : Rst) : Msg := ⟨r.kind, r.ref, r.segs⟩
def at2 (d : Dat) (i : Nat) : ByteArray := ((d[i]?).bind (·[0]?)).getD emp
abbrev StepG := Except Int Rst
def headG (r : Rst) (d : Dat) : StepG :=
  if r.opn = true ∨ singleB d = false ∨ refB (at2 d 1) = false ∨ kindB (at2 d 2) = false then .error 51
  else if at2 d 1 ∈ r.met then .error 53
  else .ok { r with opn := true, kind := at2 d 2, ref := at2 d 1, segs := [], met := at2 d 1 :: r.met }
def endG (r : Rst) (d : Dat) : StepG :=
  if r.opn = false then .error 51
  else if singleB d = false ∨ at2 d 1 ≠ itB (r.segs.length + 2) ∨ at2 d 2 ≠ r.ref then .error 52
  else .ok { r with opn := false, out := r.out ++ [r.msg] }
def firstB (d : Dat) : Bool := match d with
  | e :: _ => oneB e
  | [] => false
def otherG (r : Rst) (d : Dat) : StepG :=
  if r.opn = false then .error 51
  else if firstB d = false ∨ tagB (at2 d 0) = false then .error 50
  else .ok { r with segs := r.segs ++ [(at2 d 0, d.tail)] }
def stepG (r : Rst) (d : Dat) : StepG :=
  if firstB d = true ∧ at2 d 0 = hedS then headG r d
  else if firstB d = true ∧ at2 d 0 = endS then endG r d
  else otherG r d
def runG : List Segm → Nat → Rst → List Msg × Int × Int
  | [], i, r => if r.opn = true then ([], i, 52) else (r.out, 0, 0)
  | s :: l, i, r => match stepG r (trimS s) with
    | .error e => ([], i, e)
    | .ok r' => runG l (i + 1) r'
def readG (l : List UInt8) : List Msg × Int × Int := if (readE l).2.2 = 0 then runG (readE l).1 0 rst0 else ([], (readE l).2.1, (readE l).2.2)
theorem at2_at {d : Dat} {i : Nat} {e : Elem} {s : ByteArray} (h : d[i]? = some e) (hs : e[0]? = some s) : at2 d i = s := by
  unfold at2
  rw [h]
  simp [hs]
theorem single_at {d : Dat} (h : singleB d = true) {i : Nat} (hi : i < 3) : ∃ e, d[i]? = some e ∧ e = [at2 d i] ∧ d.length = 3 := by
  unfold singleB at h
  rw [Bool.and_eq_true, decide_eq_true_eq] at h
  obtain ⟨h1, h2⟩ := h
  refine ⟨d[i]'(by omega), List.getElem?_eq_getElem _, ?_, h1⟩
  have h3 := List.all_eq_true.1 h2 d[i] (List.getElem_mem _)
  unfold oneB at h3
  rw [decide_eq_true_eq] at h3
  obtain ⟨s, hs⟩ := List.length_eq_one_iff.1 h3
  have : at2 d i = s := at2_at (List.getElem?_eq_getElem (by omega)) (by rw [hs]; rfl)
  rw [this, hs]
end Go.Proofs.YtdohcglpcgahaaaDoor
