/-
  Plain functions of the chapter: a route that is being delayed. No program in sight.
-/
import Derived.Test.YtbpklalkoocneaaDoorPlain
set_option linter.unusedSimpArgs false
set_option linter.unusedVariables false
namespace Go.Proofs.YtbpklalkoocneaaDoor
open Go.RowKit Go.PlainAid
theorem cells_app (a b : List Cl) : cells (a ++ b) = cells a ++ cells b := by unfold cells; rw [List.flatMap_append]
theorem cells_cons (c : Cl) (b : List Cl) : cells (c :: b) = cC c ++ cells b := by unfold cells; rw [List.flatMap_cons]
theorem drop_cons {l : List Cl} {i : Nat} {c : Cl} (hc : l[i]? = some c) : l.drop i = c :: l.drop (i + 1) := by
  obtain ⟨h, rfl⟩ := List.getElem?_eq_some_iff.1 hc
  exact List.drop_eq_getElem_cons h
def midL (l : List Cl) (k by_ : Int) (i : Nat) : List Cl := delTo l k by_ i ++ l.drop i
theorem midL_get {l : List Cl} {k by_ : Int} {i : Nat} {c : Cl} (hc : l[i]? = some c) : (midL l k by_ i)[i]? = some c := by
  have hi := (List.getElem?_eq_some_iff.1 hc).1
  have hl := delTo_len (k := k) (by_ := by_) (show i ≤ l.length by omega)
  unfold midL
  rw [List.getElem?_append_right (by omega), hl, Nat.sub_self, drop_cons hc]
  rfl
theorem midL_len {l : List Cl} {k by_ : Int} {i : Nat} (hi : i ≤ l.length) : (midL l k by_ i).length = l.length := by
  unfold midL
  rw [List.length_append, delTo_len hi, List.length_drop]
  omega
theorem midL_set {l : List Cl} {k by_ : Int} {i : Nat} {c : Cl} (hc : l[i]? = some c) (hk : k ≤ i) : (cells (midL l k by_ i)).set (i * 3 + 1) (.int .i64 (c.t + by_)) = cells (midL l k by_ (i + 1)) := by
  have hi := (List.getElem?_eq_some_iff.1 hc).1
  have hl := delTo_len (k := k) (by_ := by_) (show i ≤ l.length by omega)
  unfold midL
  rw [delTo, hc]
  dsimp only
  rw [drop_cons hc, cells_app, cells_app, cells_app, cells_cons, List.append_assoc]
  rw [List.set_append_right _ _ (by rw [cells_len, hl]; omega), cells_len, hl, Nat.add_sub_cancel_left]
  congr 1
  unfold later
  rw [if_pos hk]
  rfl
theorem delTo_take {l : List Cl} {k by_ : Int} : ∀ {i : Nat}, (i : Int) ≤ k → i ≤ l.length → delTo l k by_ i = l.take i := by
  intro i
  induction i with
  | zero => intro _ _; rfl
  | succ i ih =>
    intro h hi
    have hc := List.getElem?_eq_getElem (show i < l.length by omega)
    rw [delTo, ih (by omega) (by omega), hc]
    dsimp only
    unfold later
    rw [if_neg (by omega), List.take_add_one, hc]
    rfl
theorem midL_0 {l : List Cl} {k by_ : Int} {i : Nat} (h : (i : Int) ≤ k) (hi : i ≤ l.length) : midL l k by_ i = l := by
  unfold midL
  rw [delTo_take h hi, List.take_append_drop]
theorem midL_end {l : List Cl} {k by_ : Int} : midL l k by_ l.length = delL l k by_ := by
  unfold midL delL
  rw [List.drop_length, List.append_nil]
def delN (l : List Cl) (k by_ : Int) : Nat := if delE l k by_ = 0 then l.length else 0
def delX (l : List Cl) (k by_ : Int) : List Value := if delE l k by_ = 0 then cells (delL l k by_) else []
theorem delE_ok {l : List Cl} {k by_ : Int} (hv : valE l = 0) (h : ¬ (k < 0 ∨ (l.length : Int) ≤ k ∨ by_ < 0)) (h2 : ¬ 100000000 - lastT l < by_) : delE l k by_ = 0 := by
  unfold delE
  rw [if_neg (by omega), if_neg h, if_neg h2]
theorem lastT_eq {l : List Cl} {c : Cl} (hc : l[l.length - 1]? = some c) : lastT l = c.t := by unfold lastT; rw [hc]
end Go.Proofs.YtbpklalkoocneaaDoor
