/-
  The laws of the clock: what two lists have in common.
-/
import Derived.Test.YtmhfkmnpeponiaaGreatDoorLawD
import Derived.Test.YtmhfkmnpeponiaaGreatDoorC10
namespace Go.Proofs.YtmhfkmnpeponiaaGreatDoor
open Go Sat Go.RowKit Go.PlainAid
set_option linter.unusedSimpArgs false
set_option linter.unusedVariables false
theorem run_min3 {P : Program} (w : World) (ts : Array TypeId) (t : TypeId) (k k' k'' : IntKind) (x y z : Int) :
    (Builtin.min_ ts t #[.int k x, .int k' y, .int k'' z]).run P w = .ok (.int k (min (min x y) z)) w := by
  have e : ∀ x y : Int, (if y < x then y else x) = min x y := fun x y => by
    rw [Int.min_def]
    split <;> split <;> omega
  simp [Builtin.min_, Builtin.min2, e]
theorem run_max3 {P : Program} (w : World) (ts : Array TypeId) (t : TypeId) (k k' k'' : IntKind) (x y z : Int) :
    (Builtin.max_ ts t #[.int k x, .int k' y, .int k'' z]).run P w = .ok (.int k (max (max x y) z)) w := by
  have e : ∀ x y : Int, (if y > x then y else x) = max x y := fun x y => by
    rw [Int.max_def]
    split <;> split <;> omega
  simp [Builtin.max_, Builtin.max2, e]
theorem other_min3 {cx : Cx} {H : Heap} {f : Env} {c : Grd} {K : SV → Prop} {tx ty tz : Nat} {ats : Array TypeId} {k k' k'' : IntKind} {x y z : Int} (h1 : find f tx = some (.yes, .v (.int k x))) (h2 : find f ty = some (.yes, .v (.int k' y))) (h3 : find f tz = some (.yes, .v (.int k'' z)))
    (hk : K (.v (.int k (min (min x y) z)))) : Other cx H f c (.call ⟨.builtin .min, #[.tmp tx, .tmp ty, .tmp tz], ats⟩) K :=
  ⟨_, fun hc a w hf hw o ho => by
    obtain ⟨dst, op', ty', pos, after, gd⟩ := o
    cases ho
    have hx : (#[.tmp tx, .tmp ty, .tmp tz] : Array Operand).map a.eval = #[.int k x, .int k' y, .int k'' z] := by
      have e1 : a.eval (.tmp tx) = _ := hf.slot _ _ _ h1 trivial
      have e2 : a.eval (.tmp ty) = _ := hf.slot _ _ _ h2 trivial
      have e3 : a.eval (.tmp tz) = _ := hf.slot _ _ _ h3 trivial
      apply Array.toList_inj.1
      rw [Array.toList_map]
      show [a.eval (.tmp tx), a.eval (.tmp ty), a.eval (.tmp tz)] = _
      rw [e1, e2, e3]
      rfl
    rw [BigFrame.execOp_builtin, BigFrame.builtin_min, hx]
    exact run_v (run_min3 w ats ty' _ _ _ _ _ _), hk⟩
theorem other_max3 {cx : Cx} {H : Heap} {f : Env} {c : Grd} {K : SV → Prop} {tx ty tz : Nat} {ats : Array TypeId} {k k' k'' : IntKind} {x y z : Int} (h1 : find f tx = some (.yes, .v (.int k x))) (h2 : find f ty = some (.yes, .v (.int k' y))) (h3 : find f tz = some (.yes, .v (.int k'' z)))
    (hk : K (.v (.int k (max (max x y) z)))) : Other cx H f c (.call ⟨.builtin .max, #[.tmp tx, .tmp ty, .tmp tz], ats⟩) K :=
  ⟨_, fun hc a w hf hw o ho => by
    obtain ⟨dst, op', ty', pos, after, gd⟩ := o
    cases ho
    have hx : (#[.tmp tx, .tmp ty, .tmp tz] : Array Operand).map a.eval = #[.int k x, .int k' y, .int k'' z] := by
      have e1 : a.eval (.tmp tx) = _ := hf.slot _ _ _ h1 trivial
      have e2 : a.eval (.tmp ty) = _ := hf.slot _ _ _ h2 trivial
      have e3 : a.eval (.tmp tz) = _ := hf.slot _ _ _ h3 trivial
      apply Array.toList_inj.1
      rw [Array.toList_map]
      show [a.eval (.tmp tx), a.eval (.tmp ty), a.eval (.tmp tz)] = _
      rw [e1, e2, e3]
      rfl
    rw [BigFrame.execOp_builtin, BigFrame.builtin_max, hx]
    exact run_v (run_max3 w ats ty' _ _ _ _ _ _), hk⟩
theorem row_cap {cx : Cx} {H : Heap} {w : World} (hw : Holds cx H w) {id : Nat} {A : Option (Nat × Nat)} {e sz n cap : Nat} {xs : List Value} (hf : hfind H id = some (.row A e sz n cap xs)) : n ≤ cap := by
  have hr : w.ownsRow cx.n0 e sz (.slice (adr A) n cap) n xs := hw.at_ hf
  rcases hr.2 with ⟨hv, hn⟩ | ⟨g, cap', cur, hv, _, _, hc, _⟩
  · omega
  · injection hv with _ _ h3
    omega
theorem bt_ap {l : List Sp} (hap : apart l = true) {a b : Int} (h : 0 ≤ a ∧ a ≤ b ∧ b ≤ 100000000) : btV l a b = cnt l a b ∧ btE l a b = 0 := by
  have hk : btOk l a b = true := by
    unfold btOk orderedB timedB
    rw [hap, decide_eq_true h.1, decide_eq_true (show a ≤ 100000000 by omega), decide_eq_true (show 0 ≤ b by omega), decide_eq_true h.2.2, decide_eq_true h.2.1]
    rfl
  exact ⟨(bt_yes hk).1.symm, (bt_yes hk).2.symm⟩
theorem bo_ap {a b : List Sp} (ha : apart a = true) (hb : apart b = true) (hl : a.length + b.length ≤ 1000) : boL a b = bothL a b ∧ boE a b = 0 ∧ apart (bothL a b) = true ∧ (bothL a b).length ≤ 1000 := by
  have h1 := (apart_ok ha).1
  have h2 := (apart_ok hb).1
  have h3 := both_len h1 h2
  have hk : boOk a b = true := by
    unfold boOk
    rw [ha, hb]
    rfl
  obtain ⟨h4, h5⟩ := bo_yes hk (by omega)
  refine ⟨h4, h5, ?_, by omega⟩
  unfold apart
  rw [both_ok h1 h2, decide_eq_true (show (bothL a b).length ≤ 1000 by omega)]
  rfl
end Go.Proofs.YtmhfkmnpeponiaaGreatDoor
