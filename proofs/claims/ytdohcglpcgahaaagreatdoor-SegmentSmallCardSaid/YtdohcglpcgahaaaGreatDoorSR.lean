/-
  The own framework: entries of the heap that are any one object; loops over a string.
-/
import Derived.Test.YtdohcglpcgahaaaGreatDoorSatB
import Derived.Test.YtdohcglpcgahaaaGreatDoorTab
import Derived.Laws.RangeAny
import Derived.Laws.IdiomRangeMap
namespace Go.Proofs.YtdohcglpcgahaaaGreatDoor
open Go Sat Go.RowKit Go.PlainAid
namespace Sat
set_option linter.unusedSimpArgs false
set_option linter.unusedVariables false
/-- a block that is one object, whichever -/
def HBo (g : Nat) (o : Obj) : HB := .own [g] (fun w => w.heap[g]? = some o)
theorem Holds.newObj {cx : Cx} {H : Heap} {w : World} (h : Holds cx H w) (d : Nat) (o : Obj) : Holds cx ((d, HBo w.heap.size o) :: hdel H d) (w.alloc o) := by
  have hn : cx.n0 ≤ w.heap.size := Nat.le_trans h.n0 h.keep.size
  refine h.turn d _ ⟨rfl, rfl, rfl, by simp, fun k hk _ => Below.heap_alloc w _ k (by omega)⟩ ⟨fun g hg => ?_, heap_alloc_new w _, fun w' hk => (hk _ (List.mem_singleton_self _)).trans (heap_alloc_new w _)⟩ fun e he g hg => ?_
  · rw [List.mem_singleton] at hg
    subst hg
    exact ⟨hn, by simp⟩
  · have hlt := HB.lt (h.ent e (hdel_mem he).1) hg
    exact ⟨Below.heap_alloc w _ g hlt, by simp only [HBo, HB.gs, List.mem_singleton]; omega⟩
theorem set_at {w : World} {g : Nat} {o : Obj} (h : g < w.heap.size) : ({ w with heap := w.heap.setIfInBounds g o } : World).heap[g]? = some o := by
  show (w.heap.setIfInBounds g o)[g]? = _
  rw [Array.getElem?_setIfInBounds_self_of_lt h]
theorem set_off {w : World} {g k : Nat} {o : Obj} (h : k ≠ g) : ({ w with heap := w.heap.setIfInBounds g o } : World).heap[k]? = w.heap[k]? := by
  show (w.heap.setIfInBounds g o)[k]? = _
  rw [Array.getElem?_setIfInBounds_ne (Ne.symm h)]
theorem Holds.setObj_ {cx : Cx} {H : Heap} {w : World} (h : Holds cx H w) {d g : Nat} {o : Obj} (hd : hfind H d = some (HBo g o)) (o' : Obj) : Holds cx ((d, HBo g o') :: hdel H d) { w with heap := w.heap.setIfInBounds g o' } := by
  have hb : (HBo g o).holds cx w := h.at_ hd
  have hg := hb.1 g (List.mem_singleton_self _)
  refine h.turn d _ ⟨rfl, rfl, rfl, by simp, fun k hk _ => set_off (by omega)⟩ ⟨fun g' hg' => ?_, set_at hg.2, fun w' hk => (hk _ (List.mem_singleton_self _)).trans (set_at hg.2)⟩ fun e he g' hg' => ?_
  · rw [List.mem_singleton] at hg'
    subst hg'
    exact ⟨hg.1, by simpa using hg.2⟩
  · obtain ⟨he1, he2⟩ := hdel_mem he
    have hne : g' ≠ g := by
      rintro rfl
      exact h.sep _ _ _ _ he1 (hfind_mem hd) he2 g' hg' (List.mem_singleton_self _)
    exact ⟨set_off hne, by simp only [HBo, HB.gs, List.mem_singleton]; exact hne⟩
theorem exec_range {P : Program} {a : Act} {t : TypeId} {x : Operand} {u r : Value} {w w' : World} (hx : a.eval x = u) {o : Oper} (ho : o.op = .range t x) (h : (Instr.range t u).run P w = .ok r w') : (execOp a.eval o).run P w = .ok (.value r) w' := by
  obtain ⟨dst, op, ty, pos, after, gd⟩ := o
  dsimp only at ho
  subst ho
  simp only [execOp]
  refine run_v' ?_
  rw [hx]
  exact h
theorem exec_next {P : Program} {a : Act} {x : Operand} {b : Bool} {u r : Value} {w w' : World} (hx : a.eval x = u) {o : Oper} (ho : o.op = .next x b) (h : ∀ ty, (Instr.next u b ty).run P w = .ok r w') : (execOp a.eval o).run P w = .ok (.value r) w' := by
  obtain ⟨dst, op, ty, pos, after, gd⟩ := o
  dsimp only at ho
  subst ho
  simp only [execOp]
  refine run_v' ?_
  rw [hx]
  exact h _
theorem other_range_str {cx : Cx} (hT : TOk cx.P cx.T) {H : Heap} {f : Env} {d : Nat} {K : SV → Heap → Prop} {x : Operand} {t : Nat} {i : TyI} (ht : tfind cx.T t = some i) (hi : i.sh = .str) {s : ByteArray}
    (hx : ev f .yes x (fun u => u = .v (.string s))) (hk : ∀ g, cx.n0 ≤ g → K (.v (.pointer (some ⟨g, 0, none⟩))) ((d, HBo g (.stringIter s 0)) :: hdel H d)) : OtherM cx H f (.range t x) (some d) K := by
  refine ⟨fun a w hfit hw o ho => ?_⟩
  obtain ⟨u, hu, rfl⟩ := ev_sound hfit hx
  exact ⟨.v (.pointer (some ⟨w.heap.size, 0, none⟩)), _, _, .inl (exec_range (hu trivial) ho (run_range_string w t s (und_str (hT.at_ ht) hi))), hw.newObj d _, hk _ (Nat.le_trans hw.n0 hw.keep.size)⟩
theorem run_next_str {P : Program} {w : World} {g pos : Nat} {s : ByteArray} (hg : w.heap[g]? = some (.stringIter s pos)) (ty : TypeId) :
    (pos < s.size → (Instr.next (.pointer (some ⟨g, 0, none⟩)) true ty).run P w = .ok (.tuple #[.bool true, .int .i64 pos, .int .i32 (Utf8.decode s pos).1]) { w with heap := w.heap.setIfInBounds g (.stringIter s (pos + (Utf8.decode s pos).2)) }) ∧
    (¬ pos < s.size → (Instr.next (.pointer (some ⟨g, 0, none⟩)) true ty).run P w = .ok (.tuple #[.bool false]) w) := by
  refine ⟨fun h => ?_, fun h => ?_⟩
  · simp only [Instr.next, getObj, setObj, Sem.run_bind, Sem.run, hg, Result.andThen, h, if_true]
    simp [goInt]
  · simp [Instr.next, getObj, Sem.run, hg, h]
theorem other_next_str {cx : Cx} {H : Heap} {f : Env} {dst : Option Nat} {K : SV → Heap → Prop} {x : Operand} (d : Nat) {g pos : Nat} {s : ByteArray}
    (hx : ev f .yes x (fun u => u = .v (.pointer (some ⟨g, 0, none⟩)))) (hf : hfind H d = some (HBo g (.stringIter s pos)))
    (hk : (pos < s.size → K (.t [.v (.bool true), .v (.int .i64 pos), .v (.int .i32 (Utf8.decode s pos).1)]) ((d, HBo g (.stringIter s (pos + (Utf8.decode s pos).2))) :: hdel H d)) ∧ (¬ pos < s.size → K (.t [.v (.bool false)]) H)) : OtherM cx H f (.next x true) dst K := by
  refine ⟨fun a w hfit hw o ho => ?_⟩
  obtain ⟨u, hu, rfl⟩ := ev_sound hfit hx
  have hb : (HBo g (.stringIter s pos)).holds cx w := hw.at_ hf
  by_cases h : pos < s.size
  · exact ⟨.t [.v (.bool true), .v (.int .i64 pos), .v (.int .i32 (Utf8.decode s pos).1)], _, _, .inl (exec_next (hu trivial) ho fun ty => (run_next_str hb.2.1 ty).1 h), hw.setObj_ hf _, hk.1 h⟩
  · exact ⟨.t [.v (.bool false)], _, _, .inl (exec_next (hu trivial) ho fun ty => (run_next_str hb.2.1 ty).2 h), hw, hk.2 h⟩
end Sat
end Go.Proofs.YtdohcglpcgahaaaGreatDoor
