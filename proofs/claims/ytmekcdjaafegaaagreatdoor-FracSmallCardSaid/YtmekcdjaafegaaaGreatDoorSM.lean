/-
  The own framework: maps that are made, filled and ranged over.
-/
import Derived.Test.YtmekcdjaafegaaaGreatDoorSR
import Derived.MapKept
namespace Go.Proofs.YtmekcdjaafegaaaGreatDoor
open Go Sat Go.RowKit Go.PlainAid
namespace Sat
set_option linter.unusedSimpArgs false
set_option linter.unusedVariables false
theorem exec_makeMap {P : Program} {a : Act} {t : TypeId} {r : Value} {w w' : World} {o : Oper} (ho : o.op = .makeMap t none) (h : (Instr.makeMap t none).run P w = .ok r w') : (execOp a.eval o).run P w = .ok (.value r) w' := by
  obtain ⟨dst, op, ty, pos, after, gd⟩ := o
  dsimp only at ho
  subst ho
  simp only [execOp]
  refine run_v' ?_
  exact h
theorem exec_insert {P : Program} {a : Act} {t : TypeId} {m k v : Operand} {mv kv vv : Value} {w w' : World} (hm : a.eval m = mv) (hk : a.eval k = kv) (hv : a.eval v = vv) {o : Oper} (ho : o.op = .insert t m k v) (h : (Instr.mapUpdate t mv kv vv).run P w = .ok () w') : (execOp a.eval o).run P w = .ok .skip w' := by
  obtain ⟨dst, op, ty, pos, after, gd⟩ := o
  dsimp only at ho
  subst ho
  simp only [execOp, hm, hk, hv]
  exact run_u h
theorem other_makeMap {cx : Cx} {H : Heap} {f : Env} {d t : Nat} {K : SV → Heap → Prop}
    (hk : ∀ g, cx.n0 ≤ g → K (.v (.map (some g))) ((d, HBo g (.map #[] 0)) :: hdel H d)) : OtherM cx H f (.makeMap t none) (some d) K := by
  refine ⟨fun a w hfit hw o ho => ?_⟩
  exact ⟨.v (.map (some w.heap.size)), _, _, .inl (exec_makeMap ho (run_makeMap t w)), hw.newObj d _, hk _ (Nat.le_trans hw.n0 hw.keep.size)⟩
/-- a key that the map does not hold is laid into it -/
theorem other_insert {cx : Cx} {H : Heap} {f : Env} {dst : Option Nat} {K : SV → Heap → Prop} {t kt et : Nat} {m k v : Operand} (d : Nat) {g clock : Nat} {es : Array MapEntry} {s : ByteArray} {val : Value}
    (ht : cx.P.underlying t = some (.map kt et)) (hkt : cx.P.underlying kt = some .string)
    (hm : ev f .yes m (fun u => u = .v (.map (some g)))) (hkk : ev f .yes k (fun u => u = .v (.string s))) (hv : ev f .yes v (fun u => u = .v val)) (hf : hfind H d = some (HBo g (.map es clock)))
    (hks : ∀ x ∈ es.toList, ∃ s', x.key = .string s' ∧ s' ≠ s)
    (hk : K (.v undef) ((d, HBo g (.map (es.push { key := .string s, val := val, born := clock }) (clock + 1))) :: hdel H d)) : OtherM cx H f (.insert t m k v) dst K := by
  refine ⟨fun a w hfit hw o ho => ?_⟩
  obtain ⟨um, hum, rfl⟩ := ev_sound hfit hm
  obtain ⟨uk, huk, rfl⟩ := ev_sound hfit hkk
  obtain ⟨uv, huv, rfl⟩ := ev_sound hfit hv
  have hb : (HBo g (.map es clock)).holds cx w := hw.at_ hf
  have hb1 := hb.2.1
  have hkey : MapKept.IsKey .string (.string s) := trivial
  have hkeys : ∀ x ∈ es.toList, MapKept.IsKey .string x.key := fun x hx => by
    obtain ⟨s', h1, _⟩ := hks x hx
    rw [h1]
    trivial
  have hnone : Instr.findNow .string (.string s) es.toList 0 = some none := by
    rcases MapKept.findNow_spec hkey es.toList 0 hkeys with ⟨h1, _⟩ | ⟨j, e, _, h2, h3⟩
    · exact h1
    · obtain ⟨s', h4, h5⟩ := hks e (List.mem_of_getElem? h2)
      rw [h4] at h3
      injection h3 with h3
      exact absurd h3 h5
  refine ⟨.v undef, _, { w with heap := w.heap.setIfInBounds g (.map (es.push { key := .string s, val := val, born := clock }) (clock + 1)) }, .inr ⟨exec_insert (hum trivial) (huk trivial) (huv trivial) ho ?_, rfl⟩, hw.setObj_ hf _, hk⟩
  show (Instr.mapUpdate t (.map (some g)) (.string s) val).run cx.P w = _
  simp [Instr.mapUpdate, run_underlying ht, MapKept.run_getObj_map hb1, MapKept.run_checkKey hkt hkey, MapKept.run_findKey hkt hnone, MapKept.run_setObj_map _ hb1, Result.andThen]
theorem other_range_map {cx : Cx} {H : Heap} {f : Env} {d : Nat} {K : SV → Heap → Prop} {x : Operand} {t kt et : Nat} (ht : cx.P.underlying t = some (.map kt et)) (i : Nat) {g clock : Nat} {es : Array MapEntry}
    (hx : ev f .yes x (fun u => u = .v (.map (some g)))) (hf : hfind H i = some (HBo g (.map es clock)))
    (hk : ∀ g2, cx.n0 ≤ g2 → K (.v (.pointer (some ⟨g2, 0, none⟩))) ((d, HBo g2 (.mapIter (some g) clock #[] clock)) :: hdel H d)) : OtherM cx H f (.range t x) (some d) K := by
  refine ⟨fun a w hfit hw o ho => ?_⟩
  obtain ⟨u, hu, rfl⟩ := ev_sound hfit hx
  have hb : (HBo g (.map es clock)).holds cx w := hw.at_ hf
  exact ⟨.v (.pointer (some ⟨w.heap.size, 0, none⟩)), _, _, .inl (exec_range (hu trivial) ho (run_range_map w t kt et g es clock ht hb.2.1)), hw.newObj d _, hk _ (Nat.le_trans hw.n0 hw.keep.size)⟩
theorem exec_entry {P : Program} {a : Act} {x : Operand} {u r : Value} {w w' : World} (hx : a.eval x = u) {o : Oper} (ho : o.op = .entry x) (h : (Instr.entry u).run P w = .ok r w') : (execOp a.eval o).run P w = .ok (.value r) w' := by
  obtain ⟨dst, op, ty, pos, after, gd⟩ := o
  dsimp only at ho
  subst ho
  simp only [execOp]
  refine run_v' ?_
  rw [hx]
  exact h
/-- one step over a map that stands: nothing is left, or one of those that are left comes -/
theorem run_next_mapAt {P : Program} {w : World} {g bm since c0 clock : Nat} {seen : Array Nat} {es : Array MapEntry} (hg : w.heap[g]? = some (.mapIter (some bm) since seen c0)) (hb : w.heap[bm]? = some (.map es clock))
    (hold : ∀ x ∈ es.toList, x.born < since) (hsc : since ≤ c0) (ty : TypeId) :
    ((leftOf es seen).size = 0 ∧ (Instr.next (.pointer (some ⟨g, 0, none⟩)) false ty).run P w = .ok (.tuple #[.bool false]) w) ∨
    ∃ e ∈ (leftOf es seen).toList, ∃ n : Nat, (Instr.next (.pointer (some ⟨g, 0, none⟩)) false ty).run P w = .ok (.tuple #[.bool true, e.key, e.val]) { w with drawn := n, heap := w.heap.setIfInBounds g (.mapIter (some bm) since (seen.push e.born) clock) } := by
  simp only [Instr.next, getObj, Sem.run_bind, Sem.run, hg, hb, Result.andThen, next_test_false seen es since c0 hold hsc, Bool.false_eq_true, if_false]
  unfold leftOf
  have hmem : ∀ x ∈ (Array.filter (fun e => !seen.contains e.born) es).toList, x.born < since := fun x hx => hold x (by simp at hx ⊢; exact hx.1)
  generalize Array.filter (fun e => !seen.contains e.born) es = L at hmem ⊢
  have e1 : L.filter (fun x => decide (x.born < since)) = L := Array.filter_eq_self.2 (fun x hx => by simpa using hmem x (by simpa using hx))
  have e2 : L.filter (fun x => decide (x.born ≥ since)) = #[] := by
    rw [Array.filter_eq_empty_iff]
    intro x hx
    have := hmem x (by simpa using hx)
    simp
    omega
  simp only [e1, e2, Array.append_empty]
  by_cases h0 : L.size = 0
  · left
    have : L = #[] := Array.eq_empty_of_size_eq_zero h0
    subst this
    refine ⟨rfl, ?_⟩
    simp [choose, Sem.run, Question.forced]
  · right
    have hne : L.isEmpty = false := by simp [Array.isEmpty, h0]
    simp only [hne, Bool.false_eq_true, if_false, Array.empty_append, Array.size_map]
    have hch : ∃ (j : Nat) (n : Nat), j < L.size ∧ (choose (Question.mapNext L.size)).run P w = .ok j { w with drawn := n } := by
      by_cases hf : L.size ≤ 1
      · exact ⟨0, w.drawn, by omega, by simp [choose, Sem.run, Question.forced, hf]⟩
      · exact ⟨_, w.drawn + 1, Nat.mod_lt _ (by omega), by
          simp only [choose, Sem.run, Question.forced, decide_eq_true_eq, hf, if_false, Question.cut]
          rfl⟩
    obtain ⟨j, n, hj, hrun⟩ := hch
    refine ⟨L[j], by simp, n, ?_⟩
    have hset : ∀ o' : Obj, (setObj g o').run P { w with drawn := n } = .ok () { w with drawn := n, heap := w.heap.setIfInBounds g o' } := fun o' => by
      simp only [setObj, Sem.run]
      rw [hg]
    simp only [hrun, Array.getElem?_map, Array.getElem?_eq_getElem hj, Option.map_some, Sem.run_bind, hset, Result.andThen]
    rfl
theorem run_entry_mapAt {P : Program} {w : World} {g bm since clock : Nat} {seen : Array Nat} {es : Array MapEntry} {e : MapEntry} (hg : w.heap[g]? = some (.mapIter (some bm) since (seen.push e.born) clock)) (hb : w.heap[bm]? = some (.map es clock)) (he : e ∈ es.toList) (hn : (es.toList.map (·.born)).Nodup) :
    (Instr.entry (.pointer (some ⟨g, 0, none⟩))).run P w = .ok (.tuple #[e.key, e.val]) w := by
  have hf : es.find? (·.born == e.born) = some e := by rw [← Array.find?_toList]; exact find_born e es.toList hn he
  simp only [Instr.entry, getObj, Sem.run_bind, Sem.run, hg, hb, Result.andThen, Array.back?_push, bne_self_eq_false, Bool.false_eq_true, if_false, hf]
  rfl
theorem other_next_map {cx : Cx} {H : Heap} {f : Env} {dst : Option Nat} {K : SV → Heap → Prop} {x : Operand} (i d : Nat) {g bm since c0 clock : Nat} {seen : Array Nat} {es : Array MapEntry}
    (hx : ev f .yes x (fun u => u = .v (.pointer (some ⟨g, 0, none⟩)))) (hf : hfind H d = some (HBo g (.mapIter (some bm) since seen c0))) (hm : hfind H i = some (HBo bm (.map es clock)))
    (hold : ∀ x ∈ es.toList, x.born < since) (hsc : since ≤ c0)
    (hk : ((leftOf es seen).size = 0 → K (.t [.v (.bool false)]) H) ∧ (∀ e ∈ (leftOf es seen).toList, K (.t [.v (.bool true), .v e.key, .v e.val]) ((d, HBo g (.mapIter (some bm) since (seen.push e.born) clock)) :: hdel H d))) : OtherM cx H f (.next x false) dst K := by
  refine ⟨fun a w hfit hw o ho => ?_⟩
  obtain ⟨u, hu, rfl⟩ := ev_sound hfit hx
  have h1 : (HBo g (.mapIter (some bm) since seen c0)).holds cx w := hw.at_ hf
  have h2 : (HBo bm (.map es clock)).holds cx w := hw.at_ hm
  rcases run_next_mapAt (P := cx.P) h1.2.1 h2.2.1 hold hsc o.type with ⟨h3, h4⟩ | ⟨e, he, n, h4⟩
  · refine ⟨.t [.v (.bool false)], _, w, .inl ?_, hw, hk.1 h3⟩
    obtain ⟨dst', op, ty, pos, after, gd⟩ := o
    dsimp only at ho h4
    subst ho
    simp only [execOp]
    refine run_v' ?_
    rw [hu trivial]
    exact h4
  · refine ⟨.t [.v (.bool true), .v e.key, .v e.val], _, { w with drawn := n, heap := w.heap.setIfInBounds g (.mapIter (some bm) since (seen.push e.born) clock) }, .inl ?_, Holds.drawn (hw.setObj_ hf _) n, hk.2 e he⟩
    obtain ⟨dst', op, ty, pos, after, gd⟩ := o
    dsimp only at ho h4
    subst ho
    simp only [execOp]
    refine run_v' ?_
    rw [hu trivial]
    exact h4
theorem other_entry {cx : Cx} {H : Heap} {f : Env} {c : Grd} {K : SV → Prop} {x : Operand} (i d : Nat) {g bm since clock : Nat} {seen : Array Nat} {es : Array MapEntry} {e : MapEntry}
    (hx : ev f c x (fun u => u = .v (.pointer (some ⟨g, 0, none⟩)))) (hf : hfind H d = some (HBo g (.mapIter (some bm) since (seen.push e.born) clock))) (hm : hfind H i = some (HBo bm (.map es clock)))
    (he : e ∈ es.toList) (hn : (es.toList.map (·.born)).Nodup) (hk : K (.t [.v e.key, .v e.val])) : Other cx H f c (.entry x) K := by
  refine ⟨.t [.v e.key, .v e.val], fun hc a w hfit hw o ho => ?_, hk⟩
  obtain ⟨u, hu, rfl⟩ := ev_sound hfit hx
  have h1 : (HBo g (.mapIter (some bm) since (seen.push e.born) clock)).holds cx w := hw.at_ hf
  have h2 : (HBo bm (.map es clock)).holds cx w := hw.at_ hm
  exact exec_entry (hu hc) ho (run_entry_mapAt h1.2.1 h2.2.1 he hn)
theorem cnt_set {l : Array Bool} {j : Nat} (h : l.getD j true = false) : (l.setIfInBounds j true).toList.count false < l.toList.count false := by
  obtain ⟨l⟩ := l
  have hj : j < l.length := by
    rcases Nat.lt_or_ge j l.length with h1 | h1
    · exact h1
    · exact absurd h (by simp [Array.getD, Nat.not_lt.2 h1])
  have he : l[j] = false := by simpa [Array.getD, hj] using h
  simp only [List.setIfInBounds_toArray]
  rw [List.count_set hj, he]
  have : 0 < l.count false := List.count_pos_iff.2 (by rw [← he]; exact List.getElem_mem hj)
  simp
  omega
/-- a region whose operations come in any order, by an invariant of what has come -/
theorem held_inv {cx : Cx} (hok : COk cx) {ops : Array Oper} {X : Act → World → Prop} (I : Array Bool → Env → Heap → Prop)
    (hend : ∀ listed f H, I listed f H → Region.ready .any ops listed = [] → ∀ a w, Fits cx f a → Holds cx H w → X a w)
    (hstep : ∀ listed f H, I listed f H → ∀ j ∈ Region.ready .any ops listed, ∃ o, oget ops.toList j = some o ∧ vcStep cx ops.toList o f H (fun f' H' => I (listed.setIfInBounds j true) f' H')) :
    ∀ (m : Nat) (listed : Array Bool) (f : Env) (H : Heap) (a : Act) (w : World), listed.toList.count false ≤ m → I listed f H → Fits cx f a → Holds cx H w → heldIn cx.R cx.P ops X (fun _ => True) m listed a w := by
  intro m
  induction m with
  | zero =>
    intro listed f H a w hc hi hf hw
    have hr : Region.ready .any ops listed = [] := by
      cases h : Region.ready .any ops listed with
      | nil => rfl
      | cons j l =>
        have hj : j ∈ Region.ready .any ops listed := by rw [h]; exact List.mem_cons_self
        have := cnt_set (mem_ready.1 hj).1
        omega
    exact ⟨hr, hend listed f H hi hr a w hf hw⟩
  | succ m ih =>
    intro listed f H a w hc hi hf hw
    refine ⟨fun hr => hend listed f H hi hr a w hf hw, fun j hj => ?_⟩
    obtain ⟨o, ho, hs⟩ := hstep listed f H hi j hj
    have := vcStep_sound hok (Q := fun e a w => match e with | .normal => X a w | _ => False) hs hf hw (N := fun a' w' => True ∧ heldIn cx.R cx.P ops X (fun _ => True) m (listed.setIfInBounds j true) a' w') (fun f' H' a' w' hf' hw' hk =>
      ⟨trivial, ih _ f' H' a' w' (by have := cnt_set (mem_ready.1 hj).1; omega) hk hf' hw'⟩)
    unfold wpOpIn
    rw [oget_arr ho]
    rw [Array.toArray_toList] at this
    exact this
theorem sat_draw_inv {cx : Cx} (hok : COk cx) {id : Nat} {ops : Array Oper} {K : Exit → Env → Heap → Prop} {f : Env} {H : Heap} (I : Array Bool → Env → Heap → Prop)
    (hi : I (Array.replicate ops.size false) f H)
    (hend : ∀ listed f H, I listed f H → Region.ready .any ops listed = [] → K .normal f H)
    (hstep : ∀ listed f H, I listed f H → ∀ j ∈ Region.ready .any ops listed, ∃ o, oget ops.toList j = some o ∧ vcStep cx ops.toList o f H (fun f' H' => I (listed.setIfInBounds j true) f' H')) : Sat cx (.region id ops true) K f H :=
  ⟨fun a w hf hw => by
    have h1 := held_inv hok (X := fun a' w' => ∃ f' H', Fits cx f' a' ∧ Holds cx H' w' ∧ K .normal f' H') I (fun listed f' H' h hr a' w' h1 h2 => ⟨f', H', h1, h2, hend listed f' H' h hr⟩) hstep ops.size _ f H a _ (by simp) hi hf (hw.drawn (w.drawn + 1))
    refine wpIn_mono (wpIn_region_any hok.order (any_of_held _ _ _ _ h1)) ?_
    intro e a w he
    cases e with
    | normal => exact he
    | _ => exact he.elim⟩
end Sat
end Go.Proofs.YtmekcdjaafegaaaGreatDoor
