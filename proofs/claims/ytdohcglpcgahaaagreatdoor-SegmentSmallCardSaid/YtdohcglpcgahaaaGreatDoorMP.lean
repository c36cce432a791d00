/-
  The own framework: maps with strings as keys.
-/
import Derived.Test.YtdohcglpcgahaaaGreatDoorSR
import Derived.MapKept
set_option linter.unusedSimpArgs false
set_option linter.unusedVariables false
namespace Go.Proofs.YtdohcglpcgahaaaGreatDoor
open Go Sat Go.RowKit Go.PlainAid
/-- a map's entries: what they hold for each key -/
structure MapIs (es : Array MapEntry) (V : ByteArray → Option Value) : Prop where
  key : ∀ x ∈ es.toList, MapKept.IsKey .string x.key
  no : ∀ s, V s = none → ∀ (j : Nat) (e : MapEntry), es[j]? = some e → e.key ≠ .string s
  yes : ∀ s v, V s = some v → ∃ (j : Nat) (e : MapEntry), es[j]? = some e ∧ e.key = .string s ∧ e.val = v
  one : ∀ s (i j : Nat) (a b : MapEntry), es[i]? = some a → es[j]? = some b → a.key = .string s → b.key = .string s → i = j
theorem MapIs.nil : MapIs #[] (fun _ => none) := ⟨by simp, fun s _ j e h => by simp at h, fun s v h => (by cases h), fun s i j a b h => by simp at h⟩
theorem MapIs.find {es : Array MapEntry} {V : ByteArray → Option Value} (h : MapIs es V) (s : ByteArray) :
    (V s = none ∧ Instr.findNow .string (.string s) es.toList 0 = some none) ∨ ∃ j e, V s = some e.val ∧ Instr.findNow .string (.string s) es.toList 0 = some (some (j, e.val)) ∧ es[j]? = some e ∧ e.key = .string s := by
  rcases MapKept.findNow_spec (d := .string) (k := .string s) trivial es.toList 0 h.key with ⟨h1, h2⟩ | ⟨j, e, h1, h2, h3⟩
  · refine .inl ⟨?_, h1⟩
    cases hv : V s with
    | none => rfl
    | some v =>
      obtain ⟨j, e, he, hk, _⟩ := h.yes s v hv
      exact absurd hk (h2 e (by have := Array.mem_of_getElem? he; simpa using this))
  · have he : es[j]? = some e := by simpa using h2
    refine .inr ⟨j, e, ?_, by simpa using h1, he, h3⟩
    cases hv : V s with
    | none => exact absurd h3 (h.no s hv j e he)
    | some v =>
      obtain ⟨i, a, ha, hk, rfl⟩ := h.yes s v hv
      have hij := h.one s i j a e ha he hk h3
      subst hij
      rw [ha] at he
      cases he
      rfl
theorem MapIs.push {es : Array MapEntry} {V : ByteArray → Option Value} (h : MapIs es V) {s : ByteArray} (hs : V s = none) (v : Value) (c : Nat) : MapIs (es.push ⟨.string s, v, c⟩) (fun t => if t = s then some v else V t) := by
  have hat : ∀ (j : Nat) (e : MapEntry), (es.push ⟨.string s, v, c⟩)[j]? = some e → (es[j]? = some e ∧ j < es.size) ∨ (j = es.size ∧ e = ⟨.string s, v, c⟩) := fun j e he => by
    rw [Array.getElem?_push] at he
    split at he
    · rename_i hj
      cases he
      exact .inr ⟨hj, rfl⟩
    · exact .inl ⟨he, (Array.getElem?_eq_some_iff.1 he).1⟩
  refine ⟨fun x hx => ?_, fun t ht j e he hk => ?_, fun t u ht => ?_, fun t i j a b ha hb hka hkb => ?_⟩
  · rw [Array.toList_push] at hx
    rcases List.mem_append.1 hx with hx | hx
    · exact h.key x hx
    · rw [List.mem_singleton] at hx
      subst hx
      trivial
  · try dsimp only at ht
    split at ht
    · cases ht
    · rename_i hts
      rcases hat j e he with ⟨h1, _⟩ | ⟨_, rfl⟩
      · exact h.no t ht j e h1 hk
      · injection hk with hk
        exact hts hk.symm
  · try dsimp only at ht
    split at ht
    · rename_i hts
      cases ht
      exact ⟨es.size, ⟨.string s, v, c⟩, by simp, by rw [hts], rfl⟩
    · obtain ⟨j, e, he, hk, hv⟩ := h.yes t u ht
      have hj := (Array.getElem?_eq_some_iff.1 he).1
      exact ⟨j, e, by rw [Array.getElem?_push, if_neg (by omega)]; exact he, hk, hv⟩
  · rcases hat i a ha with ⟨h1, h1'⟩ | ⟨h1, rfl⟩ <;> rcases hat j b hb with ⟨h2, h2'⟩ | ⟨h2, rfl⟩
    · exact h.one t i j a b h1 h2 hka hkb
    · injection hkb with hkb
      subst hkb
      exact absurd hka (h.no s hs i a h1)
    · injection hka with hka
      subst hka
      exact absurd hkb (h.no s hs j b h2)
    · omega
theorem MapIs.set {es : Array MapEntry} {V : ByteArray → Option Value} (h : MapIs es V) {s : ByteArray} {j : Nat} {e : MapEntry} (he : es[j]? = some e) (hk : e.key = .string s) (v : Value) : MapIs (es.modify j fun e => { e with key := .string s, val := v }) (fun t => if t = s then some v else V t) := by
  have hat : ∀ (i : Nat) (a : MapEntry), (es.modify j fun e => { e with key := .string s, val := v })[i]? = some a → (i ≠ j ∧ es[i]? = some a) ∨ (i = j ∧ a = ⟨.string s, v, e.born⟩) := fun i a ha => by
    rw [Array.getElem?_modify] at ha
    split at ha
    · rename_i hij
      subst hij
      rw [he] at ha
      cases ha
      exact .inr ⟨rfl, rfl⟩
    · rename_i hij
      exact .inl ⟨Ne.symm hij, ha⟩
  refine ⟨fun x hx => ?_, fun t ht i a ha hka => ?_, fun t u ht => ?_, fun t i k a b ha hb hka hkb => ?_⟩
  · obtain ⟨i, hi, rfl⟩ := List.getElem_of_mem hx
    have ha : (es.modify j fun e => { e with key := .string s, val := v })[i]? = some ((es.modify j fun e => { e with key := .string s, val := v }).toList[i]) := by
      rw [← Array.getElem?_toList]
      exact List.getElem?_eq_getElem hi
    rcases hat i _ ha with ⟨_, h2⟩ | ⟨_, h2⟩
    · exact h.key _ (by have := Array.mem_of_getElem? h2; simpa using this)
    · rw [h2]
      trivial
  · try dsimp only at ht
    split at ht
    · cases ht
    · rename_i hts
      rcases hat i a ha with ⟨_, h2⟩ | ⟨_, rfl⟩
      · exact h.no t ht i a h2 hka
      · injection hka with hka
        exact hts hka.symm
  · try dsimp only at ht
    split at ht
    · rename_i hts
      cases ht
      exact ⟨j, ⟨.string s, v, e.born⟩, by rw [Array.getElem?_modify, if_pos rfl, he]; rfl, by rw [hts], rfl⟩
    · rename_i hts
      obtain ⟨i, a, ha, hka, hv⟩ := h.yes t u ht
      have hij : i ≠ j := by
        rintro rfl
        rw [he] at ha
        cases ha
        rw [hk] at hka
        injection hka with hka
        exact hts hka.symm
      exact ⟨i, a, by rw [Array.getElem?_modify, if_neg (Ne.symm hij)]; exact ha, hka, hv⟩
  · rcases hat i a ha with ⟨h1, h1'⟩ | ⟨h1, rfl⟩ <;> rcases hat k b hb with ⟨h2, h2'⟩ | ⟨h2, rfl⟩
    · exact h.one t i k a b h1' h2' hka hkb
    · injection hkb with hkb
      subst hkb
      exact absurd (h.one s i j a e h1' he hka hk) h1
    · injection hka with hka
      subst hka
      exact absurd (h.one s k j b e h2' he hkb hk) h2
    · omega
/-- an entry of the heap: a map -/
def HBm (g : Nat) (V : ByteArray → Option Value) : HB := .own [g] (fun w => ∃ es clock, w.heap[g]? = some (.map es clock) ∧ MapIs es V)
theorem Holds.newMap {cx : Cx} {H : Heap} {w : World} (h : Holds cx H w) (d : Nat) : Holds cx ((d, HBm w.heap.size (fun _ => none)) :: hdel H d) (w.alloc (.map #[] 0)) := by
  have hn : cx.n0 ≤ w.heap.size := Nat.le_trans h.n0 h.keep.size
  refine h.turn d _ ⟨rfl, rfl, rfl, by simp, fun k hk _ => Below.heap_alloc w _ k (by omega)⟩ ⟨fun g hg => ?_, ⟨_, _, heap_alloc_new w _, MapIs.nil⟩, fun w' hk => ⟨_, _, (hk _ (List.mem_singleton_self _)).trans (heap_alloc_new w _), MapIs.nil⟩⟩ fun e he g hg => ?_
  · rw [List.mem_singleton] at hg
    subst hg
    exact ⟨hn, by simp⟩
  · have hlt := HB.lt (h.ent e (hdel_mem he).1) hg
    exact ⟨Below.heap_alloc w _ g hlt, by simp only [HBm, HB.gs, List.mem_singleton]; omega⟩
theorem Holds.setMap {cx : Cx} {H : Heap} {w : World} (h : Holds cx H w) {d g : Nat} {V V' : ByteArray → Option Value} (hd : hfind H d = some (HBm g V)) {es : Array MapEntry} {c : Nat} (hm : MapIs es V') : Holds cx ((d, HBm g V') :: hdel H d) { w with heap := w.heap.setIfInBounds g (.map es c) } := by
  have hb : (HBm g V).holds cx w := h.at_ hd
  have hg := hb.1 g (List.mem_singleton_self _)
  refine h.turn d _ ⟨rfl, rfl, rfl, by simp, fun k hk _ => Sat.set_off (by omega)⟩ ⟨fun g' hg' => ?_, ⟨_, _, Sat.set_at hg.2, hm⟩, fun w' hk => ⟨_, _, (hk _ (List.mem_singleton_self _)).trans (Sat.set_at hg.2), hm⟩⟩ fun e he g' hg' => ?_
  · rw [List.mem_singleton] at hg'
    subst hg'
    exact ⟨hg.1, by simpa using hg.2⟩
  · obtain ⟨he1, he2⟩ := hdel_mem he
    have hne : g' ≠ g := by
      rintro rfl
      exact h.sep _ _ _ _ he1 (hfind_mem hd) he2 g' hg' (List.mem_singleton_self _)
    exact ⟨Sat.set_off hne, by simp only [HBm, HB.gs, List.mem_singleton]; exact hne⟩
theorem run_update {P : Program} {w : World} {mty kt et r : Nat} {s : ByteArray} {v : Value} {es : Array MapEntry} {clock : Nat} {V : ByteArray → Option Value} (hm : P.underlying mty = some (.map kt et)) (hd : P.underlying kt = some .string) (hb : w.heap[r]? = some (.map es clock)) (h : MapIs es V) :
    ∃ es' c', (Instr.mapUpdate mty (.map (some r)) (.string s) v).run P w = .ok () { w with heap := w.heap.setIfInBounds r (.map es' c') } ∧ MapIs es' (fun t => if t = s then some v else V t) := by
  have hk : MapKept.IsKey .string (.string s) := trivial
  rcases h.find s with ⟨h1, h2⟩ | ⟨j, e, h1, h2, h3, h4⟩
  · refine ⟨es.push ⟨.string s, v, clock⟩, clock + 1, ?_, h.push h1 v clock⟩
    simp [Instr.mapUpdate, run_underlying hm, MapKept.run_getObj_map hb, MapKept.run_checkKey hd hk, MapKept.run_findKey hd h2, MapKept.run_setObj_map _ hb, Result.andThen]
  · refine ⟨es.modify j fun e => { e with key := .string s, val := v }, clock, ?_, h.set h3 h4 v⟩
    simp [Instr.mapUpdate, run_underlying hm, MapKept.run_getObj_map hb, MapKept.run_checkKey hd hk, MapKept.run_findKey hd h2, h3, h4, MapKept.run_keyThatStays hk, MapKept.run_setObj_map _ hb, Result.andThen]
theorem exec_update {P : Program} {a : Act} {t : TypeId} {m k x : Operand} {w w' : World} {o : Oper} (ho : o.op = .mapUpdate t m k x ∨ o.op = .insert t m k x) (h : (Instr.mapUpdate t (a.eval m) (a.eval k) (a.eval x)).run P w = .ok () w') : (execOp a.eval o).run P w = .ok .skip w' := by
  obtain ⟨dst, op, ty, pos, after, gd⟩ := o
  dsimp only at ho
  rcases ho with rfl | rfl
  · simp only [execOp]
    exact run_u h
  · simp only [execOp]
    exact run_u h
theorem exec_make {P : Program} {a : Act} {t : TypeId} {w : World} {o : Oper} (ho : o.op = .makeMap t none) : (execOp a.eval o).run P w = .ok (.value (.map (some w.heap.size))) (w.alloc (.map #[] 0)) := by
  obtain ⟨dst, op, ty, pos, after, gd⟩ := o
  dsimp only at ho
  subst ho
  rfl
theorem other_make {cx : Cx} {H : Heap} {f : Env} {d : Nat} {K : SV → Heap → Prop} {t : Nat} (hk : ∀ g, cx.n0 ≤ g → K (.v (.map (some g))) ((d, HBm g (fun _ => none)) :: hdel H d)) : OtherM cx H f (.makeMap t none) (some d) K := by
  refine ⟨fun a w hfit hw o ho => ?_⟩
  exact ⟨.v (.map (some w.heap.size)), _, _, .inl (exec_make ho), Holds.newMap hw d, hk _ (Nat.le_trans hw.n0 hw.keep.size)⟩
theorem other_update {cx : Cx} {H : Heap} {f : Env} {dst : Option Nat} {K : SV → Heap → Prop} {m k x : Operand} {t kt et : Nat} (d : Nat) {g : Nat} {V : ByteArray → Option Value} {s : ByteArray} {u : SV} {op : Op} (hop : op = .mapUpdate t m k x ∨ op = .insert t m k x) (hm : cx.P.underlying t = some (.map kt et)) (hd : cx.P.underlying kt = some .string)
    (hem : ev f .yes m (fun u => u = .v (.map (some g)))) (hek : ev f .yes k (fun u => u = .v (.string s))) (hex : ev f .yes x (fun y => y = u)) (hf : hfind H d = some (HBm g V)) (hk : K (.v undef) ((d, HBm g (fun t => if t = s then some u.real else V t)) :: hdel H d)) : OtherM cx H f op dst K := by
  refine ⟨fun a w hfit hw o ho => ?_⟩
  obtain ⟨_, hu, rfl⟩ := ev_sound hfit hem
  obtain ⟨_, hv, rfl⟩ := ev_sound hfit hek
  obtain ⟨_, hx, rfl⟩ := ev_sound hfit hex
  have hb : (HBm g V).holds cx w := hw.at_ hf
  obtain ⟨es, c, he, hi⟩ := hb.2.1
  obtain ⟨es', c', hr, hi'⟩ := run_update (s := s) (v := a.eval x) hm hd he hi
  rw [hx trivial] at hi'
  have hr' : (Instr.mapUpdate t (a.eval m) (a.eval k) (a.eval x)).run cx.P w = .ok () { w with heap := w.heap.setIfInBounds g (.map es' c') } := by
    rw [hu trivial, hv trivial]
    exact hr
  exact ⟨.v undef, _, _, .inr ⟨exec_update (by rw [ho]; exact hop) hr', rfl⟩, Holds.setMap hw hf hi', hk⟩
theorem run_lookup {P : Program} {w : World} {mty kt et r : Nat} {s : ByteArray} {es : Array MapEntry} {clock : Nat} {V : ByteArray → Option Value} {z : Value} (hm : P.underlying mty = some (.map kt et)) (hd : P.underlying kt = some .string) (hz : ∀ w, (zeroValue et).run P w = .ok z w) (hb : w.heap[r]? = some (.map es clock)) (h : MapIs es V) (ok : Bool) :
    (Instr.lookup mty (.map (some r)) (.string s) ok).run P w = .ok (if ok then .tuple #[(V s).getD z, .bool (V s).isSome] else (V s).getD z) w := by
  have hk : MapKept.IsKey .string (.string s) := trivial
  rcases h.find s with ⟨h1, h2⟩ | ⟨j, e, h1, h2, h3, h4⟩
  · simp [Instr.lookup, run_underlying hm, MapKept.run_getObj_map hb, MapKept.run_checkKey hd hk, MapKept.run_findKey hd h2, Result.andThen, h1, hz]
  · simp [Instr.lookup, run_underlying hm, MapKept.run_getObj_map hb, MapKept.run_checkKey hd hk, MapKept.run_findKey hd h2, Result.andThen, h1]
theorem exec_lookup {P : Program} {a : Act} {t : TypeId} {m k : Operand} {b : Bool} {u v r : Value} {w w' : World} (hx : a.eval m = u) (hy : a.eval k = v) {o : Oper} (ho : o.op = .lookup t m k b) (h : (Instr.lookup t u v b).run P w = .ok r w') : (execOp a.eval o).run P w = .ok (.value r) w' := by
  obtain ⟨dst, op, ty, pos, after, gd⟩ := o
  dsimp only at ho
  subst ho
  simp only [execOp]
  refine run_v' ?_
  rw [hx, hy]
  exact h
theorem other_lookup {cx : Cx} {H : Heap} {f : Env} {c : Grd} {K : SV → Prop} {m k : Operand} {t kt et : Nat} {b : Bool} (d : Nat) {g : Nat} {V : ByteArray → Option Value} {s : ByteArray} {z : Value} (r : SV) (hm : cx.P.underlying t = some (.map kt et)) (hd : cx.P.underlying kt = some .string) (hz : ∀ w, (zeroValue et).run cx.P w = .ok z w)
    (hem : ev f c m (fun u => u = .v (.map (some g)))) (hek : ev f c k (fun u => u = .v (.string s))) (hf : hfind H d = some (HBm g V)) (hr : r.real = if b then .tuple #[(V s).getD z, .bool (V s).isSome] else (V s).getD z) (hk : K r) : Other cx H f c (.lookup t m k b) K := by
  refine ⟨r, fun hc a w hfit hw o ho => ?_, hk⟩
  obtain ⟨_, hu, rfl⟩ := ev_sound hfit hem
  obtain ⟨_, hv, rfl⟩ := ev_sound hfit hek
  have hb : (HBm g V).holds cx w := hw.at_ hf
  obtain ⟨es, cl, he, hi⟩ := hb.2.1
  rw [hr]
  exact exec_lookup (hu hc) (hv hc) ho (run_lookup hm hd hz he hi b)
end Go.Proofs.YtdohcglpcgahaaaGreatDoor
