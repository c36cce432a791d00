/-
  A slice of slices among a law's arguments, opened as a nest. No walk.
-/
import Derived.Test.YtdohcglpcgahaaaDoorOpen
import Derived.Test.YtdohcglpcgahaaaDoorNA
import Derived.Test.YtdohcglpcgahaaaDoorProg
import Derived.OpenShut
import Derived.SizedLaws
set_option linter.unusedSimpArgs false
set_option linter.unusedVariables false
namespace Go.Proofs.YtdohcglpcgahaaaDoor
set_option maxRecDepth 100000
open Go.ChangeShapes Go.WideShapes Go.ChangeAt Go.WideMaps Go.WideElems Go.RowKit Sat
section
variable {H : Type} {enc : TypeId × Value → H} {P : Program} {w : World} {base : Nat} {spare : Nat → Bool} {held : Bool}
/-- what a datum weighs is within reach -/
def Light (P : Program) (t : TypeId) (d : DataW H) : Prop := ∀ x ∈ d.weights P t, x ≤ reachBytes
theorem light_of (j : Nat) {ts : List TypeId} {ds : List (DataW H)} {t : TypeId} {d : DataW H} (h : (DataW.weightsEach P ts ds).all (· ≤ reachBytes) = true) (ht : ts[j]? = some t) (hd : ds[j]? = some d) : Light P t d := fun x hx => by
  have := List.all_eq_true.1 h x (DataW.weights_mem_each ht hd x hx)
  simpa using this
theorem weights_all {e : TypeId} : ∀ {l : List (DataW H)} {d : DataW H}, d ∈ l → ∀ x ∈ d.weights P e, x ∈ DataW.weightsAll P e l
  | [], d, h, _, _ => by cases h
  | y :: l, d, h, x, hx => by
    unfold DataW.weightsAll
    rcases List.mem_cons.1 h with rfl | h
    · exact List.mem_append_left _ hx
    · exact List.mem_append_right _ (weights_all h x hx)
theorem trod_nesta {α : Type} {R : Lies α} {I : α → Prop} {t e : TypeId} {b : Nat} (ht : P.underlying t = some (.slice e)) (hc : P.cellsOf e = 1) (hb : P.bytesOf e = b)
    (each : ∀ n u y, DataW.trod enc P w base spare held n e [u] = some y → Light P e y.1 → ∃ a, R w (fun _ => True) u a ∧ I a)
    {n : Nat} {cs : List Value} {y : DataW H × List MemPlace} (h : DataW.trod enc P w base spare held n t cs = some y) (hw : Light P t y.1) :
    ∃ v l, cs = [v] ∧ NestA R w (fun _ => True) v l ∧ (∀ a ∈ l, I a) ∧ l.length * b ≤ 140737488355328 := by
  rcases DataW.trod_slice ht h with ⟨rfl, rfl⟩ | ⟨a, len, cap, elems, rest, m, _, rfl, rfl, hba, hl, hm, hlen, hel, _, _⟩
  · exact ⟨_, [], rfl, ⟨none, none, 0, [], rfl, ⟨fun h => absurd h (by simp)⟩, ⟨Nat.le_refl _, Nat.zero_le _⟩, Ro.nil_ _ _ _, fun _ _ _ => trivial, fun i x a h => (by cases h)⟩, by simp, by simp⟩
  · have hwd : (elems.length + rest.length) * b ≤ reachBytes ∧ ∀ z ∈ elems, Light P e z.1 := by
      unfold Light at hw
      dsimp only at hw
      unfold DataW.weights at hw
      rw [ht] at hw
      dsimp only at hw
      rw [List.length_map, List.length_map, hb] at hw
      refine ⟨hw _ List.mem_cons_self, fun z hz x hx => hw x (List.mem_cons_of_mem _ (List.mem_append_left _ (weights_all (List.mem_map_of_mem hz) x hx)))⟩
    obtain ⟨L, hL, hR⟩ := choose_list (α := Value × α) (fun i x => w.cell? (a.add i) = some x.1 ∧ R w (fun _ => True) x.1 x.2 ∧ I x.2) len (fun i hi => by
      have h1 := hel i hi
      rw [hc, Nat.mul_one, List.getElem?_eq_getElem (by omega)] at h1
      rw [Option.bind_eq_some_iff] at h1
      obtain ⟨cs, h2, h3⟩ := h1
      obtain ⟨_, h4, h5⟩ := World.cells?_some h2
      obtain ⟨u, rfl⟩ : ∃ u, cs = [u] := by
        cases cs with
        | nil => simp at h4
        | cons u r => cases r with
          | nil => exact ⟨u, rfl⟩
          | cons _ _ => simp at h4
      obtain ⟨x, h6, h7⟩ := each _ _ _ h3 (hwd.2 _ (List.getElem_mem _))
      have h8 := h5 0 Nat.one_pos
      refine ⟨(u, x), ?_, h6, h7⟩
      simpa [Addr.add] using h8)
    have hll : (L.map Prod.snd).length = len := by rw [List.length_map]; exact hL
    have hspot : 0 < len → a.spot = none := fun h0 => by
      have := World.cell?_spot (hR 0 L[0] (List.getElem?_eq_getElem (by omega))).1
      simpa [Addr.add] using this
    refine ⟨_, L.map Prod.snd, rfl, ⟨some a, some (a.block, a.off), cap, L.map Prod.fst, by rw [hll], ⟨fun h0 => ?_⟩, ⟨by rw [hll]; exact hl, hm⟩, ⟨by rw [List.length_map, hll, Nat.mul_one]; exact hL, fun h0 => ⟨_, rfl, ?_, fun j u hu => ?_⟩⟩, fun _ _ _ => trivial, fun i x c hx hy => ?_⟩, fun c hx => ?_, ?_⟩
    · rw [hll] at h0
      have := hspot h0
      obtain ⟨g, o, s⟩ := a
      simp only at this
      subst this
      rfl
    · rw [hll] at h0
      have h1 := (hR 0 L[0] (List.getElem?_eq_getElem (by omega))).1
      unfold World.cell? at h1
      split at h1
      · rename_i e
        have := heap_lt e
        simpa [Addr.add] using this
      · cases h1
    · rw [hll] at h0
      rw [List.getElem?_map, Option.map_eq_some_iff] at hu
      obtain ⟨z, hz, rfl⟩ := hu
      have h1 := (hR j z hz).1
      have := hspot h0
      obtain ⟨g, o, s⟩ := a
      simp only at this
      subst this
      rw [add_mk] at h1
      exact h1
    · rw [List.getElem?_map, Option.map_eq_some_iff] at hx hy
      obtain ⟨z, hz, rfl⟩ := hx
      obtain ⟨z2, hz2, rfl⟩ := hy
      rw [hz] at hz2
      cases hz2
      exact (hR i z hz).2.1
    · obtain ⟨z, hz, rfl⟩ := List.mem_map.1 hx
      obtain ⟨i, hi⟩ := List.getElem?_of_mem hz
      exact (hR i z hi).2.2
    · rw [hll, ← hlen]
      have h1 := hwd.1
      have h2 : elems.length * b ≤ (elems.length + rest.length) * b := Nat.mul_le_mul_right _ (by omega)
      have h3 : reachBytes = 140737488351232 := rfl
      omega
end
section
variable {H : Type} {enc : TypeId × Value → H} {w : World} {base : Nat} {spare : Nat → Bool} {held : Bool}
theorem trod_str {n : Nat} {u : Value} {y : DataW H × List MemPlace} (h : DataW.trod enc Tryd.prog w base spare held n 9 [u] = some y) : ∃ s, Text w (fun _ => True) u s ∧ s.size ≤ maxLen := by
  obtain ⟨s, h1, _, h2⟩ := DataW.trod_string Tryd.underlying9 h
  exact ⟨s, (List.cons.inj h1).1, h2⟩
theorem trod_strs {n : Nat} {u : Value} {y : DataW H × List MemPlace} (h : DataW.trod enc Tryd.prog w base spare held n 45 [u] = some y) (hw : Light Tryd.prog 45 y.1) : ∃ e, NEA w (fun _ => True) u e ∧ e.length * 16 ≤ 140737488355328 := by
  obtain ⟨v, l, h1, h2, _, h3⟩ := trod_nesta (R := Text) (I := fun _ => True) Tryd.underlying45 (show Tryd.prog.cellsOf 9 = 1 by kernel_rfl) (show Tryd.prog.bytesOf 9 = 16 by kernel_rfl) (fun _ _ _ h _ => by obtain ⟨s, hs, _⟩ := trod_str h; exact ⟨s, hs, trivial⟩) h hw
  cases h1
  exact ⟨l, h2, h3⟩
theorem trod_seg {n : Nat} {u : Value} {y : DataW H × List MemPlace} (h : DataW.trod enc Tryd.prog w base spare held n 68 [u] = some y) (hw : Light Tryd.prog 68 y.1) : ∃ s, NSA w (fun _ => True) u s ∧ (∀ e ∈ s, e.length * 16 ≤ 140737488355328) ∧ s.length * 24 ≤ 140737488355328 := by
  obtain ⟨v, l, h1, h2, h4, h3⟩ := trod_nesta (R := NEA) (I := fun e => e.length * 16 ≤ 140737488355328) Tryd.underlying68 (show Tryd.prog.cellsOf 45 = 1 by kernel_rfl) (show Tryd.prog.bytesOf 45 = 24 by kernel_rfl) (fun _ _ _ h hw => trod_strs h hw) h hw
  cases h1
  exact ⟨l, h2, h4, h3⟩
theorem open_segs {d : DataW H} (hw : Light Tryd.prog 28 d) {r : Reach} {b0 : Nat} {v : Value} {p : List MemPlace} (hval : Value.okWide Tryd.prog w r b0 28 v) (h : DataW.Trod enc Tryd.prog w base spare held 28 v d p) :
    ∃ l, NLA w (fun _ => True) v l ∧ FewL l := by
  obtain ⟨fuel, hf⟩ := h
  obtain ⟨a, len, cap, rfl⟩ := okWide_slice Tryd.underlying28 hval
  simp only [Value.cells] at hf
  obtain ⟨v, l, h1, h2, h4, h3⟩ := trod_nesta (R := NSA) (I := fun s => (∀ e ∈ s, e.length * 16 ≤ 140737488355328) ∧ s.length * 24 ≤ 140737488355328) Tryd.underlying28 (show Tryd.prog.cellsOf 68 = 1 by kernel_rfl) (show Tryd.prog.bytesOf 68 = 24 by kernel_rfl) (fun _ _ _ h hw => trod_seg h hw) hf hw
  cases h1
  exact ⟨l, h2, h3, fun s hs => (h4 s hs).2, fun s hs => (h4 s hs).1⟩
end
end Go.Proofs.YtdohcglpcgahaaaDoor
