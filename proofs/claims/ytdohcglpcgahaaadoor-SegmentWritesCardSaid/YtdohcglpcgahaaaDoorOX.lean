/-
  A slice of slices among a law's arguments, opened as a nest. No walk. Data among a law's arguments, opened as a nest. No walk. Messages among a law's arguments, opened as a nest. No walk.
-/
import Derived.Test.YtdohcglpcgahaaaDoorOpen
import Derived.Test.YtdohcglpcgahaaaDoorNX
import Derived.Test.YtdohcglpcgahaaaDoorProg
import Derived.OpenShut
import Derived.SizedLaws
import Derived.Test.YtdohcglpcgahaaaDoorSTX
import Derived.Test.YtdohcglpcgahaaaDoorNZ
set_option linter.unusedSimpArgs false
set_option linter.unusedVariables false
namespace Go.Proofs.YtdohcglpcgahaaaDoor
section
set_option maxRecDepth 100000
open Go.ChangeShapes Go.WideShapes Go.ChangeAt Go.WideMaps Go.WideElems Go.RowKit Sat
section
variable {H : Type} {enc : TypeId × Value → H} {P : Program} {w : World} {base : Nat} {spare : Nat → Bool} {held : Bool}
/-- what a datum weighs is within reach -/
def Light (P : Program) (t : TypeId) (d : DataW H) : Prop := ∀ x ∈ d.weights P t, x ≤ reachBytes
theorem light_of (j : Nat) {ts : List TypeId} {ds : List (DataW H)} {t : TypeId} {d : DataW H} (h : (DataW.weightsEach P ts ds).all (· ≤ reachBytes) = true) (ht : ts[j]? = some t) (hd : ds[j]? = some d) : Light P t d := fun x hx => by
  have := List.all_eq_true.1 h x (DataW.weights_mem_each ht hd x hx)
  simpa using this
theorem weights_all {e : TypeId} : ∀ {l : List (DataW H)} {d : DataW H}, d ∈ l → ∀ x ∈ d.weights P e, x ∈ DataW.weightsAll P e l
  | [], d, h, _, _ => by cases h
  | y :: l, d, h, x, hx => by
    unfold DataW.weightsAll
    rcases List.mem_cons.1 h with rfl | h
    · exact List.mem_append_left _ hx
    · exact List.mem_append_right _ (weights_all h x hx)
theorem trod_nesta {α : Type} {R : Lies α} {I : α → Prop} {t e : TypeId} {b : Nat} (ht : P.underlying t = some (.slice e)) (hc : P.cellsOf e = 1) (hb : P.bytesOf e = b)
    (each : ∀ n u y, DataW.trod enc P w base spare held n e [u] = some y → Light P e y.1 → ∃ a, R w (fun _ => True) u a ∧ I a)
    {n : Nat} {cs : List Value} {y : DataW H × List MemPlace} (h : DataW.trod enc P w base spare held n t cs = some y) (hw : Light P t y.1) :
    ∃ v l, cs = [v] ∧ NestA R w (fun _ => True) v l ∧ (∀ a ∈ l, I a) ∧ l.length * b ≤ 140737488351232 := by
  rcases DataW.trod_slice ht h with ⟨rfl, rfl⟩ | ⟨a, len, cap, elems, rest, m, _, rfl, rfl, hba, hl, hm, hlen, hel, _, _⟩
  · exact ⟨_, [], rfl, ⟨none, none, 0, [], rfl, ⟨fun h => absurd h (by simp)⟩, ⟨Nat.le_refl _, Nat.zero_le _⟩, Ro.nil_ _ _ _, fun _ _ _ => trivial, fun i x a h => (by cases h)⟩, by simp, by simp⟩
  · have hwd : (elems.length + rest.length) * b ≤ reachBytes ∧ ∀ z ∈ elems, Light P e z.1 := by
      unfold Light at hw
      dsimp only at hw
      unfold DataW.weights at hw
      rw [ht] at hw
      dsimp only at hw
      rw [List.length_map, List.length_map, hb] at hw
      refine ⟨hw _ List.mem_cons_self, fun z hz x hx => hw x (List.mem_cons_of_mem _ (List.mem_append_left _ (weights_all (List.mem_map_of_mem hz) x hx)))⟩
    obtain ⟨L, hL, hR⟩ := choose_list (α := Value × α) (fun i x => w.cell? (a.add i) = some x.1 ∧ R w (fun _ => True) x.1 x.2 ∧ I x.2) len (fun i hi => by
      have h1 := hel i hi
      rw [hc, Nat.mul_one, List.getElem?_eq_getElem (by omega)] at h1
      rw [Option.bind_eq_some_iff] at h1
      obtain ⟨cs, h2, h3⟩ := h1
      obtain ⟨_, h4, h5⟩ := World.cells?_some h2
      obtain ⟨u, rfl⟩ : ∃ u, cs = [u] := by
        cases cs with
        | nil => simp at h4
        | cons u r => cases r with
          | nil => exact ⟨u, rfl⟩
          | cons _ _ => simp at h4
      obtain ⟨x, h6, h7⟩ := each _ _ _ h3 (hwd.2 _ (List.getElem_mem _))
      have h8 := h5 0 Nat.one_pos
      refine ⟨(u, x), ?_, h6, h7⟩
      simpa [Addr.add] using h8)
    have hll : (L.map Prod.snd).length = len := by rw [List.length_map]; exact hL
    have hspot : 0 < len → a.spot = none := fun h0 => by
      have := World.cell?_spot (hR 0 L[0] (List.getElem?_eq_getElem (by omega))).1
      simpa [Addr.add] using this
    refine ⟨_, L.map Prod.snd, rfl, ⟨some a, some (a.block, a.off), cap, L.map Prod.fst, by rw [hll], ⟨fun h0 => ?_⟩, ⟨by rw [hll]; exact hl, hm⟩, ⟨by rw [List.length_map, hll, Nat.mul_one]; exact hL, fun h0 => ⟨_, rfl, ?_, fun j u hu => ?_⟩⟩, fun _ _ _ => trivial, fun i x c hx hy => ?_⟩, fun c hx => ?_, ?_⟩
    · rw [hll] at h0
      have := hspot h0
      obtain ⟨g, o, s⟩ := a
      simp only at this
      subst this
      rfl
    · rw [hll] at h0
      have h1 := (hR 0 L[0] (List.getElem?_eq_getElem (by omega))).1
      unfold World.cell? at h1
      split at h1
      · rename_i e
        have := heap_lt e
        simpa [Addr.add] using this
      · cases h1
    · rw [hll] at h0
      rw [List.getElem?_map, Option.map_eq_some_iff] at hu
      obtain ⟨z, hz, rfl⟩ := hu
      have h1 := (hR j z hz).1
      have := hspot h0
      obtain ⟨g, o, s⟩ := a
      simp only at this
      subst this
      rw [add_mk] at h1
      exact h1
    · rw [List.getElem?_map, Option.map_eq_some_iff] at hx hy
      obtain ⟨z, hz, rfl⟩ := hx
      obtain ⟨z2, hz2, rfl⟩ := hy
      rw [hz] at hz2
      cases hz2
      exact (hR i z hz).2.1
    · obtain ⟨z, hz, rfl⟩ := List.mem_map.1 hx
      obtain ⟨i, hi⟩ := List.getElem?_of_mem hz
      exact (hR i z hi).2.2
    · rw [hll, ← hlen]
      have h1 := hwd.1
      have h2 : elems.length * b ≤ (elems.length + rest.length) * b := Nat.mul_le_mul_right _ (by omega)
      have h3 : reachBytes = 140737488351232 := rfl
      omega
end
section
variable {H : Type} {enc : TypeId × Value → H} {w : World} {base : Nat} {spare : Nat → Bool} {held : Bool}
theorem trod_str {n : Nat} {u : Value} {y : DataW H × List MemPlace} (h : DataW.trod enc Tryd.prog w base spare held n 9 [u] = some y) : ∃ s, Text w (fun _ => True) u s ∧ s.size ≤ maxLen := by
  obtain ⟨s, h1, _, h2⟩ := DataW.trod_string Tryd.underlying9 h
  exact ⟨s, (List.cons.inj h1).1, h2⟩
theorem trod_strs {n : Nat} {u : Value} {y : DataW H × List MemPlace} (h : DataW.trod enc Tryd.prog w base spare held n 45 [u] = some y) (hw : Light Tryd.prog 45 y.1) : ∃ e, NEA w (fun _ => True) u e ∧ e.length * 16 ≤ 140737488355328 := by
  obtain ⟨v, l, h1, h2, _, h3⟩ := trod_nesta (R := Text) (I := fun _ => True) Tryd.underlying45 (show Tryd.prog.cellsOf 9 = 1 by kernel_rfl) (show Tryd.prog.bytesOf 9 = 16 by kernel_rfl) (fun _ _ _ h _ => by obtain ⟨s, hs, _⟩ := trod_str h; exact ⟨s, hs, trivial⟩) h hw
  cases h1
  exact ⟨l, h2, Nat.le_trans h3 (by decide)⟩
theorem trod_seg {n : Nat} {u : Value} {y : DataW H × List MemPlace} (h : DataW.trod enc Tryd.prog w base spare held n 68 [u] = some y) (hw : Light Tryd.prog 68 y.1) : ∃ s, NSA w (fun _ => True) u s ∧ (∀ e ∈ s, e.length * 16 ≤ 140737488355328) ∧ s.length * 24 ≤ 140737488355328 := by
  obtain ⟨v, l, h1, h2, h4, h3⟩ := trod_nesta (R := NEA) (I := fun e => e.length * 16 ≤ 140737488355328) Tryd.underlying68 (show Tryd.prog.cellsOf 45 = 1 by kernel_rfl) (show Tryd.prog.bytesOf 45 = 24 by kernel_rfl) (fun _ _ _ h hw => trod_strs h hw) h hw
  cases h1
  exact ⟨l, h2, h4, (Nat.le_trans h3 (by decide))⟩
theorem open_segs {d : DataW H} (hw : Light Tryd.prog 28 d) {r : Reach} {b0 : Nat} {v : Value} {p : List MemPlace} (hval : Value.okWide Tryd.prog w r b0 28 v) (h : DataW.Trod enc Tryd.prog w base spare held 28 v d p) :
    ∃ l, NLA w (fun _ => True) v l ∧ FewL l := by
  obtain ⟨fuel, hf⟩ := h
  obtain ⟨a, len, cap, rfl⟩ := okWide_slice Tryd.underlying28 hval
  simp only [Value.cells] at hf
  obtain ⟨v, l, h1, h2, h4, h3⟩ := trod_nesta (R := NSA) (I := fun s => (∀ e ∈ s, e.length * 16 ≤ 140737488355328) ∧ s.length * 24 ≤ 140737488355328) Tryd.underlying28 (show Tryd.prog.cellsOf 68 = 1 by kernel_rfl) (show Tryd.prog.bytesOf 68 = 24 by kernel_rfl) (fun _ _ _ h hw => trod_seg h hw) hf hw
  cases h1
  exact ⟨l, h2, (Nat.le_trans h3 (by decide)), fun s hs => (h4 s hs).2, fun s hs => (h4 s hs).1⟩
end
end
section
set_option maxRecDepth 100000
open Go.ChangeShapes Go.WideShapes Go.ChangeAt Go.WideMaps Go.WideElems Go.RowKit Sat
section
variable {H : Type} {enc : TypeId × Value → H} {w : World} {base : Nat} {spare : Nat → Bool} {held : Bool}
theorem trod_dat2 {n : Nat} {u : Value} {y : DataW H × List MemPlace} (h : DataW.trod enc Tryd.prog w base spare held n 26 [u] = some y) (hw : Light Tryd.prog 26 y.1) : ∃ s, NSA w (fun _ => True) u s ∧ FewS s ∧ s.length * 24 ≤ 140737488351232 := by
  obtain ⟨v, l, h1, h2, h4, h3⟩ := trod_nesta (R := NEA) (I := fun e => e.length * 16 ≤ 140737488355328) Tryd.underlying26 (show Tryd.prog.cellsOf 45 = 1 by kernel_rfl) (show Tryd.prog.bytesOf 45 = 24 by kernel_rfl) (fun _ _ _ h hw => trod_strs h hw) h hw
  cases h1
  exact ⟨l, h2, ⟨Nat.le_trans h3 (by decide), h4⟩, h3⟩
theorem trod_dat {n : Nat} {u : Value} {y : DataW H × List MemPlace} (h : DataW.trod enc Tryd.prog w base spare held n 26 [u] = some y) (hw : Light Tryd.prog 26 y.1) : ∃ s, NSA w (fun _ => True) u s ∧ FewS s := by
  obtain ⟨s, h1, h2, -⟩ := trod_dat2 h hw
  exact ⟨s, h1, h2⟩
theorem open_dat {d : DataW H} (hw : Light Tryd.prog 26 d) {r : Reach} {b0 : Nat} {v : Value} {p : List MemPlace} (hval : Value.okWide Tryd.prog w r b0 26 v) (h : DataW.Trod enc Tryd.prog w base spare held 26 v d p) :
    ∃ l, NSA w (fun _ => True) v l ∧ FewS l := by
  obtain ⟨fuel, hf⟩ := h
  obtain ⟨a, len, cap, rfl⟩ := okWide_slice Tryd.underlying26 hval
  simp only [Value.cells] at hf
  exact trod_dat hf hw
end
end
section
set_option maxRecDepth 100000
open Go.ChangeShapes Go.WideShapes Go.ChangeAt Go.WideMaps Go.WideElems Go.RowKit Sat
theorem flatz_len {z : Nat} : ∀ (L : List (List Value)), (∀ c ∈ L, c.length = z) → L.flatten.length = L.length * z
  | [], _ => by simp
  | c :: L, h => by
    rw [List.flatten_cons, List.length_append, flatz_len L (fun c hc => h c (List.mem_cons_of_mem _ hc)), h c List.mem_cons_self, List.length_cons, Nat.succ_mul, Nat.add_comm]
theorem flatz_cut {z : Nat} : ∀ (L : List (List Value)) (i : Nat) (c : List Value), (∀ c ∈ L, c.length = z) → L[i]? = some c → cut1 L.flatten z i = c
  | [], i, c, _, h => by simp at h
  | x :: L, 0, c, hz, h => by
    cases h
    have hx := hz x List.mem_cons_self
    unfold cut1
    rw [Nat.zero_mul, List.drop_zero, List.flatten_cons, List.take_append_of_le_length (by omega), ← hx, List.take_length]
  | x :: L, i + 1, c, hz, h => by
    have hx := hz x List.mem_cons_self
    have ih := flatz_cut L i c (fun c hc => hz c (List.mem_cons_of_mem _ hc)) h
    unfold cut1 at ih ⊢
    rw [List.flatten_cons, List.drop_append, List.drop_eq_nil_of_le (by rw [hx, Nat.succ_mul]; omega), List.nil_append, hx, show (i + 1) * z - z = i * z by rw [Nat.succ_mul]; omega]
    exact ih
section
variable {H : Type} {enc : TypeId × Value → H} {P : Program} {w : World} {base : Nat} {spare : Nat → Bool} {held : Bool}
theorem trod_nestz {α : Type} {R : LiesC α} {I : α → Prop} {t e : TypeId} {z b : Nat} (hz : 0 < z) (ht : P.underlying t = some (.slice e)) (hc : P.cellsOf e = z) (hb : P.bytesOf e = b)
    (each : ∀ n cs y, cs.length = z → DataW.trod enc P w base spare held n e cs = some y → Light P e y.1 → ∃ a, R w (fun _ => True) cs a ∧ I a)
    {n : Nat} {cs : List Value} {y : DataW H × List MemPlace} (h : DataW.trod enc P w base spare held n t cs = some y) (hw : Light P t y.1) :
    ∃ v l, cs = [v] ∧ NestZ z R w (fun _ => True) v l ∧ (∀ a ∈ l, I a) ∧ l.length * b ≤ 140737488355328 := by
  rcases DataW.trod_slice ht h with ⟨rfl, rfl⟩ | ⟨a, len, cap, elems, rest, m, _, rfl, rfl, hba, hl, hm, hlen, hel, _, _⟩
  · exact ⟨_, [], rfl, ⟨none, none, 0, [], rfl, ⟨fun h => absurd h (by simp)⟩, ⟨Nat.le_refl _, Nat.zero_le _⟩, Ro.nil_ _ _ _, fun _ _ _ => trivial, fun i a h => (by cases h)⟩, by simp, by simp⟩
  · have hwd : (elems.length + rest.length) * b ≤ reachBytes ∧ ∀ z ∈ elems, Light P e z.1 := by
      unfold Light at hw
      dsimp only at hw
      unfold DataW.weights at hw
      rw [ht] at hw
      dsimp only at hw
      rw [List.length_map, List.length_map, hb] at hw
      refine ⟨hw _ List.mem_cons_self, fun z hz x hx => hw x (List.mem_cons_of_mem _ (List.mem_append_left _ (weights_all (List.mem_map_of_mem hz) x hx)))⟩
    obtain ⟨L, hL, hR⟩ := choose_list (α := List Value × α) (fun i x => x.1.length = z ∧ (∀ (k : Nat) (u : Value), x.1[k]? = some u → w.cell? ((a.add (i * z)).add k) = some u) ∧ R w (fun _ => True) x.1 x.2 ∧ I x.2) len (fun i hi => by
      have h1 := hel i hi
      rw [hc, List.getElem?_eq_getElem (by omega)] at h1
      rw [Option.bind_eq_some_iff] at h1
      obtain ⟨cs, h2, h3⟩ := h1
      obtain ⟨_, h4, h5⟩ := World.cells?_some h2
      have hcl : cs.length = z := by omega
      obtain ⟨x, h6, h7⟩ := each _ _ _ hcl h3 (hwd.2 _ (List.getElem_mem _))
      refine ⟨(cs, x), hcl, fun k u hu => ?_, h6, h7⟩
      have hk : k < z := by rw [← hcl]; exact (List.getElem?_eq_some_iff.1 hu).1
      have h8 := h5 k hk
      rw [h8]
      exact hu)
    have hll : (L.map Prod.snd).length = len := by rw [List.length_map]; exact hL
    have hcl : ∀ c ∈ L.map Prod.fst, c.length = z := fun c hc => by
      obtain ⟨x, hx, rfl⟩ := List.mem_map.1 hc
      obtain ⟨i, hi⟩ := List.getElem?_of_mem hx
      exact (hR i x hi).1
    have hfl : (L.map Prod.fst).flatten.length = len * z := by rw [flatz_len _ hcl, List.length_map, hL]
    have hcut : ∀ (i : Nat) (x : List Value × α), L[i]? = some x → cut1 (L.map Prod.fst).flatten z i = x.1 := fun i x hx => flatz_cut _ _ _ hcl (by rw [List.getElem?_map, hx]; rfl)
    have hcell0 : ∀ (j : Nat) (u : Value), (L.map Prod.fst).flatten[j]? = some u → w.cell? (a.add j) = some u := fun j u hu => by
      have hj : j < len * z := by rw [← hfl]; exact (List.getElem?_eq_some_iff.1 hu).1
      have hq : j / z < len := Nat.div_lt_of_lt_mul (by rw [Nat.mul_comm]; exact hj)
      have hr : j % z < z := Nat.mod_lt _ hz
      have hjj : j / z * z + j % z = j := by rw [Nat.mul_comm]; exact Nat.div_add_mod j z
      have hx := List.getElem?_eq_getElem (l := L) (i := j / z) (by omega)
      obtain ⟨h1, h2, -⟩ := hR _ _ hx
      have h3 := cut1_at (hcut _ _ hx) (show j % z < _ by rw [h1]; exact hr)
      rw [hjj, hu] at h3
      have h4 := h2 _ _ h3.symm
      rw [← h4]
      congr 1
      show a.add j = (a.add (j / z * z)).add (j % z)
      obtain ⟨g, o, s⟩ := a
      obtain ⟨q, hq0⟩ : ∃ q, q = j / z * z := ⟨_, rfl⟩
      obtain ⟨r, hr0⟩ : ∃ r, r = j % z := ⟨_, rfl⟩
      rw [← hq0, ← hr0] at hjj ⊢
      subst hjj
      clear hq0 hr0
      by_cases hq1 : q = 0 <;> by_cases hr1 : r = 0 <;> cases s <;> simp [Addr.add, Nat.add_assoc, hq1, hr1]
    have hspot : 0 < len → a.spot = none := fun h0 => by
      have h1 : 0 < (L.map Prod.fst).flatten.length := by rw [hfl]; exact Nat.mul_pos h0 hz
      have := World.cell?_spot (hcell0 0 _ (List.getElem?_eq_getElem h1))
      simpa [Addr.add] using this
    refine ⟨_, L.map Prod.snd, rfl, ⟨some a, some (a.block, a.off), cap, (L.map Prod.fst).flatten, by rw [hll], ⟨fun h0 => ?_⟩, ⟨by rw [hll]; exact hl, hm⟩, ⟨by rw [hll]; exact hfl, fun h0 => ⟨_, rfl, ?_, fun j u hu => ?_⟩⟩, fun _ _ _ => trivial, fun i x hx => ?_⟩, fun c hx => ?_, ?_⟩
    · rw [hll] at h0
      have := hspot h0
      obtain ⟨g, o, s⟩ := a
      simp only at this
      subst this
      rfl
    · rw [hll] at h0
      have h1 : 0 < (L.map Prod.fst).flatten.length := by rw [hfl]; exact Nat.mul_pos h0 hz
      have h1 := hcell0 0 _ (List.getElem?_eq_getElem h1)
      unfold World.cell? at h1
      split at h1
      · rename_i e
        have := heap_lt e
        simpa [Addr.add] using this
      · cases h1
    · rw [hll] at h0
      have h1 := hcell0 j u hu
      have := hspot h0
      obtain ⟨g, o, s⟩ := a
      simp only at this
      subst this
      rw [add_mk] at h1
      exact h1
    · rw [List.getElem?_map, Option.map_eq_some_iff] at hx
      obtain ⟨y, hy, rfl⟩ := hx
      rw [hcut i y hy]
      exact (hR i y hy).2.2.1
    · obtain ⟨y, hy, rfl⟩ := List.mem_map.1 hx
      obtain ⟨i, hi⟩ := List.getElem?_of_mem hy
      exact (hR i y hi).2.2.2
    · rw [hll, ← hlen]
      have h1 := hwd.1
      have h2 : elems.length * b ≤ (elems.length + rest.length) * b := Nat.mul_le_mul_right _ (by omega)
      have h3 : reachBytes = 140737488351232 := rfl
      omega
end
section
variable {H : Type} {enc : TypeId × Value → H} {w : World} {base : Nat} {spare : Nat → Bool} {held : Bool}
theorem trod_str1 {n : Nat} {cs : List Value} {y : DataW H × List MemPlace} (h : DataW.trod enc Tryd.prog w base spare held n 9 cs = some y) : ∃ s : ByteArray, cs = [.string s] ∧ s.size ≤ maxLen := by
  obtain ⟨s, h1, rfl, h2⟩ := DataW.trod_string Tryd.underlying9 h
  exact ⟨s, h1, h2⟩
theorem trod_struct3 {P : Program} {t : TypeId} {f0 f1 f2 : Field} {fuel : Nat} {cs : List Value} {x : DataW H × List MemPlace} (ht : P.underlying t = some (.struct #[f0, f1, f2])) (h : DataW.trod enc P w base spare held fuel t cs = some x) :
    ∃ y0 y1 y2 n, x = (.agg [y0.1, y1.1, y2.1], y0.2 ++ (y1.2 ++ y2.2)) ∧ cs.length = P.cellsOf t ∧ DataW.trod enc P w base spare held n f0.type ((cs.drop f0.offset).take (P.cellsOf f0.type)) = some y0 ∧
      DataW.trod enc P w base spare held n f1.type ((cs.drop f1.offset).take (P.cellsOf f1.type)) = some y1 ∧ DataW.trod enc P w base spare held n f2.type ((cs.drop f2.offset).take (P.cellsOf f2.type)) = some y2 := by
  obtain ⟨xs, n, _, rfl, hl, hlen, hf⟩ := DataW.trod_struct ht h
  match xs, hlen with
  | [y0, y1, y2], _ => exact ⟨y0, y1, y2, n, by simp, hl, by simpa using hf 0 f0 rfl, by simpa using hf 1 f1 rfl, by simpa using hf 2 f2 rfl⟩
theorem light_field {P : Program} {t ft : TypeId} {fs : Array Field} {ds : List (DataW H)} {d : DataW H} (j : Nat) (ht : P.underlying t = some (.struct fs)) (hw : Light P t (.agg ds)) (hf : (fs.toList.map (·.type))[j]? = some ft) (hd : ds[j]? = some d) : Light P ft d := fun x hx => by
  have h1 := DataW.weights_mem_each hf hd x hx
  refine hw x ?_
  unfold DataW.weights
  rw [ht]
  exact h1
theorem trod_sg {n : Nat} {cs : List Value} {y : DataW H × List MemPlace} (hl : cs.length = 2) (h : DataW.trod enc Tryd.prog w base spare held n 47 cs = some y) (hw : Light Tryd.prog 47 y.1) : ∃ s : Sg, SegR NSA w (fun _ => True) cs s ∧ (s.1.size ≤ maxLen ∧ FewS s.2 ∧ s.2.length * 24 ≤ 140737488351232) := by
  obtain ⟨y0, y1, m, rfl, -, h0, h1⟩ := trod_struct2 Tryd.underlying47 h
  match cs, hl with
  | [u0, u1], _ =>
    have l1 := light_field 1 Tryd.underlying47 hw rfl rfl
    obtain ⟨s, e0, hs⟩ := trod_str1 h0
    obtain ⟨d, hd, hf⟩ := trod_dat2 h1 l1
    have e0' : [u0] = [Value.string s] := e0
    cases e0'
    exact ⟨(s, d), ⟨_, rfl, hd⟩, hs, hf⟩
theorem trod_msg {n : Nat} {cs : List Value} {y : DataW H × List MemPlace} (hl : cs.length = 3) (h : DataW.trod enc Tryd.prog w base spare held n 50 cs = some y) (hw : Light Tryd.prog 50 y.1) : ∃ m : Msg, MsgR NSA w (fun _ => True) cs m ∧ (m.kind.size ≤ maxLen ∧ m.ref.size ≤ maxLen ∧ m.segs.length * 40 ≤ 140737488355328 ∧ ∀ s ∈ m.segs, s.1.size ≤ maxLen ∧ FewS s.2 ∧ s.2.length * 24 ≤ 140737488351232) := by
  obtain ⟨y0, y1, y2, k, rfl, -, h0, h1, h2⟩ := trod_struct3 Tryd.underlying50 h
  match cs, hl with
  | [u0, u1, u2], _ =>
    have l2 := light_field 2 Tryd.underlying50 hw rfl rfl
    obtain ⟨s, e0, hs⟩ := trod_str1 h0
    obtain ⟨t, e1, ht⟩ := trod_str1 h1
    have e0' : [u0] = [Value.string s] := e0
    have e1' : [u1] = [Value.string t] := e1
    cases e0'
    cases e1'
    obtain ⟨v, l, e2, hn, hI, hb⟩ := trod_nestz (z := 2) (R := SegR NSA) (I := fun s => s.1.size ≤ maxLen ∧ FewS s.2 ∧ s.2.length * 24 ≤ 140737488351232) (by omega) Tryd.underlying48 (show Tryd.prog.cellsOf 47 = 2 by kernel_rfl) (show Tryd.prog.bytesOf 47 = 40 by kernel_rfl) (fun _ _ _ hl h hw => trod_sg hl h hw) h2 l2
    have e2' : [u2] = [v] := e2
    cases e2'
    exact ⟨⟨s, t, l⟩, ⟨_, rfl, hn⟩, hs, ht, hb, hI⟩
/-- what is known of messages among a law's arguments -/
structure ArgM (l : List Msg) : Prop where
  top : l.length * 56 ≤ 140737488355328
  msg : ∀ m ∈ l, m.kind.size ≤ maxLen ∧ m.ref.size ≤ maxLen ∧ m.segs.length * 40 ≤ 140737488355328 ∧ ∀ s ∈ m.segs, s.1.size ≤ maxLen ∧ FewS s.2 ∧ s.2.length * 24 ≤ 140737488351232
theorem open_msgs {d : DataW H} (hw : Light Tryd.prog 24 d) {r : Reach} {b0 : Nat} {v : Value} {p : List MemPlace} (hval : Value.okWide Tryd.prog w r b0 24 v) (h : DataW.Trod enc Tryd.prog w base spare held 24 v d p) :
    ∃ l, NMsgs NSA w (fun _ => True) v l ∧ ArgM l := by
  obtain ⟨fuel, hf⟩ := h
  obtain ⟨a, len, cap, rfl⟩ := okWide_slice Tryd.underlying24 hval
  simp only [Value.cells] at hf
  obtain ⟨v, l, h1, h2, h4, h3⟩ := trod_nestz (z := 3) (R := MsgR NSA) (I := fun m => m.kind.size ≤ maxLen ∧ m.ref.size ≤ maxLen ∧ m.segs.length * 40 ≤ 140737488355328 ∧ ∀ s ∈ m.segs, s.1.size ≤ maxLen ∧ FewS s.2 ∧ s.2.length * 24 ≤ 140737488351232) (by omega) Tryd.underlying24 (show Tryd.prog.cellsOf 50 = 3 by kernel_rfl) (show Tryd.prog.bytesOf 50 = 56 by kernel_rfl) (fun _ _ _ hl h hw => trod_msg hl h hw) hf hw
  cases h1
  exact ⟨l, h2, h3, h4⟩
end
end
end Go.Proofs.YtdohcglpcgahaaaDoor
