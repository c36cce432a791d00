/-
  A slice among a law's arguments, opened as cells that can be read ('Ro'). No program in sight.
-/
import Derived.ProofKit
import Derived.LaidMore
import Derived.Test.YtdohcglpcgahaaaDoorSatB
set_option linter.unusedSimpArgs false
set_option linter.unusedVariables false
namespace Go.Proofs.YtdohcglpcgahaaaDoor
open Go.ChangeShapes Go.WideShapes Go.ChangeAt Go.WideMaps Go.WideElems Go.RowKit Sat
section
variable {H : Type} {enc : TypeId × Value → H} {P : Program} {w : World} {base : Nat} {spare : Nat → Bool} {held : Bool}
theorem okWide_slice_at {r : Reach} {b0 : Nat} {t e : TypeId} {v : Value} (ht : P.underlying t = some (.slice e)) (h : Value.okWide P w r b0 t v) : v = .slice none 0 0 ∨ ∃ a len cap, v = .slice (some a) len cap ∧ a.spot = none := by
  obtain ⟨a, len, cap, rfl⟩ := okWide_slice ht h
  unfold Value.okWide at h
  simp only [ht] at h
  unfold Cell.okWide at h
  simp only [ht] at h
  unfold Cell.ok at h
  simp only [ht] at h
  cases a with
  | none =>
    split at h <;> simp_all
  | some a => exact .inr ⟨a, len, cap, rfl, h.2.2.2.1⟩
theorem flat_get {α : Type} (f : α → List Value) (size : Nat) : ∀ (l : List α), (∀ x ∈ l, (f x).length = size) → ∀ (i j : Nat) (x : α), l[i]? = some x → j < size → (l.flatMap f)[i * size + j]? = (f x)[j]? := by
  intro l
  induction l with
  | nil => intro _ i j x hx; simp at hx
  | cons y l ih =>
    intro hl i j x hx hj
    have hy := hl y List.mem_cons_self
    rw [List.flatMap_cons]
    cases i with
    | zero =>
      simp at hx
      subst hx
      rw [Nat.zero_mul, Nat.zero_add, List.getElem?_append_left (by omega)]
    | succ i =>
      rw [List.getElem?_append_right (by rw [hy, Nat.succ_mul]; omega), hy, Nat.succ_mul, show i * size + size + j - size = i * size + j by omega]
      exact ih (fun z hz => hl z (List.mem_cons_of_mem _ hz)) i j x (by simpa using hx) hj
theorem flat_len {α : Type} (f : α → List Value) (size : Nat) : ∀ (l : List α), (∀ x ∈ l, (f x).length = size) → (l.flatMap f).length = l.length * size := by
  intro l
  induction l with
  | nil => intro _; simp
  | cons y l ih =>
    intro hl
    rw [List.flatMap_cons, List.length_append, hl y List.mem_cons_self, ih fun z hz => hl z (List.mem_cons_of_mem _ hz), List.length_cons, Nat.succ_mul]
    omega
theorem choose_list {α : Type} (R : Nat → α → Prop) : ∀ (n : Nat), (∀ i, i < n → ∃ x, R i x) → ∃ l : List α, l.length = n ∧ ∀ i x, l[i]? = some x → R i x := by
  intro n
  induction n with
  | zero => intro _; exact ⟨[], rfl, fun i x h => by simp at h⟩
  | succ n ih =>
    intro h
    obtain ⟨l, hl, hr⟩ := ih fun i hi => h i (by omega)
    obtain ⟨x, hx⟩ := h n (by omega)
    refine ⟨l ++ [x], by simp [hl], fun i y hy => ?_⟩
    rcases Nat.lt_trichotomy i n with h1 | rfl | h1
    · rw [List.getElem?_append_left (by omega)] at hy; exact hr i y hy
    · rw [List.getElem?_append_right (by omega), hl] at hy
      simp at hy
      subst hy
      exact hx
    · rw [List.getElem?_eq_none (by simp [hl]; omega)] at hy; cases hy
theorem open_rows {α : Type} (f : α → List Value) (I : α → Prop) {r : Reach} {b0 : Nat} {t e : TypeId} {size : Nat} {v : Value} {d : DataW H} {p : List MemPlace} (ht : P.underlying t = some (.slice e)) (hc : P.cellsOf e = size) (hpos : 0 < size)
    (each : ∀ n cs y, cs.length = size → DataW.trod enc P w base spare held n e cs = some y → ∃ x, cs = f x ∧ I x) (hval : Value.okWide P w r b0 t v) (h : DataW.Trod enc P w base spare held t v d p) :
    ∃ A cap, ∃ l : List α, v = .slice (adr A) l.length cap ∧ Ro w A l.length size (l.flatMap f) ∧ (∀ x ∈ l, I x) ∧ l.length ≤ maxLen := by
  obtain ⟨fuel, hf⟩ := h
  rcases okWide_slice_at ht hval with rfl | ⟨a, len, cap, rfl, hsp⟩
  · exact ⟨none, 0, [], rfl, Ro.nil_ _ _ _, by simp, by simp⟩
  · simp only [Value.cells] at hf
    rcases DataW.trod_slice ht hf with ⟨h0, _⟩ | ⟨a', len', cap', elems, rest, n, _, hcs, _, hb, hl, hm, hlen, hel, _, _⟩
    · simp at h0
    · simp at hcs
      obtain ⟨rfl, rfl, rfl⟩ := hcs
      obtain ⟨l, hll, hR⟩ := choose_list (α := α) (fun i x => w.cells? base (a.add (i * size)) size = some (f x) ∧ I x) len (fun i hi => by
        have := hel i hi
        rw [hc, List.getElem?_eq_getElem (by omega)] at this
        rw [Option.bind_eq_some_iff] at this
        obtain ⟨cs, h1, h2⟩ := this
        obtain ⟨x, rfl, hx⟩ := each _ _ _ (World.cells?_some h1).2.1 h2
        exact ⟨x, h1, hx⟩)
      have hfl : ∀ x ∈ l, (f x).length = size := by
        intro x hx
        obtain ⟨i, hi⟩ := List.getElem?_of_mem hx
        exact (World.cells?_some (hR i x hi).1).2.1
      refine ⟨some (a.block, a.off), cap, l, ?_, ⟨flat_len f size l hfl, fun hn => ⟨_, rfl, ?_, ?_⟩⟩, ?_, by omega⟩
      · rw [hll]
        obtain ⟨g, o, s⟩ := a
        simp only at hsp
        subst hsp
        rfl
      · have h0 := (hR 0 _ (List.getElem?_eq_getElem hn)).1
        have h1 := (World.cells?_some h0).2.2 0 hpos
        rw [List.getElem?_eq_getElem (by rw [hfl _ (List.getElem_mem _)]; exact hpos)] at h1
        simp [Addr.add] at h1
        unfold World.cell? at h1
        split at h1
        · rename_i e
          exact heap_lt e
        · cases h1
      · intro j u hu
        have hj : j < l.length * size := by rw [← flat_len f size l hfl]; exact (List.getElem?_eq_some_iff.1 hu).1
        have hi : j / size < l.length := (Nat.div_lt_iff_lt_mul hpos).2 hj
        have hx := List.getElem?_eq_getElem hi
        have e1 : j = j / size * size + j % size := by rw [Nat.mul_comm]; exact (Nat.div_add_mod j size).symm
        have hm' := Nat.mod_lt j hpos
        rw [e1, flat_get f size l hfl _ _ _ hx hm'] at hu
        have h0 := (World.cells?_some (hR _ _ hx).1).2.2 (j % size) hm'
        rw [hu] at h0
        obtain ⟨g, o, s⟩ := a
        simp only at hsp
        subst hsp
        rw [add_mk, add_mk, Nat.add_assoc, ← e1] at h0
        exact h0
      · intro x hx
        obtain ⟨i, hi⟩ := List.getElem?_of_mem hx
        exact (hR i x hi).2
/-- the cells of a flat struct -/
inductive Leaf where
  | str | bool | int (k : IntKind)
def LeafOk : Leaf → Value → Prop
  | .str, v => ∃ s : ByteArray, v = .string s ∧ s.size ≤ maxLen
  | .bool, v => ∃ b : Bool, v = .bool b
  | .int k, v => ∃ x : Int, v = .int k x ∧ (Lit.int k x).wf = true
def LeafTy (P : Program) (t : TypeId) : Leaf → Prop
  | .str => P.underlying t = some .string
  | .bool => P.underlying t = some .bool
  | .int k => P.underlying t = some (.int k)
theorem open_flat {fs : Array Field} {t : TypeId} {n : Nat} {cs : List Value} {y : DataW H × List MemPlace} (ht : P.underlying t = some (.struct fs)) (ks : List (TypeId × Leaf))
    (hfs : fs.toList.map (fun f => (f.type, f.offset)) = ks.zipIdx.map (fun k => (k.1.1, k.2))) (hty : ∀ k ∈ ks, LeafTy P k.1 k.2 ∧ P.cellsOf k.1 = 1) (hc : P.cellsOf t = ks.length) (h : DataW.trod enc P w base spare held n t cs = some y) :
    cs.length = ks.length ∧ ∀ (i : Nat) (k : TypeId × Leaf), ks[i]? = some k → ∃ v, cs[i]? = some v ∧ LeafOk k.2 v := by
  obtain ⟨xs, m, _, _, hlen, hxl, hf⟩ := DataW.trod_struct ht h
  rw [hc] at hlen
  refine ⟨hlen, fun i k hk => ?_⟩
  have hi : i < ks.length := (List.getElem?_eq_some_iff.1 hk).1
  have h1 : (fs.toList.map (fun f => (f.type, f.offset)))[i]? = some (k.1, i) := by
    rw [hfs, List.getElem?_map, List.getElem?_zipIdx, hk]; simp
  rw [List.getElem?_map, Option.map_eq_some_iff] at h1
  obtain ⟨f, h2, h3⟩ := h1
  simp only [Prod.mk.injEq] at h3
  have h4 := hf i f (by simpa using h2)
  obtain ⟨hk1, hk2⟩ := hty k (List.mem_of_getElem? hk)
  have hcs : i < cs.length := by omega
  have hx : i < xs.length := by
    have := (List.getElem?_eq_some_iff.1 h2).1
    rw [hxl]; simpa using this
  rw [h3.1, h3.2, hk2, List.getElem?_eq_getElem hx] at h4
  have e : (cs.drop i).take 1 = [cs[i]'hcs] := by
    rw [List.drop_eq_getElem_cons hcs]; rfl
  rw [e] at h4
  refine ⟨_, List.getElem?_eq_getElem hcs, ?_⟩
  obtain ⟨kt, kl⟩ := k
  cases kl with
  | str =>
    obtain ⟨s, h5, _, h6⟩ := DataW.trod_string hk1 h4
    exact ⟨s, (List.cons.inj h5).1, h6⟩
  | bool =>
    obtain ⟨b, h5, _⟩ := DataW.trod_bool hk1 h4
    exact ⟨b, (List.cons.inj h5).1⟩
  | int k =>
    obtain ⟨x, h5, _, h6⟩ := DataW.trod_int hk1 h4
    exact ⟨x, (List.cons.inj h5).1, h6⟩
theorem flat_one {α : Type} (f : α → Value) (l : List α) : (l.flatMap fun x => [f x]) = l.map f := by
  induction l with
  | nil => rfl
  | cons x l ih => rw [List.flatMap_cons, ih]; rfl
theorem open_ints_ro {r : Reach} {b0 : Nat} {t e : TypeId} {k : IntKind} {v : Value} {d : DataW H} {p : List MemPlace} (ht : P.underlying t = some (.slice e)) (he : P.underlying e = some (.int k)) (hc : P.cellsOf e = 1)
    (hval : Value.okWide P w r b0 t v) (h : DataW.Trod enc P w base spare held t v d p) :
    ∃ A cap, ∃ l : List Int, v = .slice (adr A) l.length cap ∧ Ro w A l.length 1 (l.map (Value.int k)) ∧ (∀ x ∈ l, (Lit.int k x).wf = true) ∧ l.length ≤ maxLen := by
  obtain ⟨A, cap, l, h1, h2, h3, h4⟩ := open_rows (fun x => [Value.int k x]) (fun x => (Lit.int k x).wf = true) ht hc (by omega) (fun n cs y _ hy => by
    obtain ⟨m, rfl, _, hw⟩ := DataW.trod_int he hy
    exact ⟨m, rfl, hw⟩) hval h
  rw [flat_one] at h2
  exact ⟨A, cap, l, h1, h2, h3, h4⟩
end
end Go.Proofs.YtdohcglpcgahaaaDoor
