/-
  Lists of lists in memory: what is known of their values. Nests that are returned: the top row by itself, what is beneath it as it is. Nests that come in as arguments: of an empty slice the address is whatever it is. A nest of one's own in which strings are written over.
-/
import Derived.Test.YtdohcglpcgahaaaGreatDoorSatB
set_option linter.unusedSimpArgs false
set_option linter.unusedVariables false
namespace Go.Proofs.YtdohcglpcgahaaaGreatDoor
section
open Go Sat Go.RowKit Go.PlainAid
/-- a value lies in memory, in blocks of B -/
abbrev Lies (α : Type) := World → (Nat → Prop) → Value → α → Prop
def Text : Lies ByteArray := fun _ _ v s => v = .string s
/-- a block of cells, none of them frozen -/
def Cells0 (w : World) (g : Nat) : Prop := ∃ cur ty, w.heap[g]? = some (.cells cur ty (0, 0))
theorem Cells0.lt {w : World} {g : Nat} (h : Cells0 w g) : g < w.heap.size := by
  obtain ⟨cur, ty, h⟩ := h
  exact heap_lt h
/-- a slice of such values -/
def Nest {α : Type} (R : Lies α) : Lies (List α) := fun w B v l =>
  ∃ (A : Option (Nat × Nat)) (cap : Nat) (xs : List Value), v = .slice (adr A) l.length cap ∧ (l.length ≤ cap ∧ cap ≤ maxLen) ∧ Ro w A l.length 1 xs ∧ (∀ p, A = some p → 0 < l.length → B p.1 ∧ Cells0 w p.1) ∧ ∀ (i : Nat) (x : Value) (a : α), xs[i]? = some x → l[i]? = some a → R w B x a
abbrev NE : Lies (List ByteArray) := Nest Text
abbrev NS : Lies (List (List ByteArray)) := Nest NE
abbrev NL : Lies (List (List (List ByteArray))) := Nest NS
/-- it stays where the blocks stay -/
def Stays {α : Type} (R : Lies α) : Prop := ∀ w w' B B' v a, R w B v a → (∀ g, B g → g < w.heap.size → w'.heap[g]? = w.heap[g]?) → (∀ g, B g → B' g) → R w' B' v a
theorem text_stays : Stays Text := fun _ _ _ _ _ _ h _ _ => h
theorem lt_of_same {w w' : World} {g : Nat} (hg : g < w.heap.size) (h : w'.heap[g]? = w.heap[g]?) : g < w'.heap.size := by
  rcases Nat.lt_or_ge g w'.heap.size with h1 | h1
  · exact h1
  · rw [Array.getElem?_eq_none h1, Array.getElem?_eq_getElem hg] at h
    cases h
theorem Sat.Ro.stays {w w' : World} {A : Option (Nat × Nat)} {n size : Nat} {xs : List Value} (h : Ro w A n size xs) (hb : ∀ p, A = some p → 0 < n → p.1 < w.heap.size → w'.heap[p.1]? = w.heap[p.1]?) : Ro w' A n size xs := by
  refine ⟨h.1, fun hn => ?_⟩
  obtain ⟨p, hp, hl, hc⟩ := h.2 hn
  refine ⟨p, hp, lt_of_same hl (hb p hp hn hl), fun j u hu => ?_⟩
  rw [← hc j u hu]
  exact World.cell?_of_block (hb p hp hn hl)
theorem nest_stays {α : Type} {R : Lies α} (hR : Stays R) : Stays (Nest R) := by
  rintro w w' B B' v l ⟨A, cap, xs, hv, hc, hro, hB, hx⟩ hb hBB
  exact ⟨A, cap, xs, hv, hc, hro.stays (fun p hp hn hl => hb p.1 (hB p hp hn).1 hl), fun p hp hn => ⟨hBB _ (hB p hp hn).1, by
    obtain ⟨h1, h2⟩ := hB p hp hn
    have h3 := hb p.1 h1 h2.lt
    obtain ⟨cur, ty, h2⟩ := h2
    exact ⟨cur, ty, h3.trans h2⟩⟩, fun i x a h1 h2 => hR _ _ _ _ _ _ (hx i x a h1 h2) hb hBB⟩
theorem ne_stays : Stays NE := nest_stays text_stays
theorem ns_stays : Stays NS := nest_stays ne_stays
theorem nl_stays : Stays NL := nest_stays ns_stays
theorem Sat.Ro.some_ {w : World} {A : Option (Nat × Nat)} {n size : Nat} {xs : List Value} (h : Ro w A n size xs) (hn : 0 < n) : ∃ p, A = some p ∧ p.1 < w.heap.size := by
  obtain ⟨p, hp, hl, _⟩ := h.2 hn
  exact ⟨p, hp, hl⟩
theorem ad_some (p : Nat × Nat) (k : Nat) : adAt (adr (some p)) k = ⟨p.1, p.2 + k, none⟩ := by
  unfold adAt adr
  simp only [Option.map_some, Option.getD_some, add_mk]
/-- a cell of what is lent is read -/
theorem ro_at {cx : Cx} {A : Option (Nat × Nat)} {n : Nat} {xs : List Value} {k : Nat} {i : Int} {x : Value} (hM : cx.M = []) (hn : cx.n0 = cx.W.heap.size) (h : Ro cx.W A n 1 xs) (hx : xs[k]? = some x) (hi : i = k) : ∀ {H : Heap} (w : World), Holds cx H w → w.cell? (adAt (adr A) (mulS i.toNat 1)) = some x := by
  intro H w hw
  have hk : k < xs.length := (List.getElem?_eq_some_iff.1 hx).1
  rw [h.1] at hk
  obtain ⟨p, rfl, hl, hc⟩ := h.2 (by omega)
  have h2 := hc k x hx
  rw [← h2, mulS_eq, hi, Int.toNat_natCast, Nat.mul_one]
  rw [ad_some]
  exact World.cell?_of_block (hw.keep.block p.1 (by omega) (by rw [hM]; simp))
theorem nest_at {α : Type} {R : Lies α} {w : World} {B : Nat → Prop} {xs : List Value} {l : List α} (hx : ∀ (i : Nat) (x : Value) (a : α), xs[i]? = some x → l[i]? = some a → R w B x a) (hl : xs.length = l.length * 1) {i : Nat} {a : α} (h : l[i]? = some a) : ∃ x, xs[i]? = some x ∧ R w B x a := by
  have hi : i < l.length := (List.getElem?_eq_some_iff.1 h).1
  exact ⟨xs[i]'(by omega), List.getElem?_eq_getElem _, hx i _ a (List.getElem?_eq_getElem _) h⟩
/-! what is owned, as it was in one world -/
def Frz (w0 : World) (gs : List Nat) : World → Prop := fun w => ∀ g, g ∈ gs → w.heap[g]? = w0.heap[g]?
theorem frz_of {cx : Cx} {H : Heap} {d : Nat} {w0 : World} {gs : List Nat} (hf : hfind H d = some (.own gs (Frz w0 gs))) {w : World} (hw : Holds cx H w) : ∀ g, g ∈ gs → w.heap[g]? = w0.heap[g]? := by
  have h : (HB.own gs (Frz w0 gs)).holds cx w := hw.at_ hf
  exact h.2.1
/-- a cell of what is owned is read -/
theorem frz_at {cx : Cx} {A : Option (Nat × Nat)} {n d : Nat} {w0 : World} {gs : List Nat} {xs : List Value} {k : Nat} {i : Int} {x : Value} (h : Ro w0 A n 1 xs) (hB : ∀ p, A = some p → 0 < n → p.1 ∈ gs ∧ Cells0 w0 p.1) (hx : xs[k]? = some x) (hi : i = k) {H : Heap} (hf : hfind H d = some (.own gs (Frz w0 gs))) : ∀ (w : World), Holds cx H w → w.cell? (adAt (adr A) (mulS i.toNat 1)) = some x := by
  intro w hw
  have hk : k < xs.length := (List.getElem?_eq_some_iff.1 hx).1
  rw [h.1] at hk
  obtain ⟨p, rfl, hl, hc⟩ := h.2 (by omega)
  have h2 := hc k x hx
  rw [← h2, mulS_eq, hi, Int.toNat_natCast, Nat.mul_one]
  rw [ad_some]
  exact World.cell?_of_block (frz_of hf hw p.1 (hB p rfl (by omega)).1)
/-- a nest in memory of one's own, at a callee's world -/
theorem frz_nest {α : Type} {R : Lies α} (hR : Stays R) {cx : Cx} {d : Nat} {w0 : World} {gs : List Nat} {v : Value} {l : α} (h : R w0 (fun g => g ∈ gs) v l) {H : Heap} (hf : hfind H d = some (.own gs (Frz w0 gs))) {w : World} (hw : Holds cx H w) : R w (fun _ => True) v l :=
  hR _ _ _ _ _ _ h (fun g hg _ => frz_of hf hw g hg) (fun _ _ => trivial)
theorem frz_nest' {α : Type} {R : Lies α} (hR : Stays R) {cx : Cx} {d : Nat} {w0 : World} {gs : List Nat} {v : Value} {l : α} (h : R w0 (fun g => g ∈ gs) v l) {H : Heap} (hf : hfind H d = some (.own gs (Frz w0 gs))) {w : World} (hw : Holds cx H w) {gs' : List Nat} (hs : ∀ g, g ∈ gs → g ∈ gs') : R w (fun g => g ∈ gs') v l :=
  hR _ _ _ _ _ _ h (fun g hg _ => frz_of hf hw g hg) hs
/-- a nest that is lent, at a callee's world -/
theorem lent_nest {α : Type} {R : Lies α} (hR : Stays R) {cx : Cx} (hM : cx.M = []) (hn : cx.n0 = cx.W.heap.size) {v : Value} {l : α} (h : R cx.W (fun _ => True) v l) {H : Heap} {w : World} (hw : Holds cx H w) : R w (fun _ => True) v l :=
  hR _ _ _ _ _ _ h (fun g _ hg => hw.keep.block g (by omega) (by rw [hM]; simp)) (fun _ _ => trivial)
theorem HB.ge_ {cx : Cx} (hM : cx.M = []) {w : World} {b : HB} (h : b.holds cx w) {g : Nat} (hg : g ∈ b.gs) : cx.n0 ≤ g := by
  cases b with
  | blk g' ty cs =>
    simp only [HB.gs, List.mem_singleton] at hg; subst hg
    rcases h.1 with h1 | h1
    · exact h1
    · rw [hM] at h1; cases h1
  | row A e size n cap xs =>
    simp only [HB.gs, Option.mem_toList, Option.map_eq_some_iff] at hg
    obtain ⟨p, rfl, rfl⟩ := hg
    have hr : w.ownsRow cx.n0 e size (.slice (adr (some p)) n cap) n xs := h
    exact (hr.lt p.1 rfl).1
  | ro A n size xs => simp [HB.gs] at hg
  | dfr D => simp only [HB.gs, List.mem_singleton] at hg; subst hg; exact h.1
  | lp g' N f ps asg body D st pend => simp only [HB.gs, List.mem_singleton] at hg; subst hg; exact h.1
  | own gs P => exact (h.1 g hg).1
def gsOf (H : Heap) : List Nat → List Nat
  | [] => []
  | i :: L => (match hfind H i with | some b => b.gs | none => []) ++ gsOf H L
theorem mem_gsOf {H : Heap} {g : Nat} : ∀ {L : List Nat}, g ∈ gsOf H L → ∃ i b, i ∈ L ∧ hfind H i = some b ∧ g ∈ b.gs := by
  intro L
  induction L with
  | nil => intro h; cases h
  | cons i L ih =>
    intro h
    unfold gsOf at h
    rcases List.mem_append.1 h with h | h
    · cases hf : hfind H i with
      | none => rw [hf] at h; cases h
      | some b => rw [hf] at h; exact ⟨i, b, List.mem_cons_self, hf, h⟩
    · obtain ⟨j, b, h1, h2, h3⟩ := ih h
      exact ⟨j, b, List.mem_cons_of_mem _ h1, h2, h3⟩
def delAll (L : List Nat) (H : Heap) : Heap := H.filter fun e => !(memN L e.1)
/-- entries are one from now on: all that they own, as it is -/
theorem sat_fuse {cx : Cx} {c : Code} {K : Exit → Env → Heap → Prop} {f : Env} {H : Heap} (d : Nat) (L : List Nat) (hM : cx.M = [])
    (h : ∀ w0, Holds cx H w0 → Sat cx c K f ((d, .own (gsOf H L) (Frz w0 (gsOf H L))) :: delAll (d :: L) H)) : Sat cx c K f H := by
  refine ⟨fun a w hfit hw => (h w hw).out a w hfit ?_⟩
  have hmem : ∀ e ∈ delAll (d :: L) H, e ∈ H ∧ e.1 ∉ d :: L := fun e he => by
    have := List.mem_filter.1 he
    refine ⟨this.1, fun hm => ?_⟩
    have h2 := this.2
    rw [memN_iff.2 hm] at h2
    cases h2
  refine ⟨hw.keep, hw.n0, fun e he => ?_, fun i b j b' hi hj hne g hg hg' => ?_⟩
  · rcases List.mem_cons.1 he with rfl | he
    · refine ⟨fun g hg => ?_, fun _ _ => rfl, fun w' hw' => hw'⟩
      obtain ⟨i, b, _, h2, h3⟩ := mem_gsOf hg
      exact ⟨HB.ge_ hM (hw.at_ h2) h3, HB.lt (hw.at_ h2) h3⟩
    · exact hw.ent e (hmem e he).1
  · rcases List.mem_cons.1 hi with hi | hi <;> rcases List.mem_cons.1 hj with hj | hj
    · cases hi; cases hj; exact hne rfl
    · cases hi
      obtain ⟨k, b2, h1, h2, h3⟩ := mem_gsOf hg
      have hm := hmem _ hj
      exact hw.sep k b2 j b' (hfind_mem h2) hm.1 (fun e => hm.2 (by rw [← e]; exact List.mem_cons_of_mem _ h1)) g h3 hg'
    · cases hj
      obtain ⟨k, b2, h1, h2, h3⟩ := mem_gsOf hg'
      have hm := hmem _ hi
      exact hw.sep i b k b2 hm.1 (hfind_mem h2) (fun e => hm.2 (by rw [e]; exact List.mem_cons_of_mem _ h1)) g hg h3
    · exact hw.sep i b j b' (hmem _ hi).1 (hmem _ hj).1 hne g hg hg'
/-- what a function returns in memory of its own -/
def Gives (mk : Value → Value) (Q : World → (Nat → Prop) → Value → Prop) (w : World) : Ending → World → Prop := fun e w' =>
  ∃ (v : Value) (gs : List Nat), e = .returned (mk v) ∧ (∀ g, g ∈ gs → w.heap.size ≤ g ∧ g < w'.heap.size) ∧ Q w' (fun g => g ∈ gs) v ∧ Below w.heap.size w w'
theorem called_nest {cx : Cx} {n : Nat} {args : List SV} {H : Heap} {K : SV → Heap → Prop} (d : Nat) {mk : Value → Value} {Q : World → (Nat → Prop) → Value → Prop} (r : Value → SV) (hr : ∀ v, (r v).real = mk v)
    (h : ∀ w, Holds cx H w → Calls cx.P n (args.map SV.real).toArray w (Gives mk Q w))
    (hk : ∀ (w0 : World) (gs : List Nat) (v : Value), Q w0 (fun g => g ∈ gs) v → K (r v) ((d, .own gs (Frz w0 gs)) :: hdel H d)) : Called cx n args H K := by
  refine ⟨fun w hw => (h w hw).mono fun e w' hp => ?_⟩
  obtain ⟨v, gs, he, hg, hq, hb⟩ := hp
  refine ⟨r v, _, by rw [hr]; exact he, ?_, hk w' gs v hq⟩
  have hn : cx.n0 ≤ w.heap.size := Nat.le_trans hw.n0 hw.keep.size
  refine (hw.below hb).turn d _ (Keep.refl _ _ _) ⟨fun g hg' => ⟨Nat.le_trans hn (hg g hg').1, (hg g hg').2⟩, fun _ _ => rfl, fun w2 hw2 => hw2⟩ fun x hx g hgx => ⟨rfl, fun hm => ?_⟩
  have hlt := HB.lt (hw.ent x (hdel_mem hx).1) hgx
  have := (hg g hm).1
  omega
theorem done_nest {cx : Cx} {v : Value} {sv : SV} {H : Heap} {mk : Value → Value} {Q : World → (Nat → Prop) → Value → Prop} (hQ : ∀ w w' B v, Q w B v → (∀ g, B g → g < w.heap.size → w'.heap[g]? = w.heap[g]?) → Q w' B v)
    (hn : cx.n0 = cx.W.heap.size) (hM : cx.M = []) (d : Nat) {w0 : World} {gs : List Nat} (hf : hfind H d = some (.own gs (Frz w0 gs))) (hq : Q w0 (fun g => g ∈ gs) v) (hv : sv.real = mk v) :
    Done cx (Gives mk Q cx.W) sv H :=
  ⟨fun w hw => by
    have ho : (HB.own gs (Frz w0 gs)).holds cx w := hw.at_ hf
    exact ⟨v, gs, by rw [hv], fun g hg => ⟨by rw [← hn]; exact (ho.1 g hg).1, (ho.1 g hg).2⟩, hQ _ _ _ _ hq (fun g hg _ => ho.2.1 g hg), below_of hn hM hw⟩⟩
/-- values that have been made so far, in blocks of one's own -/
structure Got {α : Type} (R : Lies α) (w : World) (gs : List Nat) (xs : List Value) (l : List α) : Prop where
  at_ : ∀ (i : Nat) (x : Value) (a : α), xs[i]? = some x → l[i]? = some a → R w (fun g => g ∈ gs) x a
theorem Got.nil {α : Type} {R : Lies α} {w : World} {gs : List Nat} {l : List α} : Got R w gs [] l := ⟨fun i x a h => by cases h⟩
theorem Got.snoc {α : Type} {R : Lies α} {w : World} {gs : List Nat} {xs : List Value} {l : List α} {x : Value} {a : α} (h : Got R w gs xs l) (ha : l[xs.length]? = some a) (hx : R w (fun g => g ∈ gs) x a) : Got R w gs (xs ++ [x]) l := by
  refine ⟨fun i y b hy hb => ?_⟩
  rcases Nat.lt_or_ge i xs.length with h1 | h1
  · rw [List.getElem?_append_left h1] at hy
    exact h.at_ i y b hy hb
  · rw [List.getElem?_append_right h1] at hy
    have h2 : i - xs.length = 0 := by
      rcases Nat.eq_zero_or_pos (i - xs.length) with h3 | h3
      · exact h3
      · rw [List.getElem?_eq_none (by simp; omega)] at hy; cases hy
    rw [h2] at hy
    cases hy
    have h3 : i = xs.length := by omega
    rw [h3, ha] at hb
    cases hb
    exact hx
theorem Got.mono {α : Type} {R : Lies α} (hR : Stays R) {cx : Cx} {d : Nat} {w0 w : World} {gs gs' : List Nat} {xs : List Value} {l : List α} (h : Got R w0 gs xs l) {H : Heap} (hf : hfind H d = some (.own gs (Frz w0 gs))) (hw : Holds cx H w) (hs : ∀ g, g ∈ gs → g ∈ gs') : Got R w gs' xs l :=
  ⟨fun i x a hx ha => frz_nest' hR (h.at_ i x a hx ha) hf hw hs⟩
theorem row_caps {cx : Cx} {H : Heap} {w : World} (hw : Holds cx H w) {id : Nat} {A : Option (Nat × Nat)} {e size n cap : Nat} {xs : List Value} (h : hfind H id = some (.row A e size n cap xs)) : n ≤ cap ∧ cap ≤ maxLen := by
  have hr : w.ownsRow cx.n0 e size (.slice (adr A) n cap) n xs := hw.at_ h
  rcases hr.2 with ⟨hv, hn⟩ | ⟨g, cap', cur, hv, _, _, h1, h2, _⟩
  · injection hv with _ _ hc
    exact ⟨by omega, by rw [hc]; exact Nat.zero_le _⟩
  · injection hv with _ _ hc
    subst hc
    exact ⟨h1, h2⟩
theorem own_cells0 {w : World} {B T sz n cap : Nat} {A : Option (Nat × Nat)} {xs : List Value} (hr : w.ownsRow B T sz (.slice (adr A) n cap) n xs) (hn : 0 < n) : ∀ p, A = some p → Cells0 w p.1 := by
  rintro p rfl
  rcases hr.2 with ⟨hv, h0⟩ | ⟨g, cap', cur, hv, _, h1, _⟩
  · omega
  · simp only [adr, Option.map_some, Value.slice.injEq, Option.some.injEq, Addr.mk.injEq] at hv
    rw [← hv.1.1] at h1
    exact ⟨cur, T, h1⟩
/-- a row of one's own, with what its values are, is a nest -/
theorem nest_row {α : Type} {R : Lies α} {cx : Cx} {H : Heap} {w : World} (hw : Holds cx H w) {id : Nat} {A : Option (Nat × Nat)} {e cap : Nat} {xs : List Value} {l : List α} (h : hfind H id = some (.row A e 1 l.length cap xs)) {gs : List Nat} (hg : Got R w gs xs l) (hA : ∀ g, g ∈ (A.map Prod.fst).toList → g ∈ gs) : Nest R w (fun g => g ∈ gs) (.slice (adr A) l.length cap) l :=
  ⟨A, cap, xs, rfl, row_caps hw h, ro_of_row hw h, fun p hp hn => ⟨hA p.1 (by rw [hp]; simp), own_cells0 (hw.at_ h) hn p hp⟩, hg.at_⟩
theorem got_strs {w : World} {gs : List Nat} (e : List ByteArray) : Got Text w gs (e.map Value.string) e := ⟨fun i x a hx ha => by
  rw [List.getElem?_map, ha] at hx
  cases hx
  rfl⟩
theorem gs_sub {H : Heap} {i : Nat} {b : HB} {g : Nat} : ∀ {L : List Nat}, memN L i = true → hfind H i = some b → g ∈ b.gs → g ∈ gsOf H L := by
  intro L
  induction L with
  | nil => intro h _ _; cases h
  | cons j L ih =>
    intro hi hf hg
    unfold gsOf
    rcases List.mem_cons.1 (memN_iff.1 hi) with rfl | h
    · rw [hf]
      exact List.mem_append_left _ hg
    · exact List.mem_append_right _ (ih (memN_iff.2 h) hf hg)
/-- cells that are appended come from a slice that is lent -/
theorem raw_ro {cx : Cx} {H : Heap} {A : Option (Nat × Nat)} {n c : Nat} {xs : List Value} {K : Nat → List Value → Prop} (hM : cx.M = []) (hn : cx.n0 = cx.W.heap.size) (h : Ro cx.W A n 1 xs) (k : K n xs) : RawSrc cx H 1 (adr A) n c K := by
  rcases Nat.eq_zero_or_pos n with h0 | h0
  · subst h0
    have hx : xs = [] := List.eq_nil_of_length_eq_zero (by rw [h.1])
    subst hx
    refine ⟨.inr ⟨[], k, rfl, fun w hw => ?_⟩⟩
    cases A with
    | none => exact .inr ⟨rfl, rfl, rfl⟩
    | some p => exact .inl ⟨_, rfl, fun j u hu => by cases hu⟩
  · obtain ⟨p, rfl, hl, hc⟩ := h.2 h0
    refine ⟨.inr ⟨xs, k, h.1, fun w hw => .inl ⟨_, rfl, fun j u hu => ?_⟩⟩⟩
    rw [add_mk, ← hc j u hu]
    exact World.cell?_of_block (hw.keep.block p.1 (by omega) (by rw [hM]; simp))
/-- bounds for what is made anew -/
structure FewL (l : List (List (List ByteArray))) : Prop where
  top : l.length * 24 ≤ 140737488355328
  seg : ∀ s ∈ l, s.length * 24 ≤ 140737488355328
  el : ∀ s ∈ l, ∀ e ∈ s, e.length * 16 ≤ 140737488355328
theorem strs_all (e : List ByteArray) : allV (e.map Value.string) = true := allV_of fun u hu => by
  obtain ⟨a, _, rfl⟩ := List.mem_map.1 hu
  rfl
theorem Got.fuse {α : Type} {R : Lies α} (hR : Stays R) {cx : Cx} {H : Heap} {w w0 : World} (L : List Nat) (d : Nat) {gs : List Nat} {xs : List Value} {l : List α} (h : Got R w0 gs xs l) (hw : Holds cx H w) (hf : hfind H d = some (.own gs (Frz w0 gs))) (hi : memN L d = true) : Got R w (gsOf H L) xs l :=
  h.mono hR hf hw fun _ hg => gs_sub hi hf hg
theorem nest_fuse {α : Type} {R : Lies α} {cx : Cx} {H : Heap} {w : World} (L : List Nat) (id : Nat) {A : Option (Nat × Nat)} {e cap : Nat} {xs : List Value} {l : List α} (hw : Holds cx H w) (h : hfind H id = some (.row A e 1 l.length cap xs)) (hi : memN L id = true) (hg : Got R w (gsOf H L) xs l) : Nest R w (fun g => g ∈ gsOf H L) (.slice (adr A) l.length cap) l :=
  nest_row hw h hg fun _ hm => gs_sub hi h hm
theorem frz_fuse {α : Type} {R : Lies α} (hR : Stays R) {cx : Cx} {H : Heap} {w w0 : World} (L : List Nat) (d : Nat) {gs : List Nat} {v : Value} {l : α} (h : R w0 (fun g => g ∈ gs) v l) (hw : Holds cx H w) (hf : hfind H d = some (.own gs (Frz w0 gs))) (hi : memN L d = true) : R w (fun g => g ∈ gsOf H L) v l :=
  frz_nest' hR h hf hw fun _ hg => gs_sub hi hf hg
/-- a callee's end, the heap laid anew -/
theorem done_inL {cx : Cx} {N : Nat} {K : SV → Heap → Prop} {v : SV} {H : Heap} (H2 : Heap) (hh : (H2.map fun e => hfind H e.1) = (H2.map fun e => some e.2)) (h : K v H2) : Done (cx.with_ N none) (InK cx K) v H := ⟨fun _ hw => ⟨v, H2, rfl, hw.back_.sub (hsub_of hh), h⟩⟩
theorem done_inW {cx : Cx} {N : Nat} {K : SV → Heap → Prop} {v : SV} {H : Heap} (H2 : Heap) (hh : ∀ w, Holds (cx.with_ N none) H w → Holds (cx.with_ N none) H2 w) (h : K v H2) : Done (cx.with_ N none) (InK cx K) v H := ⟨fun w hw => ⟨v, H2, rfl, (hh w hw).back_, h⟩⟩
/-- a row of one's own is cut shorter -/
theorem Sat.Holds.cut_ {cx : Cx} {H : Heap} {w : World} (hw : Holds cx H w) {id : Nat} {A : Option (Nat × Nat)} {e sz n cap : Nat} {xs : List Value} (hf : hfind H id = some (.row A e sz n cap xs)) (k : Nat) (hk : k ≤ n) : Holds cx ((id, .row A e sz k cap (xs.take (k * sz))) :: hdel H id) w := by
  have hr : w.ownsRow cx.n0 e sz (.slice (adr A) n cap) n xs := hw.at_ hf
  have hr2 : w.ownsRow cx.n0 e sz (.slice (adr A) k cap) k (xs.take (k * sz)) := by
    have hle : k * sz ≤ n * sz := Nat.mul_le_mul_right _ hk
    refine ⟨by rw [List.length_take, hr.1]; omega, ?_⟩
    rcases hr.2 with ⟨hv, hn⟩ | ⟨g, cap', cur, hv, h1, h2, h3, h4, h5, h6⟩
    · injection hv with ha hb hc
      exact .inl ⟨by rw [ha, hc]; congr 1; omega, by omega⟩
    · injection hv with ha hb hc
      subst hc
      refine .inr ⟨g, cap, cur, by rw [ha], h1, h2, by omega, h4, h5, ?_⟩
      rw [← h6, List.take_take]
      congr 1
      omega
  refine hw.turn id _ (Keep.refl _ _ _) hr2 fun x hx g hg => ⟨rfl, fun hm => ?_⟩
  obtain ⟨hx1, hx2⟩ := hdel_mem hx
  exact hw.sep _ _ _ _ hx1 (hfind_mem hf) hx2 g hg hm
theorem last_at {xs : List Value} {x : Value} {n : Nat} {i : Int} (h : xs.length = n) (hi : i = n) : (xs ++ [x])[mulS i.toNat 1]? = some x := by
  rw [mulS_eq, hi, Int.toNat_natCast, Nat.mul_one, ← h, List.getElem?_append_right (Nat.le_refl _), Nat.sub_self]
  rfl
theorem set_last {xs : List Value} {x y : Value} {n : Nat} {i : Int} (h : xs.length = n) (hi : i = n) : (xs ++ [x]).set (mulS i.toNat 1) y = xs ++ [y] := by
  rw [mulS_eq, hi, Int.toNat_natCast, Nat.mul_one, ← h, List.set_append_right _ _ (Nat.le_refl _), Nat.sub_self]
  rfl
theorem lt_last {xs : List Value} {x : Value} {n : Nat} {i : Int} (h : xs.length = n) (hi : i = n) : mulS i.toNat 1 < (xs ++ [x]).length := by
  rw [mulS_eq, hi, Int.toNat_natCast, Nat.mul_one, List.length_append, h]
  simp
theorem Sat.Holds.fuse_ {cx : Cx} {H : Heap} {w : World} (hw : Holds cx H w) (d : Nat) (L : List Nat) (hM : cx.M = []) : Holds cx ((d, .own (gsOf H L) (Frz w (gsOf H L))) :: delAll (d :: L) H) w := by
  have hmem : ∀ e ∈ delAll (d :: L) H, e ∈ H ∧ e.1 ∉ d :: L := fun e he => by
    have := List.mem_filter.1 he
    refine ⟨this.1, fun hm => ?_⟩
    have h2 := this.2
    rw [memN_iff.2 hm] at h2
    cases h2
  refine ⟨hw.keep, hw.n0, fun e he => ?_, fun i b j b' hi hj hne g hg hg' => ?_⟩
  · rcases List.mem_cons.1 he with rfl | he
    · refine ⟨fun g hg => ?_, fun _ _ => rfl, fun w' hw' => hw'⟩
      obtain ⟨i, b, _, h2, h3⟩ := mem_gsOf hg
      exact ⟨HB.ge_ hM (hw.at_ h2) h3, HB.lt (hw.at_ h2) h3⟩
    · exact hw.ent e (hmem e he).1
  · rcases List.mem_cons.1 hi with hi | hi <;> rcases List.mem_cons.1 hj with hj | hj
    · cases hi; cases hj; exact hne rfl
    · cases hi
      obtain ⟨k, b2, h1, h2, h3⟩ := mem_gsOf hg
      have hm := hmem _ hj
      exact hw.sep k b2 j b' (hfind_mem h2) hm.1 (fun e => hm.2 (by rw [← e]; exact List.mem_cons_of_mem _ h1)) g h3 hg'
    · cases hj
      obtain ⟨k, b2, h1, h2, h3⟩ := mem_gsOf hg'
      have hm := hmem _ hi
      exact hw.sep i b k b2 hm.1 (hfind_mem h2) (fun e => hm.2 (by rw [e]; exact List.mem_cons_of_mem _ h1)) g hg h3
    · exact hw.sep i b j b' (hmem _ hi).1 (hmem _ hj).1 hne g hg hg'
theorem done_inX {cx : Cx} {N : Nat} {K : SV → Heap → Prop} {v : SV} {H : Heap} (h : ∀ w, Holds (cx.with_ N none) H w → ∃ H2, Holds (cx.with_ N none) H2 w ∧ K v H2) : Done (cx.with_ N none) (InK cx K) v H := ⟨fun w hw => by
  obtain ⟨H2, h1, h2⟩ := h w hw
  exact ⟨v, H2, rfl, h1.back_, h2⟩⟩
theorem called_lay {cx : Cx} {n : Nat} {args : List SV} {H : Heap} {K : SV → Heap → Prop} (args2 : List SV) (H2 : Heap) (ha : args.map SV.real = args2.map SV.real) (hh : ∀ w, Holds cx H w → Holds cx H2 w) (h : Called cx n args2 H2 K) : Called cx n args H K :=
  ⟨fun w hw => by rw [ha]; exact h.out w (hh w hw)⟩
theorem Got.ext {α : Type} {R : Lies α} {w : World} {gs : List Nat} {xs : List Value} {l : List α} (h : Got R w gs xs l) (hl : xs.length = l.length) {x : Value} {a : α} (hx : R w (fun g => g ∈ gs) x a) : Got R w gs (xs ++ [x]) (l ++ [a]) := by
  have h2 : Got R w gs xs (l ++ [a]) := ⟨fun i y b hy hb => by
    have hi : i < xs.length := (List.getElem?_eq_some_iff.1 hy).1
    rw [List.getElem?_append_left (by omega)] at hb
    exact h.at_ i y b hy hb⟩
  exact h2.snoc (by rw [hl]; simp) hx
theorem nest_fuseN {α : Type} {R : Lies α} {cx : Cx} {H : Heap} {w : World} (L : List Nat) (id : Nat) {A : Option (Nat × Nat)} {e cap n : Nat} {xs : List Value} {l : List α} (hn : n = l.length) (hw : Holds cx H w) (h : hfind H id = some (.row A e 1 n cap xs)) (hi : memN L id = true) (hg : Got R w (gsOf H L) xs l) : Nest R w (fun g => g ∈ gsOf H L) (.slice (adr A) n cap) l := by
  subst hn
  exact nest_fuse L id hw h hi hg
/-- a cell of a row of one's own is read by its address -/
theorem row_at {cx : Cx} {p : Nat × Nat} {d n e cap : Nat} {xs : List Value} {i : Int} {x : Value} (hx : xs[mulS i.toNat 1]? = some x) {H : Heap} (hf : hfind H d = some (.row (some p) e 1 n cap xs)) : ∀ (w : World), Holds cx H w → w.cell? (adAt (adr (some p)) (mulS i.toNat 1)) = some x := by
  intro w hw
  rw [ad_some, Nat.add_comm]
  exact row_cell (A := some p) (hw.at_ hf) hx
theorem called_fact {cx : Cx} {n : Nat} {args : List SV} {H : Heap} {K : SV → Heap → Prop} (id : Nat) {A : Option (Nat × Nat)} {e sz m cap : Nat} {xs : List Value} (hf : hfind H id = some (.row A e sz m cap xs))
    (h : m ≤ cap → (0 < m → ∃ p, A = some p) → Called cx n args H K) : Called cx n args H K := by
  refine ⟨fun w hw => ?_⟩
  have hr : w.ownsRow cx.n0 e sz (.slice (adr A) m cap) m xs := hw.at_ hf
  refine (h (row_caps hw hf).1 ?_).out w hw
  intro h0
  rcases hr.2 with ⟨hv, hn⟩ | ⟨g, cap', cur, hv, _⟩
  · omega
  · cases A with
    | none => cases hv
    | some p => exact ⟨p, rfl⟩
theorem Sat.Holds.own_ {cx : Cx} {H : Heap} {w : World} (hw : Holds cx H w) (id : Nat) {g e n : Nat} (size : Nat) {cs : List SV} (hf : hfind H id = some (.blk g e cs)) (hM : cx.M = []) (hc : cs.length = n * size) (hm : n ≤ maxLen) : Holds cx ((id, .row (some (g, 0)) e size n n (cs.map SV.r1)) :: hdel H id) w := by
  have hb : (HB.blk g e cs).holds cx w := hw.at_ hf
  have hg : cx.n0 ≤ g := by
    rcases hb.1 with h1 | h1
    · exact h1
    · rw [hM] at h1; cases h1
  refine hw.turn id _ (Keep.refl _ _ _) ⟨by rw [List.length_map]; exact hc, .inr ⟨g, n, _, rfl, hg, hb.2, Nat.le_refl _, hm, by simp [hc], by rw [← hc]; simp [List.take_of_length_le]⟩⟩ fun x hx g' hg' => ⟨rfl, ?_⟩
  simp only [HB.gs, Option.map_some, Option.toList_some, List.mem_singleton]
  rintro rfl
  exact hw.sep _ _ _ _ (hdel_mem hx).1 (hfind_mem hf) (hdel_mem hx).2 _ hg' (List.mem_singleton_self _)
theorem done_fuse {cx : Cx} {v : Value} {sv : SV} {H : Heap} {mk : Value → Value} {Q : World → (Nat → Prop) → Value → Prop} (hn : cx.n0 = cx.W.heap.size) (hM : cx.M = []) (L : List Nat) (h : ∀ w, Holds cx H w → Q w (fun g => g ∈ gsOf H L) v) (hv : sv.real = mk v) :
    Done cx (Gives mk Q cx.W) sv H :=
  ⟨fun w hw => ⟨v, gsOf H L, by rw [hv], fun g hg => (by
    obtain ⟨i, b, _, h2, h3⟩ := mem_gsOf hg
    exact ⟨by rw [← hn]; exact HB.ge_ hM (hw.at_ h2) h3, HB.lt (hw.at_ h2) h3⟩), h w hw, below_of hn hM hw⟩⟩
theorem nest_nil {α : Type} {R : Lies α} {w : World} {B : Nat → Prop} : Nest R w B (.slice none 0 0) [] := ⟨none, 0, [], rfl, ⟨Nat.le_refl _, Nat.zero_le _⟩, Ro.nil_ w none 1, fun p hp => (by cases hp), fun i x a h => (by cases h)⟩
end
section
open Go Sat Go.RowKit Go.PlainAid
theorem ro_of_owns {w : World} {B T n cap : Nat} {A : Option (Nat × Nat)} {xs : List Value} (hr : w.ownsRow B T 1 (.slice (adr A) n cap) n xs) : Ro w A n 1 xs := by
  refine ⟨hr.1, fun hn => ?_⟩
  cases A with
  | none =>
    rcases hr.2 with ⟨hv, h0⟩ | ⟨g, cap', cur, hv, _⟩
    · omega
    · cases hv
  | some p =>
    refine ⟨p, rfl, (hr.lt p.1 rfl).2, fun j u hu => ?_⟩
    have := row_cell hr hu
    rw [Option.getD_some, Nat.add_comm] at this
    exact this
/-- what a function returns: a row of its own, and what its values are -/
def GivesR {α : Type} (T : Nat) (mk : Value → Value) (R : Lies α) (l : List α) (w : World) : Ending → World → Prop := fun e w' =>
  ∃ (A : Option (Nat × Nat)) (cap : Nat) (xs : List Value) (gs : List Nat), e = .returned (mk (.slice (adr A) l.length cap)) ∧ w'.ownsRow w.heap.size T 1 (.slice (adr A) l.length cap) l.length xs ∧ (∀ g, g ∈ gs → w.heap.size ≤ g ∧ g < w'.heap.size) ∧ (∀ p, A = some p → p.1 ∉ gs) ∧ Got R w' gs xs l ∧ Below w.heap.size w w'
theorem row_gs {A : Option (Nat × Nat)} {T n cap : Nat} {xs : List Value} {g : Nat} (h : g ∈ (HB.row A T 1 n cap xs).gs) : ∃ p, A = some p ∧ p.1 = g := by
  simp only [HB.gs, Option.mem_toList, Option.map_eq_some_iff] at h
  exact h
theorem called_nestR {cx : Cx} {n : Nat} {args : List SV} {H : Heap} {K : SV → Heap → Prop} (d1 d2 : Nat) {α : Type} {T : Nat} {mk : Value → Value} {R : Lies α} {l : List α} (r : Option (Nat × Nat) → Nat → SV) (hr : ∀ A cap, (r A cap).real = mk (.slice (adr A) l.length cap))
    (h : ∀ w, Holds cx H w → Calls cx.P n (args.map SV.real).toArray w (GivesR T mk R l w))
    (hk : ∀ (w0 : World) (A : Option (Nat × Nat)) (cap : Nat) (xs : List Value) (gs : List Nat), xs.length = l.length → Got R w0 gs xs l → K (r A cap) ((d1, .row A T 1 l.length cap xs) :: hdel ((d2, .own gs (Frz w0 gs)) :: hdel H d2) d1)) : Called cx n args H K := by
  refine ⟨fun w hw => (h w hw).mono fun e w' hp => ?_⟩
  obtain ⟨A, cap, xs, gs, he, hrow, hgs, hA, hgot, hb⟩ := hp
  have hn : cx.n0 ≤ w.heap.size := Nat.le_trans hw.n0 hw.keep.size
  have h1 := (hw.below hb).turn d2 (.own gs (Frz w' gs)) (Keep.refl _ _ _) ⟨fun g hg => ⟨Nat.le_trans hn (hgs g hg).1, (hgs g hg).2⟩, fun _ _ => rfl, fun w2 hw2 => hw2⟩ fun x hx g hgx => ⟨rfl, fun hm => by
    have := HB.lt (hw.ent x (hdel_mem hx).1) hgx
    have := (hgs g hm).1
    omega⟩
  refine ⟨r A cap, _, by rw [hr]; exact he, h1.turn d1 (.row A T 1 l.length cap xs) (Keep.refl _ _ _) (ownsRow_base hrow hn) fun x hx g hgx => ⟨rfl, fun hm => ?_⟩, hk w' A cap xs gs (by rw [hrow.1, Nat.mul_one]) hgot⟩
  obtain ⟨p, rfl, rfl⟩ := row_gs hm
  obtain ⟨hx1, hx2⟩ := hdel_mem hx
  rcases List.mem_cons.1 hx1 with rfl | hx1
  · exact hA p rfl hgx
  · have h2 := HB.lt (hw.ent x (hdel_mem hx1).1) hgx
    have h3 := (hrow.lt p.1 rfl).1
    omega
theorem done_nestR {cx : Cx} {α : Type} {T : Nat} {mk : Value → Value} {R : Lies α} (hR : Stays R) {l : List α} {sv : SV} {H : Heap} (hn : cx.n0 = cx.W.heap.size) (hM : cx.M = []) (d1 d2 : Nat) (hd : d1 ≠ d2) {w0 : World} {A : Option (Nat × Nat)} {n cap : Nat} {xs : List Value} {gs : List Nat}
    (hf1 : hfind H d1 = some (.row A T 1 n cap xs)) (hf2 : hfind H d2 = some (.own gs (Frz w0 gs))) (hl : n = l.length) (hg : Got R w0 gs xs l) (hv : sv.real = mk (.slice (adr A) n cap)) :
    Done cx (GivesR T mk R l cx.W) sv H := by
  subst hl
  refine ⟨fun w hw => ?_⟩
  have ho : (HB.own gs (Frz w0 gs)).holds cx w := hw.at_ hf2
  have hr : w.ownsRow cx.n0 T 1 (.slice (adr A) l.length cap) l.length xs := hw.at_ hf1
  exact ⟨A, cap, xs, gs, by rw [hv], by rw [← hn]; exact hr, fun g hg => ⟨by rw [← hn]; exact (ho.1 g hg).1, (ho.1 g hg).2⟩, fun p hp hm => hw.sep d1 _ d2 _ (hfind_mem hf1) (hfind_mem hf2) hd p.1 (by rw [hp]; exact List.mem_singleton_self _) hm, hg.mono hR hf2 hw (fun _ h => h), below_of hn hM hw⟩
theorem gives_of_R {α : Type} {T : Nat} {mk : Value → Value} {R : Lies α} {l : List α} (hR : Stays R) {w : World} {e : Ending} {w' : World} (h : GivesR T mk R l w e w') : Gives mk (fun w B v => Nest R w B v l) w e w' := by
  obtain ⟨A, cap, xs, gs, he, hrow, hgs, hA, hgot, hb⟩ := h
  have hcap : l.length ≤ cap ∧ cap ≤ maxLen := by
    rcases hrow.2 with ⟨hv, hn⟩ | ⟨g, cap', cur, hv, _, _, h1, h2, _⟩
    · injection hv with _ _ hc
      exact ⟨by omega, by rw [hc]; exact Nat.zero_le _⟩
    · injection hv with _ _ hc
      subst hc
      exact ⟨h1, h2⟩
  refine ⟨_, (A.map Prod.fst).toList ++ gs, he, fun g hg => ?_, ⟨A, cap, xs, rfl, hcap, ?_, fun p hp hn => ⟨by rw [hp]; exact List.mem_append_left _ (by simp), own_cells0 hrow hn p hp⟩, fun i x a hx ha => hR _ _ _ _ _ _ (hgot.at_ i x a hx ha) (fun _ _ _ => rfl) (fun _ h => List.mem_append_right _ h)⟩, hb⟩
  · rcases List.mem_append.1 hg with hg | hg
    · simp only [Option.mem_toList, Option.map_eq_some_iff] at hg
      obtain ⟨p, rfl, rfl⟩ := hg
      exact hrow.lt p.1 rfl
    · exact hgs g hg
  · exact ro_of_owns hrow
/-- cells that are appended come from a nest of one's own -/
theorem raw_frz {cx : Cx} {H : Heap} {A : Option (Nat × Nat)} {n c d : Nat} {w0 : World} {gs : List Nat} {xs : List Value} {K : Nat → List Value → Prop} (h : Ro w0 A n 1 xs) (hB : ∀ p, A = some p → 0 < n → p.1 ∈ gs ∧ Cells0 w0 p.1) (hf : hfind H d = some (.own gs (Frz w0 gs))) (k : K n xs) : RawSrc cx H 1 (adr A) n c K := by
  rcases Nat.eq_zero_or_pos n with h0 | h0
  · subst h0
    have hx : xs = [] := List.eq_nil_of_length_eq_zero (by rw [h.1])
    subst hx
    refine ⟨.inr ⟨[], k, rfl, fun w hw => ?_⟩⟩
    cases A with
    | none => exact .inr ⟨rfl, rfl, rfl⟩
    | some p => exact .inl ⟨_, rfl, fun j u hu => by cases hu⟩
  · obtain ⟨p, rfl, hl, hc⟩ := h.2 h0
    refine ⟨.inr ⟨xs, k, h.1, fun w hw => .inl ⟨_, rfl, fun j u hu => ?_⟩⟩⟩
    rw [add_mk, ← hc j u hu]
    exact World.cell?_of_block (frz_of hf hw p.1 (hB p rfl h0).1)
theorem nest_cells {α : Type} {R : Lies α} {w : World} {B : Nat → Prop} {v : Value} {l : List α} (h : Nest R w B v l) : v.oneCell' = true := by
  obtain ⟨A, cap, xs, rfl, -⟩ := h
  rfl
theorem nest_all {α : Type} {R : Lies (List α)} (hR : ∀ w B v a, R w B v a → v.oneCell' = true) {w : World} {B : Nat → Prop} {xs : List Value} {l : List (List α)} (hl : xs.length = l.length) (h : ∀ (i : Nat) (x : Value) (a : List α), xs[i]? = some x → l[i]? = some a → R w B x a) : allV xs = true := allV_of fun u hu => by
  obtain ⟨i, hi, rfl⟩ := List.getElem_of_mem hu
  exact hR _ _ _ _ (h i xs[i] (l[i]'(by omega)) (List.getElem?_eq_getElem _) (List.getElem?_eq_getElem _))
end
section
open Go Sat Go.RowKit Go.PlainAid
/-- where a slice's elements lie, if it has any -/
structure AtN (n : Nat) (a : Option Addr) (A : Option (Nat × Nat)) : Prop where
  at_ : 0 < n → a = adr A
theorem AtN.refl (n : Nat) (A : Option (Nat × Nat)) : AtN n (adr A) A := ⟨fun _ => rfl⟩
def NestA {α : Type} (R : Lies α) : Lies (List α) := fun w B v l =>
  ∃ (a : Option Addr) (A : Option (Nat × Nat)) (cap : Nat) (xs : List Value), v = .slice a l.length cap ∧ AtN l.length a A ∧ (l.length ≤ cap ∧ cap ≤ maxLen) ∧ Ro w A l.length 1 xs ∧ (∀ p, A = some p → 0 < l.length → B p.1) ∧ ∀ (i : Nat) (x : Value) (a : α), xs[i]? = some x → l[i]? = some a → R w B x a
abbrev NEA : Lies (List ByteArray) := NestA Text
abbrev NSA : Lies (List (List ByteArray)) := NestA NEA
abbrev NLA : Lies (List (List (List ByteArray))) := NestA NSA
theorem nesta_stays {α : Type} {R : Lies α} (hR : Stays R) : Stays (NestA R) := by
  rintro w w' B B' v l ⟨a, A, cap, xs, hv, ha, hc, hro, hB, hx⟩ hb hBB
  exact ⟨a, A, cap, xs, hv, ha, hc, hro.stays (fun p hp hn hl => hb p.1 (hB p hp hn) hl), fun p hp hn => hBB _ (hB p hp hn), fun i x a h1 h2 => hR _ _ _ _ _ _ (hx i x a h1 h2) hb hBB⟩
theorem nea_stays : Stays NEA := nesta_stays text_stays
theorem nsa_stays : Stays NSA := nesta_stays nea_stays
theorem nest_arg {α : Type} {R R' : Lies α} (h : ∀ w B v a, R w B v a → R' w B v a) {w : World} {B : Nat → Prop} {v : Value} {l : List α} : Nest R w B v l → NestA R' w B v l := by
  rintro ⟨A, cap, xs, rfl, hc, hro, hB, hx⟩
  exact ⟨_, A, cap, xs, rfl, AtN.refl _ _, hc, hro, fun p h1 h2 => (hB p h1 h2).1, fun i x a h1 h2 => h _ _ _ _ (hx i x a h1 h2)⟩
theorem ne_arg {w : World} {B : Nat → Prop} {v : Value} {l : List ByteArray} (h : NE w B v l) : NEA w B v l := nest_arg (fun _ _ _ _ h => h) h
theorem ns_arg {w : World} {B : Nat → Prop} {v : Value} {l : List (List ByteArray)} (h : NS w B v l) : NSA w B v l := nest_arg (fun _ _ _ _ h => ne_arg h) h
theorem nl_arg {w : World} {B : Nat → Prop} {v : Value} {l : List (List (List ByteArray))} (h : NL w B v l) : NLA w B v l := nest_arg (fun _ _ _ _ h => ns_arg h) h
theorem some_of {w : World} {a : Option Addr} {A : Option (Nat × Nat)} {n : Nat} {xs : List Value} (ha : AtN n a A) (h : Ro w A n 1 xs) (hn : 0 < n) : ∃ p : Nat × Nat, a = adr (some p) ∧ A = some p := by
  obtain ⟨p, rfl, _⟩ := h.some_ hn
  exact ⟨p, ha.at_ hn, rfl⟩
theorem nea_row {w : World} {v : Value} {e : List ByteArray} {B : Nat → Prop} (h : NEA w B v e) : ∃ a A cap, v = .slice a e.length cap ∧ AtN e.length a A ∧ (e.length ≤ cap ∧ cap ≤ maxLen) ∧ Ro w A e.length 1 (e.map Value.string) ∧ ∀ p, A = some p → 0 < e.length → B p.1 := by
  obtain ⟨a, A, cap, xs, hv, ha, hc, hro, hB, hx⟩ := h
  have hxs : xs = e.map Value.string := by
    refine List.ext_getElem? fun i => ?_
    rcases Nat.lt_or_ge i e.length with h | h
    · have h1 : i < xs.length := by rw [hro.1]; omega
      have := hx i xs[i] e[i] (List.getElem?_eq_getElem h1) (List.getElem?_eq_getElem h)
      rw [List.getElem?_eq_getElem h1, List.getElem?_map, List.getElem?_eq_getElem h]
      exact congrArg some this
    · rw [List.getElem?_eq_none (by rw [hro.1]; omega), List.getElem?_eq_none (by simpa using h)]
  rw [hxs] at hro
  exact ⟨a, A, cap, hv, ha, hc, hro, hB⟩
theorem str_cell {e : List ByteArray} {k : Nat} {s : ByteArray} (h : e[k]? = some s) : (e.map Value.string)[k]? = some (.string s) := by rw [List.getElem?_map, h]; rfl
/-- cells that are appended come from an argument -/
theorem raw_arg {cx : Cx} {H : Heap} {a : Option Addr} {A : Option (Nat × Nat)} {n c : Nat} {xs : List Value} {K : Nat → List Value → Prop} (hM : cx.M = []) (hn : cx.n0 = cx.W.heap.size) (ha : AtN n a A) (h : Ro cx.W A n 1 xs) (k : K n xs) : RawSrc cx H 1 a n c K := by
  rcases Nat.eq_zero_or_pos n with h0 | h0
  · subst h0
    have hx : xs = [] := List.eq_nil_of_length_eq_zero (by rw [h.1])
    subst hx
    refine ⟨.inr ⟨[], k, rfl, fun w hw => ?_⟩⟩
    cases a with
    | none => exact .inr ⟨rfl, rfl, rfl⟩
    | some p => exact .inl ⟨_, rfl, fun j u hu => by cases hu⟩
  · rw [ha.at_ h0]
    exact raw_ro hM hn h k
end
section
open Go Sat Go.RowKit Go.PlainAid
def isStr : Value → Bool
  | .string _ => true
  | _ => false
/-- the blocks are as in another world, but for strings where strings were -/
def StrMod (w0 : World) (gs : List Nat) : World → Prop := fun w => ∀ g, g ∈ gs → ∀ cur ty, w0.heap[g]? = some (.cells cur ty (0, 0)) → ∃ cur' : Array Value, w.heap[g]? = some (.cells cur' ty (0, 0)) ∧ cur'.size = cur.size ∧
  ∀ (i : Nat) (x : Value), cur[i]? = some x → ∃ y, cur'[i]? = some y ∧ isStr y = isStr x ∧ (isStr x = false → y = x)
theorem strMod_refl (w : World) (gs : List Nat) : StrMod w gs w := fun g _ cur ty h => ⟨cur, h, rfl, fun i x hx => ⟨x, hx, rfl, fun _ => rfl⟩⟩
theorem strMod_stay {w0 w w' : World} {gs : List Nat} (h : StrMod w0 gs w) (hk : ∀ g, g ∈ gs → w'.heap[g]? = w.heap[g]?) : StrMod w0 gs w' := fun g hg cur ty hc => by
  obtain ⟨cur', h1, h2⟩ := h g hg cur ty hc
  exact ⟨cur', (hk g hg).trans h1, h2⟩
/-- what is known of an entry is told less of -/
theorem sat_less {cx : Cx} {c : Code} {K : Exit → Env → Heap → Prop} {f : Env} {H : Heap} (d : Nat) {w0 : World} {gs : List Nat} (hf : hfind H d = some (.own gs (Frz w0 gs))) (h : Sat cx c K f ((d, .own gs (StrMod w0 gs)) :: hdel H d)) : Sat cx c K f H := by
  refine ⟨fun a w hfit hw => h.out a w hfit ?_⟩
  have ho : (HB.own gs (Frz w0 gs)).holds cx w := hw.at_ hf
  refine hw.turn d _ (Keep.refl _ _ _) ⟨ho.1, strMod_stay (strMod_refl w0 gs) ho.2.1, fun w' hk => strMod_stay (strMod_stay (strMod_refl w0 gs) ho.2.1) hk⟩ fun x hx g hg => ⟨rfl, fun hm => ?_⟩
  exact hw.sep _ _ _ _ (hdel_mem hx).1 (hfind_mem hf) (hdel_mem hx).2 g hg hm
theorem mod_of {cx : Cx} {H : Heap} {d : Nat} {w0 : World} {gs : List Nat} (hf : hfind H d = some (.own gs (StrMod w0 gs))) {w : World} (hw : Holds cx H w) : StrMod w0 gs w := by
  have h : (HB.own gs (StrMod w0 gs)).holds cx w := hw.at_ hf
  exact h.2.1
theorem cell_in {w : World} {g o : Nat} {cur : Array Value} {ty : TypeId} {fr : Nat × Nat} (h : w.heap[g]? = some (.cells cur ty fr)) : w.cell? ⟨g, o, none⟩ = cur[o]? := by
  unfold World.cell?
  rw [h]
  rfl
/-- a cell that is no string is read -/
theorem mod_at {cx : Cx} {A : Option (Nat × Nat)} {n d : Nat} {w0 : World} {gs : List Nat} {xs : List Value} {k : Nat} {i : Int} {x : Value} (h : Ro w0 A n 1 xs) (hB : ∀ p, A = some p → 0 < n → p.1 ∈ gs ∧ Cells0 w0 p.1) (hx : xs[k]? = some x) (hns : isStr x = false) (hi : i = k) {H : Heap} (hf : hfind H d = some (.own gs (StrMod w0 gs))) : ∀ (w : World), Holds cx H w → w.cell? (adAt (adr A) (mulS i.toNat 1)) = some x := by
  intro w hw
  have hk : k < xs.length := (List.getElem?_eq_some_iff.1 hx).1
  rw [h.1] at hk
  obtain ⟨p, rfl, hl, hc⟩ := h.2 (by omega)
  have h2 := hc k x hx
  obtain ⟨hg, cur, ty, hcell⟩ := hB p rfl (by omega)
  obtain ⟨cur', h3, h4, h5⟩ := mod_of hf hw p.1 hg cur ty hcell
  rw [cell_in hcell] at h2
  obtain ⟨y, h6, h7, h8⟩ := h5 _ x h2
  rw [mulS_eq, hi, Int.toNat_natCast, Nat.mul_one, ad_some, cell_in h3, h6, h8 hns]
/-- a string is written over another one -/
theorem mod_store {cx : Cx} {A : Option (Nat × Nat)} {n d T : Nat} {w0 : World} {gs : List Nat} {xs : List Value} {k : Nat} {i : Int} {x : Value} {H : Heap} {K : SV → Heap → Prop} {s : ByteArray} (h : Ro w0 A n 1 xs) (hB : ∀ p, A = some p → 0 < n → p.1 ∈ gs ∧ Cells0 w0 p.1) (hx : xs[k]? = some x) (hns : isStr x = true) (hi : i = k)
    (hT : ∃ j, tfind cx.T T = some j ∧ j.size = 1) (hf : hfind H d = some (.own gs (StrMod w0 gs))) (hk : K (.v undef) ((d, .own gs (StrMod w0 gs)) :: hdel H d)) : RawStore cx H T (.v (.pointer (some (adAt (adr A) (mulS i.toNat 1))))) (.v (.string s)) K := by
  have hk2 : k < xs.length := (List.getElem?_eq_some_iff.1 hx).1
  rw [h.1] at hk2
  obtain ⟨p, rfl, hl, hc⟩ := h.2 (by omega)
  have h2 := hc k x hx
  obtain ⟨hg, cur, ty, hcell⟩ := hB p rfl (by omega)
  rw [cell_in hcell] at h2
  have had : adAt (adr (some p)) (mulS i.toNat 1) = ⟨p.1, p.2 + k, none⟩ := by rw [mulS_eq, hi, Int.toNat_natCast, Nat.mul_one, ad_some]
  rw [had]
  refine ⟨.inr ⟨p.1, p.2 + k, d, gs, _, StrMod w0 gs, rfl, hT, rfl, hf, hg, fun w hw => ?_, fun w cur2 ty2 hw hc2 ho g hg2 cur3 ty3 h3 => ?_, fun w w' hw hk => strMod_stay hw hk, hk⟩⟩
  · obtain ⟨cur', h3, h4, h5⟩ := mod_of hf hw p.1 hg cur ty hcell
    refine ⟨cur', ty, h3, ?_⟩
    rw [h4]
    exact (Array.getElem?_eq_some_iff.1 h2).1
  · obtain ⟨cur', h4, h5, h6⟩ := mod_of hf hw g hg2 cur3 ty3 h3
    by_cases hgp : g = p.1
    · subst hgp
      rw [hcell] at h3
      cases h3
      rw [hc2] at h4
      cases h4
      refine ⟨(cur2.toList.set (p.2 + k) (SV.v (.string s)).r1).toArray, setRow_heap w p.1 _ _ _ _ hc2, by simp [h5], fun j y hy => ?_⟩
      by_cases hj : j = p.2 + k
      · subst hj
        rw [h2] at hy
        cases hy
        refine ⟨.string s, ?_, (show isStr (.string s) = true from rfl).trans hns.symm, fun h => by rw [hns] at h; cases h⟩
        simp only [List.getElem?_toArray]
        rw [List.getElem?_set_self (by simpa using ho)]
        rfl
      · obtain ⟨z, h7, h8⟩ := h6 j y hy
        refine ⟨z, ?_, h8⟩
        rw [← h7]
        simp [List.getElem?_set, Ne.symm hj]
    · exact ⟨cur', by rw [setRow_other w p.1 g _ hgp]; exact h4, h5, h6⟩
end
end Go.Proofs.YtdohcglpcgahaaaGreatDoor
