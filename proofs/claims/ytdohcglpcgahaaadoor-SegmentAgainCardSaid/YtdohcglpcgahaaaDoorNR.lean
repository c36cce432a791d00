/-
  Nests that are returned: the top row by itself, what is beneath it as it is.
-/
import Derived.Test.YtdohcglpcgahaaaDoorNE
set_option linter.unusedSimpArgs false
set_option linter.unusedVariables false
namespace Go.Proofs.YtdohcglpcgahaaaDoor
open Go Sat Go.RowKit Go.PlainAid
theorem ro_of_owns {w : World} {B T n cap : Nat} {A : Option (Nat × Nat)} {xs : List Value} (hr : w.ownsRow B T 1 (.slice (adr A) n cap) n xs) : Ro w A n 1 xs := by
  refine ⟨hr.1, fun hn => ?_⟩
  cases A with
  | none =>
    rcases hr.2 with ⟨hv, h0⟩ | ⟨g, cap', cur, hv, _⟩
    · omega
    · cases hv
  | some p =>
    refine ⟨p, rfl, (hr.lt p.1 rfl).2, fun j u hu => ?_⟩
    have := row_cell hr hu
    rw [Option.getD_some, Nat.add_comm] at this
    exact this
/-- what a function returns: a row of its own, and what its values are -/
def GivesR {α : Type} (T : Nat) (mk : Value → Value) (R : Lies α) (l : List α) (w : World) : Ending → World → Prop := fun e w' =>
  ∃ (A : Option (Nat × Nat)) (cap : Nat) (xs : List Value) (gs : List Nat), e = .returned (mk (.slice (adr A) l.length cap)) ∧ w'.ownsRow w.heap.size T 1 (.slice (adr A) l.length cap) l.length xs ∧ (∀ g, g ∈ gs → w.heap.size ≤ g ∧ g < w'.heap.size) ∧ (∀ p, A = some p → p.1 ∉ gs) ∧ Got R w' gs xs l ∧ Below w.heap.size w w'
theorem row_gs {A : Option (Nat × Nat)} {T n cap : Nat} {xs : List Value} {g : Nat} (h : g ∈ (HB.row A T 1 n cap xs).gs) : ∃ p, A = some p ∧ p.1 = g := by
  simp only [HB.gs, Option.mem_toList, Option.map_eq_some_iff] at h
  exact h
theorem called_nestR {cx : Cx} {n : Nat} {args : List SV} {H : Heap} {K : SV → Heap → Prop} (d1 d2 : Nat) {α : Type} {T : Nat} {mk : Value → Value} {R : Lies α} {l : List α} (r : Option (Nat × Nat) → Nat → SV) (hr : ∀ A cap, (r A cap).real = mk (.slice (adr A) l.length cap))
    (h : ∀ w, Holds cx H w → Calls cx.P n (args.map SV.real).toArray w (GivesR T mk R l w))
    (hk : ∀ (w0 : World) (A : Option (Nat × Nat)) (cap : Nat) (xs : List Value) (gs : List Nat), xs.length = l.length → Got R w0 gs xs l → K (r A cap) ((d1, .row A T 1 l.length cap xs) :: hdel ((d2, .own gs (Frz w0 gs)) :: hdel H d2) d1)) : Called cx n args H K := by
  refine ⟨fun w hw => (h w hw).mono fun e w' hp => ?_⟩
  obtain ⟨A, cap, xs, gs, he, hrow, hgs, hA, hgot, hb⟩ := hp
  have hn : cx.n0 ≤ w.heap.size := Nat.le_trans hw.n0 hw.keep.size
  have h1 := (hw.below hb).turn d2 (.own gs (Frz w' gs)) (Keep.refl _ _ _) ⟨fun g hg => ⟨Nat.le_trans hn (hgs g hg).1, (hgs g hg).2⟩, fun _ _ => rfl, fun w2 hw2 => hw2⟩ fun x hx g hgx => ⟨rfl, fun hm => by
    have := HB.lt (hw.ent x (hdel_mem hx).1) hgx
    have := (hgs g hm).1
    omega⟩
  refine ⟨r A cap, _, by rw [hr]; exact he, h1.turn d1 (.row A T 1 l.length cap xs) (Keep.refl _ _ _) (ownsRow_base hrow hn) fun x hx g hgx => ⟨rfl, fun hm => ?_⟩, hk w' A cap xs gs (by rw [hrow.1, Nat.mul_one]) hgot⟩
  obtain ⟨p, rfl, rfl⟩ := row_gs hm
  obtain ⟨hx1, hx2⟩ := hdel_mem hx
  rcases List.mem_cons.1 hx1 with rfl | hx1
  · exact hA p rfl hgx
  · have h2 := HB.lt (hw.ent x (hdel_mem hx1).1) hgx
    have h3 := (hrow.lt p.1 rfl).1
    omega
theorem done_nestR {cx : Cx} {α : Type} {T : Nat} {mk : Value → Value} {R : Lies α} (hR : Stays R) {l : List α} {sv : SV} {H : Heap} (hn : cx.n0 = cx.W.heap.size) (hM : cx.M = []) (d1 d2 : Nat) (hd : d1 ≠ d2) {w0 : World} {A : Option (Nat × Nat)} {n cap : Nat} {xs : List Value} {gs : List Nat}
    (hf1 : hfind H d1 = some (.row A T 1 n cap xs)) (hf2 : hfind H d2 = some (.own gs (Frz w0 gs))) (hl : n = l.length) (hg : Got R w0 gs xs l) (hv : sv.real = mk (.slice (adr A) n cap)) :
    Done cx (GivesR T mk R l cx.W) sv H := by
  subst hl
  refine ⟨fun w hw => ?_⟩
  have ho : (HB.own gs (Frz w0 gs)).holds cx w := hw.at_ hf2
  have hr : w.ownsRow cx.n0 T 1 (.slice (adr A) l.length cap) l.length xs := hw.at_ hf1
  exact ⟨A, cap, xs, gs, by rw [hv], by rw [← hn]; exact hr, fun g hg => ⟨by rw [← hn]; exact (ho.1 g hg).1, (ho.1 g hg).2⟩, fun p hp hm => hw.sep d1 _ d2 _ (hfind_mem hf1) (hfind_mem hf2) hd p.1 (by rw [hp]; exact List.mem_singleton_self _) hm, hg.mono hR hf2 hw (fun _ h => h), below_of hn hM hw⟩
theorem gives_of_R {α : Type} {T : Nat} {mk : Value → Value} {R : Lies α} {l : List α} (hR : Stays R) {w : World} {e : Ending} {w' : World} (h : GivesR T mk R l w e w') : Gives mk (fun w B v => Nest R w B v l) w e w' := by
  obtain ⟨A, cap, xs, gs, he, hrow, hgs, hA, hgot, hb⟩ := h
  have hcap : l.length ≤ cap ∧ cap ≤ maxLen := by
    rcases hrow.2 with ⟨hv, hn⟩ | ⟨g, cap', cur, hv, _, _, h1, h2, _⟩
    · injection hv with _ _ hc
      exact ⟨by omega, by rw [hc]; exact Nat.zero_le _⟩
    · injection hv with _ _ hc
      subst hc
      exact ⟨h1, h2⟩
  refine ⟨_, (A.map Prod.fst).toList ++ gs, he, fun g hg => ?_, ⟨A, cap, xs, rfl, hcap, ?_, fun p hp hn => ⟨by rw [hp]; exact List.mem_append_left _ (by simp), own_cells0 hrow hn p hp⟩, fun i x a hx ha => hR _ _ _ _ _ _ (hgot.at_ i x a hx ha) (fun _ _ _ => rfl) (fun _ h => List.mem_append_right _ h)⟩, hb⟩
  · rcases List.mem_append.1 hg with hg | hg
    · simp only [Option.mem_toList, Option.map_eq_some_iff] at hg
      obtain ⟨p, rfl, rfl⟩ := hg
      exact hrow.lt p.1 rfl
    · exact hgs g hg
  · exact ro_of_owns hrow
/-- cells that are appended come from a nest of one's own -/
theorem raw_frz {cx : Cx} {H : Heap} {A : Option (Nat × Nat)} {n c d : Nat} {w0 : World} {gs : List Nat} {xs : List Value} {K : Nat → List Value → Prop} (h : Ro w0 A n 1 xs) (hB : ∀ p, A = some p → 0 < n → p.1 ∈ gs ∧ Cells0 w0 p.1) (hf : hfind H d = some (.own gs (Frz w0 gs))) (k : K n xs) : RawSrc cx H 1 (adr A) n c K := by
  rcases Nat.eq_zero_or_pos n with h0 | h0
  · subst h0
    have hx : xs = [] := List.eq_nil_of_length_eq_zero (by rw [h.1])
    subst hx
    refine ⟨.inr ⟨[], k, rfl, fun w hw => ?_⟩⟩
    cases A with
    | none => exact .inr ⟨rfl, rfl, rfl⟩
    | some p => exact .inl ⟨_, rfl, fun j u hu => by cases hu⟩
  · obtain ⟨p, rfl, hl, hc⟩ := h.2 h0
    refine ⟨.inr ⟨xs, k, h.1, fun w hw => .inl ⟨_, rfl, fun j u hu => ?_⟩⟩⟩
    rw [add_mk, ← hc j u hu]
    exact World.cell?_of_block (frz_of hf hw p.1 (hB p rfl h0).1)
theorem nest_cells {α : Type} {R : Lies α} {w : World} {B : Nat → Prop} {v : Value} {l : List α} (h : Nest R w B v l) : v.oneCell' = true := by
  obtain ⟨A, cap, xs, rfl, -⟩ := h
  rfl
theorem nest_all {α : Type} {R : Lies (List α)} (hR : ∀ w B v a, R w B v a → v.oneCell' = true) {w : World} {B : Nat → Prop} {xs : List Value} {l : List (List α)} (hl : xs.length = l.length) (h : ∀ (i : Nat) (x : Value) (a : List α), xs[i]? = some x → l[i]? = some a → R w B x a) : allV xs = true := allV_of fun u hu => by
  obtain ⟨i, hi, rfl⟩ := List.getElem_of_mem hu
  exact hR _ _ _ _ (h i xs[i] (l[i]'(by omega)) (List.getElem?_eq_getElem _) (List.getElem?_eq_getElem _))
/-- a row to which another nest's cells were appended -/
theorem nest_app {α : Type} {R : Lies α} (hR : Stays R) {cx : Cx} {H : Heap} {w : World} (hw : Holds cx H w) (d1 d2 d3 : Nat) {A : Option (Nat × Nat)} {T n cap : Nat} {xs ys : List Value} {w1 w2 : World} {gs1 gs2 : List Nat} {l m : List α}
    (hf1 : hfind H d1 = some (.row A T 1 n cap (xs ++ ys))) (hf2 : hfind H d2 = some (.own gs1 (Frz w1 gs1))) (hf3 : hfind H d3 = some (.own gs2 (Frz w2 gs2))) (hx : Got R w1 gs1 xs l) (hy : ∀ (i : Nat) (x : Value) (a : α), ys[i]? = some x → m[i]? = some a → R w2 (fun g => g ∈ gs2) x a)
    (hl : xs.length = l.length) (hn : n = (l ++ m).length) : Nest R w (fun _ => True) (.slice (adr A) n cap) (l ++ m) := by
  subst hn
  refine ⟨A, cap, xs ++ ys, rfl, row_caps hw hf1, ro_of_row hw hf1, fun p hp hn => ⟨trivial, own_cells0 (hw.at_ hf1) hn p hp⟩, fun i x a h1 h2 => ?_⟩
  rcases Nat.lt_or_ge i xs.length with h3 | h3
  · rw [List.getElem?_append_left h3] at h1
    rw [List.getElem?_append_left (by omega)] at h2
    exact frz_nest hR (hx.at_ i x a h1 h2) hf2 hw
  · rw [List.getElem?_append_right h3] at h1
    rw [List.getElem?_append_right (by omega), ← hl] at h2
    exact frz_nest hR (hy _ x a h1 h2) hf3 hw
end Go.Proofs.YtdohcglpcgahaaaDoor
