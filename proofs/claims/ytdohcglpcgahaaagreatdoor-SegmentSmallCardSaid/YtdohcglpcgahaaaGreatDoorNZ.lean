/-
  Nests whose elements have several cells: segments with tags, messages.
-/
import Derived.Test.YtdohcglpcgahaaaGreatDoorSTX
set_option linter.unusedSimpArgs false
set_option linter.unusedVariables false
namespace Go.Proofs.YtdohcglpcgahaaaGreatDoor
open Go Sat Go.RowKit Go.PlainAid
/-- values of several cells lie in memory, in blocks of B -/
abbrev LiesC (α : Type) := World → (Nat → Prop) → List Value → α → Prop
def StaysC {α : Type} (R : LiesC α) : Prop := ∀ w w' B B' v a, R w B v a → (∀ g, B g → g < w.heap.size → w'.heap[g]? = w.heap[g]?) → (∀ g, B g → B' g) → R w' B' v a
def cut1 (xs : List Value) (z i : Nat) : List Value := (xs.drop (i * z)).take z
/-- a slice of such values -/
def NestZ {α : Type} (z : Nat) (R : LiesC α) : Lies (List α) := fun w B v l =>
  ∃ (a : Option Addr) (A : Option (Nat × Nat)) (cap : Nat) (xs : List Value), v = .slice a l.length cap ∧ AtN l.length a A ∧ (l.length ≤ cap ∧ cap ≤ maxLen) ∧ Ro w A l.length z xs ∧ (∀ p, A = some p → 0 < l.length → B p.1) ∧ ∀ (i : Nat) (a : α), l[i]? = some a → R w B (cut1 xs z i) a
theorem nestz_stays {α : Type} {z : Nat} {R : LiesC α} (hR : StaysC R) : Stays (NestZ z R) := by
  rintro w w' B B' v l ⟨a, A, cap, xs, hv, ha, hc, hro, hB, hx⟩ hb hBB
  exact ⟨a, A, cap, xs, hv, ha, hc, hro.stays (fun p hp hn hl => hb p.1 (hB p hp hn) hl), fun p hp hn => hBB _ (hB p hp hn), fun i a h1 => hR _ _ _ _ _ _ (hx i a h1) hb hBB⟩
abbrev Sg := ByteArray × Dat
structure Msg where
  kind : ByteArray
  ref : ByteArray
  segs : List Sg
  deriving DecidableEq
def SegR (R : Lies Dat) : LiesC Sg := fun w B cs s => ∃ v, cs = [.string s.1, v] ∧ R w B v s.2
def MsgR (R : Lies Dat) : LiesC Msg := fun w B cs m => ∃ v, cs = [.string m.kind, .string m.ref, v] ∧ NestZ 2 (SegR R) w B v m.segs
abbrev NSegs (R : Lies Dat) := NestZ 2 (SegR R)
abbrev NMsgs (R : Lies Dat) := NestZ 3 (MsgR R)
theorem segr_stays {R : Lies Dat} (hR : Stays R) : StaysC (SegR R) := by
  rintro w w' B B' v s ⟨x, hx, h⟩ hb hBB
  exact ⟨x, hx, hR _ _ _ _ _ _ h hb hBB⟩
theorem nsegs_stays {R : Lies Dat} (hR : Stays R) : Stays (NSegs R) := nestz_stays (segr_stays hR)
theorem msgr_stays {R : Lies Dat} (hR : Stays R) : StaysC (MsgR R) := by
  rintro w w' B B' v s ⟨x, hx, h⟩ hb hBB
  exact ⟨x, hx, nsegs_stays hR _ _ _ _ _ _ h hb hBB⟩
theorem nmsgs_stays {R : Lies Dat} (hR : Stays R) : Stays (NMsgs R) := nestz_stays (msgr_stays hR)
theorem nestz_imp {α : Type} {z : Nat} {R R' : LiesC α} (h : ∀ w B v a, R w B v a → R' w B v a) {w : World} {B : Nat → Prop} {v : Value} {l : List α} : NestZ z R w B v l → NestZ z R' w B v l := by
  rintro ⟨a, A, cap, xs, hv, ha, hc, hro, hB, hx⟩
  exact ⟨a, A, cap, xs, hv, ha, hc, hro, hB, fun i a h1 => h _ _ _ _ (hx i a h1)⟩
theorem segr_imp {R R' : Lies Dat} (h : ∀ w B v a, R w B v a → R' w B v a) {w : World} {B : Nat → Prop} {cs : List Value} {s : Sg} : SegR R w B cs s → SegR R' w B cs s := by
  rintro ⟨x, hx, h1⟩
  exact ⟨x, hx, h _ _ _ _ h1⟩
theorem msgr_imp {R R' : Lies Dat} (h : ∀ w B v a, R w B v a → R' w B v a) {w : World} {B : Nat → Prop} {cs : List Value} {m : Msg} : MsgR R w B cs m → MsgR R' w B cs m := by
  rintro ⟨x, hx, h1⟩
  exact ⟨x, hx, nestz_imp (fun _ _ _ _ => segr_imp h) h1⟩
theorem nsegs_arg {w : World} {B : Nat → Prop} {v : Value} {l : List Sg} (h : NSegs NS w B v l) : NSegs NSA w B v l := nestz_imp (fun _ _ _ _ => segr_imp (fun _ _ _ _ => ns_arg)) h
theorem nmsgs_arg {w : World} {B : Nat → Prop} {v : Value} {l : List Msg} (h : NMsgs NS w B v l) : NMsgs NSA w B v l := nestz_imp (fun _ _ _ _ => msgr_imp (fun _ _ _ _ => ns_arg)) h
/-- the same, in blocks that may be written -/
def NestC {α : Type} (z : Nat) (R : LiesC α) : Lies (List α) := fun w B v l =>
  ∃ (a : Option Addr) (A : Option (Nat × Nat)) (cap : Nat) (xs : List Value), v = .slice a l.length cap ∧ AtN l.length a A ∧ (l.length ≤ cap ∧ cap ≤ maxLen) ∧ Ro w A l.length z xs ∧ (∀ p, A = some p → 0 < l.length → B p.1 ∧ Cells0 w p.1) ∧ ∀ (i : Nat) (a : α), l[i]? = some a → R w B (cut1 xs z i) a
theorem nestc_stays {α : Type} {z : Nat} {R : LiesC α} (hR : StaysC R) : Stays (NestC z R) := by
  rintro w w' B B' v l ⟨a, A, cap, xs, hv, ha, hc, hro, hB, hx⟩ hb hBB
  exact ⟨a, A, cap, xs, hv, ha, hc, hro.stays (fun p hp hn hl => hb p.1 (hB p hp hn).1 hl), fun p hp hn => ⟨hBB _ (hB p hp hn).1, by
    obtain ⟨h1, h2⟩ := hB p hp hn
    have h3 := hb p.1 h1 h2.lt
    obtain ⟨cur, ty, h2⟩ := h2
    exact ⟨cur, ty, h3.trans h2⟩⟩, fun i a h1 => hR _ _ _ _ _ _ (hx i a h1) hb hBB⟩
theorem nestc_z {α : Type} {z : Nat} {R R' : LiesC α} (h : ∀ w B v a, R w B v a → R' w B v a) {w : World} {B : Nat → Prop} {v : Value} {l : List α} : NestC z R w B v l → NestZ z R' w B v l := by
  rintro ⟨a, A, cap, xs, hv, ha, hc, hro, hB, hx⟩
  exact ⟨a, A, cap, xs, hv, ha, hc, hro, fun p hp hn => (hB p hp hn).1, fun i a h1 => h _ _ _ _ (hx i a h1)⟩
def MsgC : LiesC Msg := fun w B cs m => ∃ v, cs = [.string m.kind, .string m.ref, v] ∧ NestC 2 (SegR NS) w B v m.segs
theorem msgc_stays : StaysC MsgC := by
  rintro w w' B B' v s ⟨x, hx, h⟩ hb hBB
  exact ⟨x, hx, nestc_stays (segr_stays ns_stays) _ _ _ _ _ _ h hb hBB⟩
theorem msgc_r {w : World} {B : Nat → Prop} {cs : List Value} {m : Msg} (h : MsgC w B cs m) : MsgR NS w B cs m := by
  obtain ⟨x, hx, h1⟩ := h
  exact ⟨x, hx, nestc_z (fun _ _ _ _ h => h) h1⟩
abbrev MsgsC : Lies (List Msg) := NestC 3 MsgC
theorem msgsc_z {w : World} {B : Nat → Prop} {v : Value} {l : List Msg} (h : MsgsC w B v l) : NMsgs NS w B v l := nestc_z (fun _ _ _ _ => msgc_r) h
theorem nestc_nil {α : Type} {z : Nat} {R : LiesC α} {w : World} {B : Nat → Prop} : NestC z R w B (.slice none 0 0) [] := ⟨none, none, 0, [], rfl, ⟨fun h => by cases h⟩, ⟨Nat.le_refl _, Nat.zero_le _⟩, Ro.nil_ w none z, fun p hp => (by cases hp), fun i a h => (by cases h)⟩
theorem own_cellsz {w : World} {B T sz n cap : Nat} {p : Nat × Nat} {xs : List Value} (hr : w.ownsRow B T sz (.slice (adr (some p)) n cap) n xs) : Cells0 w p.1 := by
  rcases hr.2 with ⟨hv, h0⟩ | ⟨g, cap', cur, hv, _, h1, _⟩
  · cases hv
  · simp only [adr, Option.map_some, Value.slice.injEq, Option.some.injEq, Addr.mk.injEq] at hv
    rw [← hv.1.1] at h1
    exact ⟨cur, T, h1⟩
/-- the cells of one element -/
theorem cut1_at {xs : List Value} {z i j : Nat} {cs : List Value} (h : cut1 xs z i = cs) (hj : j < cs.length) : xs[i * z + j]? = cs[j]? := by
  rw [← h] at hj ⊢
  unfold cut1 at hj ⊢
  rw [List.length_take] at hj
  rw [List.getElem?_take, if_pos (by omega), List.getElem?_drop]
theorem some_ofz {w : World} {a : Option Addr} {A : Option (Nat × Nat)} {n z : Nat} {xs : List Value} (ha : AtN n a A) (h : Ro w A n z xs) (hn : 0 < n) : ∃ p : Nat × Nat, a = adr (some p) ∧ A = some p := by
  obtain ⟨p, rfl, _⟩ := h.some_ hn
  exact ⟨p, ha.at_ hn, rfl⟩
/-- a nest that one owns, where it is owned -/
theorem frz_is {α : Type} {R : Lies α} (hR : Stays R) {cx : Cx} {d : Nat} {w0 : World} {gs : List Nat} {v : Value} {l : α} (h : R w0 (fun g => g ∈ gs) v l) {H : Heap} (hf : hfind H d = some (.own gs (Frz w0 gs))) {w : World} (hw : Holds cx H w) : R w (fun _ => True) v l := frz_nest hR h hf hw
/-- what lies in memory lies in blocks that are there -/
def Narrow {α : Type} (R : Lies α) : Prop := ∀ w B v a, R w B v a → R w (fun g => B g ∧ g < w.heap.size) v a
def NarrowC {α : Type} (R : LiesC α) : Prop := ∀ w B v a, R w B v a → R w (fun g => B g ∧ g < w.heap.size) v a
theorem text_narrow : Narrow Text := fun _ _ _ _ h => h
theorem nesta_narrow {α : Type} {R : Lies α} (hR : Narrow R) : Narrow (NestA R) := by
  rintro w B v l ⟨a, A, cap, xs, hv, ha, hc, hro, hB, hx⟩
  exact ⟨a, A, cap, xs, hv, ha, hc, hro, fun p hp hn => ⟨hB p hp hn, by obtain ⟨q, hq, hl⟩ := hro.some_ hn; rw [hp] at hq; cases hq; exact hl⟩, fun i x a h1 h2 => hR _ _ _ _ (hx i x a h1 h2)⟩
theorem nestz_narrow {α : Type} {z : Nat} {R : LiesC α} (hR : NarrowC R) : Narrow (NestZ z R) := by
  rintro w B v l ⟨a, A, cap, xs, hv, ha, hc, hro, hB, hx⟩
  exact ⟨a, A, cap, xs, hv, ha, hc, hro, fun p hp hn => ⟨hB p hp hn, by obtain ⟨q, hq, hl⟩ := hro.some_ hn; rw [hp] at hq; cases hq; exact hl⟩, fun i a h1 => hR _ _ _ _ (hx i a h1)⟩
theorem nea_narrow : Narrow NEA := nesta_narrow text_narrow
theorem nsa_narrow : Narrow NSA := nesta_narrow nea_narrow
theorem segr_narrow {R : Lies Dat} (hR : Narrow R) : NarrowC (SegR R) := by
  rintro w B v s ⟨x, hx, h⟩
  exact ⟨x, hx, hR _ _ _ _ h⟩
theorem nsegs_narrow {R : Lies Dat} (hR : Narrow R) : Narrow (NSegs R) := nestz_narrow (segr_narrow hR)
theorem msgr_narrow {R : Lies Dat} (hR : Narrow R) : NarrowC (MsgR R) := by
  rintro w B v s ⟨x, hx, h⟩
  exact ⟨x, hx, nsegs_narrow hR _ _ _ _ h⟩
theorem nmsgs_narrow {R : Lies Dat} (hR : Narrow R) : Narrow (NMsgs R) := nestz_narrow (msgr_narrow hR)
theorem lent_low {α : Type} {R : Lies α} (hR : Stays R) (hN : Narrow R) {cx : Cx} (hM : cx.M = []) (hn : cx.n0 = cx.W.heap.size) {v : Value} {l : α} (h : R cx.W (fun _ => True) v l) {H : Heap} {w : World} (hw : Holds cx H w) : R w (fun g => g < cx.n0) v l :=
  hR _ _ _ _ _ _ (hN _ _ _ _ h) (fun g _ hg => hw.keep.block g (by omega) (by rw [hM]; simp)) (fun g hg => by rw [hn]; exact hg.2)
/-- what lies in blocks of one's own and in what is lent -/
theorem mix_nest {α : Type} {R : Lies α} (hR : Stays R) {cx : Cx} (hM : cx.M = []) {d : Nat} {w0 : World} {gs : List Nat} {v : Value} {l : α} (h : R w0 (fun g => g ∈ gs ∨ g < cx.n0) v l) {H0 : Heap} (hw0 : Holds cx H0 w0) {H : Heap} (hf : hfind H d = some (.own gs (Frz w0 gs))) {w : World} (hw : Holds cx H w) (B : Nat → Prop) (hB : ∀ g, g ∈ gs ∨ g < cx.n0 → B g) : R w B v l :=
  hR _ _ _ _ _ _ h (fun g hg _ => by
    rcases hg with hg | hg
    · exact frz_of hf hw g hg
    · rw [hw.keep.block g hg (by rw [hM]; simp), hw0.keep.block g hg (by rw [hM]; simp)]) hB
theorem called_nestK {cx : Cx} {n : Nat} {args : List SV} {H : Heap} {K : SV → Heap → Prop} (d : Nat) {mk : Value → Value} {Q : World → (Nat → Prop) → Value → Prop} (r : Value → SV) (hr : ∀ v, (r v).real = mk v)
    (h : ∀ w, Holds cx H w → Calls cx.P n (args.map SV.real).toArray w (Gives mk Q w))
    (hk : ∀ (w0 : World) (gs : List Nat) (v : Value), Q w0 (fun g => g ∈ gs) v → Holds cx ((d, .own gs (Frz w0 gs)) :: hdel H d) w0 → K (r v) ((d, .own gs (Frz w0 gs)) :: hdel H d)) : Called cx n args H K := by
  refine ⟨fun w hw => (h w hw).mono fun e w' hp => ?_⟩
  obtain ⟨v, gs, he, hg, hq, hb⟩ := hp
  have hn : cx.n0 ≤ w.heap.size := Nat.le_trans hw.n0 hw.keep.size
  have hh : Holds cx ((d, .own gs (Frz w' gs)) :: hdel H d) w' := by
    refine (hw.below hb).turn d _ (Keep.refl _ _ _) ⟨fun g hg' => ⟨Nat.le_trans hn (hg g hg').1, (hg g hg').2⟩, fun _ _ => rfl, fun w2 hw2 => hw2⟩ fun x hx g hgx => ⟨rfl, fun hm => ?_⟩
    have hlt := HB.lt (hw.ent x (hdel_mem hx).1) hgx
    have := (hg g hm).1
    omega
  exact ⟨r v, _, by rw [hr]; exact he, hh, hk w' gs v hq hh⟩
end Go.Proofs.YtdohcglpcgahaaaGreatDoor
