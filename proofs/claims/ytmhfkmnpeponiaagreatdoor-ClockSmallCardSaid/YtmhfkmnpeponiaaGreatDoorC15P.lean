/-
  When a calendar is open: what is told, and where the program stands.
-/
import Derived.Test.YtmhfkmnpeponiaaGreatDoorC13
import Derived.Test.YtmhfkmnpeponiaaGreatDoorC3
import Derived.Test.YtmhfkmnpeponiaaGreatDoorCQ
namespace Go.Proofs.YtmhfkmnpeponiaaGreatDoor
open Go Sat Go.RowKit Go.PlainAid
set_option linter.unusedSimpArgs false
set_option linter.unusedVariables false
def snOk (l c : List Sp) (a b : Int) : Bool := calOk l c && orderedB a b
def snR (l c : List Sp) (a b : Int) : List Sp := toldAt (opn l c) a b b
def snL (l c : List Sp) (a b : Int) : List Sp := if snOk l c a b ∧ (snR l c a b).length ≤ 1000 then snR l c a b else []
def snE (l c : List Sp) (a b : Int) : Int := if snOk l c a b then (if (snR l c a b).length ≤ 1000 then 0 else 5) else 2
theorem sn_no {l c : List Sp} {a b : Int} (h : snOk l c a b = false) : snL l c a b = [] ∧ snE l c a b = 2 := by unfold snL snE; rw [h]; exact ⟨rfl, rfl⟩
theorem sn_yes {l c : List Sp} {a b : Int} (h : snOk l c a b = true) (h2 : (snR l c a b).length ≤ 1000) : snL l c a b = snR l c a b ∧ snE l c a b = 0 := by unfold snL snE; rw [h, if_pos ⟨rfl, h2⟩, if_pos h2]; exact ⟨rfl, rfl⟩
theorem sn_many {l c : List Sp} {a b : Int} (h : snOk l c a b = true) (h2 : ¬ (snR l c a b).length ≤ 1000) : snL l c a b = [] ∧ snE l c a b = 5 := by unfold snL snE; rw [h, if_neg (fun hc => h2 hc.2), if_neg h2]; exact ⟨rfl, rfl⟩
theorem calOk_all (l c : List Sp) : calOk l c = (l.all (fun s => decide (s.t ≤ 10080)) && (apart l && apart c && decide (l.length ≤ 50) && decide (c.length ≤ 200))) := by
  unfold calOk
  cases h : apart l
  · simp
  have hok : okTo l l.length = true := by
    unfold apart at h
    rw [Bool.and_eq_true] at h
    exact h.1
  rw [Bool.eq_iff_iff]
  simp only [Bool.and_eq_true, decide_eq_true_eq, Bool.true_and, List.all_eq_true]
  constructor
  · rintro ⟨⟨⟨h1, h2⟩, h3⟩, h4⟩
    refine ⟨fun s hm => ?_, ⟨h1, h2⟩, h3⟩
    obtain ⟨j, hs⟩ := List.getElem?_of_mem hm
    have hj := (List.getElem?_eq_some_iff.1 hs).1
    have hl := List.getElem?_eq_getElem (show l.length - 1 < l.length by omega)
    rw [hl] at h4
    simp only [decide_eq_true_eq] at h4
    have := ok_rise hok hs hl (by omega)
    omega
  · rintro ⟨h0, ⟨h1, h2⟩, h3⟩
    refine ⟨⟨⟨h1, h2⟩, h3⟩, ?_⟩
    cases hl : l[l.length - 1]? with
    | none => rfl
    | some s => simpa using h0 s (List.mem_of_getElem? hl)
theorem cal_week {l c : List Sp} (h : calOk l c = true) : ∀ (j : Nat) (s : Sp), l[j]? = some s → s.t ≤ 10080 := by
  rw [calOk_all] at h
  simp only [Bool.and_eq_true, List.all_eq_true, decide_eq_true_eq] at h
  exact fun j s hs => h.1 s (List.mem_of_getElem? hs)
/-- where the i-th span of the m-th week begins, or the next week -/
def beg (l : List Sp) (m : Int) (i : Nat) : Int := match l[i]? with
  | some s => s.f + 10080 * m
  | none => 10080 * m + 10080
theorem beg_at {l : List Sp} {m : Int} {i : Nat} {s : Sp} (h : l[i]? = some s) : beg l m i = s.f + 10080 * m := by unfold beg; rw [h]
theorem beg_end {l : List Sp} {m : Int} {i : Nat} (h : l.length ≤ i) : beg l m i = 10080 * m + 10080 := by unfold beg; rw [List.getElem?_eq_none h]
theorem beg_ge {l : List Sp} (h : okTo l l.length = true) (m : Int) (i : Nat) : 10080 * m ≤ beg l m i := by
  unfold beg
  split
  · rename_i s hs
    have := ok_own h hs
    omega
  · omega
theorem beg_le {l : List Sp} (h : okTo l l.length = true) (hw : ∀ (j : Nat) (s : Sp), l[j]? = some s → s.t ≤ 10080) (m : Int) (i : Nat) : beg l m i ≤ 10080 * m + 10080 := by
  unfold beg
  split
  · rename_i s hs
    have := ok_own h hs
    have := hw i s hs
    omega
  · omega
/-- the first span of a week: nothing is open from the week's begin on -/
theorem beg_gap {l : List Sp} (h : okTo l l.length = true) (hw : ∀ (j : Nat) (s : Sp), l[j]? = some s → s.t ≤ 10080) {m y : Int} (h0 : 10080 * m ≤ y) (h1 : y < beg l m 0) : inB l (y % 10080) = false := by
  have hb := beg_le h hw m 0
  refine week_gap (i := 0) (m := m) h hw h0 (by omega) (fun j s hj => absurd hj (by omega)) (fun s hs => ?_)
  rw [beg_at hs] at h1
  exact h1
theorem next_gap {l : List Sp} (h : okTo l l.length = true) (hw : ∀ (j : Nat) (s : Sp), l[j]? = some s → s.t ≤ 10080) {m y : Int} {i : Nat} {s : Sp} (hs : l[i]? = some s) (h0 : s.t + 10080 * m ≤ y) (h1 : y < beg l m (i + 1)) : inB l (y % 10080) = false := by
  have hb := beg_le h hw m (i + 1)
  have ho := ok_own h hs
  refine week_gap (i := i + 1) (m := m) h hw (by omega) (by omega) (fun j r hj hr => ?_) (fun r hr => ?_)
  · have := ok_rise h hr hs (by omega)
    omega
  · rw [beg_at hr] at h1
    exact h1
theorem sn_first {l c : List Sp} (h : okTo l l.length = true) (hw : ∀ (j : Nat) (s : Sp), l[j]? = some s → s.t ≤ 10080) {x to : Int} {ci : Nat} (hx : 0 ≤ x) (hb : Bh c x ci) : Inn l c x to (beg l (x / 10080) 0) (10080 * (x / 10080)) ci :=
  inn_first hb (beg_ge h _ _) (fun y h1 h2 _ _ => beg_gap h hw h1 h2)
theorem sn_week {l c : List Sp} (h : okTo l l.length = true) (hw : ∀ (j : Nat) (s : Sp), l[j]? = some s → s.t ≤ 10080) {x to m q : Int} {ci : Nat} (hI : Inn l c x to (10080 * m) q ci) : Inn l c x to (beg l m 0) q ci := by
  have hg := beg_ge h m 0
  refine ⟨Int.le_trans hI.le hg, fun y h1 h2 h3 h4 => ?_, fun j r hj hr => by have := hI.cl j r hj hr; omega⟩
  by_cases hy : y < 10080 * m
  · exact hI.no y h1 hy h3 h4
  · unfold opn
    rw [beg_gap h hw (by omega) h2]
    rfl
/-- nothing more is told -/
theorem sn_end {l c : List Sp} {x to a q : Int} {ci : Nat} (hxt : x ≤ to) (hI : Inn l c x to a q ci) (ha : to ≤ a) : toldAt (opn l c) x to q = toldAt (opn l c) x to to := by
  rw [← toldAt_past hxt ha]
  exact (toldAt_no hxt hI.le (fun y h1 h2 h3 h4 => hI.no y h1 h2 h3 h4)).symm
/-- ways that meet again, behind code with no other exits: the rest is out of sight -/
theorem sat_join0 {cx : Cx} {α : Type} (S : α → Env × Heap) (I : α → Prop) (hy : ∀ a, allYes cx.N (S a).1 = true) {c : Code} {K : Exit → Env → Heap → Prop} {f : Env} {H : Heap}
    (h : Sat cx c (fun e f H => match e with
      | .normal => Into cx S I f H
      | _ => False) f H) (hk : ∀ a, I a → K .normal (S a).1 (S a).2) : Sat cx c K f H := by
  refine ⟨fun a w hf hw => wpIn_mono (h.out a w hf hw) ?_⟩
  rintro e a2 w2 ⟨f2, H2, hf2, hw2, hq⟩
  cases e with
  | normal =>
    obtain ⟨y, hy1, h3, h4, h5⟩ := hq
    exact ⟨_, _, hf2.sub h3 (hy y) h5, hw2.sub h4, hk y hy1⟩
  | _ => exact hq.elim
/-- a block, entered -/
theorem sat_block {cx : Cx} {id : Nat} {c : Code} {K : Exit → Env → Heap → Prop} {f : Env} {H : Heap} (h : Walk cx c (fun e f H => match e with
    | .exit i => bif Nat.beq i id then K .normal f H else K (.exit i) f H
    | e => K e f H) f H) : Sat cx (.block id c) K f H := by
  refine ⟨fun a w hf hw => wpIn_block (wpIn_mono (h.out.out a w hf hw) ?_)⟩
  rintro e a' w' ⟨f', H', hf', hw', hk⟩
  cases e with
  | exit i =>
    simp only [Exit.inBlock]
    dsimp only at hk
    cases hb : Nat.beq i id
    · rw [hb] at hk
      have hne : i ≠ id := fun e' => by rw [e', show Nat.beq id id = true from by simp] at hb; cases hb
      rw [if_neg hne]
      exact ⟨f', H', hf', hw', hk⟩
    · rw [hb] at hk
      rw [if_pos (Nat.eq_of_beq_eq_true hb)]
      exact ⟨f', H', hf', hw', hk⟩
  | _ => exact ⟨f', H', hf', hw', hk⟩
/-- a side condition that is met at once: what is cheap first -/
theorem side2 {p q : Prop} (k : q) (h : p := by (first | eq_refl | with_reducible assumption | exact trivial | omega | (simp only [Grd.ob, Grd.and, InR, kb, Int.toNat_natCast, ByteArray.size_append, ByteArray.size_extract, Sat.strOf_len, List.length_cons, List.length_nil] <;> omega) | exact ⟨rfl, rfl⟩ | exact ⟨⟨rfl, rfl⟩, rfl⟩ | exact ⟨⟨rfl, rfl, rfl, rfl⟩, rfl, rfl⟩ | (intro h; exact h) | (intro h; exact absurd h Bool.false_ne_true) | exact h | exact congrArg Bool.not h | exact ⟨rfl, rfl, rfl, rfl⟩ | exact ⟨⟨rfl, rfl⟩, rfl, rfl⟩ | exact ⟨rfl, Nat.le_of_ble_eq_true rfl, rfl⟩ | exact Nat.le_of_ble_eq_true rfl | (intro _; exact Nat.le_of_ble_eq_true rfl) | (simp only [Grd.ob, Grd.and, InR, kb, Int.toNat_natCast, ByteArray.size_append, ByteArray.size_extract, Sat.strOf_len, List.length_cons, List.length_nil]; intro h; simp at h <;> omega) | (refine And.intro (by omega) ?_; simp only [ByteArray.size, List.size_toArray, List.length_cons, List.length_nil]; omega) | exact ⟨rfl, rfl, rfl, rfl, rfl⟩ | exact ⟨rfl, rfl, rfl, rfl, rfl, rfl⟩ | ((try dsimp only); unfold maxLen; omega) | (intro h; exact LoopState.noConfusion h) | (intro h; exact absurd (of_decide_eq_true h) (by omega)) | kernel_rfl)) : p ∧ q := ⟨h, k⟩
theorem sideL2 {p q r : Prop} (k : q) (h : p := by (first | eq_refl | with_reducible assumption | exact trivial | omega | (simp only [Grd.ob, Grd.and, InR, kb, Int.toNat_natCast, ByteArray.size_append, ByteArray.size_extract, Sat.strOf_len, List.length_cons, List.length_nil] <;> omega) | exact ⟨rfl, rfl⟩ | exact ⟨⟨rfl, rfl⟩, rfl⟩ | exact ⟨⟨rfl, rfl, rfl, rfl⟩, rfl, rfl⟩ | (intro h; exact h) | (intro h; exact absurd h Bool.false_ne_true) | exact h | exact congrArg Bool.not h | exact ⟨rfl, rfl, rfl, rfl⟩ | exact ⟨⟨rfl, rfl⟩, rfl, rfl⟩ | exact ⟨rfl, Nat.le_of_ble_eq_true rfl, rfl⟩ | exact Nat.le_of_ble_eq_true rfl | (intro _; exact Nat.le_of_ble_eq_true rfl) | (simp only [Grd.ob, Grd.and, InR, kb, Int.toNat_natCast, ByteArray.size_append, ByteArray.size_extract, Sat.strOf_len, List.length_cons, List.length_nil]; intro h; simp at h <;> omega) | (refine And.intro (by omega) ?_; simp only [ByteArray.size, List.size_toArray, List.length_cons, List.length_nil]; omega) | exact ⟨rfl, rfl, rfl, rfl, rfl⟩ | exact ⟨rfl, rfl, rfl, rfl, rfl, rfl⟩ | ((try dsimp only); unfold maxLen; omega) | (intro h; exact LoopState.noConfusion h) | (intro h; exact absurd (of_decide_eq_true h) (by omega)) | kernel_rfl)) : (p ∧ q) ∨ r := .inl ⟨h, k⟩
end Go.Proofs.YtmhfkmnpeponiaaGreatDoor
