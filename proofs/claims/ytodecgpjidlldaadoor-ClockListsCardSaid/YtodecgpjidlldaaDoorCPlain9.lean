/-
  Work that ends and begins; times of two lists; how many spans a calendar tells. No program in sight.
-/
import Derived.Test.YtodecgpjidlldaaDoorCPlain8
set_option linter.unusedSimpArgs false
set_option linter.unusedVariables false
namespace Go.Proofs.YtodecgpjidlldaaDoor
open Go.RowKit Go.PlainAid
theorem cnt_far {l : List Sp} (h : okTo l l.length = true) (a : Int) {x : Int} (hx : 100000000 ≤ x) : cnt l a x = cnt l a 100000000 :=
  cntTo_far (fun i s _ hs => (ok_own h hs).2.2) hx
theorem fin_facts {l : List Sp} (h : okTo l l.length = true) {a m x : Int} (hm : 1 ≤ m) (hf : finL l a m = some x) : cnt l a x = m ∧ (∀ y, y < x → cnt l a y < m) ∧ x ≤ 100000000 ∧ a < x ∧ inB l (x - 1) = true := by
  obtain ⟨h1, h2⟩ := finTo_some h hm hf
  refine ⟨h1, h2, ?_, ?_, ?_⟩
  · rcases Int.lt_or_le 100000000 x with c | c
    · have := h2 100000000 c
      rw [← cnt_far h a (show (100000000 : Int) ≤ x by omega), h1] at this
      omega
    · exact c
  · rcases Int.lt_or_le a x with c | c
    · exact c
    · rw [cnt_self l c] at h1
      omega
  · cases hb : inB l (x - 1)
    · have e : cnt l a (x - 1 + 1) = cnt l a (x - 1) := cntTo_out hb _
      have := h2 (x - 1) (by omega)
      rw [show x - 1 + 1 = x by omega, h1] at e
      omega
    · rfl
theorem fin_some_of {l : List Sp} (h : okTo l l.length = true) {a m : Int} (hm : 1 ≤ m) (hc : m ≤ cnt l a 100000000) : ∃ x, finL l a m = some x := by
  cases hf : finL l a m with
  | some x => exact ⟨x, rfl⟩
  | none =>
    have := fin_none h hm hf
    omega
theorem fin_iff {l : List Sp} (h : okTo l l.length = true) {a m : Int} (hm : 1 ≤ m) : finL l a m = none ↔ cnt l a 100000000 < m := by
  constructor
  · exact fin_none h hm
  · intro hc
    cases hf : finL l a m with
    | none => rfl
    | some x =>
      obtain ⟨h1, _, h3, _⟩ := fin_facts h hm hf
      have := cnt_mono l (a := a) h3
      omega
theorem fin_le {l : List Sp} (h : okTo l l.length = true) {a m y : Int} (hm : 1 ≤ m) (hc : m ≤ cnt l a y) : ∃ x, finL l a m = some x ∧ x ≤ y := by
  have h1 : m ≤ cnt l a 100000000 := by
    rcases Int.le_total y 100000000 with c | c
    · have := cnt_mono l (a := a) c
      omega
    · rw [← cnt_far h a c]; exact hc
  obtain ⟨x, hx⟩ := fin_some_of h hm h1
  obtain ⟨_, h2, _⟩ := fin_facts h hm hx
  refine ⟨x, hx, ?_⟩
  rcases Int.lt_or_le y x with c | c
  · have := h2 y c
    omega
  · exact c
theorem later1 {l : List Sp} (h : okTo l l.length = true) {a m k b : Int} (hm : 1 ≤ m) (hk : 1 ≤ k) (hf : finL l a (m + k) = some b) : ∃ x, finL l a m = some x ∧ x < b := by
  obtain ⟨h1, _⟩ := fin_facts h (show 1 ≤ m + k by omega) hf
  obtain ⟨x, hx, hxb⟩ := fin_le h (a := a) (m := m) (y := b) hm (by omega)
  refine ⟨x, hx, ?_⟩
  obtain ⟨h2, _⟩ := fin_facts h hm hx
  rcases Int.lt_or_le x b with c | c
  · exact c
  · obtain rfl : x = b := by omega
    omega
theorem later2 {l : List Sp} (h : okTo l l.length = true) {a a' m c : Int} (hm : 1 ≤ m) (ha : a ≤ a') (hf : finL l a' m = some c) : ∃ x, finL l a m = some x ∧ x ≤ c := by
  obtain ⟨h1, _⟩ := fin_facts h hm hf
  have := cnt_anti l (c := c) ha
  exact fin_le h hm (by omega)
theorem later3 {l : List Sp} (h : okTo l l.length = true) {a m k x : Int} (hm : 1 ≤ m) (hk : 1 ≤ k) (hf : finL l a m = some x) : finL l x k = finL l a (m + k) := by
  obtain ⟨h1, h2, h3, h4, _⟩ := fin_facts h hm hf
  cases hd : finL l x k with
  | none =>
    rw [fin_iff h hk] at hd
    symm
    rw [fin_iff h (by omega), cnt_add h (b := x) (by omega) h3]
    omega
  | some d =>
    obtain ⟨g1, g2, g3, g4, _⟩ := fin_facts h hk hd
    have e : cnt l a d = m + k := by rw [cnt_add h (b := x) (by omega) (by omega)]; omega
    obtain ⟨b, hb, hbd⟩ := fin_le h (a := a) (m := m + k) (y := d) (by omega) (by omega)
    rw [hb]
    congr 1
    refine fin_least h (by omega) hb (by omega) fun z hz => ?_
    rcases Int.le_total z x with c | c
    · have := cnt_mono l (a := a) c
      omega
    · rw [cnt_add h (b := x) (by omega) c]
      have := g2 z hz
      omega
theorem fit1 {l : List Sp} (h : okTo l l.length = true) {a m k y : Int} (hm : 1 ≤ m) (hk : 0 ≤ k) (hf : fitL l a (m + k) = some y) : ∃ x, fitL l a m = some x ∧ x ≤ y := by
  obtain ⟨i, s, h1, h2, h3, h4, h5⟩ := fit_there hf
  cases hx : fitL l a m with
  | none => exact (fit_never hx h1 h3 (by omega) h5).elim
  | some x => exact ⟨x, rfl, fit_least h hx h1 h3 (by omega) h5 hm⟩
theorem fit2 {l : List Sp} (h : okTo l l.length = true) {a a' m y : Int} (hm : 1 ≤ m) (ha : a ≤ a') (hf : fitL l a' m = some y) : ∃ x, fitL l a m = some x ∧ x ≤ y := by
  obtain ⟨i, s, h1, h2, h3, h4, h5⟩ := fit_there hf
  cases hx : fitL l a m with
  | none => exact (fit_never hx h1 h3 h4 (by omega)).elim
  | some x => exact ⟨x, rfl, fit_least h hx h1 h3 h4 (by omega) hm⟩
theorem cnt_fit {l : List Sp} (h : okTo l l.length = true) {a m x : Int} (hm : 1 ≤ m) (hf : fitL l a m = some x) : cnt l x (x + m) = m ∧ x + m ≤ 100000000 ∧ a ≤ x := by
  obtain ⟨i, s, h1, h2, h3, h4, h5⟩ := fit_there hf
  have ho := ok_own h h1
  obtain ⟨n, rfl⟩ : ∃ n : Nat, m = n := ⟨m.toNat, by omega⟩
  exact ⟨cnt_one h h1 h3 h4, by omega, h5⟩
theorem fit_fin {l : List Sp} (h : okTo l l.length = true) {a m x : Int} (hm : 1 ≤ m) (hf : fitL l a m = some x) : ∃ e, finL l a m = some e ∧ e ≤ x + m := by
  obtain ⟨h1, h2, h3⟩ := cnt_fit h hm hf
  have := cnt_anti l (c := x + m) h3
  exact fin_le h hm (by omega)
theorem fit_first {l : List Sp} (h : okTo l l.length = true) {a m x y : Int} (hm : 1 ≤ m) (hf : fitL l a m = some x) (hy : a ≤ y) (hyx : y < x) : cnt l y (y + m) ≠ m := by
  intro e
  obtain ⟨n, rfl⟩ : ∃ n : Nat, m = n := ⟨m.toNat, by omega⟩
  obtain ⟨i, s, hs, h1, h2⟩ := all_one h (by omega) e
  have := fit_least h hf hs h1 h2 hy hm
  omega
theorem fit_no {l : List Sp} {a m : Int} (hf : fitL l a m = none) {s : Sp} (hs : s ∈ l) : s.t - max s.f a < m := by
  obtain ⟨i, hi⟩ := List.getElem?_of_mem hs
  have := fitTo_none hf i s (List.getElem?_eq_some_iff.1 hi).1 hi
  omega
theorem cntP_le {p q : Int → Bool} (hpq : ∀ y, p y = true → q y = true) (a : Int) (n : Nat) : cntP p a n ≤ cntP q a n := by
  induction n with
  | zero => exact Int.le_refl _
  | succ n ih =>
    rw [cntP, cntP]
    cases hp : p (a + n)
    · simp only [Bool.false_eq_true, if_false]
      split <;> omega
    · rw [hpq _ hp]
      simp only [if_true]
      omega
theorem cntP_both (p q : Int → Bool) (a : Int) (n : Nat) : cntP p a n + cntP q a n - cntP (fun y => p y && q y) a n ≤ n := by
  induction n with
  | zero => exact Int.le_refl _
  | succ n ih =>
    rw [cntP, cntP, cntP]
    cases hp : p (a + n) <;> cases hq : q (a + n) <;> simp <;> omega
theorem both_cnt {s t : List Sp} (hs : okTo s s.length = true) (ht : okTo t t.length = true) {a b : Int} (hab : a ≤ b) :
    cnt (bothL s t) a b ≤ cnt s a b ∧ cnt (bothL s t) a b ≤ cnt t a b ∧ cnt s a b + cnt t a b - cnt (bothL s t) a b ≤ b - a := by
  obtain ⟨n, rfl⟩ : ∃ n : Nat, b = a + n := ⟨(b - a).toNat, by omega⟩
  rw [cnt_P hs, cnt_P ht, cnt_P (both_ok hs ht), show inB (bothL s t) = fun y => inB s y && inB t y from funext (inB_both s t)]
  refine ⟨cntP_le (fun y hy => ?_) a n, cntP_le (fun y hy => ?_) a n, ?_⟩
  · rw [Bool.and_eq_true] at hy; exact hy.1
  · rw [Bool.and_eq_true] at hy; exact hy.2
  · have := cntP_both (inB s) (inB t) a n
    omega
/-- where a calendar begins to be open -/
theorem opn_begin {w c : List Sp} (hw : ∀ s ∈ w, 0 ≤ s.f) {y : Int} (h1 : opn w c y = true) (h2 : opn w c (y - 1) = false) : (∃ s ∈ w, y = s.f + 10080 * (y / 10080)) ∨ ∃ r ∈ c, y = r.t := by
  unfold opn at h1 h2
  rw [Bool.and_eq_true, Bool.not_eq_true'] at h1
  rw [Bool.and_eq_false_iff, Bool.not_eq_false'] at h2
  obtain ⟨s, hs, h3, h4⟩ := inB_mem.1 h1.1
  rcases h2 with h2 | h2
  · left
    refine ⟨s, hs, ?_⟩
    have h5 := inB_no h2 hs
    have h6 := hw s hs
    omega
  · right
    obtain ⟨r, hr, h5, h6⟩ := inB_mem.1 h2
    have h7 := inB_no h1.2 hr
    exact ⟨r, hr, by omega⟩
theorem opn_few {w c : List Sp} (hw : ∀ s ∈ w, 0 ≤ s.f) {x : Int} (hx : 0 ≤ x) {n : Nat} (hn : n ≤ 5000) (hxn : x + n ≤ 100000000) : (runs (opn w c) x n).length ≤ 2 * w.length + c.length + 1 := by
  have h := runs_few (opn w c) hx hxn (w.map (fun s => s.f + 10080 * (x / 10080)) ++ w.map (fun s => s.f + 10080 * (x / 10080 + 1)) ++ c.map (·.t)) (fun y h1 h2 h3 h4 => by
    rw [List.mem_append, List.mem_append]
    rcases opn_begin hw h3 h4 with ⟨s, hs, h5⟩ | ⟨r, hr, h5⟩
    · have h6 : y / 10080 = x / 10080 ∨ y / 10080 = x / 10080 + 1 := by omega
      rcases h6 with h6 | h6
      · exact .inl (.inl (List.mem_map.2 ⟨s, hs, by rw [← h6]; exact h5.symm⟩))
      · exact .inl (.inr (List.mem_map.2 ⟨s, hs, by rw [← h6]; exact h5.symm⟩))
    · exact .inr (List.mem_map.2 ⟨r, hr, h5.symm⟩))
  simp only [List.length_append, List.length_map] at h
  omega
end Go.Proofs.YtodecgpjidlldaaDoor
