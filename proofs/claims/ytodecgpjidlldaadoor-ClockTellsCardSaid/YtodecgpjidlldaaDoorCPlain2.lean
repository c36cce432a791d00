/-
  Spans that are apart: the first one that ends behind a time, whether a time is in one, how many times they have. No program in sight.
-/
import Derived.Test.YtodecgpjidlldaaDoorCPlain
set_option linter.unusedSimpArgs false
set_option linter.unusedVariables false
namespace Go.Proofs.YtodecgpjidlldaaDoor
open Go.RowKit Go.PlainAid
/-- i: the first span that ends behind a time -/
structure Bh (l : List Sp) (x : Int) (i : Nat) : Prop where
  le : i ≤ l.length
  lo : ∀ j s, j < i → l[j]? = some s → s.t ≤ x
  hi : ∀ j s, i ≤ j → l[j]? = some s → x < s.t
theorem Bh.eq {l : List Sp} {x : Int} {i k : Nat} (h : Bh l x i) (h' : Bh l x k) : i = k := by
  rcases Nat.lt_trichotomy i k with e | e | e
  · have hc := List.getElem?_eq_getElem (show i < l.length by have := h'.le; omega)
    have h1 := h.hi i _ (Nat.le_refl _) hc
    have h2 := h'.lo i _ e hc
    omega
  · exact e
  · have hc := List.getElem?_eq_getElem (show k < l.length by have := h.le; omega)
    have h1 := h'.hi k _ (Nat.le_refl _) hc
    have h2 := h.lo k _ e hc
    omega
/-- ends that rise -/
theorem ok_rise {l : List Sp} (h : okTo l l.length = true) {i j : Nat} {a b : Sp} (ha : l[i]? = some a) (hb : l[j]? = some b) (hij : i ≤ j) : a.t ≤ b.t := by
  rcases Nat.lt_or_ge i j with e | e
  · have h1 := ok_lt h ha hb e
    have h2 := ok_own h hb
    omega
  · obtain rfl : i = j := by omega
    rw [ha] at hb
    cases hb
    exact Int.le_refl _
/-- one look of the search: low and high sides meet -/
theorem bh_of {l : List Sp} (h : okTo l l.length = true) {x : Int} {i : Nat} (hi : i ≤ l.length) (h1 : ∀ s, 0 < i → l[i - 1]? = some s → s.t ≤ x) (h2 : ∀ s, l[i]? = some s → x < s.t) : Bh l x i := by
  refine ⟨hi, fun j s hj hs => ?_, fun j s hj hs => ?_⟩
  · have hc := List.getElem?_eq_getElem (show i - 1 < l.length by omega)
    have h3 := ok_rise h hs hc (by omega)
    have h4 := h1 _ (by omega) hc
    omega
  · have hjl := (List.getElem?_eq_some_iff.1 hs).1
    have hc := List.getElem?_eq_getElem (show i < l.length by omega)
    have h3 := ok_rise h hc hs hj
    have h4 := h2 _ hc
    omega
def inTo (l : List Sp) (x : Int) (n : Nat) : Bool := (List.range n).any fun i => match l[i]? with
  | none => false
  | some s => decide (s.f ≤ x) && decide (x < s.t)
theorem inTo_succ (l : List Sp) (x : Int) (n : Nat) : inTo l x (n + 1) = (inTo l x n || (match l[n]? with
  | none => false
  | some s => decide (s.f ≤ x) && decide (x < s.t))) := by unfold inTo; simp [List.range_succ]
def inB (l : List Sp) (x : Int) : Bool := inTo l x l.length
theorem inTo_some {l : List Sp} {x : Int} {n : Nat} : inTo l x n = true ↔ ∃ (i : Nat) (s : Sp), i < n ∧ l[i]? = some s ∧ s.f ≤ x ∧ x < s.t := by
  unfold inTo
  rw [List.any_eq_true]
  constructor
  · rintro ⟨i, hi, h⟩
    cases hs : l[i]? with
    | none => rw [hs] at h; cases h
    | some s =>
      rw [hs] at h
      simp only [Bool.and_eq_true, decide_eq_true_eq] at h
      exact ⟨i, s, by simpa using hi, hs, h.1, h.2⟩
  · rintro ⟨i, s, hi, hs, h1, h2⟩
    refine ⟨i, by simpa using hi, ?_⟩
    rw [hs]
    simp [h1, h2]
theorem inB_some {l : List Sp} {x : Int} : inB l x = true ↔ ∃ (i : Nat) (s : Sp), l[i]? = some s ∧ s.f ≤ x ∧ x < s.t := by
  unfold inB
  rw [inTo_some]
  constructor
  · rintro ⟨i, s, _, h⟩
    exact ⟨i, s, h⟩
  · rintro ⟨i, s, hs, h⟩
    exact ⟨i, s, (List.getElem?_eq_some_iff.1 hs).1, hs, h⟩
/-- the search tells whether a time is in a span -/
theorem in_bh {l : List Sp} (h : okTo l l.length = true) {x : Int} {i : Nat} (hb : Bh l x i) : inB l x = (match l[i]? with
  | none => false
  | some s => decide (s.f ≤ x)) := by
  cases hs : l[i]? with
  | none =>
    dsimp only
    rw [Bool.eq_false_iff]
    intro e
    obtain ⟨j, s, hj, h1, h2⟩ := inB_some.1 e
    have hil : l.length ≤ i := List.getElem?_eq_none_iff.1 hs
    have hjl := (List.getElem?_eq_some_iff.1 hj).1
    have := hb.lo j s (by omega) hj
    omega
  | some s =>
    dsimp only
    rw [Bool.eq_iff_iff, inB_some, decide_eq_true_eq]
    constructor
    · rintro ⟨j, r, hj, h1, h2⟩
      rcases Nat.lt_trichotomy j i with e | e | e
      · have := hb.lo j r e hj
        omega
      · subst e
        rw [hs] at hj
        cases hj
        exact h1
      · have h3 := ok_lt h hs hj e
        have h4 := ok_own h hs
        omega
    · intro h1
      exact ⟨i, s, hs, h1, hb.hi i s (Nat.le_refl _) hs⟩
/-- how many times of a span are from one time on and less than another one -/
def cnt1 (s : Sp) (a b : Int) : Int := max (min s.t b - max s.f a) 0
def cntTo (l : List Sp) (a b : Int) : Nat → Int
  | 0 => 0
  | n + 1 => cntTo l a b n + (match l[n]? with
    | none => 0
    | some s => cnt1 s a b)
def cnt (l : List Sp) (a b : Int) : Int := cntTo l a b l.length
theorem cntTo_at {l : List Sp} {a b : Int} {n : Nat} {s : Sp} (h : l[n]? = some s) : cntTo l a b (n + 1) = cntTo l a b n + cnt1 s a b := by rw [cntTo, h]
theorem cntTo_pos (l : List Sp) (a b : Int) : ∀ n, 0 ≤ cntTo l a b n := by
  intro n
  induction n with
  | zero => exact Int.le_refl _
  | succ n ih =>
    rw [cntTo]
    cases l[n]? with
    | none => simpa using ih
    | some s => simp only [cnt1, Int.max_def, Int.min_def]; (repeat' split) <;> omega
theorem cntTo_mono (l : List Sp) {a b c : Int} (h : b ≤ c) : ∀ n, cntTo l a b n ≤ cntTo l a c n := by
  intro n
  induction n with
  | zero => exact Int.le_refl _
  | succ n ih =>
    rw [cntTo, cntTo]
    cases l[n]? with
    | none => simpa using ih
    | some s => simp only [cnt1, Int.max_def, Int.min_def]; (repeat' split) <;> omega
/-- the times up to one that lies behind spans do not change -/
theorem cntTo_far {l : List Sp} {a b c : Int} {n : Nat} (h : ∀ i s, i < n → l[i]? = some s → s.t ≤ b) (hbc : b ≤ c) : cntTo l a c n = cntTo l a b n := by
  induction n with
  | zero => rfl
  | succ n ih =>
    rw [cntTo, cntTo, ih (fun i s hi hs => h i s (by omega) hs)]
    cases hs : l[n]? with
    | none => rfl
    | some s =>
      have := h n s (by omega) hs
      simp only [cnt1, Int.max_def, Int.min_def]
      (repeat' split) <;> omega
/-- spans that begin at a time or later have none of the times ahead of it -/
theorem cntTo_late {l : List Sp} {a b : Int} {n m : Nat} (hnm : n ≤ m) (h : ∀ i s, n ≤ i → l[i]? = some s → b ≤ s.f) : cntTo l a b m = cntTo l a b n := by
  obtain ⟨d, rfl⟩ : ∃ d, m = n + d := ⟨m - n, by omega⟩
  clear hnm
  induction d with
  | zero => rfl
  | succ d ih =>
    rw [← Nat.add_assoc, cntTo, ih]
    cases hs : l[n + d]? with
    | none => simp
    | some s =>
      have := h (n + d) s (by omega) hs
      simp only [cnt1, Int.max_def, Int.min_def]
      (repeat' split) <;> omega
/-- the end of work that may be interrupted: the first n spans do not suffice, the next one does -/
theorem fin_at {l : List Sp} (h : okTo l l.length = true) {a m : Int} {n : Nat} {s : Sp} (hs : l[n]? = some s) (h1 : cntTo l a 100000000 n < m) (h2 : m ≤ cntTo l a 100000000 n + max (s.t - max s.f a) 0) :
    cnt l a (max s.f a + (m - cntTo l a 100000000 n)) = m ∧ ∀ x, x < max s.f a + (m - cntTo l a 100000000 n) → cnt l a x < m := by
  have hn := (List.getElem?_eq_some_iff.1 hs).1
  obtain ⟨o1, o2, o3⟩ := ok_own h hs
  obtain ⟨e, he⟩ : ∃ e, e = max s.f a + (m - cntTo l a 100000000 n) := ⟨_, rfl⟩
  rw [← he]
  have hes : e ≤ s.t := by omega
  have hfe : s.f ≤ e := by omega
  have hfar : cntTo l a e n = cntTo l a 100000000 n := by
    have hb : ∀ i r, i < n → l[i]? = some r → r.t ≤ e := fun i r hi hr => by
      have := ok_lt h hr hs hi
      omega
    exact (cntTo_far hb (by omega)).symm
  have hall : ∀ x, x ≤ e → cnt l a x = cntTo l a x n + cnt1 s a x := fun x hx => by
    unfold cnt
    rw [cntTo_late (n := n + 1) (m := l.length) hn (fun i r hi hr => by
      have := ok_lt h hs hr (by omega)
      omega), cntTo_at hs]
  refine ⟨?_, fun x hx => ?_⟩
  · rw [hall e (Int.le_refl _), hfar]
    simp only [cnt1, Int.max_def, Int.min_def] at *
    (repeat' split) <;> omega
  · rw [hall x (by omega)]
    have := cntTo_mono l (a := a) (show x ≤ e by omega) n
    simp only [cnt1, Int.max_def, Int.min_def] at *
    (repeat' split) <;> omega
end Go.Proofs.YtodecgpjidlldaaDoor
