/-
  Plain functions of the chapter: spans, lists of them, what is told time by time. No program in sight. Spans that are apart: the first one that ends behind a time, whether a time is in one, how many times they have. No program in sight. When work begins that must not be interrupted; the least time found by halving; high waters. No program in sight. Tides: high waters, windows time by time. No program in sight. Calendars time by time: what is told up to a time; when a calendar is open. No program in sight. A calendar's spans: one that is closed, and what is left of a span. No program in sight. What two lists of spans have in common. No program in sight. Lists of spans that are apart: their times one by one; the one list that has given times. No program in sight. Work that ends and begins; times of two lists; how many spans a calendar tells. No program in sight.
-/
import Derived.RowKit3
import Derived.PlainAid
set_option linter.unusedSimpArgs false
set_option linter.unusedVariables false
namespace Go.Proofs.YtmhfkmnpeponiaaGreatDoor
section
open Go.RowKit Go.PlainAid
structure Sp where
  f : Int
  t : Int
def sC (s : Sp) : List Value := [.int .i64 s.f, .int .i64 s.t]
def sps (l : List Sp) : List Value := l.flatMap sC
theorem sps_len (l : List Sp) : (sps l).length = l.length * 2 := by
  unfold sps
  induction l with
  | nil => rfl
  | cons c l ih => rw [List.flatMap_cons, List.length_append, ih, List.length_cons]; simp [sC]; omega
theorem sps_app (a b : List Sp) : sps (a ++ b) = sps a ++ sps b := by unfold sps; rw [List.flatMap_append]
theorem sps_cons (c : Sp) (b : List Sp) : sps (c :: b) = sC c ++ sps b := by unfold sps; rw [List.flatMap_cons]
theorem sps_get {l : List Sp} {k : Nat} {c : Sp} (h : l[k]? = some c) : (sps l)[k * 2]? = some (.int .i64 c.f) ∧ (sps l)[k * 2 + 1]? = some (.int .i64 c.t) := by
  induction l generalizing k with
  | nil => simp at h
  | cons x l ih =>
    rw [sps_cons]
    cases k with
    | zero => simp at h; subst h; simp [sC]
    | succ k =>
      have := ih (by simpa using h)
      have e : (k + 1) * 2 = 2 + k * 2 := by omega
      have hl : (sC x).length = 2 := rfl
      rw [e]
      refine ⟨?_, ?_⟩
      · rw [List.getElem?_append_right (by rw [hl]; omega), hl, Nat.add_sub_cancel_left]; exact this.1
      · rw [Nat.add_assoc, List.getElem?_append_right (by rw [hl]; omega), hl, Nat.add_sub_cancel_left]; exact this.2
/-- a span that is right where it stands -/
def okAt (l : List Sp) (i : Nat) : Bool := match l[i]? with
  | none => true
  | some s => decide (0 ≤ s.f) && decide (s.f < s.t) && decide (s.t ≤ 100000000) && (match i with
    | 0 => true
    | j + 1 => match l[j]? with
      | none => true
      | some r => decide (r.t < s.f))
def okTo (l : List Sp) (n : Nat) : Bool := (List.range n).all (okAt l)
theorem okTo_succ (l : List Sp) (n : Nat) : okTo l (n + 1) = (okTo l n && okAt l n) := by unfold okTo; simp [List.range_succ]
theorem okTo_at {l : List Sp} {n i : Nat} (h : okTo l n = true) (hi : i < n) : okAt l i = true := by
  unfold okTo at h
  rw [List.all_eq_true] at h
  exact h i (by simpa using hi)
def apart (l : List Sp) : Bool := okTo l l.length && decide (l.length ≤ 1000)
theorem ok_own {l : List Sp} (h : okTo l l.length = true) {i : Nat} {a : Sp} (ha : l[i]? = some a) : 0 ≤ a.f ∧ a.f < a.t ∧ a.t ≤ 100000000 := by
  have hi := (List.getElem?_eq_some_iff.1 ha).1
  have := okTo_at h hi
  unfold okAt at this
  rw [ha] at this
  simp only [Bool.and_eq_true, decide_eq_true_eq] at this
  exact ⟨this.1.1.1, this.1.1.2, this.1.2⟩
theorem ok_next {l : List Sp} (h : okTo l l.length = true) {i : Nat} {a b : Sp} (ha : l[i]? = some a) (hb : l[i + 1]? = some b) : a.t < b.f := by
  have hi := (List.getElem?_eq_some_iff.1 hb).1
  have := okTo_at h hi
  unfold okAt at this
  rw [hb] at this
  dsimp only at this
  rw [ha] at this
  simp only [Bool.and_eq_true, decide_eq_true_eq] at this
  exact this.2
theorem ok_lt {l : List Sp} (h : okTo l l.length = true) {i j : Nat} {a b : Sp} (ha : l[i]? = some a) (hb : l[j]? = some b) (hij : i < j) : a.t < b.f := by
  obtain ⟨d, rfl⟩ : ∃ d, j = i + 1 + d := ⟨j - i - 1, by omega⟩
  clear hij
  induction d generalizing b with
  | zero => exact ok_next h ha hb
  | succ d ih =>
    have hj := (List.getElem?_eq_some_iff.1 hb).1
    have hc := List.getElem?_eq_getElem (show i + 1 + d < l.length by omega)
    have h1 := ih hc
    have h2 := ok_own h hc
    have h3 := ok_next h hc (by rw [← hb]; rfl)
    omega
/-- one time more behind spans, one span more -/
def addT (l : List Sp) (x : Int) : List Sp := match l.getLast? with
  | none => [⟨x, x + 1⟩]
  | some s => if s.t = x then l.dropLast ++ [⟨s.f, x + 1⟩] else l ++ [⟨x, x + 1⟩]
def addS (l : List Sp) (a b : Int) : List Sp := if a < b then (match l.getLast? with
  | none => [⟨a, b⟩]
  | some s => if s.t = a then l.dropLast ++ [⟨s.f, b⟩] else l ++ [⟨a, b⟩]) else l
theorem addS_no {l : List Sp} {a b : Int} (h : ¬ a < b) : addS l a b = l := if_neg h
theorem addS_one (l : List Sp) (a : Int) : addT l a = addS l a (a + 1) := by
  unfold addS addT
  rw [if_pos (by omega)]
theorem addS_last (l : List Sp) {a b : Int} (h : a < b) : ∃ m s, addS l a b = m ++ [s] ∧ s.t = b ∧ ∀ c, b < c → addS l a c = m ++ [⟨s.f, c⟩] := by
  unfold addS
  rw [if_pos h]
  cases hl : l.getLast? with
  | none => exact ⟨[], ⟨a, b⟩, rfl, rfl, fun c hc => by rw [if_pos (by omega)]; rfl⟩
  | some s =>
    dsimp only
    by_cases e : s.t = a
    · rw [if_pos e]
      exact ⟨l.dropLast, ⟨s.f, b⟩, rfl, rfl, fun c hc => by rw [if_pos (by omega), if_pos e]⟩
    · rw [if_neg e]
      exact ⟨l, ⟨a, b⟩, rfl, rfl, fun c hc => by rw [if_pos (by omega), if_neg e]⟩
theorem addT_addS (l : List Sp) {a b : Int} (h : a ≤ b) : addT (addS l a b) b = addS l a (b + 1) := by
  by_cases e : a = b
  · subst e
    rw [addS_no (by omega), addS_one]
  · obtain ⟨m, s, h1, h2, h3⟩ := addS_last l (show a < b by omega)
    rw [h1, h3 (b + 1) (by omega)]
    unfold addT
    rw [List.getLast?_concat, List.dropLast_concat]
    dsimp only
    rw [if_pos h2]
/-- the times at which something is so, n of them from x on, as spans -/
def runs (p : Int → Bool) (x : Int) : Nat → List Sp
  | 0 => []
  | n + 1 => if p (x + n) then addT (runs p x n) (x + n) else runs p x n
theorem runs_no {p : Int → Bool} {x : Int} {n : Nat} : ∀ {d : Nat}, (∀ y : Int, x + n ≤ y → y < x + (n + d : Nat) → p y = false) → runs p x (n + d) = runs p x n := by
  intro d
  induction d with
  | zero => intro _; rfl
  | succ d ih =>
    intro h
    rw [← Nat.add_assoc, runs, h (x + (n + d : Nat)) (by omega) (by omega)]
    exact ih (fun y h1 h2 => h y h1 (by omega))
theorem runs_yes {p : Int → Bool} {x : Int} {n : Nat} : ∀ {d : Nat}, (∀ y : Int, x + n ≤ y → y < x + (n + d : Nat) → p y = true) → runs p x (n + d) = addS (runs p x n) (x + n) (x + (n + d : Nat)) := by
  intro d
  induction d with
  | zero => intro _; rw [addS_no (by omega)]; rfl
  | succ d ih =>
    intro h
    rw [← Nat.add_assoc, runs, h (x + (n + d : Nat)) (by omega) (by omega), if_pos rfl, ih (fun y h1 h2 => h y h1 (by omega)), addT_addS _ (by omega)]
    congr 1
    omega
/-- what is told as one span: not so from n on, so from n + d on -/
theorem runs_step {p : Int → Bool} {x : Int} {n d e : Nat} (h0 : ∀ y : Int, x + n ≤ y → y < x + (n + d : Nat) → p y = false) (h1 : ∀ y : Int, x + (n + d : Nat) ≤ y → y < x + (n + d + e : Nat) → p y = true) : runs p x (n + d + e) = addS (runs p x n) (x + (n + d : Nat)) (x + (n + d + e : Nat)) := by
  rw [runs_yes h1, runs_no h0]
theorem addT_len (l : List Sp) (x : Int) : l.length ≤ (addT l x).length := by
  unfold addT
  cases hl : l.getLast? with
  | none =>
    rw [List.getLast?_eq_none_iff] at hl
    subst hl
    exact Nat.zero_le _
  | some s =>
    dsimp only
    split
    · rw [List.length_append, List.length_dropLast]
      simp only [List.length_cons, List.length_nil]
      omega
    · rw [List.length_append]
      omega
theorem runs_len (p : Int → Bool) (x : Int) (n : Nat) : ∀ d : Nat, (runs p x n).length ≤ (runs p x (n + d)).length := by
  intro d
  induction d with
  | zero => exact Nat.le_refl _
  | succ d ih =>
    rw [← Nat.add_assoc, runs]
    split
    · exact Nat.le_trans ih (addT_len _ _)
    · exact ih
/-- a high water, told in two ways -/
theorem high_two {k num den : Int} (hd : 0 < den) : k * num / den = k / den * num + k % den * num / den := by
  have h : k * num = k % den * num + k / den * num * den := by
    have h1 := Int.emod_add_mul_ediv k den
    calc k * num = (k % den + den * (k / den)) * num := by rw [h1]
      _ = k % den * num + k / den * num * den := by
        rw [Int.add_mul, Int.mul_comm den, Int.mul_assoc, Int.mul_assoc, Int.mul_comm den]
  rw [h, Int.add_mul_ediv_right _ _ (by omega), Int.add_comm]
end
section
open Go.RowKit Go.PlainAid
/-- i: the first span that ends behind a time -/
structure Bh (l : List Sp) (x : Int) (i : Nat) : Prop where
  le : i ≤ l.length
  lo : ∀ j s, j < i → l[j]? = some s → s.t ≤ x
  hi : ∀ j s, i ≤ j → l[j]? = some s → x < s.t
theorem Bh.eq {l : List Sp} {x : Int} {i k : Nat} (h : Bh l x i) (h' : Bh l x k) : i = k := by
  rcases Nat.lt_trichotomy i k with e | e | e
  · have hc := List.getElem?_eq_getElem (show i < l.length by have := h'.le; omega)
    have h1 := h.hi i _ (Nat.le_refl _) hc
    have h2 := h'.lo i _ e hc
    omega
  · exact e
  · have hc := List.getElem?_eq_getElem (show k < l.length by have := h.le; omega)
    have h1 := h'.hi k _ (Nat.le_refl _) hc
    have h2 := h.lo k _ e hc
    omega
/-- ends that rise -/
theorem ok_rise {l : List Sp} (h : okTo l l.length = true) {i j : Nat} {a b : Sp} (ha : l[i]? = some a) (hb : l[j]? = some b) (hij : i ≤ j) : a.t ≤ b.t := by
  rcases Nat.lt_or_ge i j with e | e
  · have h1 := ok_lt h ha hb e
    have h2 := ok_own h hb
    omega
  · obtain rfl : i = j := by omega
    rw [ha] at hb
    cases hb
    exact Int.le_refl _
/-- one look of the search: low and high sides meet -/
theorem bh_of {l : List Sp} (h : okTo l l.length = true) {x : Int} {i : Nat} (hi : i ≤ l.length) (h1 : ∀ s, 0 < i → l[i - 1]? = some s → s.t ≤ x) (h2 : ∀ s, l[i]? = some s → x < s.t) : Bh l x i := by
  refine ⟨hi, fun j s hj hs => ?_, fun j s hj hs => ?_⟩
  · have hc := List.getElem?_eq_getElem (show i - 1 < l.length by omega)
    have h3 := ok_rise h hs hc (by omega)
    have h4 := h1 _ (by omega) hc
    omega
  · have hjl := (List.getElem?_eq_some_iff.1 hs).1
    have hc := List.getElem?_eq_getElem (show i < l.length by omega)
    have h3 := ok_rise h hc hs hj
    have h4 := h2 _ hc
    omega
def inTo (l : List Sp) (x : Int) (n : Nat) : Bool := (List.range n).any fun i => match l[i]? with
  | none => false
  | some s => decide (s.f ≤ x) && decide (x < s.t)
theorem inTo_succ (l : List Sp) (x : Int) (n : Nat) : inTo l x (n + 1) = (inTo l x n || (match l[n]? with
  | none => false
  | some s => decide (s.f ≤ x) && decide (x < s.t))) := by unfold inTo; simp [List.range_succ]
def inB (l : List Sp) (x : Int) : Bool := inTo l x l.length
theorem inTo_some {l : List Sp} {x : Int} {n : Nat} : inTo l x n = true ↔ ∃ (i : Nat) (s : Sp), i < n ∧ l[i]? = some s ∧ s.f ≤ x ∧ x < s.t := by
  unfold inTo
  rw [List.any_eq_true]
  constructor
  · rintro ⟨i, hi, h⟩
    cases hs : l[i]? with
    | none => rw [hs] at h; cases h
    | some s =>
      rw [hs] at h
      simp only [Bool.and_eq_true, decide_eq_true_eq] at h
      exact ⟨i, s, by simpa using hi, hs, h.1, h.2⟩
  · rintro ⟨i, s, hi, hs, h1, h2⟩
    refine ⟨i, by simpa using hi, ?_⟩
    rw [hs]
    simp [h1, h2]
theorem inB_some {l : List Sp} {x : Int} : inB l x = true ↔ ∃ (i : Nat) (s : Sp), l[i]? = some s ∧ s.f ≤ x ∧ x < s.t := by
  unfold inB
  rw [inTo_some]
  constructor
  · rintro ⟨i, s, _, h⟩
    exact ⟨i, s, h⟩
  · rintro ⟨i, s, hs, h⟩
    exact ⟨i, s, (List.getElem?_eq_some_iff.1 hs).1, hs, h⟩
/-- the search tells whether a time is in a span -/
theorem in_bh {l : List Sp} (h : okTo l l.length = true) {x : Int} {i : Nat} (hb : Bh l x i) : inB l x = (match l[i]? with
  | none => false
  | some s => decide (s.f ≤ x)) := by
  cases hs : l[i]? with
  | none =>
    dsimp only
    rw [Bool.eq_false_iff]
    intro e
    obtain ⟨j, s, hj, h1, h2⟩ := inB_some.1 e
    have hil : l.length ≤ i := List.getElem?_eq_none_iff.1 hs
    have hjl := (List.getElem?_eq_some_iff.1 hj).1
    have := hb.lo j s (by omega) hj
    omega
  | some s =>
    dsimp only
    rw [Bool.eq_iff_iff, inB_some, decide_eq_true_eq]
    constructor
    · rintro ⟨j, r, hj, h1, h2⟩
      rcases Nat.lt_trichotomy j i with e | e | e
      · have := hb.lo j r e hj
        omega
      · subst e
        rw [hs] at hj
        cases hj
        exact h1
      · have h3 := ok_lt h hs hj e
        have h4 := ok_own h hs
        omega
    · intro h1
      exact ⟨i, s, hs, h1, hb.hi i s (Nat.le_refl _) hs⟩
/-- how many times of a span are from one time on and less than another one -/
def cnt1 (s : Sp) (a b : Int) : Int := max (min s.t b - max s.f a) 0
def cntTo (l : List Sp) (a b : Int) : Nat → Int
  | 0 => 0
  | n + 1 => cntTo l a b n + (match l[n]? with
    | none => 0
    | some s => cnt1 s a b)
def cnt (l : List Sp) (a b : Int) : Int := cntTo l a b l.length
theorem cntTo_at {l : List Sp} {a b : Int} {n : Nat} {s : Sp} (h : l[n]? = some s) : cntTo l a b (n + 1) = cntTo l a b n + cnt1 s a b := by rw [cntTo, h]
theorem cntTo_pos (l : List Sp) (a b : Int) : ∀ n, 0 ≤ cntTo l a b n := by
  intro n
  induction n with
  | zero => exact Int.le_refl _
  | succ n ih =>
    rw [cntTo]
    cases l[n]? with
    | none => simpa using ih
    | some s => simp only [cnt1, Int.max_def, Int.min_def]; (repeat' split) <;> omega
theorem cntTo_mono (l : List Sp) {a b c : Int} (h : b ≤ c) : ∀ n, cntTo l a b n ≤ cntTo l a c n := by
  intro n
  induction n with
  | zero => exact Int.le_refl _
  | succ n ih =>
    rw [cntTo, cntTo]
    cases l[n]? with
    | none => simpa using ih
    | some s => simp only [cnt1, Int.max_def, Int.min_def]; (repeat' split) <;> omega
/-- the times up to one that lies behind spans do not change -/
theorem cntTo_far {l : List Sp} {a b c : Int} {n : Nat} (h : ∀ i s, i < n → l[i]? = some s → s.t ≤ b) (hbc : b ≤ c) : cntTo l a c n = cntTo l a b n := by
  induction n with
  | zero => rfl
  | succ n ih =>
    rw [cntTo, cntTo, ih (fun i s hi hs => h i s (by omega) hs)]
    cases hs : l[n]? with
    | none => rfl
    | some s =>
      have := h n s (by omega) hs
      simp only [cnt1, Int.max_def, Int.min_def]
      (repeat' split) <;> omega
/-- spans that begin at a time or later have none of the times ahead of it -/
theorem cntTo_late {l : List Sp} {a b : Int} {n m : Nat} (hnm : n ≤ m) (h : ∀ i s, n ≤ i → l[i]? = some s → b ≤ s.f) : cntTo l a b m = cntTo l a b n := by
  obtain ⟨d, rfl⟩ : ∃ d, m = n + d := ⟨m - n, by omega⟩
  clear hnm
  induction d with
  | zero => rfl
  | succ d ih =>
    rw [← Nat.add_assoc, cntTo, ih]
    cases hs : l[n + d]? with
    | none => simp
    | some s =>
      have := h (n + d) s (by omega) hs
      simp only [cnt1, Int.max_def, Int.min_def]
      (repeat' split) <;> omega
/-- the end of work that may be interrupted: the first n spans do not suffice, the next one does -/
theorem fin_at {l : List Sp} (h : okTo l l.length = true) {a m : Int} {n : Nat} {s : Sp} (hs : l[n]? = some s) (h1 : cntTo l a 100000000 n < m) (h2 : m ≤ cntTo l a 100000000 n + max (s.t - max s.f a) 0) :
    cnt l a (max s.f a + (m - cntTo l a 100000000 n)) = m ∧ ∀ x, x < max s.f a + (m - cntTo l a 100000000 n) → cnt l a x < m := by
  have hn := (List.getElem?_eq_some_iff.1 hs).1
  obtain ⟨o1, o2, o3⟩ := ok_own h hs
  obtain ⟨e, he⟩ : ∃ e, e = max s.f a + (m - cntTo l a 100000000 n) := ⟨_, rfl⟩
  rw [← he]
  have hes : e ≤ s.t := by omega
  have hfe : s.f ≤ e := by omega
  have hfar : cntTo l a e n = cntTo l a 100000000 n := by
    have hb : ∀ i r, i < n → l[i]? = some r → r.t ≤ e := fun i r hi hr => by
      have := ok_lt h hr hs hi
      omega
    exact (cntTo_far hb (by omega)).symm
  have hall : ∀ x, x ≤ e → cnt l a x = cntTo l a x n + cnt1 s a x := fun x hx => by
    unfold cnt
    rw [cntTo_late (n := n + 1) (m := l.length) hn (fun i r hi hr => by
      have := ok_lt h hs hr (by omega)
      omega), cntTo_at hs]
  refine ⟨?_, fun x hx => ?_⟩
  · rw [hall e (Int.le_refl _), hfar]
    simp only [cnt1, Int.max_def, Int.min_def] at *
    (repeat' split) <;> omega
  · rw [hall x (by omega)]
    have := cntTo_mono l (a := a) (show x ≤ e by omega) n
    simp only [cnt1, Int.max_def, Int.min_def] at *
    (repeat' split) <;> omega
end
section
open Go.RowKit Go.PlainAid
/-- when work can begin, looked for among the first n spans -/
def fitTo (l : List Sp) (a m : Int) : Nat → Option Int
  | 0 => none
  | n + 1 => match fitTo l a m n with
    | some x => some x
    | none => match l[n]? with
      | none => none
      | some s => if m ≤ s.t - max s.f a then some (max s.f a) else none
theorem fitTo_none {l : List Sp} {a m : Int} {n : Nat} (h : fitTo l a m n = none) : ∀ i s, i < n → l[i]? = some s → ¬ m ≤ s.t - max s.f a := by
  induction n with
  | zero => intro i s hi; omega
  | succ n ih =>
    intro i s hi hs
    rw [fitTo] at h
    cases hf : fitTo l a m n with
    | some x => rw [hf] at h; cases h
    | none =>
      rw [hf] at h
      by_cases e : i = n
      · subst e
        rw [hs] at h
        dsimp only at h
        intro hc
        rw [if_pos hc] at h
        cases h
      · exact ih hf i s (by omega) hs
theorem fitTo_some {l : List Sp} {a m x : Int} {n : Nat} (h : fitTo l a m n = some x) : ∃ (i : Nat) (s : Sp), i < n ∧ l[i]? = some s ∧ m ≤ s.t - max s.f a ∧ x = max s.f a ∧ ∀ j r, j < i → l[j]? = some r → ¬ m ≤ r.t - max r.f a := by
  induction n with
  | zero => cases h
  | succ n ih =>
    rw [fitTo] at h
    cases hf : fitTo l a m n with
    | some y =>
      rw [hf] at h
      cases h
      obtain ⟨i, s, h1, h2⟩ := ih hf
      exact ⟨i, s, by omega, h2⟩
    | none =>
      rw [hf] at h
      dsimp only at h
      cases hs : l[n]? with
      | none => rw [hs] at h; cases h
      | some s =>
        rw [hs] at h
        dsimp only at h
        by_cases hc : m ≤ s.t - max s.f a
        · rw [if_pos hc] at h
          cases h
          exact ⟨n, s, by omega, hs, hc, rfl, fun j r hj hr => fitTo_none hf j r hj hr⟩
        · rw [if_neg hc] at h
          cases h
def fitL (l : List Sp) (a m : Int) : Option Int := fitTo l a m l.length
/-- any time at which work can begin in a span is not ahead of the first one -/
theorem fit_least {l : List Sp} (h : okTo l l.length = true) {a m x y : Int} (hf : fitL l a m = some x) {k : Nat} {r : Sp} (hr : l[k]? = some r) (h1 : r.f ≤ y) (h2 : y + m ≤ r.t) (h3 : a ≤ y) (hm : 1 ≤ m) : x ≤ y := by
  obtain ⟨i, s, hi, hs, hc, rfl, hno⟩ := fitTo_some hf
  rcases Nat.lt_trichotomy k i with e | e | e
  · have := hno k r e hr
    simp only [Int.max_def] at *
    (repeat' split at *) <;> omega
  · subst e
    rw [hs] at hr
    cases hr
    simp only [Int.max_def] at *
    (repeat' split at *) <;> omega
  · have h4 := ok_lt h hs hr e
    simp only [Int.max_def] at *
    (repeat' split at *) <;> omega
theorem fit_never {l : List Sp} {a m y : Int} (hf : fitL l a m = none) {k : Nat} {r : Sp} (hr : l[k]? = some r) (h1 : r.f ≤ y) (h2 : y + m ≤ r.t) (h3 : a ≤ y) : False := by
  have := fitTo_none hf k r (List.getElem?_eq_some_iff.1 hr).1 hr
  simp only [Int.max_def] at *
  (repeat' split at *) <;> omega
theorem fit_there {l : List Sp} {a m x : Int} (hf : fitL l a m = some x) : ∃ (i : Nat) (s : Sp), l[i]? = some s ∧ x = max s.f a ∧ s.f ≤ x ∧ x + m ≤ s.t ∧ a ≤ x := by
  obtain ⟨i, s, hi, hs, hc, rfl, hno⟩ := fitTo_some hf
  refine ⟨i, s, hs, rfl, ?_, ?_, ?_⟩ <;> simp only [Int.max_def] at * <;> (repeat' split at *) <;> omega
/-- the end of work that may be interrupted, looked for among the first n spans; what is left -/
def finTo (l : List Sp) (a m : Int) : Nat → Option Int
  | 0 => none
  | n + 1 => match finTo l a m n with
    | some x => some x
    | none => match l[n]? with
      | none => none
      | some s => if cntTo l a 100000000 n + max (s.t - max s.f a) 0 < m then none else some (max s.f a + (m - cntTo l a 100000000 n))
def finL (l : List Sp) (a m : Int) : Option Int := finTo l a m l.length
theorem finTo_none {l : List Sp} (h : okTo l l.length = true) {a m : Int} {n : Nat} (hm : 1 ≤ m) (hf : finTo l a m n = none) : cntTo l a 100000000 n < m := by
  induction n with
  | zero => show 0 < m; omega
  | succ n ih =>
    rw [finTo] at hf
    cases hp : finTo l a m n with
    | some x => rw [hp] at hf; cases hf
    | none =>
      rw [hp] at hf
      dsimp only at hf
      have hi := ih hp
      cases hs : l[n]? with
      | none => rw [cntTo, hs]; simpa using hi
      | some s =>
        rw [hs] at hf
        dsimp only at hf
        rw [cntTo_at hs]
        have ho := ok_own h hs
        by_cases hc : cntTo l a 100000000 n + max (s.t - max s.f a) 0 < m
        · have e : cnt1 s a 100000000 = max (s.t - max s.f a) 0 := by
            unfold cnt1
            rw [Int.min_eq_left (by omega)]
          rw [e]
          exact hc
        · rw [if_neg hc] at hf
          cases hf
theorem finTo_some {l : List Sp} (h : okTo l l.length = true) {a m x : Int} {n : Nat} (hm : 1 ≤ m) (hf : finTo l a m n = some x) : cnt l a x = m ∧ ∀ y, y < x → cnt l a y < m := by
  induction n with
  | zero => cases hf
  | succ n ih =>
    rw [finTo] at hf
    cases hp : finTo l a m n with
    | some y => rw [hp] at hf; cases hf; exact ih hp
    | none =>
      rw [hp] at hf
      dsimp only at hf
      have hi := finTo_none h hm hp
      cases hs : l[n]? with
      | none => rw [hs] at hf; cases hf
      | some s =>
        rw [hs] at hf
        dsimp only at hf
        by_cases hc : cntTo l a 100000000 n + max (s.t - max s.f a) 0 < m
        · rw [if_pos hc] at hf; cases hf
        · rw [if_neg hc] at hf
          cases hf
          exact fin_at h hs hi (by omega)
/-- the least time with enough is the end of the work -/
theorem fin_least {l : List Sp} (h : okTo l l.length = true) {a m x y : Int} (hm : 1 ≤ m) (hf : finL l a m = some x) (h1 : m ≤ cnt l a y) (h2 : ∀ z, z < y → cnt l a z < m) : y = x := by
  obtain ⟨h3, h4⟩ := finTo_some h hm hf
  rcases Int.lt_trichotomy y x with e | e | e
  · have := h4 y e
    omega
  · exact e
  · have := h2 x e
    omega
theorem fin_none {l : List Sp} (h : okTo l l.length = true) {a m : Int} (hm : 1 ≤ m) (hf : finL l a m = none) : cnt l a 100000000 < m := finTo_none h hm hf
end
section
open Go.RowKit Go.PlainAid
structure Td where
  first : Int
  num : Int
  den : Int
  before : Int
  after : Int
/-- a tide that is right -/
structure Tidy (t : Td) : Prop where
  first : 0 ≤ t.first ∧ t.first ≤ 100000000
  den : 1 ≤ t.den ∧ t.den ≤ 1000
  before : 0 ≤ t.before ∧ t.before < 10080
  after : 0 ≤ t.after ∧ t.after < 10080
  some : 1 ≤ t.before + t.after
  num : 1 ≤ t.num ∧ t.num ≤ 20160 * t.den
  gap : t.before + t.after < t.num / t.den
def hiw (t : Td) (k : Int) : Int := t.first + k * t.num / t.den
theorem div_add {a b d : Int} (hd : 0 < d) : a / d + b / d ≤ (a + b) / d := by
  rw [Int.le_ediv_iff_mul_le hd, Int.add_mul]
  have h1 := Int.ediv_mul_le a (show d ≠ 0 by omega)
  have h2 := Int.ediv_mul_le b (show d ≠ 0 by omega)
  omega
theorem hiw_zero (t : Td) : hiw t 0 = t.first := by unfold hiw; rw [Int.zero_mul, Int.zero_ediv, Int.add_zero]
theorem hiw_next {t : Td} (h : Tidy t) (k : Int) : hiw t k + t.num / t.den ≤ hiw t (k + 1) := by
  unfold hiw
  rw [Int.add_mul, Int.one_mul]
  have hd := h.den
  have := div_add (a := k * t.num) (b := t.num) (d := t.den) (by omega)
  omega
theorem hiw_mono {t : Td} (h : Tidy t) {k : Int} : ∀ d : Nat, hiw t k ≤ hiw t (k + d) := by
  intro d
  induction d with
  | zero => rw [Int.natCast_zero, Int.add_zero]; exact Int.le_refl _
  | succ d ih =>
    have h1 := hiw_next h (k + d)
    have h2 := h.gap
    have h3 := h.some
    have e : k + ((d + 1 : Nat) : Int) = k + d + 1 := by omega
    rw [e]
    omega
theorem hiw_le {t : Td} (h : Tidy t) {k m : Int} (hkm : k ≤ m) : hiw t k ≤ hiw t m := by
  have := hiw_mono h (k := k) (m - k).toNat
  rw [show k + ((m - k).toNat : Int) = m by omega] at this
  exact this
theorem hiw_den (t : Td) (hd : 0 < t.den) (k : Int) : hiw t (k + t.den) = hiw t k + t.num := by
  unfold hiw
  rw [Int.add_mul, Int.mul_comm t.den t.num, Int.add_mul_ediv_right _ _ (by omega)]
  omega
/-- each high water is at least as many minutes behind the first as its number -/
theorem hiw_far {t : Td} (h : Tidy t) : ∀ k : Nat, t.first + k ≤ hiw t k := by
  intro k
  induction k with
  | zero => rw [Int.natCast_zero, hiw_zero]; omega
  | succ k ih =>
    have h1 := hiw_next h k
    have h2 := h.gap
    have h3 := h.some
    have e : ((k + 1 : Nat) : Int) = (k : Int) + 1 := by omega
    rw [e]
    omega
/-- whether a time is in a window -/
noncomputable def winP (t : Td) (x : Int) : Bool := @decide (∃ k : Nat, hiw t k - t.before ≤ x ∧ x < hiw t k + t.after) (Classical.propDecidable _)
theorem winP_iff {t : Td} {x : Int} : winP t x = true ↔ ∃ k : Nat, hiw t k - t.before ≤ x ∧ x < hiw t k + t.after := by
  unfold winP
  exact @decide_eq_true_iff _ (Classical.propDecidable _)
/-- a window and the time between the one before and itself -/
theorem winP_in {t : Td} {x : Int} {k : Nat} (h1 : hiw t k - t.before ≤ x) (h2 : x < hiw t k + t.after) : winP t x = true := winP_iff.2 ⟨k, h1, h2⟩
theorem winP_out {t : Td} (h : Tidy t) {x : Int} {k : Nat} (h1 : x < hiw t k - t.before) (h2 : ∀ j : Nat, j < k → hiw t j + t.after ≤ x) : winP t x = false := by
  rw [Bool.eq_false_iff]
  intro e
  obtain ⟨j, h3, h4⟩ := winP_iff.1 e
  rcases Nat.lt_or_ge j k with hj | hj
  · have := h2 j hj
    omega
  · have := hiw_le h (show (k : Int) ≤ (j : Int) by omega)
    omega
/-- a window ends ahead of the next one -/
theorem hiw_ahead {t : Td} (h : Tidy t) {j k : Nat} (hjk : j < k) : hiw t j + t.after < hiw t k - t.before := by
  have h1 := hiw_next h j
  have h2 := hiw_le h (show (j : Int) + 1 ≤ (k : Int) by omega)
  have h3 := h.gap
  omega
/-- the times of one more window, clipped -/
theorem win_step {t : Td} (h : Tidy t) {x to a b : Int} {n : Nat} {k : Nat} (hx : 0 ≤ x) (hb0 : ∀ j : Nat, j < k → hiw t j + t.after ≤ x + n) (hn : x + n ≤ to) (hkt : hiw t k - t.before < to) (hka : x + n ≤ hiw t k + t.after)
    (ha : a = max (max (hiw t k - t.before) 0) x) (hb : b = min (hiw t k + t.after) to) (hp : ∀ j : Nat, j < k → hiw t j + t.after ≤ hiw t k - t.before) (hnk : n = 0 ∨ ∃ j : Nat, j < k ∧ x + n ≤ hiw t j + t.after) :
    runs (winP t) x (b - x).toNat = addS (runs (winP t) x n) a b ∧ x + n ≤ b ∧ a ≤ b := by
  have hf := hiw_le h (show (0 : Int) ≤ (k : Int) by omega)
  rw [hiw_zero] at hf
  have h0 := h.first
  have hba := h.before
  have haf := h.after
  have hna : x + n ≤ a := by
    rcases hnk with hnk | ⟨j, h1, h2⟩
    · rw [ha]; omega
    · have := hp j h1
      rw [ha]; omega
  have hab : a ≤ b := by rw [ha, hb]; omega
  obtain ⟨d, hd⟩ : ∃ d : Nat, a = x + (n + d : Nat) := ⟨(a - x - n).toNat, by omega⟩
  obtain ⟨e, he⟩ : ∃ e : Nat, b = x + (n + d + e : Nat) := ⟨(b - a).toNat, by omega⟩
  have hbn : (b - x).toNat = n + d + e := by omega
  rw [hbn, runs_step (p := winP t) (x := x) (n := n) (d := d) (e := e) (fun y h1 h2 => ?_) (fun y h1 h2 => ?_), ← hd, ← he]
  · exact ⟨rfl, by omega, hab⟩
  · refine winP_out h (k := k) ?_ (fun j hj => ?_)
    · rw [← hd, ha] at h2
      omega
    · have := hb0 j hj
      omega
  · rw [← he] at h2
    rw [← hd] at h1
    exact winP_in (k := k) (by rw [ha] at h1; omega) (by rw [hb] at h2; omega)
/-- the number with which the program begins: the windows ahead of it end ahead of the time -/
theorem win_first {t : Td} (h : Tidy t) {x : Int} {j : Nat} (hj : (j : Int) < max ((x - t.first - t.after) * t.den / t.num - 1) 0) : hiw t j + t.after ≤ x := by
  have hd := h.den
  have hn := h.num
  have h1 : (j : Int) + 1 ≤ (x - t.first - t.after) * t.den / t.num := by omega
  rw [Int.le_ediv_iff_mul_le (by omega), Int.add_mul] at h1
  have h2 : (j : Int) * t.num ≤ (x - t.first - t.after) * t.den := by omega
  have h3 : (j : Int) * t.num / t.den ≤ x - t.first - t.after := Int.ediv_le_of_le_mul (by omega) h2
  unfold hiw
  omega
end
section
open Go.RowKit Go.PlainAid
/-- what is told of the times from x on and less than to, when those ahead of a time are done -/
def clip (x to pos : Int) : Int := min (max pos x) to
def toldAt (p : Int → Bool) (x to pos : Int) : List Sp := runs p x (clip x to pos - x).toNat
theorem toldAt_no {p : Int → Bool} {x to pos a : Int} (hxt : x ≤ to) (h1 : pos ≤ a) (h0 : ∀ y, pos ≤ y → y < a → x ≤ y → y < to → p y = false) : toldAt p x to a = toldAt p x to pos := by
  unfold toldAt
  obtain ⟨u, hu⟩ : ∃ u, u = clip x to pos := ⟨_, rfl⟩
  obtain ⟨v, hv⟩ : ∃ v, v = clip x to a := ⟨_, rfl⟩
  have hxu : x ≤ u := by rw [hu]; unfold clip; omega
  have huv : u ≤ v := by rw [hu, hv]; unfold clip; omega
  rw [← hu, ← hv]
  obtain ⟨n, hn⟩ : ∃ n : Nat, u = x + n := ⟨(u - x).toNat, by omega⟩
  obtain ⟨d, hd⟩ : ∃ d : Nat, v = x + (n + d : Nat) := ⟨(v - u).toNat, by omega⟩
  rw [show (u - x).toNat = n by omega, show (v - x).toNat = n + d by omega]
  refine runs_no fun y h2 h3 => h0 y ?_ ?_ (by omega) ?_
  · rw [← hn, hu] at h2
    unfold clip at h2
    rw [← hd, hv] at h3
    unfold clip at h3
    omega
  · rw [← hd, hv] at h3
    unfold clip at h3
    omega
  · rw [← hd, hv] at h3
    unfold clip at h3
    omega
theorem toldAt_yes {p : Int → Bool} {x to a b : Int} (hxt : x ≤ to) (h2 : a ≤ b) (ht : ∀ y, a ≤ y → y < b → x ≤ y → y < to → p y = true) : toldAt p x to b = addS (toldAt p x to a) (max a x) (min b to) := by
  unfold toldAt
  obtain ⟨u, hu⟩ : ∃ u, u = clip x to a := ⟨_, rfl⟩
  obtain ⟨v, hv⟩ : ∃ v, v = clip x to b := ⟨_, rfl⟩
  have hxu : x ≤ u := by rw [hu]; unfold clip; omega
  have huv : u ≤ v := by rw [hu, hv]; unfold clip; omega
  rw [← hu, ← hv]
  by_cases e : max a x < min b to
  · have eu : u = max a x := by rw [hu]; unfold clip; omega
    have ev : v = min b to := by rw [hv]; unfold clip; omega
    rw [← eu, ← ev]
    obtain ⟨n, hn⟩ : ∃ n : Nat, u = x + n := ⟨(u - x).toNat, by omega⟩
    obtain ⟨d, hd⟩ : ∃ d : Nat, v = x + (n + d : Nat) := ⟨(v - u).toNat, by omega⟩
    rw [show (u - x).toNat = n by omega, show (v - x).toNat = n + d by omega, hd, hn]
    refine runs_yes fun y h3 h4 => ht y ?_ ?_ (by omega) ?_
    · rw [← hn] at h3; omega
    · rw [← hd] at h4; omega
    · rw [← hd] at h4; omega
  · rw [addS_no e]
    have : u = v := by
      rw [hu, hv]
      unfold clip
      simp only [Int.max_def, Int.min_def] at *
      (repeat' split at *) <;> omega
    rw [this]
/-- one span more -/
theorem toldAt_step {p : Int → Bool} {x to pos a b : Int} (hxt : x ≤ to) (h1 : pos ≤ a) (h2 : a ≤ b) (h0 : ∀ y, pos ≤ y → y < a → x ≤ y → y < to → p y = false) (ht : ∀ y, a ≤ y → y < b → x ≤ y → y < to → p y = true) : toldAt p x to b = addS (toldAt p x to pos) (max a x) (min b to) := by
  rw [toldAt_yes hxt h2 ht, toldAt_no hxt h1 h0]
theorem toldAt_end {p : Int → Bool} {x to : Int} (hxt : x ≤ to) : toldAt p x to to = runs p x (to - x).toNat := by
  unfold toldAt clip
  rw [Int.max_eq_left hxt, Int.min_eq_left (Int.le_refl _)]
theorem toldAt_begin {p : Int → Bool} {x to pos : Int} (hxt : x ≤ to) (h : pos ≤ x) : toldAt p x to pos = [] := by
  unfold toldAt clip
  rw [Int.max_eq_right h, Int.min_eq_left hxt, Int.sub_self]
  rfl
/-- whether a calendar is open -/
def opn (w c : List Sp) (y : Int) : Bool := inB w (y % 10080) && !inB c y
theorem week_in {w : List Sp} {i : Nat} {s : Sp} {m y : Int} (h : okTo w w.length = true) (hs : w[i]? = some s) (ht : s.t ≤ 10080) (h1 : s.f + 10080 * m ≤ y) (h2 : y < s.t + 10080 * m) : inB w (y % 10080) = true := by
  have ho := ok_own h hs
  have e : y % 10080 = y - 10080 * m := by omega
  rw [inB_some]
  exact ⟨i, s, hs, by omega, by omega⟩
theorem week_gap {w : List Sp} {i : Nat} {m y : Int} (h : okTo w w.length = true) (hw : ∀ (j : Nat) (s : Sp), w[j]? = some s → s.t ≤ 10080) (h0 : 10080 * m ≤ y) (h1 : y < 10080 * m + 10080) (hlo : ∀ (j : Nat) (s : Sp), j < i → w[j]? = some s → s.t + 10080 * m ≤ y) (hhi : ∀ s : Sp, w[i]? = some s → y < s.f + 10080 * m) : inB w (y % 10080) = false := by
  have e : y % 10080 = y - 10080 * m := by omega
  rw [Bool.eq_false_iff]
  intro hb
  obtain ⟨j, s, hj, h2, h3⟩ := inB_some.1 hb
  rcases Nat.lt_trichotomy j i with c | c | c
  · have := hlo j s c hj
    omega
  · subst c
    have := hhi s hj
    omega
  · have hjl := (List.getElem?_eq_some_iff.1 hj).1
    have hi := List.getElem?_eq_getElem (show i < w.length by omega)
    have h4 := hhi _ hi
    have h5 := ok_lt h hi hj c
    have h6 := ok_own h hi
    omega
end
section
open Go.RowKit Go.PlainAid
/-- within a span of the week: from a on it is not told yet; all is told up to q; the closed ones ahead of ci are done -/
structure Inn (w c : List Sp) (x to a q : Int) (ci : Nat) : Prop where
  le : q ≤ a
  no : ∀ y, q ≤ y → y < a → x ≤ y → y < to → opn w c y = false
  cl : ∀ (j : Nat) (r : Sp), j < ci → c[j]? = some r → r.t ≤ max a x
theorem opn_closed {w c : List Sp} {j : Nat} {r : Sp} {y : Int} (hr : c[j]? = some r) (h1 : r.f ≤ y) (h2 : y < r.t) : opn w c y = false := by
  unfold opn
  rw [inB_some.2 ⟨j, r, hr, h1, h2⟩]
  simp
theorem opn_open {w c : List Sp} {x to a q y b : Int} {ci : Nat} (hI : Inn w c x to a q ci) (h : okTo c c.length = true) (hw : inB w (y % 10080) = true) (h1 : a ≤ y) (h2 : x ≤ y) (h3 : y < b) (hc : ∀ r : Sp, c[ci]? = some r → b ≤ r.f) : opn w c y = true := by
  unfold opn
  rw [hw]
  have : inB c y = false := by
    rw [Bool.eq_false_iff]
    intro e
    obtain ⟨j, s, hj, h4, h5⟩ := inB_some.1 e
    rcases Nat.lt_trichotomy j ci with d | d | d
    · have := hI.cl j s d hj
      omega
    · subst d
      have := hc s hj
      omega
    · have hjl := (List.getElem?_eq_some_iff.1 hj).1
      have hi := List.getElem?_eq_getElem (show ci < c.length by omega)
      have h6 := hc _ hi
      have h7 := ok_lt h hi hj d
      have h8 := ok_own h hi
      omega
  rw [this]
  rfl
/-- one closed span that begins ahead of the span's end -/
theorem inn_step {w c : List Sp} {x to a q b : Int} {ci : Nat} {r : Sp} (h : okTo c c.length = true) (hxt : x ≤ to) (hI : Inn w c x to a q ci) (hr : c[ci]? = some r) (hab : a ≤ b) (hrb : r.f < b) (hin : ∀ y, a ≤ y → y < b → inB w (y % 10080) = true) :
    ∃ q', Inn w c x to (max a (min b r.t)) q' ci ∧ addS (toldAt (opn w c) x to q) (max a x) (min (min b r.f) to) = toldAt (opn w c) x to q' ∧ (r.t ≤ b → Inn w c x to (max a (min b r.t)) q' (ci + 1)) := by
  have ho := ok_own h hr
  have hcl : ∀ (a' : Int), a ≤ a' → (∀ (j : Nat) (s : Sp), j < ci → c[j]? = some s → s.t ≤ max a' x) := fun a' ha j s hj hs => by
    have := hI.cl j s hj hs
    omega
  have hcl1 : r.t ≤ b → ∀ (j : Nat) (s : Sp), j < ci + 1 → c[j]? = some s → s.t ≤ max (max a (min b r.t)) x := fun hb j s hj hs => by
    by_cases e : j = ci
    · subst e
      rw [hr] at hs
      cases hs
      rw [Int.min_eq_right hb]
      omega
    · exact hcl _ (by omega) j s (by omega) hs
  by_cases e : a ≤ r.f
  · have hno : ∀ y, r.f ≤ y → y < max a (min b r.t) → x ≤ y → y < to → opn w c y = false := fun y h1 h2 _ _ => opn_closed hr h1 (by omega)
    have hle : r.f ≤ max a (min b r.t) := by omega
    refine ⟨r.f, ⟨hle, hno, hcl _ (by omega)⟩, ?_, fun hb => ⟨hle, hno, hcl1 hb⟩⟩
    rw [show min b r.f = r.f by omega]
    exact (toldAt_step hxt hI.le e hI.no (fun y h1 h2 h3 h4 => opn_open (b := r.f) hI h (hin y h1 (by omega)) h1 h3 h2 (fun s hs => by rw [hr] at hs; cases hs; exact Int.le_refl _))).symm
  · have hno : ∀ y, q ≤ y → y < max a (min b r.t) → x ≤ y → y < to → opn w c y = false := fun y h1 h2 h3 h4 => by
      by_cases d : y < a
      · exact hI.no y h1 d h3 h4
      · exact opn_closed hr (by omega) (by omega)
    have hle : q ≤ max a (min b r.t) := by have := hI.le; omega
    exact ⟨q, ⟨hle, hno, hcl _ (by omega)⟩, addS_no (by omega), fun hb => ⟨hle, hno, hcl1 hb⟩⟩
/-- what is left of the span -/
theorem inn_end {w c : List Sp} {x to a q b : Int} {ci : Nat} (h : okTo c c.length = true) (hxt : x ≤ to) (hI : Inn w c x to a q ci) (hab : a ≤ b) (hin : ∀ y, a ≤ y → y < b → inB w (y % 10080) = true) (hc : a = b ∨ ∀ r : Sp, c[ci]? = some r → b ≤ r.f) :
    addS (toldAt (opn w c) x to q) (max a x) (min b to) = toldAt (opn w c) x to b := by
  refine (toldAt_step hxt hI.le hab hI.no (fun y h1 h2 h3 h4 => ?_)).symm
  rcases hc with hc | hc
  · omega
  · exact opn_open hI h (hin y h1 h2) h1 h3 h2 hc
/-- the next span of the week -/
theorem inn_next {w c : List Sp} {x to a q b a' : Int} {ci : Nat} (hI : Inn w c x to a q ci) (hab : a ≤ b) (hba : b ≤ a') (hw : ∀ y, b ≤ y → y < a' → x ≤ y → y < to → inB w (y % 10080) = false) : Inn w c x to a' b ci :=
  ⟨hba, fun y h1 h2 h3 h4 => by unfold opn; rw [hw y h1 h2 h3 h4]; rfl, fun j r hj hr => by have := hI.cl j r hj hr; omega⟩
/-- the first span: the closed ones that end at the time or ahead of it are left out -/
theorem inn_first {w c : List Sp} {x to pos a : Int} {ci : Nat} (hb : Bh c x ci) (hpa : pos ≤ a) (hw : ∀ y, pos ≤ y → y < a → x ≤ y → y < to → inB w (y % 10080) = false) : Inn w c x to a pos ci :=
  ⟨hpa, fun y h1 h2 h3 h4 => by unfold opn; rw [hw y h1 h2 h3 h4]; rfl, fun j r hj hr => by have := hb.lo j r hj hr; omega⟩
end
section
open Go.RowKit Go.PlainAid
def pc (s r : Sp) : List Sp := if max s.f r.f < min s.t r.t then [⟨max s.f r.f, min s.t r.t⟩] else []
def rowTo (s : Sp) (b : List Sp) : Nat → List Sp
  | 0 => []
  | n + 1 => rowTo s b n ++ (match b[n]? with
    | none => []
    | some r => pc s r)
def bothTo (a b : List Sp) : Nat → List Sp
  | 0 => []
  | n + 1 => bothTo a b n ++ (match a[n]? with
    | none => []
    | some s => rowTo s b b.length)
def bothL (a b : List Sp) : List Sp := bothTo a b a.length
theorem pc_mem {s r z : Sp} (h : z ∈ pc s r) : z.t ≤ s.t ∧ z.t ≤ r.t := by
  unfold pc at h
  split at h
  · simp at h
    subst h
    dsimp only
    omega
  · cases h
theorem rowTo_mem {s : Sp} {b : List Sp} {n : Nat} {z : Sp} (h : z ∈ rowTo s b n) : z.t ≤ s.t ∧ ∃ (j : Nat) (r : Sp), j < n ∧ b[j]? = some r ∧ z.t ≤ r.t := by
  induction n with
  | zero => cases h
  | succ n ih =>
    rw [rowTo, List.mem_append] at h
    rcases h with h | h
    · obtain ⟨h1, j, r, h2, h3⟩ := ih h
      exact ⟨h1, j, r, by omega, h3⟩
    · cases hb : b[n]? with
      | none => rw [hb] at h; cases h
      | some r =>
        rw [hb] at h
        have := pc_mem h
        exact ⟨this.1, n, r, by omega, hb, this.2⟩
theorem bothTo_mem {a b : List Sp} {n : Nat} {z : Sp} (h : z ∈ bothTo a b n) : ∃ (j : Nat) (s : Sp), j < n ∧ a[j]? = some s ∧ z.t ≤ s.t := by
  induction n with
  | zero => cases h
  | succ n ih =>
    rw [bothTo, List.mem_append] at h
    rcases h with h | h
    · obtain ⟨j, r, h2, h3⟩ := ih h
      exact ⟨j, r, by omega, h3⟩
    · cases ha : a[n]? with
      | none => rw [ha] at h; cases h
      | some s =>
        rw [ha] at h
        exact ⟨n, s, by omega, ha, (rowTo_mem h).1⟩
/-- spans that end ahead of the first one's begin, and that begin behind its end, have nothing in common with it -/
theorem rowTo_skip {s : Sp} {b : List Sp} {i : Nat} (h : Bh b s.f i) : ∀ n, n ≤ i → rowTo s b n = [] := by
  intro n
  induction n with
  | zero => intro _; rfl
  | succ n ih =>
    intro hn
    rw [rowTo, ih (by omega)]
    cases hb : b[n]? with
    | none => rfl
    | some r =>
      have := h.lo n r (by omega) hb
      dsimp only
      unfold pc
      rw [if_neg (by omega)]
      rfl
theorem rowTo_rest {s : Sp} {b : List Sp} (h : okTo b b.length = true) {k : Nat} {r : Sp} (hr : b[k]? = some r) (hs : s.t ≤ r.f) : ∀ d, rowTo s b (k + d) = rowTo s b k := by
  intro d
  induction d with
  | zero => rfl
  | succ d ih =>
    rw [← Nat.add_assoc, rowTo, ih]
    cases hb : b[k + d]? with
    | none => simp
    | some q =>
      have hq : s.t ≤ q.f := by
        by_cases e : d = 0
        · subst e
          rw [Nat.add_zero, hr] at hb
          cases hb
          exact hs
        · have h1 := ok_lt h hr hb (by omega)
          have h2 := ok_own h hr
          omega
      dsimp only
      unfold pc
      rw [if_neg (by omega)]
      simp
theorem addS_app {l : List Sp} {a b : Int} (h : ∀ z ∈ l, z.t ≠ a) (hab : a < b) : addS l a b = l ++ [⟨a, b⟩] := by
  unfold addS
  rw [if_pos hab]
  cases hl : l.getLast? with
  | none =>
    rw [List.getLast?_eq_none_iff] at hl
    subst hl
    rfl
  | some s =>
    dsimp only
    rw [if_neg (h s (List.mem_of_getLast? hl))]
/-- one piece more -/
theorem both_add {a b : List Sp} (ha : okTo a a.length = true) (hb : okTo b b.length = true) {n k : Nat} {s r : Sp} (hs : a[n]? = some s) (hr : b[k]? = some r) :
    addS (bothTo a b n ++ rowTo s b k) (max r.f s.f) (min r.t s.t) = bothTo a b n ++ rowTo s b (k + 1) := by
  rw [rowTo, hr]
  dsimp only
  unfold pc
  rw [Int.max_comm r.f s.f, Int.min_comm r.t s.t]
  by_cases e : max s.f r.f < min s.t r.t
  · rw [if_pos e, addS_app (fun z hz => ?_) e, List.append_assoc]
    rw [List.mem_append] at hz
    rcases hz with hz | hz
    · obtain ⟨j, q, h1, h2, h3⟩ := bothTo_mem hz
      have := ok_lt ha h2 hs h1
      omega
    · obtain ⟨_, j, q, h1, h2, h3⟩ := rowTo_mem hz
      have := ok_lt hb h2 hr h1
      omega
  · rw [if_neg e, addS_no e, List.append_nil]
end
section
open Go.RowKit Go.PlainAid
theorem inB_mem {l : List Sp} {y : Int} : inB l y = true ↔ ∃ s ∈ l, s.f ≤ y ∧ y < s.t := by
  rw [inB_some]
  constructor
  · rintro ⟨i, s, h1, h2⟩
    exact ⟨s, List.mem_of_getElem? h1, h2⟩
  · rintro ⟨s, h1, h2⟩
    obtain ⟨i, hi⟩ := List.getElem?_of_mem h1
    exact ⟨i, s, hi, h2⟩
theorem inB_no {l : List Sp} {y : Int} (h : inB l y = false) {s : Sp} (hs : s ∈ l) : ¬ (s.f ≤ y ∧ y < s.t) := fun hc => by
  rw [inB_mem.2 ⟨s, hs, hc⟩] at h
  cases h
theorem cnt1_out {s : Sp} {a y : Int} (h : ¬ (s.f ≤ y ∧ y < s.t)) : cnt1 s a (y + 1) = cnt1 s a y := by
  simp only [cnt1, Int.max_def, Int.min_def]
  (repeat' split) <;> omega
theorem cnt1_in {s : Sp} {a y : Int} (h1 : s.f ≤ y) (h2 : y < s.t) (ha : a ≤ y) : cnt1 s a (y + 1) = cnt1 s a y + 1 := by
  simp only [cnt1, Int.max_def, Int.min_def]
  (repeat' split) <;> omega
theorem cntTo_out {l : List Sp} {a y : Int} (h : inB l y = false) : ∀ n, cntTo l a (y + 1) n = cntTo l a y n := by
  intro n
  induction n with
  | zero => rfl
  | succ n ih =>
    rw [cntTo, cntTo, ih]
    cases hs : l[n]? with
    | none => rfl
    | some s =>
      dsimp only
      rw [cnt1_out (inB_no h (List.mem_of_getElem? hs))]
theorem cntTo_in {l : List Sp} (h : okTo l l.length = true) {a y : Int} {i : Nat} {s : Sp} (hs : l[i]? = some s) (h1 : s.f ≤ y) (h2 : y < s.t) (ha : a ≤ y) : ∀ n, cntTo l a (y + 1) n = cntTo l a y n + (if i < n then 1 else 0) := by
  have hi := (List.getElem?_eq_some_iff.1 hs).1
  intro n
  induction n with
  | zero => rfl
  | succ n ih =>
    rw [cntTo, cntTo, ih]
    cases hr : l[n]? with
    | none =>
      have hn : l.length ≤ n := by
        rcases Nat.lt_or_ge n l.length with e | e
        · rw [List.getElem?_eq_getElem e] at hr; cases hr
        · exact e
      rw [if_pos (by omega), if_pos (by omega)]
      dsimp only
      omega
    | some r =>
      dsimp only
      rcases Nat.lt_trichotomy n i with e | e | e
      · have h3 := ok_lt h hr hs e
        rw [if_neg (by omega), if_neg (by omega), cnt1_out (by omega)]
        omega
      · subst e
        rw [hs] at hr
        cases hr
        rw [if_neg (by omega), if_pos (by omega), cnt1_in h1 h2 ha]
        omega
      · have h3 := ok_lt h hs hr e
        rw [if_pos (by omega), if_pos (by omega), cnt1_out (by omega)]
        omega
theorem cnt_step {l : List Sp} (h : okTo l l.length = true) {a y : Int} (ha : a ≤ y) : cnt l a (y + 1) = cnt l a y + (if inB l y then 1 else 0) := by
  cases hb : inB l y
  · unfold cnt
    rw [cntTo_out hb]
    simp
  · obtain ⟨i, s, hs, h1, h2⟩ := inB_some.1 hb
    have hi := (List.getElem?_eq_some_iff.1 hs).1
    unfold cnt
    rw [cntTo_in h hs h1 h2 ha, if_pos hi]
    simp
theorem cntTo_self (l : List Sp) {a y : Int} (h : y ≤ a) : ∀ n, cntTo l a y n = 0 := by
  intro n
  induction n with
  | zero => rfl
  | succ n ih =>
    rw [cntTo, ih]
    cases l[n]? with
    | none => rfl
    | some s => simp only [cnt1, Int.max_def, Int.min_def]; (repeat' split) <;> omega
theorem cnt_self (l : List Sp) {a y : Int} (h : y ≤ a) : cnt l a y = 0 := cntTo_self l h _
theorem cnt_pos (l : List Sp) (a b : Int) : 0 ≤ cnt l a b := cntTo_pos l a b _
theorem cnt_mono (l : List Sp) {a b c : Int} (h : b ≤ c) : cnt l a b ≤ cnt l a c := cntTo_mono l h _
theorem cnt_anti (l : List Sp) {a b c : Int} (h : a ≤ b) : cnt l b c ≤ cnt l a c := by
  unfold cnt
  generalize l.length = n
  induction n with
  | zero => exact Int.le_refl _
  | succ n ih =>
    rw [cntTo, cntTo]
    cases l[n]? with
    | none => simpa using ih
    | some s => simp only [cnt1, Int.max_def, Int.min_def]; (repeat' split) <;> omega
/-- how many of n times from a on are so -/
def cntP (p : Int → Bool) (a : Int) : Nat → Int
  | 0 => 0
  | n + 1 => cntP p a n + (if p (a + n) then 1 else 0)
theorem cnt_P {l : List Sp} (h : okTo l l.length = true) (a : Int) (n : Nat) : cnt l a (a + n) = cntP (inB l) a n := by
  induction n with
  | zero => exact cnt_self l (by omega)
  | succ n ih =>
    rw [cntP, ← ih, show a + ((n + 1 : Nat) : Int) = (a + n) + 1 by omega, cnt_step h (by omega)]
theorem cntP_bd (p : Int → Bool) (a : Int) (n : Nat) : 0 ≤ cntP p a n ∧ cntP p a n ≤ n := by
  induction n with
  | zero => exact ⟨Int.le_refl _, Int.le_refl _⟩
  | succ n ih =>
    rw [cntP]
    split <;> omega
theorem cntP_add (p : Int → Bool) (a : Int) (n m : Nat) : cntP p a (n + m) = cntP p a n + cntP p (a + n) m := by
  induction m with
  | zero => simp [cntP]
  | succ m ih =>
    rw [← Nat.add_assoc, cntP, ih, cntP, show a + ((n + m : Nat) : Int) = a + n + m by omega]
    omega
theorem cnt_add {l : List Sp} (h : okTo l l.length = true) {a b c : Int} (hab : a ≤ b) (hbc : b ≤ c) : cnt l a c = cnt l a b + cnt l b c := by
  obtain ⟨n, rfl⟩ : ∃ n : Nat, b = a + n := ⟨(b - a).toNat, by omega⟩
  obtain ⟨m, rfl⟩ : ∃ m : Nat, c = a + n + m := ⟨(c - (a + n)).toNat, by omega⟩
  rw [cnt_P h, cnt_P h (a + n), show a + (n : Int) + m = a + ((n + m : Nat) : Int) by omega, cnt_P h, cntP_add]
theorem cnt_bd {l : List Sp} (h : okTo l l.length = true) {a b : Int} (hab : a ≤ b) : cnt l a b ≤ b - a := by
  obtain ⟨n, rfl⟩ : ∃ n : Nat, b = a + n := ⟨(b - a).toNat, by omega⟩
  rw [cnt_P h]
  have := (cntP_bd (inB l) a n).2
  omega
theorem cntP_all {p : Int → Bool} {a : Int} {n : Nat} (h : cntP p a n = n) : ∀ j : Nat, j < n → p (a + j) = true := by
  induction n with
  | zero => intro j hj; omega
  | succ n ih =>
    rw [cntP] at h
    have hb := (cntP_bd p a n).2
    intro j hj
    cases hp : p (a + n)
    · rw [hp] at h
      simp at h
      omega
    · rw [hp] at h
      simp only [if_true] at h
      by_cases e : j = n
      · subst e; exact hp
      · exact ih (by omega) j (by omega)
/-- all of some times are in one span -/
theorem all_one {l : List Sp} (h : okTo l l.length = true) {a : Int} {n : Nat} (hn : 0 < n) (hc : cnt l a (a + n) = n) : ∃ (i : Nat) (s : Sp), l[i]? = some s ∧ s.f ≤ a ∧ a + n ≤ s.t := by
  rw [cnt_P h] at hc
  have hall := cntP_all hc
  obtain ⟨i, s, hs, h1, h2⟩ := inB_some.1 (hall 0 hn)
  refine ⟨i, s, hs, by omega, ?_⟩
  rcases Int.lt_or_le s.t (a + n) with e | e
  · exfalso
    obtain ⟨j, hj⟩ : ∃ j : Nat, s.t = a + j := ⟨(s.t - a).toNat, by omega⟩
    have h3 := hall j (by omega)
    rw [← hj] at h3
    obtain ⟨k, r, hr, h4, h5⟩ := inB_some.1 h3
    rcases Nat.lt_trichotomy k i with c | c | c
    · have := ok_lt h hr hs c
      have := ok_own h hs
      omega
    · subst c
      rw [hs] at hr
      cases hr
      omega
    · have := ok_lt h hs hr c
      omega
  · exact e
/-- a span has its times -/
theorem cnt_one {l : List Sp} (h : okTo l l.length = true) {i : Nat} {s : Sp} (hs : l[i]? = some s) {a : Int} {n : Nat} (h1 : s.f ≤ a) (h2 : a + n ≤ s.t) : cnt l a (a + n) = n := by
  induction n with
  | zero => exact cnt_self l (by omega)
  | succ n ih =>
    rw [show a + ((n + 1 : Nat) : Int) = (a + n) + 1 by omega, cnt_step h (by omega), ih (by omega), if_pos (inB_some.2 ⟨i, s, hs, by omega, by omega⟩)]
    omega
/-- where the first n spans end -/
def endOf (l : List Sp) : Nat → Int
  | 0 => 0
  | n + 1 => match l[n]? with
    | none => 0
    | some s => s.t
theorem told_take {l : List Sp} (h : okTo l l.length = true) : ∀ n, n ≤ l.length → 0 ≤ endOf l n ∧ endOf l n ≤ 100000000 ∧ (∀ i s, i < n → l[i]? = some s → s.t ≤ endOf l n) ∧ (∀ i s, n ≤ i → l[i]? = some s → endOf l n ≤ s.f) ∧ toldAt (inB l) 0 100000000 (endOf l n) = l.take n := by
  intro n
  induction n with
  | zero =>
    intro _
    refine ⟨by simp [endOf], by simp [endOf], fun i s hi => absurd hi (by omega), fun i s hi hs => (ok_own h hs).1, ?_⟩
    exact toldAt_begin (by omega) (Int.le_refl _)
  | succ n ih =>
    intro hn
    obtain ⟨h1, h2, h3, h4, h5⟩ := ih (by omega)
    have hs := List.getElem?_eq_getElem (show n < l.length by omega)
    obtain ⟨s, hse⟩ : ∃ s, s = l[n] := ⟨_, rfl⟩
    rw [← hse] at hs
    have ho := ok_own h hs
    have hp := h4 n s (Nat.le_refl _) hs
    have he : endOf l (n + 1) = s.t := by rw [endOf, hs]
    rw [he]
    refine ⟨by omega, by omega, fun i r hi hr => ok_rise h hr hs (by omega), fun i r hi hr => by have := ok_lt h hs hr (by omega); omega, ?_⟩
    rw [toldAt_step (pos := endOf l n) (a := s.f) (b := s.t) (by omega) hp (by omega) (fun y h6 h7 _ _ => ?_) (fun y h6 h7 _ _ => inB_some.2 ⟨n, s, hs, h6, h7⟩), h5, List.take_add_one, hs, Int.max_eq_left (by omega), Int.min_eq_left (by omega), Option.toList_some, addS_app (fun z hz => ?_) (by omega)]
    · obtain ⟨i, hi⟩ := List.getElem?_of_mem hz
      rw [List.getElem?_take] at hi
      split at hi
      · have := ok_lt h hi hs (by assumption)
        omega
      · cases hi
    · rw [Bool.eq_false_iff]
      intro hb
      obtain ⟨i, r, hr, h8, h9⟩ := inB_some.1 hb
      rcases Nat.lt_or_ge i n with c | c
      · have := h3 i r c hr
        omega
      · rcases Nat.eq_or_lt_of_le c with c | c
        · subst c
          rw [hs] at hr
          cases hr
          omega
        · have := ok_lt h hs hr c
          omega
theorem told_all {l : List Sp} (h : okTo l l.length = true) : toldAt (inB l) 0 100000000 100000000 = l := by
  obtain ⟨h1, h2, h3, h4, h5⟩ := told_take h l.length (Nat.le_refl _)
  rw [List.take_length] at h5
  rw [toldAt_no (pos := endOf l l.length) (by omega) h2 (fun y h6 h7 _ _ => ?_), h5]
  rw [Bool.eq_false_iff]
  intro hb
  obtain ⟨i, r, hr, h8, h9⟩ := inB_some.1 hb
  have := h3 i r (List.getElem?_eq_some_iff.1 hr).1 hr
  omega
/-- lists that are apart and have the same times are the same -/
theorem ok_ext {l m : List Sp} (h : okTo l l.length = true) (h' : okTo m m.length = true) (e : ∀ y, inB l y = inB m y) : l = m := by
  rw [← told_all h, ← told_all h', show inB l = inB m from funext e]
theorem okTo_snoc {l : List Sp} {s : Sp} (h : okTo l l.length = true) (h1 : ∀ z ∈ l, z.t < s.f) (h2 : 0 ≤ s.f ∧ s.f < s.t ∧ s.t ≤ 100000000) : okTo (l ++ [s]) (l ++ [s]).length = true := by
  unfold okTo
  rw [List.all_eq_true]
  intro i hi
  rw [List.mem_range, List.length_append, List.length_singleton] at hi
  by_cases e : i < l.length
  · have h3 := okTo_at h e
    unfold okAt at h3 ⊢
    rw [List.getElem?_append_left e]
    cases i with
    | zero => exact h3
    | succ i =>
      dsimp only at h3 ⊢
      rw [List.getElem?_append_left (by omega)]
      exact h3
  · obtain rfl : i = l.length := by omega
    unfold okAt
    rw [List.getElem?_append_right (Nat.le_refl _), Nat.sub_self]
    simp only [List.getElem?_cons_zero, Bool.and_eq_true, decide_eq_true_eq]
    refine ⟨⟨⟨h2.1, h2.2.1⟩, h2.2.2⟩, ?_⟩
    cases hl : l.length with
    | zero => rfl
    | succ k =>
      dsimp only
      rw [List.getElem?_append_left (by omega), List.getElem?_eq_getElem (by omega)]
      dsimp only
      rw [decide_eq_true_eq]
      exact h1 _ (List.getElem_mem _)
theorem okTo_front {l : List Sp} {s : Sp} (h : okTo (l ++ [s]) (l ++ [s]).length = true) : okTo l l.length = true ∧ (∀ z ∈ l, z.t < s.f) ∧ (0 ≤ s.f ∧ s.f < s.t ∧ s.t ≤ 100000000) := by
  have hs : (l ++ [s])[l.length]? = some s := by simp
  refine ⟨?_, fun z hz => ?_, ok_own h hs⟩
  · unfold okTo
    rw [List.all_eq_true]
    intro i hi
    rw [List.mem_range] at hi
    have h1 := okTo_at h (show i < (l ++ [s]).length by rw [List.length_append]; omega)
    unfold okAt at h1 ⊢
    rw [List.getElem?_append_left hi] at h1
    cases i with
    | zero => exact h1
    | succ i =>
      dsimp only at h1 ⊢
      rw [List.getElem?_append_left (by omega)] at h1
      exact h1
  · obtain ⟨i, hi⟩ := List.getElem?_of_mem hz
    have hl := (List.getElem?_eq_some_iff.1 hi).1
    exact ok_lt h (by rw [List.getElem?_append_left hl]; exact hi) hs hl
theorem okTo_nil : okTo [] ([] : List Sp).length = true := rfl
theorem both_ok {a b : List Sp} (ha : okTo a a.length = true) (hb : okTo b b.length = true) : okTo (bothL a b) (bothL a b).length = true := by
  have row : ∀ n s, a[n]? = some s → okTo (bothTo a b n) (bothTo a b n).length = true → ∀ k, okTo (bothTo a b n ++ rowTo s b k) (bothTo a b n ++ rowTo s b k).length = true := by
    intro n s hs h0 k
    induction k with
    | zero => rw [rowTo, List.append_nil]; exact h0
    | succ k ih =>
      rw [rowTo]
      cases hr : b[k]? with
      | none => dsimp only; rw [List.append_nil]; exact ih
      | some r =>
        dsimp only
        unfold pc
        split
        · rename_i hc
          rw [← List.append_assoc]
          have hos := ok_own ha hs
          have hor := ok_own hb hr
          refine okTo_snoc ih (fun z hz => ?_) ⟨by dsimp only; omega, hc, by dsimp only; omega⟩
          dsimp only
          rw [List.mem_append] at hz
          rcases hz with hz | hz
          · obtain ⟨j, q, h1, h2, h3⟩ := bothTo_mem hz
            have := ok_lt ha h2 hs h1
            omega
          · obtain ⟨_, j, q, h1, h2, h3⟩ := rowTo_mem hz
            have := ok_lt hb h2 hr h1
            omega
        · rw [List.append_nil]; exact ih
  have all : ∀ n, okTo (bothTo a b n) (bothTo a b n).length = true := by
    intro n
    induction n with
    | zero => exact okTo_nil
    | succ n ih =>
      rw [bothTo]
      cases hs : a[n]? with
      | none => dsimp only; rw [List.append_nil]; exact ih
      | some s => exact row n s hs ih _
  exact all _
theorem pc_in {s r : Sp} {y : Int} : (∃ z ∈ pc s r, z.f ≤ y ∧ y < z.t) ↔ (s.f ≤ y ∧ y < s.t) ∧ (r.f ≤ y ∧ y < r.t) := by
  unfold pc
  split
  · simp only [List.mem_singleton, exists_eq_left]
    omega
  · constructor
    · rintro ⟨z, hz, _⟩
      cases hz
    · intro h
      exfalso
      omega
theorem rowTo_in {s : Sp} {b : List Sp} {y : Int} : ∀ n, (∃ z ∈ rowTo s b n, z.f ≤ y ∧ y < z.t) ↔ (s.f ≤ y ∧ y < s.t) ∧ inTo b y n = true := by
  intro n
  induction n with
  | zero =>
    constructor
    · rintro ⟨z, hz, _⟩; cases hz
    · rintro ⟨_, h⟩; cases h
  | succ n ih =>
    rw [rowTo, inTo_succ, Bool.or_eq_true]
    constructor
    · rintro ⟨z, hz, h1⟩
      rw [List.mem_append] at hz
      rcases hz with hz | hz
      · obtain ⟨h2, h3⟩ := ih.1 ⟨z, hz, h1⟩
        exact ⟨h2, .inl h3⟩
      · cases hr : b[n]? with
        | none => rw [hr] at hz; cases hz
        | some r =>
          rw [hr] at hz
          obtain ⟨h2, h3⟩ := pc_in.1 ⟨z, hz, h1⟩
          exact ⟨h2, .inr (by simpa using h3)⟩
    · rintro ⟨h1, h2 | h2⟩
      · obtain ⟨z, hz, h3⟩ := ih.2 ⟨h1, h2⟩
        exact ⟨z, List.mem_append.2 (.inl hz), h3⟩
      · cases hr : b[n]? with
        | none => rw [hr] at h2; cases h2
        | some r =>
          rw [hr] at h2
          obtain ⟨z, hz, h3⟩ := pc_in.2 ⟨h1, (by simpa using h2 : r.f ≤ y ∧ y < r.t)⟩
          exact ⟨z, List.mem_append.2 (.inr hz), h3⟩
theorem bothTo_in {a b : List Sp} {y : Int} : ∀ n, (∃ z ∈ bothTo a b n, z.f ≤ y ∧ y < z.t) ↔ inTo a y n = true ∧ inB b y = true := by
  intro n
  induction n with
  | zero =>
    constructor
    · rintro ⟨z, hz, _⟩; cases hz
    · rintro ⟨h, _⟩; cases h
  | succ n ih =>
    rw [bothTo, inTo_succ, Bool.or_eq_true]
    constructor
    · rintro ⟨z, hz, h1⟩
      rw [List.mem_append] at hz
      rcases hz with hz | hz
      · obtain ⟨h2, h3⟩ := ih.1 ⟨z, hz, h1⟩
        exact ⟨.inl h2, h3⟩
      · cases hr : a[n]? with
        | none => rw [hr] at hz; cases hz
        | some r =>
          rw [hr] at hz
          obtain ⟨h2, h3⟩ := (rowTo_in _).1 ⟨z, hz, h1⟩
          exact ⟨.inr (by simpa using h2), h3⟩
    · rintro ⟨h1 | h1, h2⟩
      · obtain ⟨z, hz, h3⟩ := ih.2 ⟨h1, h2⟩
        exact ⟨z, List.mem_append.2 (.inl hz), h3⟩
      · cases hr : a[n]? with
        | none => rw [hr] at h1; cases h1
        | some r =>
          rw [hr] at h1
          obtain ⟨z, hz, h3⟩ := (rowTo_in (s := r) (b := b) (y := y) b.length).2 ⟨by simpa using h1, h2⟩
          exact ⟨z, List.mem_append.2 (.inr hz), h3⟩
theorem inB_both (a b : List Sp) (y : Int) : inB (bothL a b) y = (inB a y && inB b y) := by
  rw [Bool.eq_iff_iff, Bool.and_eq_true, inB_mem]
  exact bothTo_in a.length
theorem both_comm {a b : List Sp} (ha : okTo a a.length = true) (hb : okTo b b.length = true) : bothL a b = bothL b a :=
  ok_ext (both_ok ha hb) (both_ok hb ha) fun y => by rw [inB_both, inB_both, Bool.and_comm]
theorem both_self {a : List Sp} (ha : okTo a a.length = true) : bothL a a = a :=
  ok_ext (both_ok ha ha) ha fun y => by rw [inB_both, Bool.and_self]
/-- different things of a list are at most as many as the list is long -/
theorem nodup_len {α : Type} [DecidableEq α] : ∀ (l E : List α), l.Nodup → (∀ x ∈ l, x ∈ E) → l.length ≤ E.length := by
  intro l
  induction l with
  | nil => intro E _ _; exact Nat.zero_le _
  | cons x l ih =>
    intro E hn he
    rw [List.nodup_cons] at hn
    have hx := he x List.mem_cons_self
    have := ih (E.erase x) hn.2 (fun y hy => (List.mem_erase_of_ne (fun e => hn.1 (by rw [← e]; exact hy))).2 (he y (List.mem_cons_of_mem _ hy)))
    rw [List.length_erase_of_mem hx] at this
    have hp := List.length_pos_of_mem hx
    rw [List.length_cons]
    omega
theorem ok_nodup {l : List Sp} (h : okTo l l.length = true) (g : Sp → Int) (hg : ∀ (i j : Nat) (a b : Sp), i < j → l[i]? = some a → l[j]? = some b → g a < g b) : (l.map g).Nodup := by
  rw [List.nodup_iff_pairwise_ne, List.pairwise_iff_getElem]
  intro i j hi hj hij e
  rw [List.length_map] at hi hj
  simp only [List.getElem_map] at e
  have := hg i j _ _ hij (List.getElem?_eq_getElem hi) (List.getElem?_eq_getElem hj)
  omega
theorem both_end {a b : List Sp} {z : Sp} (h : z ∈ bothL a b) : (∃ s ∈ a, z.t = s.t) ∨ ∃ r ∈ b, z.t = r.t := by
  have row : ∀ s ∈ a, ∀ n, z ∈ rowTo s b n → (∃ s ∈ a, z.t = s.t) ∨ ∃ r ∈ b, z.t = r.t := by
    intro s hs n
    induction n with
    | zero => intro h; cases h
    | succ n ih =>
      intro h
      rw [rowTo, List.mem_append] at h
      rcases h with h | h
      · exact ih h
      · cases hr : b[n]? with
        | none => rw [hr] at h; cases h
        | some r =>
          rw [hr] at h
          dsimp only at h
          unfold pc at h
          split at h
          · simp at h
            subst h
            dsimp only
            rcases Int.le_total s.t r.t with c | c
            · exact .inl ⟨s, hs, by omega⟩
            · exact .inr ⟨r, List.mem_of_getElem? hr, by omega⟩
          · cases h
  have all : ∀ n, z ∈ bothTo a b n → (∃ s ∈ a, z.t = s.t) ∨ ∃ r ∈ b, z.t = r.t := by
    intro n
    induction n with
    | zero => intro h; cases h
    | succ n ih =>
      intro h
      rw [bothTo, List.mem_append] at h
      rcases h with h | h
      · exact ih h
      · cases hr : a[n]? with
        | none => rw [hr] at h; cases h
        | some s =>
          rw [hr] at h
          exact row s (List.mem_of_getElem? hr) _ h
  exact all _ h
theorem both_len {a b : List Sp} (ha : okTo a a.length = true) (hb : okTo b b.length = true) : (bothL a b).length ≤ a.length + b.length := by
  have hok := both_ok ha hb
  have h := nodup_len ((bothL a b).map (·.t)) (a.map (·.t) ++ b.map (·.t)) (ok_nodup hok _ (fun i j x y hij hx hy => by
    have h1 := ok_lt hok hx hy hij
    have h2 := ok_own hok hy
    omega)) (fun x hx => by
    obtain ⟨z, hz, rfl⟩ := List.mem_map.1 hx
    rw [List.mem_append]
    rcases both_end hz with ⟨s, h1, h2⟩ | ⟨s, h1, h2⟩
    · exact .inl (List.mem_map.2 ⟨s, h1, h2.symm⟩)
    · exact .inr (List.mem_map.2 ⟨s, h1, h2.symm⟩))
  simpa using h
/-- what is told time by time -/
theorem addT_facts {l : List Sp} {x v : Int} (hx : 0 ≤ x) (hxv : x ≤ v) (hv : v < 100000000) (h : okTo l l.length = true) (h1 : ∀ z ∈ l, x ≤ z.f ∧ z.t ≤ v) :
    okTo (addT l v) (addT l v).length = true ∧ (∀ z ∈ addT l v, x ≤ z.f ∧ z.t ≤ v + 1) ∧ (∀ y, inB (addT l v) y = (inB l y || decide (y = v))) ∧ (addT l v).length ≤ l.length + 1 := by
  unfold addT
  cases hl : l.getLast? with
  | none =>
    rw [List.getLast?_eq_none_iff] at hl
    subst hl
    dsimp only
    refine ⟨okTo_snoc (l := []) okTo_nil (fun z hz => by cases hz) ⟨by dsimp only; omega, by dsimp only; omega, by dsimp only; omega⟩, fun z hz => ?_, fun y => ?_, by simp⟩
    · rw [List.mem_singleton] at hz
      subst hz
      dsimp only
      omega
    · rw [Bool.eq_iff_iff, inB_mem, Bool.or_eq_true, decide_eq_true_eq, inB_mem]
      simp
      omega
  | some s =>
    dsimp only
    obtain ⟨m, rfl⟩ : ∃ m, l = m ++ [s] := by
      rw [List.getLast?_eq_some_iff] at hl
      obtain ⟨m, hm⟩ := hl
      exact ⟨m, hm⟩
    obtain ⟨f1, f2, f3⟩ := okTo_front h
    have hs := h1 s (by simp)
    by_cases e : s.t = v
    · rw [if_pos e, List.dropLast_concat]
      refine ⟨okTo_snoc f1 f2 ⟨by dsimp only; omega, by dsimp only; omega, by dsimp only; omega⟩, fun z hz => ?_, fun y => ?_, by simp⟩
      · rw [List.mem_append, List.mem_singleton] at hz
        rcases hz with hz | rfl
        · have := h1 z (by simp [hz])
          omega
        · dsimp only
          omega
      · rw [Bool.eq_iff_iff, inB_mem, Bool.or_eq_true, decide_eq_true_eq, inB_mem]
        constructor
        · rintro ⟨z, hz, h2, h3⟩
          rw [List.mem_append, List.mem_singleton] at hz
          rcases hz with hz | rfl
          · exact .inl ⟨z, by simp [hz], h2, h3⟩
          · dsimp only at h2 h3
            by_cases c : y = v
            · exact .inr c
            · exact .inl ⟨s, by simp, by omega, by omega⟩
        · rintro (⟨z, hz, h2, h3⟩ | rfl)
          · rw [List.mem_append, List.mem_singleton] at hz
            rcases hz with hz | rfl
            · exact ⟨z, by simp [hz], h2, h3⟩
            · exact ⟨⟨z.f, v + 1⟩, by simp, h2, by dsimp only; omega⟩
          · exact ⟨⟨s.f, y + 1⟩, by simp, by dsimp only; omega, by dsimp only; omega⟩
    · rw [if_neg e]
      refine ⟨okTo_snoc h (fun z hz => ?_) ⟨by dsimp only; omega, by dsimp only; omega, by dsimp only; omega⟩, fun z hz => ?_, fun y => ?_, by simp⟩
      · dsimp only
        rw [List.mem_append, List.mem_singleton] at hz
        rcases hz with hz | rfl
        · have := f2 z hz
          omega
        · omega
      · rw [List.mem_append, List.mem_singleton] at hz
        rcases hz with hz | rfl
        · have := h1 z hz
          omega
        · dsimp only
          omega
      · rw [Bool.eq_iff_iff, inB_mem, Bool.or_eq_true, decide_eq_true_eq, inB_mem]
        constructor
        · rintro ⟨z, hz, h2, h3⟩
          rw [List.mem_append, List.mem_singleton] at hz
          rcases hz with hz | rfl
          · exact .inl ⟨z, hz, h2, h3⟩
          · dsimp only at h2 h3
            exact .inr (by omega)
        · rintro (⟨z, hz, h2, h3⟩ | rfl)
          · exact ⟨z, List.mem_append.2 (.inl hz), h2, h3⟩
          · exact ⟨⟨y, y + 1⟩, by simp, by dsimp only; omega, by dsimp only; omega⟩
theorem runs_facts (p : Int → Bool) {x : Int} (hx : 0 ≤ x) : ∀ n : Nat, x + n ≤ 100000000 → okTo (runs p x n) (runs p x n).length = true ∧ (∀ z ∈ runs p x n, x ≤ z.f ∧ z.t ≤ x + n) ∧ (∀ y, inB (runs p x n) y = (decide (x ≤ y ∧ y < x + n) && p y)) ∧ (runs p x n).length ≤ n := by
  intro n
  induction n with
  | zero =>
    intro _
    refine ⟨okTo_nil, fun z hz => (by cases hz), fun y => ?_, Nat.le_refl _⟩
    rw [decide_eq_false (by omega)]
    rfl
  | succ n ih =>
    intro hn
    obtain ⟨h1, h2, h3, h4⟩ := ih (by omega)
    rw [runs]
    cases hp : p (x + n)
    · simp only [Bool.false_eq_true, if_false]
      refine ⟨h1, fun z hz => ?_, fun y => ?_, by omega⟩
      · have := h2 z hz
        omega
      · rw [h3]
        by_cases c : y = x + n
        · subst c
          rw [hp]
          simp
        · congr 1
          rw [decide_eq_decide]
          omega
    · simp only [if_true]
      obtain ⟨g1, g2, g3, g4⟩ := addT_facts (v := x + n) hx (by omega) (by omega) h1 h2
      refine ⟨g1, fun z hz => ?_, fun y => ?_, by omega⟩
      · have := g2 z hz
        omega
      · rw [g3, h3]
        by_cases c : y = x + n
        · subst c
          rw [hp]
          simp
          omega
        · rw [decide_eq_false c, Bool.or_false]
          congr 1
          rw [decide_eq_decide]
          omega
/-- where a span of what is told begins -/
theorem runs_start (p : Int → Bool) {x : Int} (hx : 0 ≤ x) {n : Nat} (hn : x + n ≤ 100000000) {z : Sp} (hz : z ∈ runs p x n) : p z.f = true ∧ (z.f = x ∨ p (z.f - 1) = false) := by
  obtain ⟨h1, h2, h3, h4⟩ := runs_facts p hx n hn
  obtain ⟨i, hi⟩ := List.getElem?_of_mem hz
  have ho := ok_own h1 hi
  have hb := h2 z hz
  have e1 := h3 z.f
  rw [inB_mem.2 ⟨z, hz, by omega, by omega⟩] at e1
  refine ⟨by simp at e1; exact e1.2, ?_⟩
  by_cases c : z.f = x
  · exact .inl c
  · right
    rw [Bool.eq_false_iff]
    intro hp
    have e2 := h3 (z.f - 1)
    rw [hp, decide_eq_true (by omega)] at e2
    obtain ⟨j, r, hr, h5, h6⟩ := inB_some.1 e2
    rcases Nat.lt_trichotomy j i with c | c | c
    · have := ok_lt h1 hr hi c
      omega
    · subst c
      rw [hi] at hr
      cases hr
      omega
    · have := ok_lt h1 hi hr c
      omega
/-- spans begin at no more places than there are -/
theorem runs_few (p : Int → Bool) {x : Int} (hx : 0 ≤ x) {n : Nat} (hn : x + n ≤ 100000000) (E : List Int) (hE : ∀ y, x < y → y < x + n → p y = true → p (y - 1) = false → y ∈ E) : (runs p x n).length ≤ E.length + 1 := by
  obtain ⟨h1, h2, h3, h4⟩ := runs_facts p hx n hn
  have h := nodup_len ((runs p x n).map (·.f)) (x :: E) (ok_nodup h1 _ (fun i j a b hij ha hb => by
    have h5 := ok_lt h1 ha hb hij
    have h6 := ok_own h1 ha
    omega)) (fun v hv => by
    obtain ⟨z, hz, rfl⟩ := List.mem_map.1 hv
    obtain ⟨h5, h6⟩ := runs_start p hx hn hz
    have h7 := h2 z hz
    obtain ⟨i, hi⟩ := List.getElem?_of_mem hz
    have h8 := ok_own h1 hi
    rcases h6 with h6 | h6
    · rw [h6]; exact List.mem_cons_self
    · by_cases c : z.f = x
      · rw [c]; exact List.mem_cons_self
      · exact List.mem_cons_of_mem _ (hE z.f (by omega) (by omega) h5 h6))
  simpa using h
end
section
open Go.RowKit Go.PlainAid
theorem cnt_far {l : List Sp} (h : okTo l l.length = true) (a : Int) {x : Int} (hx : 100000000 ≤ x) : cnt l a x = cnt l a 100000000 :=
  cntTo_far (fun i s _ hs => (ok_own h hs).2.2) hx
theorem fin_facts {l : List Sp} (h : okTo l l.length = true) {a m x : Int} (hm : 1 ≤ m) (hf : finL l a m = some x) : cnt l a x = m ∧ (∀ y, y < x → cnt l a y < m) ∧ x ≤ 100000000 ∧ a < x ∧ inB l (x - 1) = true := by
  obtain ⟨h1, h2⟩ := finTo_some h hm hf
  refine ⟨h1, h2, ?_, ?_, ?_⟩
  · rcases Int.lt_or_le 100000000 x with c | c
    · have := h2 100000000 c
      rw [← cnt_far h a (show (100000000 : Int) ≤ x by omega), h1] at this
      omega
    · exact c
  · rcases Int.lt_or_le a x with c | c
    · exact c
    · rw [cnt_self l c] at h1
      omega
  · cases hb : inB l (x - 1)
    · have e : cnt l a (x - 1 + 1) = cnt l a (x - 1) := cntTo_out hb _
      have := h2 (x - 1) (by omega)
      rw [show x - 1 + 1 = x by omega, h1] at e
      omega
    · rfl
theorem fin_some_of {l : List Sp} (h : okTo l l.length = true) {a m : Int} (hm : 1 ≤ m) (hc : m ≤ cnt l a 100000000) : ∃ x, finL l a m = some x := by
  cases hf : finL l a m with
  | some x => exact ⟨x, rfl⟩
  | none =>
    have := fin_none h hm hf
    omega
theorem fin_iff {l : List Sp} (h : okTo l l.length = true) {a m : Int} (hm : 1 ≤ m) : finL l a m = none ↔ cnt l a 100000000 < m := by
  constructor
  · exact fin_none h hm
  · intro hc
    cases hf : finL l a m with
    | none => rfl
    | some x =>
      obtain ⟨h1, _, h3, _⟩ := fin_facts h hm hf
      have := cnt_mono l (a := a) h3
      omega
theorem fin_le {l : List Sp} (h : okTo l l.length = true) {a m y : Int} (hm : 1 ≤ m) (hc : m ≤ cnt l a y) : ∃ x, finL l a m = some x ∧ x ≤ y := by
  have h1 : m ≤ cnt l a 100000000 := by
    rcases Int.le_total y 100000000 with c | c
    · have := cnt_mono l (a := a) c
      omega
    · rw [← cnt_far h a c]; exact hc
  obtain ⟨x, hx⟩ := fin_some_of h hm h1
  obtain ⟨_, h2, _⟩ := fin_facts h hm hx
  refine ⟨x, hx, ?_⟩
  rcases Int.lt_or_le y x with c | c
  · have := h2 y c
    omega
  · exact c
theorem later1 {l : List Sp} (h : okTo l l.length = true) {a m k b : Int} (hm : 1 ≤ m) (hk : 1 ≤ k) (hf : finL l a (m + k) = some b) : ∃ x, finL l a m = some x ∧ x < b := by
  obtain ⟨h1, _⟩ := fin_facts h (show 1 ≤ m + k by omega) hf
  obtain ⟨x, hx, hxb⟩ := fin_le h (a := a) (m := m) (y := b) hm (by omega)
  refine ⟨x, hx, ?_⟩
  obtain ⟨h2, _⟩ := fin_facts h hm hx
  rcases Int.lt_or_le x b with c | c
  · exact c
  · obtain rfl : x = b := by omega
    omega
theorem later2 {l : List Sp} (h : okTo l l.length = true) {a a' m c : Int} (hm : 1 ≤ m) (ha : a ≤ a') (hf : finL l a' m = some c) : ∃ x, finL l a m = some x ∧ x ≤ c := by
  obtain ⟨h1, _⟩ := fin_facts h hm hf
  have := cnt_anti l (c := c) ha
  exact fin_le h hm (by omega)
theorem later3 {l : List Sp} (h : okTo l l.length = true) {a m k x : Int} (hm : 1 ≤ m) (hk : 1 ≤ k) (hf : finL l a m = some x) : finL l x k = finL l a (m + k) := by
  obtain ⟨h1, h2, h3, h4, _⟩ := fin_facts h hm hf
  cases hd : finL l x k with
  | none =>
    rw [fin_iff h hk] at hd
    symm
    rw [fin_iff h (by omega), cnt_add h (b := x) (by omega) h3]
    omega
  | some d =>
    obtain ⟨g1, g2, g3, g4, _⟩ := fin_facts h hk hd
    have e : cnt l a d = m + k := by rw [cnt_add h (b := x) (by omega) (by omega)]; omega
    obtain ⟨b, hb, hbd⟩ := fin_le h (a := a) (m := m + k) (y := d) (by omega) (by omega)
    rw [hb]
    congr 1
    refine fin_least h (by omega) hb (by omega) fun z hz => ?_
    rcases Int.le_total z x with c | c
    · have := cnt_mono l (a := a) c
      omega
    · rw [cnt_add h (b := x) (by omega) c]
      have := g2 z hz
      omega
theorem fit1 {l : List Sp} (h : okTo l l.length = true) {a m k y : Int} (hm : 1 ≤ m) (hk : 0 ≤ k) (hf : fitL l a (m + k) = some y) : ∃ x, fitL l a m = some x ∧ x ≤ y := by
  obtain ⟨i, s, h1, h2, h3, h4, h5⟩ := fit_there hf
  cases hx : fitL l a m with
  | none => exact (fit_never hx h1 h3 (by omega) h5).elim
  | some x => exact ⟨x, rfl, fit_least h hx h1 h3 (by omega) h5 hm⟩
theorem fit2 {l : List Sp} (h : okTo l l.length = true) {a a' m y : Int} (hm : 1 ≤ m) (ha : a ≤ a') (hf : fitL l a' m = some y) : ∃ x, fitL l a m = some x ∧ x ≤ y := by
  obtain ⟨i, s, h1, h2, h3, h4, h5⟩ := fit_there hf
  cases hx : fitL l a m with
  | none => exact (fit_never hx h1 h3 h4 (by omega)).elim
  | some x => exact ⟨x, rfl, fit_least h hx h1 h3 h4 (by omega) hm⟩
theorem cnt_fit {l : List Sp} (h : okTo l l.length = true) {a m x : Int} (hm : 1 ≤ m) (hf : fitL l a m = some x) : cnt l x (x + m) = m ∧ x + m ≤ 100000000 ∧ a ≤ x := by
  obtain ⟨i, s, h1, h2, h3, h4, h5⟩ := fit_there hf
  have ho := ok_own h h1
  obtain ⟨n, rfl⟩ : ∃ n : Nat, m = n := ⟨m.toNat, by omega⟩
  exact ⟨cnt_one h h1 h3 h4, by omega, h5⟩
theorem fit_fin {l : List Sp} (h : okTo l l.length = true) {a m x : Int} (hm : 1 ≤ m) (hf : fitL l a m = some x) : ∃ e, finL l a m = some e ∧ e ≤ x + m := by
  obtain ⟨h1, h2, h3⟩ := cnt_fit h hm hf
  have := cnt_anti l (c := x + m) h3
  exact fin_le h hm (by omega)
theorem fit_first {l : List Sp} (h : okTo l l.length = true) {a m x y : Int} (hm : 1 ≤ m) (hf : fitL l a m = some x) (hy : a ≤ y) (hyx : y < x) : cnt l y (y + m) ≠ m := by
  intro e
  obtain ⟨n, rfl⟩ : ∃ n : Nat, m = n := ⟨m.toNat, by omega⟩
  obtain ⟨i, s, hs, h1, h2⟩ := all_one h (by omega) e
  have := fit_least h hf hs h1 h2 hy hm
  omega
theorem fit_no {l : List Sp} {a m : Int} (hf : fitL l a m = none) {s : Sp} (hs : s ∈ l) : s.t - max s.f a < m := by
  obtain ⟨i, hi⟩ := List.getElem?_of_mem hs
  have := fitTo_none hf i s (List.getElem?_eq_some_iff.1 hi).1 hi
  omega
theorem cntP_le {p q : Int → Bool} (hpq : ∀ y, p y = true → q y = true) (a : Int) (n : Nat) : cntP p a n ≤ cntP q a n := by
  induction n with
  | zero => exact Int.le_refl _
  | succ n ih =>
    rw [cntP, cntP]
    cases hp : p (a + n)
    · simp only [Bool.false_eq_true, if_false]
      split <;> omega
    · rw [hpq _ hp]
      simp only [if_true]
      omega
theorem cntP_both (p q : Int → Bool) (a : Int) (n : Nat) : cntP p a n + cntP q a n - cntP (fun y => p y && q y) a n ≤ n := by
  induction n with
  | zero => exact Int.le_refl _
  | succ n ih =>
    rw [cntP, cntP, cntP]
    cases hp : p (a + n) <;> cases hq : q (a + n) <;> simp <;> omega
theorem both_cnt {s t : List Sp} (hs : okTo s s.length = true) (ht : okTo t t.length = true) {a b : Int} (hab : a ≤ b) :
    cnt (bothL s t) a b ≤ cnt s a b ∧ cnt (bothL s t) a b ≤ cnt t a b ∧ cnt s a b + cnt t a b - cnt (bothL s t) a b ≤ b - a := by
  obtain ⟨n, rfl⟩ : ∃ n : Nat, b = a + n := ⟨(b - a).toNat, by omega⟩
  rw [cnt_P hs, cnt_P ht, cnt_P (both_ok hs ht), show inB (bothL s t) = fun y => inB s y && inB t y from funext (inB_both s t)]
  refine ⟨cntP_le (fun y hy => ?_) a n, cntP_le (fun y hy => ?_) a n, ?_⟩
  · rw [Bool.and_eq_true] at hy; exact hy.1
  · rw [Bool.and_eq_true] at hy; exact hy.2
  · have := cntP_both (inB s) (inB t) a n
    omega
/-- where a calendar begins to be open -/
theorem opn_begin {w c : List Sp} (hw : ∀ s ∈ w, 0 ≤ s.f) {y : Int} (h1 : opn w c y = true) (h2 : opn w c (y - 1) = false) : (∃ s ∈ w, y = s.f + 10080 * (y / 10080)) ∨ ∃ r ∈ c, y = r.t := by
  unfold opn at h1 h2
  rw [Bool.and_eq_true, Bool.not_eq_true'] at h1
  rw [Bool.and_eq_false_iff, Bool.not_eq_false'] at h2
  obtain ⟨s, hs, h3, h4⟩ := inB_mem.1 h1.1
  rcases h2 with h2 | h2
  · left
    refine ⟨s, hs, ?_⟩
    have h5 := inB_no h2 hs
    have h6 := hw s hs
    omega
  · right
    obtain ⟨r, hr, h5, h6⟩ := inB_mem.1 h2
    have h7 := inB_no h1.2 hr
    exact ⟨r, hr, by omega⟩
theorem opn_few {w c : List Sp} (hw : ∀ s ∈ w, 0 ≤ s.f) {x : Int} (hx : 0 ≤ x) {n : Nat} (hn : n ≤ 5000) (hxn : x + n ≤ 100000000) : (runs (opn w c) x n).length ≤ 2 * w.length + c.length + 1 := by
  have h := runs_few (opn w c) hx hxn (w.map (fun s => s.f + 10080 * (x / 10080)) ++ w.map (fun s => s.f + 10080 * (x / 10080 + 1)) ++ c.map (·.t)) (fun y h1 h2 h3 h4 => by
    rw [List.mem_append, List.mem_append]
    rcases opn_begin hw h3 h4 with ⟨s, hs, h5⟩ | ⟨r, hr, h5⟩
    · have h6 : y / 10080 = x / 10080 ∨ y / 10080 = x / 10080 + 1 := by omega
      rcases h6 with h6 | h6
      · exact .inl (.inl (List.mem_map.2 ⟨s, hs, by rw [← h6]; exact h5.symm⟩))
      · exact .inl (.inr (List.mem_map.2 ⟨s, hs, by rw [← h6]; exact h5.symm⟩))
    · exact .inr (List.mem_map.2 ⟨r, hr, h5.symm⟩))
  simp only [List.length_append, List.length_map] at h
  omega
end
end Go.Proofs.YtmhfkmnpeponiaaGreatDoor
