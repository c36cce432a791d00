/-
  Lists of spans that are apart: their times one by one; the one list that has given times. No program in sight.
-/
import Derived.Test.YtodecgpjidlldaaDoorCPlain5
import Derived.Test.YtodecgpjidlldaaDoorCPlain7
import Derived.Test.YtodecgpjidlldaaDoorCPlain3
set_option linter.unusedSimpArgs false
set_option linter.unusedVariables false
namespace Go.Proofs.YtodecgpjidlldaaDoor
open Go.RowKit Go.PlainAid
theorem inB_mem {l : List Sp} {y : Int} : inB l y = true ↔ ∃ s ∈ l, s.f ≤ y ∧ y < s.t := by
  rw [inB_some]
  constructor
  · rintro ⟨i, s, h1, h2⟩
    exact ⟨s, List.mem_of_getElem? h1, h2⟩
  · rintro ⟨s, h1, h2⟩
    obtain ⟨i, hi⟩ := List.getElem?_of_mem h1
    exact ⟨i, s, hi, h2⟩
theorem inB_no {l : List Sp} {y : Int} (h : inB l y = false) {s : Sp} (hs : s ∈ l) : ¬ (s.f ≤ y ∧ y < s.t) := fun hc => by
  rw [inB_mem.2 ⟨s, hs, hc⟩] at h
  cases h
theorem cnt1_out {s : Sp} {a y : Int} (h : ¬ (s.f ≤ y ∧ y < s.t)) : cnt1 s a (y + 1) = cnt1 s a y := by
  simp only [cnt1, Int.max_def, Int.min_def]
  (repeat' split) <;> omega
theorem cnt1_in {s : Sp} {a y : Int} (h1 : s.f ≤ y) (h2 : y < s.t) (ha : a ≤ y) : cnt1 s a (y + 1) = cnt1 s a y + 1 := by
  simp only [cnt1, Int.max_def, Int.min_def]
  (repeat' split) <;> omega
theorem cntTo_out {l : List Sp} {a y : Int} (h : inB l y = false) : ∀ n, cntTo l a (y + 1) n = cntTo l a y n := by
  intro n
  induction n with
  | zero => rfl
  | succ n ih =>
    rw [cntTo, cntTo, ih]
    cases hs : l[n]? with
    | none => rfl
    | some s =>
      dsimp only
      rw [cnt1_out (inB_no h (List.mem_of_getElem? hs))]
theorem cntTo_in {l : List Sp} (h : okTo l l.length = true) {a y : Int} {i : Nat} {s : Sp} (hs : l[i]? = some s) (h1 : s.f ≤ y) (h2 : y < s.t) (ha : a ≤ y) : ∀ n, cntTo l a (y + 1) n = cntTo l a y n + (if i < n then 1 else 0) := by
  have hi := (List.getElem?_eq_some_iff.1 hs).1
  intro n
  induction n with
  | zero => rfl
  | succ n ih =>
    rw [cntTo, cntTo, ih]
    cases hr : l[n]? with
    | none =>
      have hn : l.length ≤ n := by
        rcases Nat.lt_or_ge n l.length with e | e
        · rw [List.getElem?_eq_getElem e] at hr; cases hr
        · exact e
      rw [if_pos (by omega), if_pos (by omega)]
      dsimp only
      omega
    | some r =>
      dsimp only
      rcases Nat.lt_trichotomy n i with e | e | e
      · have h3 := ok_lt h hr hs e
        rw [if_neg (by omega), if_neg (by omega), cnt1_out (by omega)]
        omega
      · subst e
        rw [hs] at hr
        cases hr
        rw [if_neg (by omega), if_pos (by omega), cnt1_in h1 h2 ha]
        omega
      · have h3 := ok_lt h hs hr e
        rw [if_pos (by omega), if_pos (by omega), cnt1_out (by omega)]
        omega
theorem cnt_step {l : List Sp} (h : okTo l l.length = true) {a y : Int} (ha : a ≤ y) : cnt l a (y + 1) = cnt l a y + (if inB l y then 1 else 0) := by
  cases hb : inB l y
  · unfold cnt
    rw [cntTo_out hb]
    simp
  · obtain ⟨i, s, hs, h1, h2⟩ := inB_some.1 hb
    have hi := (List.getElem?_eq_some_iff.1 hs).1
    unfold cnt
    rw [cntTo_in h hs h1 h2 ha, if_pos hi]
    simp
theorem cntTo_self (l : List Sp) {a y : Int} (h : y ≤ a) : ∀ n, cntTo l a y n = 0 := by
  intro n
  induction n with
  | zero => rfl
  | succ n ih =>
    rw [cntTo, ih]
    cases l[n]? with
    | none => rfl
    | some s => simp only [cnt1, Int.max_def, Int.min_def]; (repeat' split) <;> omega
theorem cnt_self (l : List Sp) {a y : Int} (h : y ≤ a) : cnt l a y = 0 := cntTo_self l h _
theorem cnt_pos (l : List Sp) (a b : Int) : 0 ≤ cnt l a b := cntTo_pos l a b _
theorem cnt_mono (l : List Sp) {a b c : Int} (h : b ≤ c) : cnt l a b ≤ cnt l a c := cntTo_mono l h _
theorem cnt_anti (l : List Sp) {a b c : Int} (h : a ≤ b) : cnt l b c ≤ cnt l a c := by
  unfold cnt
  generalize l.length = n
  induction n with
  | zero => exact Int.le_refl _
  | succ n ih =>
    rw [cntTo, cntTo]
    cases l[n]? with
    | none => simpa using ih
    | some s => simp only [cnt1, Int.max_def, Int.min_def]; (repeat' split) <;> omega
/-- how many of n times from a on are so -/
def cntP (p : Int → Bool) (a : Int) : Nat → Int
  | 0 => 0
  | n + 1 => cntP p a n + (if p (a + n) then 1 else 0)
theorem cnt_P {l : List Sp} (h : okTo l l.length = true) (a : Int) (n : Nat) : cnt l a (a + n) = cntP (inB l) a n := by
  induction n with
  | zero => exact cnt_self l (by omega)
  | succ n ih =>
    rw [cntP, ← ih, show a + ((n + 1 : Nat) : Int) = (a + n) + 1 by omega, cnt_step h (by omega)]
theorem cntP_bd (p : Int → Bool) (a : Int) (n : Nat) : 0 ≤ cntP p a n ∧ cntP p a n ≤ n := by
  induction n with
  | zero => exact ⟨Int.le_refl _, Int.le_refl _⟩
  | succ n ih =>
    rw [cntP]
    split <;> omega
theorem cntP_add (p : Int → Bool) (a : Int) (n m : Nat) : cntP p a (n + m) = cntP p a n + cntP p (a + n) m := by
  induction m with
  | zero => simp [cntP]
  | succ m ih =>
    rw [← Nat.add_assoc, cntP, ih, cntP, show a + ((n + m : Nat) : Int) = a + n + m by omega]
    omega
theorem cnt_add {l : List Sp} (h : okTo l l.length = true) {a b c : Int} (hab : a ≤ b) (hbc : b ≤ c) : cnt l a c = cnt l a b + cnt l b c := by
  obtain ⟨n, rfl⟩ : ∃ n : Nat, b = a + n := ⟨(b - a).toNat, by omega⟩
  obtain ⟨m, rfl⟩ : ∃ m : Nat, c = a + n + m := ⟨(c - (a + n)).toNat, by omega⟩
  rw [cnt_P h, cnt_P h (a + n), show a + (n : Int) + m = a + ((n + m : Nat) : Int) by omega, cnt_P h, cntP_add]
theorem cnt_bd {l : List Sp} (h : okTo l l.length = true) {a b : Int} (hab : a ≤ b) : cnt l a b ≤ b - a := by
  obtain ⟨n, rfl⟩ : ∃ n : Nat, b = a + n := ⟨(b - a).toNat, by omega⟩
  rw [cnt_P h]
  have := (cntP_bd (inB l) a n).2
  omega
theorem cntP_all {p : Int → Bool} {a : Int} {n : Nat} (h : cntP p a n = n) : ∀ j : Nat, j < n → p (a + j) = true := by
  induction n with
  | zero => intro j hj; omega
  | succ n ih =>
    rw [cntP] at h
    have hb := (cntP_bd p a n).2
    intro j hj
    cases hp : p (a + n)
    · rw [hp] at h
      simp at h
      omega
    · rw [hp] at h
      simp only [if_true] at h
      by_cases e : j = n
      · subst e; exact hp
      · exact ih (by omega) j (by omega)
/-- all of some times are in one span -/
theorem all_one {l : List Sp} (h : okTo l l.length = true) {a : Int} {n : Nat} (hn : 0 < n) (hc : cnt l a (a + n) = n) : ∃ (i : Nat) (s : Sp), l[i]? = some s ∧ s.f ≤ a ∧ a + n ≤ s.t := by
  rw [cnt_P h] at hc
  have hall := cntP_all hc
  obtain ⟨i, s, hs, h1, h2⟩ := inB_some.1 (hall 0 hn)
  refine ⟨i, s, hs, by omega, ?_⟩
  rcases Int.lt_or_le s.t (a + n) with e | e
  · exfalso
    obtain ⟨j, hj⟩ : ∃ j : Nat, s.t = a + j := ⟨(s.t - a).toNat, by omega⟩
    have h3 := hall j (by omega)
    rw [← hj] at h3
    obtain ⟨k, r, hr, h4, h5⟩ := inB_some.1 h3
    rcases Nat.lt_trichotomy k i with c | c | c
    · have := ok_lt h hr hs c
      have := ok_own h hs
      omega
    · subst c
      rw [hs] at hr
      cases hr
      omega
    · have := ok_lt h hs hr c
      omega
  · exact e
/-- a span has its times -/
theorem cnt_one {l : List Sp} (h : okTo l l.length = true) {i : Nat} {s : Sp} (hs : l[i]? = some s) {a : Int} {n : Nat} (h1 : s.f ≤ a) (h2 : a + n ≤ s.t) : cnt l a (a + n) = n := by
  induction n with
  | zero => exact cnt_self l (by omega)
  | succ n ih =>
    rw [show a + ((n + 1 : Nat) : Int) = (a + n) + 1 by omega, cnt_step h (by omega), ih (by omega), if_pos (inB_some.2 ⟨i, s, hs, by omega, by omega⟩)]
    omega
/-- where the first n spans end -/
def endOf (l : List Sp) : Nat → Int
  | 0 => 0
  | n + 1 => match l[n]? with
    | none => 0
    | some s => s.t
theorem told_take {l : List Sp} (h : okTo l l.length = true) : ∀ n, n ≤ l.length → 0 ≤ endOf l n ∧ endOf l n ≤ 100000000 ∧ (∀ i s, i < n → l[i]? = some s → s.t ≤ endOf l n) ∧ (∀ i s, n ≤ i → l[i]? = some s → endOf l n ≤ s.f) ∧ toldAt (inB l) 0 100000000 (endOf l n) = l.take n := by
  intro n
  induction n with
  | zero =>
    intro _
    refine ⟨by simp [endOf], by simp [endOf], fun i s hi => absurd hi (by omega), fun i s hi hs => (ok_own h hs).1, ?_⟩
    exact toldAt_begin (by omega) (Int.le_refl _)
  | succ n ih =>
    intro hn
    obtain ⟨h1, h2, h3, h4, h5⟩ := ih (by omega)
    have hs := List.getElem?_eq_getElem (show n < l.length by omega)
    obtain ⟨s, hse⟩ : ∃ s, s = l[n] := ⟨_, rfl⟩
    rw [← hse] at hs
    have ho := ok_own h hs
    have hp := h4 n s (Nat.le_refl _) hs
    have he : endOf l (n + 1) = s.t := by rw [endOf, hs]
    rw [he]
    refine ⟨by omega, by omega, fun i r hi hr => ok_rise h hr hs (by omega), fun i r hi hr => by have := ok_lt h hs hr (by omega); omega, ?_⟩
    rw [toldAt_step (pos := endOf l n) (a := s.f) (b := s.t) (by omega) hp (by omega) (fun y h6 h7 _ _ => ?_) (fun y h6 h7 _ _ => inB_some.2 ⟨n, s, hs, h6, h7⟩), h5, List.take_add_one, hs, Int.max_eq_left (by omega), Int.min_eq_left (by omega), Option.toList_some, addS_app (fun z hz => ?_) (by omega)]
    · obtain ⟨i, hi⟩ := List.getElem?_of_mem hz
      rw [List.getElem?_take] at hi
      split at hi
      · have := ok_lt h hi hs (by assumption)
        omega
      · cases hi
    · rw [Bool.eq_false_iff]
      intro hb
      obtain ⟨i, r, hr, h8, h9⟩ := inB_some.1 hb
      rcases Nat.lt_or_ge i n with c | c
      · have := h3 i r c hr
        omega
      · rcases Nat.eq_or_lt_of_le c with c | c
        · subst c
          rw [hs] at hr
          cases hr
          omega
        · have := ok_lt h hs hr c
          omega
theorem told_all {l : List Sp} (h : okTo l l.length = true) : toldAt (inB l) 0 100000000 100000000 = l := by
  obtain ⟨h1, h2, h3, h4, h5⟩ := told_take h l.length (Nat.le_refl _)
  rw [List.take_length] at h5
  rw [toldAt_no (pos := endOf l l.length) (by omega) h2 (fun y h6 h7 _ _ => ?_), h5]
  rw [Bool.eq_false_iff]
  intro hb
  obtain ⟨i, r, hr, h8, h9⟩ := inB_some.1 hb
  have := h3 i r (List.getElem?_eq_some_iff.1 hr).1 hr
  omega
/-- lists that are apart and have the same times are the same -/
theorem ok_ext {l m : List Sp} (h : okTo l l.length = true) (h' : okTo m m.length = true) (e : ∀ y, inB l y = inB m y) : l = m := by
  rw [← told_all h, ← told_all h', show inB l = inB m from funext e]
theorem okTo_snoc {l : List Sp} {s : Sp} (h : okTo l l.length = true) (h1 : ∀ z ∈ l, z.t < s.f) (h2 : 0 ≤ s.f ∧ s.f < s.t ∧ s.t ≤ 100000000) : okTo (l ++ [s]) (l ++ [s]).length = true := by
  unfold okTo
  rw [List.all_eq_true]
  intro i hi
  rw [List.mem_range, List.length_append, List.length_singleton] at hi
  by_cases e : i < l.length
  · have h3 := okTo_at h e
    unfold okAt at h3 ⊢
    rw [List.getElem?_append_left e]
    cases i with
    | zero => exact h3
    | succ i =>
      dsimp only at h3 ⊢
      rw [List.getElem?_append_left (by omega)]
      exact h3
  · obtain rfl : i = l.length := by omega
    unfold okAt
    rw [List.getElem?_append_right (Nat.le_refl _), Nat.sub_self]
    simp only [List.getElem?_cons_zero, Bool.and_eq_true, decide_eq_true_eq]
    refine ⟨⟨⟨h2.1, h2.2.1⟩, h2.2.2⟩, ?_⟩
    cases hl : l.length with
    | zero => rfl
    | succ k =>
      dsimp only
      rw [List.getElem?_append_left (by omega), List.getElem?_eq_getElem (by omega)]
      dsimp only
      rw [decide_eq_true_eq]
      exact h1 _ (List.getElem_mem _)
theorem okTo_front {l : List Sp} {s : Sp} (h : okTo (l ++ [s]) (l ++ [s]).length = true) : okTo l l.length = true ∧ (∀ z ∈ l, z.t < s.f) ∧ (0 ≤ s.f ∧ s.f < s.t ∧ s.t ≤ 100000000) := by
  have hs : (l ++ [s])[l.length]? = some s := by simp
  refine ⟨?_, fun z hz => ?_, ok_own h hs⟩
  · unfold okTo
    rw [List.all_eq_true]
    intro i hi
    rw [List.mem_range] at hi
    have h1 := okTo_at h (show i < (l ++ [s]).length by rw [List.length_append]; omega)
    unfold okAt at h1 ⊢
    rw [List.getElem?_append_left hi] at h1
    cases i with
    | zero => exact h1
    | succ i =>
      dsimp only at h1 ⊢
      rw [List.getElem?_append_left (by omega)] at h1
      exact h1
  · obtain ⟨i, hi⟩ := List.getElem?_of_mem hz
    have hl := (List.getElem?_eq_some_iff.1 hi).1
    exact ok_lt h (by rw [List.getElem?_append_left hl]; exact hi) hs hl
theorem okTo_nil : okTo [] ([] : List Sp).length = true := rfl
theorem both_ok {a b : List Sp} (ha : okTo a a.length = true) (hb : okTo b b.length = true) : okTo (bothL a b) (bothL a b).length = true := by
  have row : ∀ n s, a[n]? = some s → okTo (bothTo a b n) (bothTo a b n).length = true → ∀ k, okTo (bothTo a b n ++ rowTo s b k) (bothTo a b n ++ rowTo s b k).length = true := by
    intro n s hs h0 k
    induction k with
    | zero => rw [rowTo, List.append_nil]; exact h0
    | succ k ih =>
      rw [rowTo]
      cases hr : b[k]? with
      | none => dsimp only; rw [List.append_nil]; exact ih
      | some r =>
        dsimp only
        unfold pc
        split
        · rename_i hc
          rw [← List.append_assoc]
          have hos := ok_own ha hs
          have hor := ok_own hb hr
          refine okTo_snoc ih (fun z hz => ?_) ⟨by dsimp only; omega, hc, by dsimp only; omega⟩
          dsimp only
          rw [List.mem_append] at hz
          rcases hz with hz | hz
          · obtain ⟨j, q, h1, h2, h3⟩ := bothTo_mem hz
            have := ok_lt ha h2 hs h1
            omega
          · obtain ⟨_, j, q, h1, h2, h3⟩ := rowTo_mem hz
            have := ok_lt hb h2 hr h1
            omega
        · rw [List.append_nil]; exact ih
  have all : ∀ n, okTo (bothTo a b n) (bothTo a b n).length = true := by
    intro n
    induction n with
    | zero => exact okTo_nil
    | succ n ih =>
      rw [bothTo]
      cases hs : a[n]? with
      | none => dsimp only; rw [List.append_nil]; exact ih
      | some s => exact row n s hs ih _
  exact all _
theorem pc_in {s r : Sp} {y : Int} : (∃ z ∈ pc s r, z.f ≤ y ∧ y < z.t) ↔ (s.f ≤ y ∧ y < s.t) ∧ (r.f ≤ y ∧ y < r.t) := by
  unfold pc
  split
  · simp only [List.mem_singleton, exists_eq_left]
    omega
  · constructor
    · rintro ⟨z, hz, _⟩
      cases hz
    · intro h
      exfalso
      omega
theorem rowTo_in {s : Sp} {b : List Sp} {y : Int} : ∀ n, (∃ z ∈ rowTo s b n, z.f ≤ y ∧ y < z.t) ↔ (s.f ≤ y ∧ y < s.t) ∧ inTo b y n = true := by
  intro n
  induction n with
  | zero =>
    constructor
    · rintro ⟨z, hz, _⟩; cases hz
    · rintro ⟨_, h⟩; cases h
  | succ n ih =>
    rw [rowTo, inTo_succ, Bool.or_eq_true]
    constructor
    · rintro ⟨z, hz, h1⟩
      rw [List.mem_append] at hz
      rcases hz with hz | hz
      · obtain ⟨h2, h3⟩ := ih.1 ⟨z, hz, h1⟩
        exact ⟨h2, .inl h3⟩
      · cases hr : b[n]? with
        | none => rw [hr] at hz; cases hz
        | some r =>
          rw [hr] at hz
          obtain ⟨h2, h3⟩ := pc_in.1 ⟨z, hz, h1⟩
          exact ⟨h2, .inr (by simpa using h3)⟩
    · rintro ⟨h1, h2 | h2⟩
      · obtain ⟨z, hz, h3⟩ := ih.2 ⟨h1, h2⟩
        exact ⟨z, List.mem_append.2 (.inl hz), h3⟩
      · cases hr : b[n]? with
        | none => rw [hr] at h2; cases h2
        | some r =>
          rw [hr] at h2
          obtain ⟨z, hz, h3⟩ := pc_in.2 ⟨h1, (by simpa using h2 : r.f ≤ y ∧ y < r.t)⟩
          exact ⟨z, List.mem_append.2 (.inr hz), h3⟩
theorem bothTo_in {a b : List Sp} {y : Int} : ∀ n, (∃ z ∈ bothTo a b n, z.f ≤ y ∧ y < z.t) ↔ inTo a y n = true ∧ inB b y = true := by
  intro n
  induction n with
  | zero =>
    constructor
    · rintro ⟨z, hz, _⟩; cases hz
    · rintro ⟨h, _⟩; cases h
  | succ n ih =>
    rw [bothTo, inTo_succ, Bool.or_eq_true]
    constructor
    · rintro ⟨z, hz, h1⟩
      rw [List.mem_append] at hz
      rcases hz with hz | hz
      · obtain ⟨h2, h3⟩ := ih.1 ⟨z, hz, h1⟩
        exact ⟨.inl h2, h3⟩
      · cases hr : a[n]? with
        | none => rw [hr] at hz; cases hz
        | some r =>
          rw [hr] at hz
          obtain ⟨h2, h3⟩ := (rowTo_in _).1 ⟨z, hz, h1⟩
          exact ⟨.inr (by simpa using h2), h3⟩
    · rintro ⟨h1 | h1, h2⟩
      · obtain ⟨z, hz, h3⟩ := ih.2 ⟨h1, h2⟩
        exact ⟨z, List.mem_append.2 (.inl hz), h3⟩
      · cases hr : a[n]? with
        | none => rw [hr] at h1; cases h1
        | some r =>
          rw [hr] at h1
          obtain ⟨z, hz, h3⟩ := (rowTo_in (s := r) (b := b) (y := y) b.length).2 ⟨by simpa using h1, h2⟩
          exact ⟨z, List.mem_append.2 (.inr hz), h3⟩
theorem inB_both (a b : List Sp) (y : Int) : inB (bothL a b) y = (inB a y && inB b y) := by
  rw [Bool.eq_iff_iff, Bool.and_eq_true, inB_mem]
  exact bothTo_in a.length
theorem both_comm {a b : List Sp} (ha : okTo a a.length = true) (hb : okTo b b.length = true) : bothL a b = bothL b a :=
  ok_ext (both_ok ha hb) (both_ok hb ha) fun y => by rw [inB_both, inB_both, Bool.and_comm]
theorem both_self {a : List Sp} (ha : okTo a a.length = true) : bothL a a = a :=
  ok_ext (both_ok ha ha) ha fun y => by rw [inB_both, Bool.and_self]
/-- different things of a list are at most as many as the list is long -/
theorem nodup_len {α : Type} [DecidableEq α] : ∀ (l E : List α), l.Nodup → (∀ x ∈ l, x ∈ E) → l.length ≤ E.length := by
  intro l
  induction l with
  | nil => intro E _ _; exact Nat.zero_le _
  | cons x l ih =>
    intro E hn he
    rw [List.nodup_cons] at hn
    have hx := he x List.mem_cons_self
    have := ih (E.erase x) hn.2 (fun y hy => (List.mem_erase_of_ne (fun e => hn.1 (by rw [← e]; exact hy))).2 (he y (List.mem_cons_of_mem _ hy)))
    rw [List.length_erase_of_mem hx] at this
    have hp := List.length_pos_of_mem hx
    rw [List.length_cons]
    omega
theorem ok_nodup {l : List Sp} (h : okTo l l.length = true) (g : Sp → Int) (hg : ∀ (i j : Nat) (a b : Sp), i < j → l[i]? = some a → l[j]? = some b → g a < g b) : (l.map g).Nodup := by
  rw [List.nodup_iff_pairwise_ne, List.pairwise_iff_getElem]
  intro i j hi hj hij e
  rw [List.length_map] at hi hj
  simp only [List.getElem_map] at e
  have := hg i j _ _ hij (List.getElem?_eq_getElem hi) (List.getElem?_eq_getElem hj)
  omega
theorem both_end {a b : List Sp} {z : Sp} (h : z ∈ bothL a b) : (∃ s ∈ a, z.t = s.t) ∨ ∃ r ∈ b, z.t = r.t := by
  have row : ∀ s ∈ a, ∀ n, z ∈ rowTo s b n → (∃ s ∈ a, z.t = s.t) ∨ ∃ r ∈ b, z.t = r.t := by
    intro s hs n
    induction n with
    | zero => intro h; cases h
    | succ n ih =>
      intro h
      rw [rowTo, List.mem_append] at h
      rcases h with h | h
      · exact ih h
      · cases hr : b[n]? with
        | none => rw [hr] at h; cases h
        | some r =>
          rw [hr] at h
          dsimp only at h
          unfold pc at h
          split at h
          · simp at h
            subst h
            dsimp only
            rcases Int.le_total s.t r.t with c | c
            · exact .inl ⟨s, hs, by omega⟩
            · exact .inr ⟨r, List.mem_of_getElem? hr, by omega⟩
          · cases h
  have all : ∀ n, z ∈ bothTo a b n → (∃ s ∈ a, z.t = s.t) ∨ ∃ r ∈ b, z.t = r.t := by
    intro n
    induction n with
    | zero => intro h; cases h
    | succ n ih =>
      intro h
      rw [bothTo, List.mem_append] at h
      rcases h with h | h
      · exact ih h
      · cases hr : a[n]? with
        | none => rw [hr] at h; cases h
        | some s =>
          rw [hr] at h
          exact row s (List.mem_of_getElem? hr) _ h
  exact all _ h
theorem both_len {a b : List Sp} (ha : okTo a a.length = true) (hb : okTo b b.length = true) : (bothL a b).length ≤ a.length + b.length := by
  have hok := both_ok ha hb
  have h := nodup_len ((bothL a b).map (·.t)) (a.map (·.t) ++ b.map (·.t)) (ok_nodup hok _ (fun i j x y hij hx hy => by
    have h1 := ok_lt hok hx hy hij
    have h2 := ok_own hok hy
    omega)) (fun x hx => by
    obtain ⟨z, hz, rfl⟩ := List.mem_map.1 hx
    rw [List.mem_append]
    rcases both_end hz with ⟨s, h1, h2⟩ | ⟨s, h1, h2⟩
    · exact .inl (List.mem_map.2 ⟨s, h1, h2.symm⟩)
    · exact .inr (List.mem_map.2 ⟨s, h1, h2.symm⟩))
  simpa using h
/-- what is told time by time -/
theorem addT_facts {l : List Sp} {x v : Int} (hx : 0 ≤ x) (hxv : x ≤ v) (hv : v < 100000000) (h : okTo l l.length = true) (h1 : ∀ z ∈ l, x ≤ z.f ∧ z.t ≤ v) :
    okTo (addT l v) (addT l v).length = true ∧ (∀ z ∈ addT l v, x ≤ z.f ∧ z.t ≤ v + 1) ∧ (∀ y, inB (addT l v) y = (inB l y || decide (y = v))) ∧ (addT l v).length ≤ l.length + 1 := by
  unfold addT
  cases hl : l.getLast? with
  | none =>
    rw [List.getLast?_eq_none_iff] at hl
    subst hl
    dsimp only
    refine ⟨okTo_snoc (l := []) okTo_nil (fun z hz => by cases hz) ⟨by dsimp only; omega, by dsimp only; omega, by dsimp only; omega⟩, fun z hz => ?_, fun y => ?_, by simp⟩
    · rw [List.mem_singleton] at hz
      subst hz
      dsimp only
      omega
    · rw [Bool.eq_iff_iff, inB_mem, Bool.or_eq_true, decide_eq_true_eq, inB_mem]
      simp
      omega
  | some s =>
    dsimp only
    obtain ⟨m, rfl⟩ : ∃ m, l = m ++ [s] := by
      rw [List.getLast?_eq_some_iff] at hl
      obtain ⟨m, hm⟩ := hl
      exact ⟨m, hm⟩
    obtain ⟨f1, f2, f3⟩ := okTo_front h
    have hs := h1 s (by simp)
    by_cases e : s.t = v
    · rw [if_pos e, List.dropLast_concat]
      refine ⟨okTo_snoc f1 f2 ⟨by dsimp only; omega, by dsimp only; omega, by dsimp only; omega⟩, fun z hz => ?_, fun y => ?_, by simp⟩
      · rw [List.mem_append, List.mem_singleton] at hz
        rcases hz with hz | rfl
        · have := h1 z (by simp [hz])
          omega
        · dsimp only
          omega
      · rw [Bool.eq_iff_iff, inB_mem, Bool.or_eq_true, decide_eq_true_eq, inB_mem]
        constructor
        · rintro ⟨z, hz, h2, h3⟩
          rw [List.mem_append, List.mem_singleton] at hz
          rcases hz with hz | rfl
          · exact .inl ⟨z, by simp [hz], h2, h3⟩
          · dsimp only at h2 h3
            by_cases c : y = v
            · exact .inr c
            · exact .inl ⟨s, by simp, by omega, by omega⟩
        · rintro (⟨z, hz, h2, h3⟩ | rfl)
          · rw [List.mem_append, List.mem_singleton] at hz
            rcases hz with hz | rfl
            · exact ⟨z, by simp [hz], h2, h3⟩
            · exact ⟨⟨z.f, v + 1⟩, by simp, h2, by dsimp only; omega⟩
          · exact ⟨⟨s.f, y + 1⟩, by simp, by dsimp only; omega, by dsimp only; omega⟩
    · rw [if_neg e]
      refine ⟨okTo_snoc h (fun z hz => ?_) ⟨by dsimp only; omega, by dsimp only; omega, by dsimp only; omega⟩, fun z hz => ?_, fun y => ?_, by simp⟩
      · dsimp only
        rw [List.mem_append, List.mem_singleton] at hz
        rcases hz with hz | rfl
        · have := f2 z hz
          omega
        · omega
      · rw [List.mem_append, List.mem_singleton] at hz
        rcases hz with hz | rfl
        · have := h1 z hz
          omega
        · dsimp only
          omega
      · rw [Bool.eq_iff_iff, inB_mem, Bool.or_eq_true, decide_eq_true_eq, inB_mem]
        constructor
        · rintro ⟨z, hz, h2, h3⟩
          rw [List.mem_append, List.mem_singleton] at hz
          rcases hz with hz | rfl
          · exact .inl ⟨z, hz, h2, h3⟩
          · dsimp only at h2 h3
            exact .inr (by omega)
        · rintro (⟨z, hz, h2, h3⟩ | rfl)
          · exact ⟨z, List.mem_append.2 (.inl hz), h2, h3⟩
          · exact ⟨⟨y, y + 1⟩, by simp, by dsimp only; omega, by dsimp only; omega⟩
theorem runs_facts (p : Int → Bool) {x : Int} (hx : 0 ≤ x) : ∀ n : Nat, x + n ≤ 100000000 → okTo (runs p x n) (runs p x n).length = true ∧ (∀ z ∈ runs p x n, x ≤ z.f ∧ z.t ≤ x + n) ∧ (∀ y, inB (runs p x n) y = (decide (x ≤ y ∧ y < x + n) && p y)) ∧ (runs p x n).length ≤ n := by
  intro n
  induction n with
  | zero =>
    intro _
    refine ⟨okTo_nil, fun z hz => (by cases hz), fun y => ?_, Nat.le_refl _⟩
    rw [decide_eq_false (by omega)]
    rfl
  | succ n ih =>
    intro hn
    obtain ⟨h1, h2, h3, h4⟩ := ih (by omega)
    rw [runs]
    cases hp : p (x + n)
    · simp only [Bool.false_eq_true, if_false]
      refine ⟨h1, fun z hz => ?_, fun y => ?_, by omega⟩
      · have := h2 z hz
        omega
      · rw [h3]
        by_cases c : y = x + n
        · subst c
          rw [hp]
          simp
        · congr 1
          rw [decide_eq_decide]
          omega
    · simp only [if_true]
      obtain ⟨g1, g2, g3, g4⟩ := addT_facts (v := x + n) hx (by omega) (by omega) h1 h2
      refine ⟨g1, fun z hz => ?_, fun y => ?_, by omega⟩
      · have := g2 z hz
        omega
      · rw [g3, h3]
        by_cases c : y = x + n
        · subst c
          rw [hp]
          simp
          omega
        · rw [decide_eq_false c, Bool.or_false]
          congr 1
          rw [decide_eq_decide]
          omega
/-- where a span of what is told begins -/
theorem runs_start (p : Int → Bool) {x : Int} (hx : 0 ≤ x) {n : Nat} (hn : x + n ≤ 100000000) {z : Sp} (hz : z ∈ runs p x n) : p z.f = true ∧ (z.f = x ∨ p (z.f - 1) = false) := by
  obtain ⟨h1, h2, h3, h4⟩ := runs_facts p hx n hn
  obtain ⟨i, hi⟩ := List.getElem?_of_mem hz
  have ho := ok_own h1 hi
  have hb := h2 z hz
  have e1 := h3 z.f
  rw [inB_mem.2 ⟨z, hz, by omega, by omega⟩] at e1
  refine ⟨by simp at e1; exact e1.2, ?_⟩
  by_cases c : z.f = x
  · exact .inl c
  · right
    rw [Bool.eq_false_iff]
    intro hp
    have e2 := h3 (z.f - 1)
    rw [hp, decide_eq_true (by omega)] at e2
    obtain ⟨j, r, hr, h5, h6⟩ := inB_some.1 e2
    rcases Nat.lt_trichotomy j i with c | c | c
    · have := ok_lt h1 hr hi c
      omega
    · subst c
      rw [hi] at hr
      cases hr
      omega
    · have := ok_lt h1 hi hr c
      omega
/-- spans begin at no more places than there are -/
theorem runs_few (p : Int → Bool) {x : Int} (hx : 0 ≤ x) {n : Nat} (hn : x + n ≤ 100000000) (E : List Int) (hE : ∀ y, x < y → y < x + n → p y = true → p (y - 1) = false → y ∈ E) : (runs p x n).length ≤ E.length + 1 := by
  obtain ⟨h1, h2, h3, h4⟩ := runs_facts p hx n hn
  have h := nodup_len ((runs p x n).map (·.f)) (x :: E) (ok_nodup h1 _ (fun i j a b hij ha hb => by
    have h5 := ok_lt h1 ha hb hij
    have h6 := ok_own h1 ha
    omega)) (fun v hv => by
    obtain ⟨z, hz, rfl⟩ := List.mem_map.1 hv
    obtain ⟨h5, h6⟩ := runs_start p hx hn hz
    have h7 := h2 z hz
    obtain ⟨i, hi⟩ := List.getElem?_of_mem hz
    have h8 := ok_own h1 hi
    rcases h6 with h6 | h6
    · rw [h6]; exact List.mem_cons_self
    · by_cases c : z.f = x
      · rw [c]; exact List.mem_cons_self
      · exact List.mem_cons_of_mem _ (hE z.f (by omega) (by omega) h5 h6))
  simpa using h
end Go.Proofs.YtodecgpjidlldaaDoor
