/-
  When work begins that must not be interrupted; the least time found by halving; high waters. No program in sight.
-/
import Derived.Test.YtodecgpjidlldaaDoorCPlain2
set_option linter.unusedSimpArgs false
set_option linter.unusedVariables false
namespace Go.Proofs.YtodecgpjidlldaaDoor
open Go.RowKit Go.PlainAid
/-- when work can begin, looked for among the first n spans -/
def fitTo (l : List Sp) (a m : Int) : Nat → Option Int
  | 0 => none
  | n + 1 => match fitTo l a m n with
    | some x => some x
    | none => match l[n]? with
      | none => none
      | some s => if m ≤ s.t - max s.f a then some (max s.f a) else none
theorem fitTo_none {l : List Sp} {a m : Int} {n : Nat} (h : fitTo l a m n = none) : ∀ i s, i < n → l[i]? = some s → ¬ m ≤ s.t - max s.f a := by
  induction n with
  | zero => intro i s hi; omega
  | succ n ih =>
    intro i s hi hs
    rw [fitTo] at h
    cases hf : fitTo l a m n with
    | some x => rw [hf] at h; cases h
    | none =>
      rw [hf] at h
      by_cases e : i = n
      · subst e
        rw [hs] at h
        dsimp only at h
        intro hc
        rw [if_pos hc] at h
        cases h
      · exact ih hf i s (by omega) hs
theorem fitTo_some {l : List Sp} {a m x : Int} {n : Nat} (h : fitTo l a m n = some x) : ∃ (i : Nat) (s : Sp), i < n ∧ l[i]? = some s ∧ m ≤ s.t - max s.f a ∧ x = max s.f a ∧ ∀ j r, j < i → l[j]? = some r → ¬ m ≤ r.t - max r.f a := by
  induction n with
  | zero => cases h
  | succ n ih =>
    rw [fitTo] at h
    cases hf : fitTo l a m n with
    | some y =>
      rw [hf] at h
      cases h
      obtain ⟨i, s, h1, h2⟩ := ih hf
      exact ⟨i, s, by omega, h2⟩
    | none =>
      rw [hf] at h
      dsimp only at h
      cases hs : l[n]? with
      | none => rw [hs] at h; cases h
      | some s =>
        rw [hs] at h
        dsimp only at h
        by_cases hc : m ≤ s.t - max s.f a
        · rw [if_pos hc] at h
          cases h
          exact ⟨n, s, by omega, hs, hc, rfl, fun j r hj hr => fitTo_none hf j r hj hr⟩
        · rw [if_neg hc] at h
          cases h
def fitL (l : List Sp) (a m : Int) : Option Int := fitTo l a m l.length
/-- any time at which work can begin in a span is not ahead of the first one -/
theorem fit_least {l : List Sp} (h : okTo l l.length = true) {a m x y : Int} (hf : fitL l a m = some x) {k : Nat} {r : Sp} (hr : l[k]? = some r) (h1 : r.f ≤ y) (h2 : y + m ≤ r.t) (h3 : a ≤ y) (hm : 1 ≤ m) : x ≤ y := by
  obtain ⟨i, s, hi, hs, hc, rfl, hno⟩ := fitTo_some hf
  rcases Nat.lt_trichotomy k i with e | e | e
  · have := hno k r e hr
    simp only [Int.max_def] at *
    (repeat' split at *) <;> omega
  · subst e
    rw [hs] at hr
    cases hr
    simp only [Int.max_def] at *
    (repeat' split at *) <;> omega
  · have h4 := ok_lt h hs hr e
    simp only [Int.max_def] at *
    (repeat' split at *) <;> omega
theorem fit_never {l : List Sp} {a m y : Int} (hf : fitL l a m = none) {k : Nat} {r : Sp} (hr : l[k]? = some r) (h1 : r.f ≤ y) (h2 : y + m ≤ r.t) (h3 : a ≤ y) : False := by
  have := fitTo_none hf k r (List.getElem?_eq_some_iff.1 hr).1 hr
  simp only [Int.max_def] at *
  (repeat' split at *) <;> omega
theorem fit_there {l : List Sp} {a m x : Int} (hf : fitL l a m = some x) : ∃ (i : Nat) (s : Sp), l[i]? = some s ∧ x = max s.f a ∧ s.f ≤ x ∧ x + m ≤ s.t ∧ a ≤ x := by
  obtain ⟨i, s, hi, hs, hc, rfl, hno⟩ := fitTo_some hf
  refine ⟨i, s, hs, rfl, ?_, ?_, ?_⟩ <;> simp only [Int.max_def] at * <;> (repeat' split at *) <;> omega
/-- the end of work that may be interrupted, looked for among the first n spans; what is left -/
def finTo (l : List Sp) (a m : Int) : Nat → Option Int
  | 0 => none
  | n + 1 => match finTo l a m n with
    | some x => some x
    | none => match l[n]? with
      | none => none
      | some s => if cntTo l a 100000000 n + max (s.t - max s.f a) 0 < m then none else some (max s.f a + (m - cntTo l a 100000000 n))
def finL (l : List Sp) (a m : Int) : Option Int := finTo l a m l.length
theorem finTo_none {l : List Sp} (h : okTo l l.length = true) {a m : Int} {n : Nat} (hm : 1 ≤ m) (hf : finTo l a m n = none) : cntTo l a 100000000 n < m := by
  induction n with
  | zero => show 0 < m; omega
  | succ n ih =>
    rw [finTo] at hf
    cases hp : finTo l a m n with
    | some x => rw [hp] at hf; cases hf
    | none =>
      rw [hp] at hf
      dsimp only at hf
      have hi := ih hp
      cases hs : l[n]? with
      | none => rw [cntTo, hs]; simpa using hi
      | some s =>
        rw [hs] at hf
        dsimp only at hf
        rw [cntTo_at hs]
        have ho := ok_own h hs
        by_cases hc : cntTo l a 100000000 n + max (s.t - max s.f a) 0 < m
        · have e : cnt1 s a 100000000 = max (s.t - max s.f a) 0 := by
            unfold cnt1
            rw [Int.min_eq_left (by omega)]
          rw [e]
          exact hc
        · rw [if_neg hc] at hf
          cases hf
theorem finTo_some {l : List Sp} (h : okTo l l.length = true) {a m x : Int} {n : Nat} (hm : 1 ≤ m) (hf : finTo l a m n = some x) : cnt l a x = m ∧ ∀ y, y < x → cnt l a y < m := by
  induction n with
  | zero => cases hf
  | succ n ih =>
    rw [finTo] at hf
    cases hp : finTo l a m n with
    | some y => rw [hp] at hf; cases hf; exact ih hp
    | none =>
      rw [hp] at hf
      dsimp only at hf
      have hi := finTo_none h hm hp
      cases hs : l[n]? with
      | none => rw [hs] at hf; cases hf
      | some s =>
        rw [hs] at hf
        dsimp only at hf
        by_cases hc : cntTo l a 100000000 n + max (s.t - max s.f a) 0 < m
        · rw [if_pos hc] at hf; cases hf
        · rw [if_neg hc] at hf
          cases hf
          exact fin_at h hs hi (by omega)
/-- the least time with enough is the end of the work -/
theorem fin_least {l : List Sp} (h : okTo l l.length = true) {a m x y : Int} (hm : 1 ≤ m) (hf : finL l a m = some x) (h1 : m ≤ cnt l a y) (h2 : ∀ z, z < y → cnt l a z < m) : y = x := by
  obtain ⟨h3, h4⟩ := finTo_some h hm hf
  rcases Int.lt_trichotomy y x with e | e | e
  · have := h4 y e
    omega
  · exact e
  · have := h2 x e
    omega
theorem fin_none {l : List Sp} (h : okTo l l.length = true) {a m : Int} (hm : 1 ≤ m) (hf : finL l a m = none) : cnt l a 100000000 < m := finTo_none h hm hf
end Go.Proofs.YtodecgpjidlldaaDoor
