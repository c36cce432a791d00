/-
  Where the ship is, on a right route. No program in sight.
-/
import Derived.Test.YtbpklalkoocneaaDoorMadeP
set_option linter.unusedSimpArgs false
set_option linter.unusedVariables false
namespace Go.Proofs.YtbpklalkoocneaaDoor
open Go.RowKit Go.PlainAid
theorem whTo_at {l : List Cl} {t : Int} {k : Nat} {c : Cl} (hc : l[k]? = some c) (h1 : c.t ≤ t) : ∀ {n : Nat}, k < n → (∀ j d, k < j → j < n → l[j]? = some d → t < d.t) → whTo l t n = some k := by
  intro n
  induction n with
  | zero => intro h; omega
  | succ n ih =>
    intro hk h
    by_cases e : k = n
    · subst e
      exact whTo_here hc h1
    · have hi := ih (by omega) (fun j d h2 h3 hd => h j d h2 (by omega) hd)
      rw [whTo]
      cases hd : l[n]? with
      | none => exact hi
      | some d =>
        dsimp only
        rw [if_neg (by have := h n d (by omega) (by omega) hd; omega)]
        exact hi
theorem whTo_no {l : List Cl} {t : Int} : ∀ {n : Nat}, (∀ j d, j < n → l[j]? = some d → t < d.t) → whTo l t n = none := by
  intro n
  induction n with
  | zero => intro _; rfl
  | succ n ih =>
    intro h
    have hi := ih (fun j d h2 hd => h j d (by omega) hd)
    rw [whTo]
    cases hd : l[n]? with
    | none => exact hi
    | some d =>
      dsimp only
      rw [if_neg (by have := h n d (by omega) hd; omega)]
      exact hi
/-- strictly later -/
theorem val_lt {l : List Cl} (h : valE l = 0) {i j : Nat} {a b : Cl} (hij : i < j) (ha : l[i]? = some a) (hb : l[j]? = some b) : a.t < b.t := by
  have hj := (List.getElem?_eq_some_iff.1 hb).1
  have hc := List.getElem?_eq_getElem (show j - 1 < l.length by omega)
  have h1 := val_incr h (show i ≤ j - 1 by omega) ha hc
  have h2 := (val_next h hc (by rw [show j - 1 + 1 = j by omega]; exact hb)).1
  omega
theorem at_here {l : List Cl} (h : valE l = 0) {k : Nat} {c : Cl} (hc : l[k]? = some c) : atB l c.t k = true := by
  have hk := (List.getElem?_eq_some_iff.1 hc).1
  have hw : whL l c.t = some k := whTo_at hc (by omega) hk (fun j d h2 _ hd => val_lt h h2 hc hd)
  unfold atB whB whK
  rw [hw]
  simp
theorem at_before {l : List Cl} (h : valE l = 0) {k : Nat} {c : Cl} (hc : l[k]? = some c) : atB l (c.t - 1) ((k : Int) - 1) = true := by
  have hk := (List.getElem?_eq_some_iff.1 hc).1
  cases k with
  | zero =>
    have hw : whL l (c.t - 1) = none := whTo_no (fun j d _ hd => by
      have := val_incr h (Nat.zero_le j) hc hd
      omega)
    unfold atB whB whK
    rw [hw]
    simp
    omega
  | succ k =>
    have hb := List.getElem?_eq_getElem (show k < l.length by omega)
    have hw : whL l (c.t - 1) = some k := whTo_at hb (by have := val_lt h (Nat.lt_succ_self k) hb hc; omega) (by omega) (fun j d h2 _ hd => by
      have := val_incr h (show k + 1 ≤ j by omega) hc hd
      omega)
    unfold atB whB whK
    rw [hw]
    simp
theorem wh_none {l : List Cl} {t : Int} (h : valE l = 0) (hw : whL l t = none) {c : Cl} (hc : l[0]? = some c) : t < c.t := by
  have : ∀ n, whTo l t n = none → ∀ j d, j < n → l[j]? = some d → t < d.t := by
    intro n
    induction n with
    | zero => intro _ j d hj; omega
    | succ n ih =>
      intro hn j d hj hd
      rw [whTo] at hn
      cases hc2 : l[n]? with
      | none =>
        rw [hc2] at hn
        by_cases e : j = n
        · rw [e, hc2] at hd; cases hd
        · exact ih hn j d (by omega) hd
      | some c2 =>
        rw [hc2] at hn
        dsimp only at hn
        split at hn
        · cases hn
        · by_cases e : j = n
          · rw [e, hc2] at hd; cases hd; omega
          · exact ih hn j d (by omega) hd
  exact this _ hw 0 c (by have := (List.getElem?_eq_some_iff.1 hc).1; omega) hc
theorem wh_some {l : List Cl} {t : Int} {k : Nat} (hw : whL l t = some k) : ∃ c, l[k]? = some c ∧ c.t ≤ t ∧ ∀ d, l[k + 1]? = some d → t < d.t := by
  have : ∀ n, whTo l t n = some k → ∃ c, l[k]? = some c ∧ c.t ≤ t ∧ (k < n ∧ ∀ j d, k < j → j < n → l[j]? = some d → t < d.t) := by
    intro n
    induction n with
    | zero => intro h; cases h
    | succ n ih =>
      intro hn
      rw [whTo] at hn
      cases hc2 : l[n]? with
      | none =>
        rw [hc2] at hn
        obtain ⟨c, q1, q2, q3, q4⟩ := ih hn
        exact ⟨c, q1, q2, by omega, fun j d h1 h2 hd => by
          by_cases e : j = n
          · rw [e, hc2] at hd; cases hd
          · exact q4 j d h1 (by omega) hd⟩
      | some c2 =>
        rw [hc2] at hn
        dsimp only at hn
        split at hn
        · cases hn
          exact ⟨c2, hc2, by assumption, by omega, fun j d h1 h2 => by omega⟩
        · obtain ⟨c, q1, q2, q3, q4⟩ := ih hn
          exact ⟨c, q1, q2, by omega, fun j d h1 h2 hd => by
            by_cases e : j = n
            · rw [e, hc2] at hd; cases hd; omega
            · exact q4 j d h1 (by omega) hd⟩
  obtain ⟨c, q1, q2, q3, q4⟩ := this _ hw
  exact ⟨c, q1, q2, fun d hd => q4 (k + 1) d (by omega) (List.getElem?_eq_some_iff.1 hd).1 hd⟩
/-- the limits -/
theorem lim_two {l : List Cl} {k : Nat} {a b : Cl} (ha : l[k]? = some a) (hb : l[k + 1]? = some b) : limI l k = lim1 (lim1 0 a.d) b.d := by
  have hk := (List.getElem?_eq_some_iff.1 hb).1
  unfold limI
  rw [if_pos ⟨by omega, by omega⟩, Int.toNat_natCast, ha, hb]
theorem lim_one {l : List Cl} {k : Nat} {a : Cl} (ha : l[k]? = some a) (hb : l[k + 1]? = none) : limI l k = lim1 0 a.d := by
  have hk := (List.getElem?_eq_some_iff.1 ha).1
  unfold limI
  rw [if_pos ⟨by omega, by omega⟩, Int.toNat_natCast, ha, hb]
theorem lim_out {l : List Cl} {n : Int} (h : ¬ (0 ≤ n ∧ n < l.length)) : limI l n = 0 := by unfold limI; rw [if_neg h]
end Go.Proofs.YtbpklalkoocneaaDoor
