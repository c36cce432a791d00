/-
  The program's answers beside the reference's: plain equalities.
-/
import Derived.Test.YtbpklalkoocneaaDoorE
import Derived.Test.YtbpklalkoocneaaDoorH
import Derived.Test.YtbpklalkoocneaaDoorI
import Derived.Test.YtbpklalkoocneaaDoorJ
import Derived.Test.YtbpklalkoocneaaDoorK
import Derived.Test.YtbpklalkoocneaaDoorL
import Derived.Test.YtbpklalkoocneaaDoorO
import Derived.Test.YtbpklalkoocneaaDoorY
set_option linter.unusedSimpArgs false
set_option linter.unusedVariables false
namespace Go.Proofs.YtbpklalkoocneaaDoor
open Go.RowKit Go.PlainAid
theorem lim_eq (l : List Cl) (k : Int) : limI l k = rlI l k := by
  unfold limI rlI
  by_cases h0 : 0 ≤ k ∧ k < l.length
  · rw [if_pos h0, if_pos h0]
    have ha := List.getElem?_eq_getElem (show k.toNat < l.length by omega)
    rw [ha]
    dsimp only
    by_cases h1 : k + 1 < l.length
    · have hb := List.getElem?_eq_getElem (show k.toNat + 1 < l.length by omega)
      rw [hb, if_pos ⟨h0.1, h1⟩]
      dsimp only
      unfold lim1 rl2
      (repeat' split) <;> omega
    · have hb : l[k.toNat + 1]? = none := List.getElem?_eq_none (by omega)
      rw [hb, if_neg (by omega)]
      dsimp only
      unfold lim1 rl2
      (repeat' split) <;> omega
  · rw [if_neg h0, if_neg h0, if_neg (by omega)]
    rfl
theorem at_eq (l : List Cl) (t : Int) : atB l t (rwI l t) = true := by
  unfold atB whB whK rwI rwTo whL
  cases h : whTo l t l.length with
  | none => rfl
  | some k =>
    simp
theorem rf_from (l : List Cl) (s : ByteArray) (k : Int) (h0 : 0 ≤ k) : ∀ (n i : Nat), i + n = l.length → k.toNat ≤ l.length → rfFrom l s k i n = (match fiFrom l s (max i k.toNat) (l.length - max i k.toNat) with
    | some j => (j : Int)
    | none => -1) := by
  intro n
  induction n with
  | zero =>
    intro i hi hk
    rw [rfFrom, show max i k.toNat = l.length by omega, Nat.sub_self]
    rfl
  | succ n ih =>
    intro i hi hk
    rw [rfFrom]
    by_cases h1 : k ≤ i
    · have e : max i k.toNat = i := by omega
      have e2 : l.length - i = (l.length - (i + 1)) + 1 := by omega
      rw [e, e2, fiFrom]
      by_cases h2 : isAt l s i = true
      · rw [if_pos ⟨h1, h2⟩, if_pos h2]
      · rw [if_neg (fun hh => h2 hh.2), if_neg h2, ih (i + 1) (by omega) hk]
        rw [show max (i + 1) k.toNat = i + 1 by omega]
    · rw [if_neg (fun hh => h1 hh.1), ih (i + 1) (by omega) hk]
      rw [show max (i + 1) k.toNat = max i k.toNat by omega]
theorem rf_none (l : List Cl) (s : ByteArray) (k : Int) : ∀ (n i : Nat), i + n = l.length → (l.length : Int) < k → rfFrom l s k i n = -1 := by
  intro n
  induction n with
  | zero => intro i _ _; rfl
  | succ n ih =>
    intro i hi hk
    rw [rfFrom, if_neg (fun hh => by omega), ih (i + 1) (by omega) hk]
theorem rf_eq (l : List Cl) (s : ByteArray) (k : Int) : rfI l s k = (match fiL l s k with
    | some j => (j : Int)
    | none => -1) := by
  unfold rfI fiL
  by_cases h0 : 0 ≤ k
  · rw [if_pos h0]
    by_cases h1 : k ≤ l.length
    · rw [if_pos ⟨h0, h1⟩, rf_from l s k h0 l.length 0 (by omega) (by omega)]
      rw [show max 0 k.toNat = k.toNat by omega]
    · rw [if_neg (fun hh => h1 hh.2), rf_none l s k l.length 0 (by omega) (by omega)]
  · rw [if_neg h0, if_neg (fun hh => h0 hh.1)]
theorem fi_eq (l : List Cl) (s : ByteArray) (k : Int) : fiB l s k = decide (0 ≤ rfI l s k) ∧ fiK l s k = max (rfI l s k) 0 := by
  rw [rf_eq]
  unfold fiB fiK
  cases h : fiL l s k with
  | none => exact ⟨rfl, rfl⟩
  | some j =>
    simp
theorem legTo_len {l : List Cl} : ∀ {n : Nat}, n + 1 ≤ l.length → (legTo l n).length = n * 3 := by
  intro n
  induction n with
  | zero => intro _; rfl
  | succ n ih =>
    intro h
    rw [legTo, List.length_append, ih (by omega), legAt_some (List.getElem?_eq_getElem (show n < l.length by omega)) (List.getElem?_eq_getElem (show n + 1 < l.length by omega))]
    simp
    omega
theorem legTo_get {l : List Cl} {x : Nat} {a b : Cl} (ha : l[x]? = some a) (hb : l[x + 1]? = some b) : ∀ {n : Nat}, x < n → n + 1 ≤ l.length → (legTo l n)[x * 3]? = some (.string a.p) ∧ (legTo l n)[x * 3 + 1]? = some (.string b.p) ∧ (legTo l n)[x * 3 + 2]? = some (.int .i64 (b.t - a.t)) := by
  intro n
  induction n with
  | zero => intro h; omega
  | succ n ih =>
    intro hx hn
    have hl := legTo_len (l := l) (n := n) (by omega)
    rw [legTo]
    by_cases e : x < n
    · have := ih e (by omega)
      rw [List.getElem?_append_left (by omega), List.getElem?_append_left (by omega), List.getElem?_append_left (by omega)]
      exact this
    · obtain rfl : x = n := by omega
      rw [List.getElem?_append_right (by omega), List.getElem?_append_right (by omega), List.getElem?_append_right (by omega), hl, legAt_some ha hb]
      simp
theorem legN_le (l : List Cl) : legN l = 0 ∨ legN l + 1 = l.length := by
  unfold legN
  split
  · rename_i h
    have := (val_ok h).1
    omega
  · omega
end Go.Proofs.YtbpklalkoocneaaDoor
