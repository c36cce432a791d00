/-
  Powers of two times odd numbers as fractions: which are too long. No program in sight.
-/
import Derived.Test.YtlkhafpkcfdlcaaDoorFG
set_option linter.unusedSimpArgs false
set_option linter.unusedVariables false
namespace Go.Proofs.YtlkhafpkcfdlcaaDoor
open Go.RowKit Go.PlainAid
theorem big_two : big = 2 ^ 256 := by decide
theorem two_le {n m : Nat} (h : n < m) : 2 * 2 ^ n ≤ 2 ^ m := by
  rw [← Nat.pow_succ']
  exact Nat.pow_le_pow_right (by omega) h
/-- how many bits a number has -/
structure Bits (o m : Nat) : Prop where
  lo : 2 ^ m ≤ 2 * o
  hi : o < 2 ^ m
  pos : 0 < o
theorem Bits.mul_lt {o m k : Nat} (h : Bits o m) : o * 2 ^ k < big ↔ m + k ≤ 256 := by
  rw [big_two]
  constructor
  · intro h1
    rcases Nat.lt_or_ge 256 (m + k) with h2 | h2
    · have h3 : 2 ^ (m + k) ≤ 2 * o * 2 ^ k := by rw [Nat.pow_add]; exact Nat.mul_le_mul_right _ h.lo
      have h4 := two_le h2
      rw [Nat.mul_assoc] at h3
      omega
    · exact h2
  · intro h1
    have h2 : o * 2 ^ k < 2 ^ m * 2 ^ k := Nat.mul_lt_mul_of_pos_right h.hi (Nat.pow_pos (by omega))
    rw [← Nat.pow_add] at h2
    exact Nat.lt_of_lt_of_le h2 (Nat.pow_le_pow_right (by omega) h1)
/-- a whole number as a rational one -/
def nr (n : Nat) : Rat := ((n : Int) : Rat)
theorem nr_mul (a b : Nat) : nr a * nr b = nr (a * b) := by
  unfold nr
  rw [← Rat.intCast_mul, Int.natCast_mul]
theorem nr_small {n : Nat} : Small (nr n) ↔ n < big := by
  unfold Small nr
  simp only [Rat.num_intCast, Int.natAbs_natCast, Rat.den_intCast]
  exact ⟨fun h => h.1, fun h => ⟨h, by decide⟩⟩
theorem nr_ne {n : Nat} (h : 0 < n) : nr n ≠ 0 := by
  unfold nr
  intro e
  have : ((n : Int) : Rat).num = 0 := by rw [e]; rfl
  rw [Rat.num_intCast] at this
  omega
theorem nr_inv_small {n : Nat} (h : 0 < n) : Small (nr n)⁻¹ ↔ n < big := by
  unfold Small nr
  rw [Rat.num_inv, Rat.den_inv, Rat.num_intCast, Rat.den_intCast, if_neg (by omega), Int.natAbs_natCast, Int.natAbs_mul, Int.natAbs_sign_of_ne_zero (by omega)]
  exact ⟨fun h => h.2, fun h => ⟨by decide, h⟩⟩
theorem nr_inv_inv (a b : Nat) (ha : 0 < a) (hb : 0 < b) : nr 1 / nr a / nr b = (nr (a * b))⁻¹ := by
  have e1 : nr 1 = 1 := rfl
  rw [e1, Rat.div_def, Rat.div_def, Rat.one_mul, ← nr_mul]
  have h : nr a * nr b ≠ 0 := by rw [nr_mul]; exact nr_ne (Nat.mul_pos ha hb)
  have e : (nr a)⁻¹ * (nr b)⁻¹ * (nr a * nr b) = 1 := by
    rw [Rat.mul_assoc, ← Rat.mul_assoc (nr b)⁻¹, Rat.mul_comm (nr b)⁻¹ (nr a), Rat.mul_assoc (nr a), Rat.inv_mul_cancel _ (nr_ne hb), Rat.mul_one, Rat.inv_mul_cancel _ (nr_ne ha)]
  have h2 : (nr a)⁻¹ * (nr b)⁻¹ * (nr a * nr b) * (nr a * nr b)⁻¹ = 1 * (nr a * nr b)⁻¹ := by rw [e]
  rw [Rat.mul_assoc, Rat.mul_inv_cancel _ h, Rat.mul_one, Rat.one_mul] at h2
  exact h2
theorem nr_bd {n N : Nat} (h : n ≤ N) : Bd (nr n) N 1 := ⟨by unfold nr; rw [Rat.num_intCast, Int.natAbs_natCast]; exact h, by unfold nr; rw [Rat.den_intCast]; exact Nat.le_refl _⟩
end Go.Proofs.YtlkhafpkcfdlcaaDoor
