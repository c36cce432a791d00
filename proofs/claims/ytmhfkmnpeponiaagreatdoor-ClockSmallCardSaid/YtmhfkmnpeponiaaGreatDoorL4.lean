/-
  The walks of the laws of the clock: whether a time is in spans, a number that is picked, the calendar of the examples.
-/
import Derived.Test.YtmhfkmnpeponiaaGreatDoorL1
namespace Go.Proofs.YtmhfkmnpeponiaaGreatDoor
open Go Sat Go.RowKit Go.PlainAid
set_option linter.unusedSimpArgs false
set_option linter.unusedVariables false
theorem tmod_pick {x n : Int} (hn : 1 ≤ n) : (x.tmod n < 0 → x.tmod n + n = x % n) ∧ (¬ x.tmod n < 0 → x.tmod n = x % n) ∧ -n < x.tmod n ∧ x.tmod n < n := by
  have h1 := Int.emod_nonneg x (show n ≠ 0 by omega)
  have h2 := Int.emod_lt_of_pos x (show 0 < n by omega)
  rcases Int.lt_or_le x 0 with h | h
  · have e : x.tmod n = -((-x).tmod n) := by rw [Int.neg_tmod]; omega
    have e2 : (-x).tmod n = (-x) % n := Int.tmod_eq_emod_of_nonneg (by omega)
    have h3 := Int.emod_nonneg (-x) (show n ≠ 0 by omega)
    have h4 := Int.emod_lt_of_pos (-x) (show 0 < n by omega)
    rw [e, e2]
    have h5 : (-x) % n = 0 ∧ x % n = 0 ∨ (-x) % n + x % n = n := by
      have d1 := Int.emod_add_mul_ediv x n
      have d2 := Int.emod_add_mul_ediv (-x) n
      have e5 : (-x) % n + x % n = n * (-(x / n) - (-x) / n) := by rw [Int.mul_sub, Int.mul_neg]; omega
      obtain ⟨q, hq⟩ : ∃ q, q = -(x / n) - (-x) / n := ⟨_, rfl⟩
      rw [← hq] at e5
      rcases Int.lt_trichotomy q 0 with c | c | c
      · have := Int.mul_le_mul_of_nonneg_left (show q ≤ -1 by omega) (show 0 ≤ n by omega)
        omega
      · subst c
        omega
      · rcases Int.lt_or_le 1 q with d | d
        · have := Int.mul_le_mul_of_nonneg_left (show 2 ≤ q by omega) (show 0 ≤ n by omega)
          omega
        · obtain rfl : q = 1 := by omega
          omega
    omega
  · rw [Int.tmod_eq_emod_of_nonneg h]
    omega
end Go.Proofs.YtmhfkmnpeponiaaGreatDoor
