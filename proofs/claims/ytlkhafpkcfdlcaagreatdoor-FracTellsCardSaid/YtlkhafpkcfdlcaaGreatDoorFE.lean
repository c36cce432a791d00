/-
  Fractions as rational numbers. No program in sight.
-/
import Derived.Test.YtlkhafpkcfdlcaaGreatDoorFD
set_option linter.unusedSimpArgs false
set_option linter.unusedVariables false
namespace Go.Proofs.YtlkhafpkcfdlcaaGreatDoor
open Go.RowKit Go.PlainAid
def Small (q : Rat) : Prop := q.num.natAbs < big ∧ q.den < big
instance (q : Rat) : Decidable (Small q) := by unfold Small; infer_instance
structure RightP (f : Fr) : Prop where
  den : 0 < f.den
  cop : Nat.gcd f.num f.den = 1
  zero : f.neg = true → f.num ≠ 0
theorem right_iff {f : Fr} : rightF f = true ↔ RightP f := by
  unfold rightF
  simp only [Bool.and_eq_true, decide_eq_true_eq, Bool.not_eq_true', Bool.and_eq_false_iff, decide_eq_false_iff_not]
  constructor
  · rintro ⟨⟨h1, h2⟩, h3⟩
    refine ⟨by omega, h2, fun h => ?_⟩
    rcases h3 with h3 | h3
    · rw [h] at h3; cases h3
    · exact h3
  · rintro ⟨h1, h2, h3⟩
    refine ⟨⟨by omega, h2⟩, ?_⟩
    cases hn : f.neg
    · left; rfl
    · right; exact h3 hn
end Go.Proofs.YtlkhafpkcfdlcaaGreatDoor
