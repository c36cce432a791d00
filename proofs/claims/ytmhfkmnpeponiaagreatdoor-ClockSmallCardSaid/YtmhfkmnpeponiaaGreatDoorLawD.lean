/-
  The laws of the clock: work that may be interrupted, and work that must not be.
-/
import Derived.Test.YtmhfkmnpeponiaaGreatDoorLawC
import Derived.Test.YtmhfkmnpeponiaaGreatDoorL4
namespace Go.Proofs.YtmhfkmnpeponiaaGreatDoor
open Go Sat Go.RowKit Go.PlainAid
set_option linter.unusedSimpArgs false
set_option linter.unusedVariables false
def atO (r : Int) : Int := IntKind.i64.wrap (r / 2 ^ Int.toNat 1)
def nW (n : Int) : Int := 1 + n % 3000
theorem bt_is {x : List Int} (hx : U8 x) {a b : Int} (h : 0 ≤ a ∧ a ≤ b ∧ b ≤ 100000000) : btV (mdL x) a b = cnt (mdL x) a b ∧ btE (mdL x) a b = 0 := by
  have hk : btOk (mdL x) a b = true := by
    unfold btOk orderedB timedB
    rw [md_apart hx, decide_eq_true h.1, decide_eq_true (show a ≤ 100000000 by omega), decide_eq_true (show 0 ≤ b by omega), decide_eq_true h.2.2, decide_eq_true h.2.1]
    rfl
  exact ⟨(bt_yes hk).1.symm, (bt_yes hk).2.symm⟩
end Go.Proofs.YtmhfkmnpeponiaaGreatDoor
