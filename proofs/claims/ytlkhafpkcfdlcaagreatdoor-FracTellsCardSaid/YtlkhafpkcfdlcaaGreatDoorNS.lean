/-
  The walks of the frac package: sums of several fractions.
-/
import Derived.Test.YtlkhafpkcfdlcaaGreatDoorN14
namespace Go.Proofs.YtlkhafpkcfdlcaaGreatDoor
open Go Sat Go.RowKit Go.PlainAid
set_option linter.unusedSimpArgs false
set_option linter.unusedVariables false
def frW (f : Fr) : List Value := (frC f).map SV.r1
theorem right_den {f : Fr} (h : rightF f = true) : 0 < f.den := by
  unfold rightF at h
  simp only [Bool.and_eq_true, decide_eq_true_eq] at h
  omega
end Go.Proofs.YtlkhafpkcfdlcaaGreatDoor
