/-
  Data among a law's arguments, opened as a nest. No walk.
-/
import Derived.Test.YtdohcglpcgahaaaDoorON
import Derived.Test.YtdohcglpcgahaaaDoorSTX
set_option linter.unusedSimpArgs false
set_option linter.unusedVariables false
namespace Go.Proofs.YtdohcglpcgahaaaDoor
set_option maxRecDepth 100000
open Go.ChangeShapes Go.WideShapes Go.ChangeAt Go.WideMaps Go.WideElems Go.RowKit Sat
section
variable {H : Type} {enc : TypeId × Value → H} {w : World} {base : Nat} {spare : Nat → Bool} {held : Bool}
theorem trod_dat {n : Nat} {u : Value} {y : DataW H × List MemPlace} (h : DataW.trod enc Tryd.prog w base spare held n 26 [u] = some y) (hw : Light Tryd.prog 26 y.1) : ∃ s, NSA w (fun _ => True) u s ∧ FewS s := by
  obtain ⟨v, l, h1, h2, h4, h3⟩ := trod_nesta (R := NEA) (I := fun e => e.length * 16 ≤ 140737488355328) Tryd.underlying26 (show Tryd.prog.cellsOf 45 = 1 by kernel_rfl) (show Tryd.prog.bytesOf 45 = 24 by kernel_rfl) (fun _ _ _ h hw => trod_strs h hw) h hw
  cases h1
  exact ⟨l, h2, h3, h4⟩
theorem open_dat {d : DataW H} (hw : Light Tryd.prog 26 d) {r : Reach} {b0 : Nat} {v : Value} {p : List MemPlace} (hval : Value.okWide Tryd.prog w r b0 26 v) (h : DataW.Trod enc Tryd.prog w base spare held 26 v d p) :
    ∃ l, NSA w (fun _ => True) v l ∧ FewS l := by
  obtain ⟨fuel, hf⟩ := h
  obtain ⟨a, len, cap, rfl⟩ := okWide_slice Tryd.underlying26 hval
  simp only [Value.cells] at hf
  exact trod_dat hf hw
end
end Go.Proofs.YtdohcglpcgahaaaDoor
