/-
  The walks of the laws' own helpers: a fraction that is right; one of two numbers.
-/
import Derived.Test.YtmekcdjaafegaaaGreatDoorN20
namespace Go.Proofs.YtmekcdjaafegaaaGreatDoor
open Go Sat Go.RowKit Go.PlainAid
set_option linter.unusedSimpArgs false
set_option linter.unusedVariables false
set_option maxRecDepth 100000 in
set_option maxHeartbeats 8000000 in
theorem rat_any (a b : Int) (w : World) (ha : I64 a) (hb : I64 b) :
    Calls Tryz.prog 7 #[.int .i64 a, .int .i64 b] w fun e w' => e = .returned (frV (ratioE a b).1) ∧ Below w.heap.size w w' := by
  obtain ⟨r, er⟩ : ∃ r, r = (ratioE a b).1 := ⟨_, rfl⟩
  obtain ⟨e0, ee⟩ : ∃ r, r = (ratioE a b).2 := ⟨_, rfl⟩
  have h17 := frC_len r
  rw [← er]
  refine calls_sat (cx := Tryz.cx 14 [] [] [] w) (Tryz.ok ..) Tryz.func7 rfl [.v (.int .i64 a), .v (.int .i64 b)] rfl (by show 2 ≤ 14; omega) [] (holds_nil (Nat.le_refl _)) ?_
  repeat' ((conv => whnf); first | refine walk (Tryz.ok ..) ?_ | fail)
  intro g4 hg4
  repeat' ((conv => whnf); first | refine walk (Tryz.ok ..) ?_ | fail)
  refine called_pure (.t [.a (frC r), .v (.int .i64 e0)]) rfl (fun w' => by rw [er, ee]; exact ratio_any a b w' ha hb) ?_
  skip
  intro g5 hg5
  repeat' ((conv => whnf); first | refine walk (Tryz.ok ..) ?_ | refine side2 ?_ | fail)
  exact done_pure rfl rfl (congrArg (fun l => (SV.a l).real) (tk2 r))
end Go.Proofs.YtmekcdjaafegaaaGreatDoor
