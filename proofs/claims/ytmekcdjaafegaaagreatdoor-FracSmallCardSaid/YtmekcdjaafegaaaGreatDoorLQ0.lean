/-
  The comparison of a fraction with the reference's, and of fractions of whole numbers, walked.
-/
import Derived.Test.YtmekcdjaafegaaaGreatDoorN22
import Derived.Test.YtmekcdjaafegaaaGreatDoorRC
namespace Go.Proofs.YtmekcdjaafegaaaGreatDoor
open Go Sat Go.RowKit Go.PlainAid
set_option linter.unusedSimpArgs false
set_option linter.unusedVariables false
theorem eq_same (X Y : Fr) (hX : Big X) (hY : Big Y) (w : World) : (Op.equal 28 (SV.a (List.take 17 (List.drop 0 (frC X)))).real (SV.a (List.take 17 (List.drop 0 (frC Y)))).real).run Tryz.prog w = .ok (eqFr X Y) w := by
  rw [tk1, tk1]
  exact eqFr1 X Y hX hY w
set_option maxRecDepth 100000 in
set_option maxHeartbeats 8000000 in
theorem pair_any (X Y : Fr) (e h : Int) (w : World) (hX : Big X) (hY : Big Y) :
    Calls Tryz.prog 15 #[frV X, .int .i64 e, frV Y, .int .i64 h] w fun e' w' => e' = .returned (.bool (eqFr X Y && e == h)) ∧ Below w.heap.size w w' := by
  have lx := frC_len X
  have ly := frC_len Y
  refine calls_sat (cx := Tryz.cx 17 [] [] [] w) (Tryz.ok ..) Tryz.func15 rfl [.a (frC X), .v (.int .i64 e), .a (frC Y), .v (.int .i64 h)] rfl (by show 4 ≤ 17; omega) [] (holds_nil (Nat.le_refl _)) ?_
  repeat' ((conv => whnf); first | refine walk (Tryz.ok ..) ?_ | fail)
  intro g1 hg1
  skip
  intro g2 hg2
  repeat' ((conv => whnf); first | refine walk (Tryz.ok ..) ?_ | refine side2 ?_ | fail)
  refine eqAgg_eql (eqFr X Y) eqgFr1 (eq_same X Y hX hY) ?_
  repeat' ((conv => whnf); first | refine walk (Tryz.ok ..) ?_ | refine side2 ?_ | fail)
  exact done_pure rfl rfl rfl
theorem pair_same (X : Fr) (e : Int) (w : World) (hX : Big X) :
    Calls Tryz.prog 15 #[frV X, .int .i64 e, frV X, .int .i64 e] w fun e' w' => e' = .returned (.bool true) ∧ Below w.heap.size w w' := by
  have h := pair_any X X e e w hX hX
  rw [eqFr_iff.2 rfl, show (e == e) = true from beq_self_eq_true e] at h
  exact h
theorem eq_own (X : Fr) (hX : Big X) (w : World) : (Op.equal 28 (SV.a (frC X)).real (SV.a (frC X)).real).run Tryz.prog w = .ok true w := by
  have h := eqFr1 X X hX hX w
  rw [show eqFr X X = true from eqFr_iff.2 rfl] at h
  exact h
theorem of_big (n : Int) : Big (ofF n) := fit_big _ _ _
set_option maxRecDepth 100000 in
set_option maxHeartbeats 8000000 in
theorem ratios_any (a b : Int) (w : World) (ha : I64 a) (hb : I64 b) :
    Calls Tryz.prog 10 #[.int .i64 a, .int .i64 b] w fun e w' => e = .returned (.bool true) ∧ Below w.heap.size w w' := by
  have hbg := ratio_big a b
  have hR := fun w => ratio_any a b w ha hb
  have hS := fun w => rratio_any a b w ha hb
  obtain ⟨r, er⟩ : ∃ r, r = ratioE a b := ⟨_, rfl⟩
  rw [← er] at hbg hR hS
  obtain ⟨X, e⟩ := r
  dsimp only at hbg hR hS
  have hO := fun w => rof_any a w ha
  have hP := fun w => of_frac a w ha
  have hob := of_big a
  rw [ratioE_one] at hO
  obtain ⟨O, eO⟩ : ∃ r, r = ofF a := ⟨_, rfl⟩
  rw [← eO] at hO hP hob
  have lX := frC_len X
  have lO := frC_len O
  refine calls_sat (cx := Tryz.cx 33 [] [] [] w) (Tryz.ok ..) Tryz.func10 rfl [.v (.int .i64 a), .v (.int .i64 b)] rfl (by show 2 ≤ 33; omega) [] (holds_nil (Nat.le_refl _)) ?_
  repeat' ((conv => whnf); first | refine walk (Tryz.ok ..) ?_ | fail)
  refine called_pure (.t [.a (frC X), .v (.int .i64 e)]) rfl hR ?_
  skip
  intro g5 hg5
  repeat' ((conv => whnf); first | refine walk (Tryz.ok ..) ?_ | refine side2 ?_ | fail)
  refine called_pure (.t [.a (frC X), .v (.int .i64 e)]) rfl hS ?_
  skip
  intro g7 hg7
  repeat' ((conv => whnf); first | refine walk (Tryz.ok ..) ?_ | refine side2 ?_ | fail)
  refine called_pure (.v (.bool true)) rfl (fun w' => by exact pair_same X e w' hbg) ?_
  repeat' ((conv => whnf); first | refine sideL2 ?_ | fail)
  refine calledQ_pure (.a (frC O)) rfl (fun _ w' => by exact hP w') ?_
  repeat' ((conv => whnf); first | refine sideL2 ?_ | fail)
  refine calledQ_pure (.a (frC O)) rfl (fun _ w' => by exact hO w') ?_
  repeat' ((conv => whnf); first | refine side2 ?_ | fail)
  refine eqAgg_eql true eqgFr1 (eq_own O hob) ?_
  repeat' ((conv => whnf); first | refine walk (Tryz.ok ..) ?_ | refine side2 ?_ | fail)
  exact done_pure rfl rfl rfl
end Go.Proofs.YtmekcdjaafegaaaGreatDoor
