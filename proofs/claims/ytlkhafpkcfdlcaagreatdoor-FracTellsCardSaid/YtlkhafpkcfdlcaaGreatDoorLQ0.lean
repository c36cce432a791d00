/-
  The comparison of a fraction with the reference's, and of fractions of whole numbers, walked.
-/
import Derived.Test.YtlkhafpkcfdlcaaGreatDoorN22
import Derived.Test.YtlkhafpkcfdlcaaGreatDoorRC
namespace Go.Proofs.YtlkhafpkcfdlcaaGreatDoor
open Go Sat Go.RowKit Go.PlainAid
set_option linter.unusedSimpArgs false
set_option linter.unusedVariables false
theorem eq_same (X Y : Fr) (hX : Big X) (hY : Big Y) (w : World) : (Op.equal 29 (SV.a (List.take 17 (List.drop 0 (frC X)))).real (SV.a (List.take 17 (List.drop 0 (frC Y)))).real).run Tryz.prog w = .ok (eqFr X Y) w := by
  rw [tk1, tk1]
  exact eqFr1 X Y hX hY w
set_option maxRecDepth 100000 in
set_option maxHeartbeats 8000000 in
theorem pair_any (X Y : Fr) (e h : Int) (w : World) (hX : Big X) (hY : Big Y) :
    Calls Tryz.prog 17 #[frV X, .int .i64 e, frV Y, .int .i64 h] w fun e' w' => e' = .returned (.bool (eqFr X Y && e == h)) ∧ Below w.heap.size w w' := by
  have lx := frC_len X
  have ly := frC_len Y
  refine calls_sat (cx := Tryz.cx 17 [] [] [] w) (Tryz.ok ..) Tryz.func17 rfl [.a (frC X), .v (.int .i64 e), .a (frC Y), .v (.int .i64 h)] rfl (by show 4 ≤ 17; omega) [] (holds_nil (Nat.le_refl _)) ?_
  repeat' ((conv => whnf); first | refine walk (Tryz.ok ..) ?_ | (refine Cnd.mk (fun h => ?_) (fun h => ?_) <;> (first | exact cndT h (by (try dsimp only); omega) | exact cndF h (by (try dsimp only); omega) | (exfalso; simp at h; omega) | simp at h | skip)) | refine kp ?_ ?_ | refine tw ?_ ?_ | exact trivial | refine side2 ?_ | refine sideL2 ?_ | refine Or.inr ?_ | refine sat_drawH (Tryz.ok ..) (by kernel_rfl) ?_ | refine xi _ (And.intro rfl rfl) ?_ | refine xi _ (fun _ => And.intro rfl rfl) ?_ | refine xi _ rfl ?_)
  intro g1 hg1
  repeat' ((conv => whnf); first | refine walk (Tryz.ok ..) ?_ | (refine Cnd.mk (fun h => ?_) (fun h => ?_) <;> (first | exact cndT h (by (try dsimp only); omega) | exact cndF h (by (try dsimp only); omega) | (exfalso; simp at h; omega) | simp at h | skip)) | refine kp ?_ ?_ | refine tw ?_ ?_ | exact trivial | refine side2 ?_ | refine sideL2 ?_ | refine Or.inr ?_ | refine sat_drawH (Tryz.ok ..) (by kernel_rfl) ?_ | refine xi _ (And.intro rfl rfl) ?_ | refine xi _ (fun _ => And.intro rfl rfl) ?_ | refine xi _ rfl ?_)
  intro g2 hg2
  repeat' ((conv => whnf); first | refine walk (Tryz.ok ..) ?_ | (refine Cnd.mk (fun h => ?_) (fun h => ?_) <;> (first | exact cndT h (by (try dsimp only); omega) | exact cndF h (by (try dsimp only); omega) | (exfalso; simp at h; omega) | simp at h | skip)) | refine kp ?_ ?_ | refine tw ?_ ?_ | exact trivial | refine side2 ?_ | refine sideL2 ?_ | refine Or.inr ?_ | refine sat_drawH (Tryz.ok ..) (by kernel_rfl) ?_ | refine xi _ (And.intro rfl rfl) ?_ | refine xi _ (fun _ => And.intro rfl rfl) ?_ | refine xi _ rfl ?_)
  refine eqAgg_eql (eqFr X Y) eqgFr1 (eq_same X Y hX hY) ?_
  repeat' ((conv => whnf); first | refine walk (Tryz.ok ..) ?_ | (refine Cnd.mk (fun h => ?_) (fun h => ?_) <;> (first | exact cndT h (by (try dsimp only); omega) | exact cndF h (by (try dsimp only); omega) | (exfalso; simp at h; omega) | simp at h | skip)) | refine kp ?_ ?_ | refine tw ?_ ?_ | exact trivial | refine side2 ?_ | refine sideL2 ?_ | refine Or.inr ?_ | refine sat_drawH (Tryz.ok ..) (by kernel_rfl) ?_ | refine xi _ (And.intro rfl rfl) ?_ | refine xi _ (fun _ => And.intro rfl rfl) ?_ | refine xi _ rfl ?_)
  exact done_pure rfl rfl rfl
theorem pair_same (X : Fr) (e : Int) (w : World) (hX : Big X) :
    Calls Tryz.prog 17 #[frV X, .int .i64 e, frV X, .int .i64 e] w fun e' w' => e' = .returned (.bool true) ∧ Below w.heap.size w w' := by
  have h := pair_any X X e e w hX hX
  rw [eqFr_iff.2 rfl, show (e == e) = true from beq_self_eq_true e] at h
  exact h
end Go.Proofs.YtlkhafpkcfdlcaaGreatDoor
