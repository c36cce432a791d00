/-
  The law FracRatios, walked.
-/
import Derived.Test.YtlkhafpkcfdlcaaDoorN22
import Derived.Test.YtlkhafpkcfdlcaaDoorR7
namespace Go.Proofs.YtlkhafpkcfdlcaaDoor
open Go Sat Go.RowKit Go.PlainAid
set_option linter.unusedSimpArgs false
set_option linter.unusedVariables false
theorem eq_same (X Y : Fr) (hX : Big X) (hY : Big Y) (w : World) : (Op.equal 27 (SV.a (List.take 17 (List.drop 0 (frC X)))).real (SV.a (List.take 17 (List.drop 0 (frC Y)))).real).run Tryd.prog w = .ok (eqFr X Y) w := by
  rw [tk1, tk1]
  exact eqFr1 X Y hX hY w
set_option maxRecDepth 100000 in
set_option maxHeartbeats 8000000 in
theorem pair_any (X Y : Fr) (e h : Int) (w : World) (hX : Big X) (hY : Big Y) :
    Calls Tryd.prog 31 #[frV X, .int .i64 e, frV Y, .int .i64 h] w fun e' w' => e' = .returned (.bool (eqFr X Y && e == h)) ∧ Below w.heap.size w w' := by
  have lx := frC_len X
  have ly := frC_len Y
  refine calls_sat (cx := Tryd.cx 17 [] [] [] w) (Tryd.ok ..) Tryd.func31 rfl [.a (frC X), .v (.int .i64 e), .a (frC Y), .v (.int .i64 h)] rfl (by show 4 ≤ 17; omega) [] (holds_nil (Nat.le_refl _)) ?_
  repeat' ((conv => whnf); first | refine walk (Tryd.ok ..) ?_ | (refine Cnd.mk (fun h => ?_) (fun h => ?_) <;> (first | exact cndT h (by omega) | exact cndF h (by omega) | (exfalso; simp only [decide_eq_true_eq, decide_eq_false_iff_not] at h; omega) | (exfalso; simp at h; omega) | simp at h | skip)) | refine And.intro (Kept.mk ?_) ?_ | refine Two.mk (And.intro ?_ ?_) | exact trivial | refine side2 ?_ | refine sideL2 ?_ | refine Or.inr ?_ | refine sat_drawH (Tryd.ok ..) (by kernel_rfl) ?_ | refine Exists.intro [_] (And.intro (one_byte rfl) ?_) | refine Exists.intro [_] (And.intro (fun _ => one_byte rfl) ?_) | refine Exists.intro _ (And.intro (And.intro rfl rfl) ?_) | refine Exists.intro _ (And.intro (fun _ => And.intro rfl rfl) ?_) | refine Exists.intro _ (And.intro rfl ?_))
  intro g1 hg1
  repeat' ((conv => whnf); first | refine walk (Tryd.ok ..) ?_ | (refine Cnd.mk (fun h => ?_) (fun h => ?_) <;> (first | exact cndT h (by omega) | exact cndF h (by omega) | (exfalso; simp only [decide_eq_true_eq, decide_eq_false_iff_not] at h; omega) | (exfalso; simp at h; omega) | simp at h | skip)) | refine And.intro (Kept.mk ?_) ?_ | refine Two.mk (And.intro ?_ ?_) | exact trivial | refine side2 ?_ | refine sideL2 ?_ | refine Or.inr ?_ | refine sat_drawH (Tryd.ok ..) (by kernel_rfl) ?_ | refine Exists.intro [_] (And.intro (one_byte rfl) ?_) | refine Exists.intro [_] (And.intro (fun _ => one_byte rfl) ?_) | refine Exists.intro _ (And.intro (And.intro rfl rfl) ?_) | refine Exists.intro _ (And.intro (fun _ => And.intro rfl rfl) ?_) | refine Exists.intro _ (And.intro rfl ?_))
  intro g2 hg2
  repeat' ((conv => whnf); first | refine walk (Tryd.ok ..) ?_ | (refine Cnd.mk (fun h => ?_) (fun h => ?_) <;> (first | exact cndT h (by omega) | exact cndF h (by omega) | (exfalso; simp only [decide_eq_true_eq, decide_eq_false_iff_not] at h; omega) | (exfalso; simp at h; omega) | simp at h | skip)) | refine And.intro (Kept.mk ?_) ?_ | refine Two.mk (And.intro ?_ ?_) | exact trivial | refine side2 ?_ | refine sideL2 ?_ | refine Or.inr ?_ | refine sat_drawH (Tryd.ok ..) (by kernel_rfl) ?_ | refine Exists.intro [_] (And.intro (one_byte rfl) ?_) | refine Exists.intro [_] (And.intro (fun _ => one_byte rfl) ?_) | refine Exists.intro _ (And.intro (And.intro rfl rfl) ?_) | refine Exists.intro _ (And.intro (fun _ => And.intro rfl rfl) ?_) | refine Exists.intro _ (And.intro rfl ?_))
  refine eqAgg_eql (eqFr X Y) eqgFr1 (eq_same X Y hX hY) ?_
  repeat' ((conv => whnf); first | refine walk (Tryd.ok ..) ?_ | (refine Cnd.mk (fun h => ?_) (fun h => ?_) <;> (first | exact cndT h (by omega) | exact cndF h (by omega) | (exfalso; simp only [decide_eq_true_eq, decide_eq_false_iff_not] at h; omega) | (exfalso; simp at h; omega) | simp at h | skip)) | refine And.intro (Kept.mk ?_) ?_ | refine Two.mk (And.intro ?_ ?_) | exact trivial | refine side2 ?_ | refine sideL2 ?_ | refine Or.inr ?_ | refine sat_drawH (Tryd.ok ..) (by kernel_rfl) ?_ | refine Exists.intro [_] (And.intro (one_byte rfl) ?_) | refine Exists.intro [_] (And.intro (fun _ => one_byte rfl) ?_) | refine Exists.intro _ (And.intro (And.intro rfl rfl) ?_) | refine Exists.intro _ (And.intro (fun _ => And.intro rfl rfl) ?_) | refine Exists.intro _ (And.intro rfl ?_))
  exact done_pure rfl rfl rfl
theorem pair_same (X : Fr) (e : Int) (w : World) (hX : Big X) :
    Calls Tryd.prog 31 #[frV X, .int .i64 e, frV X, .int .i64 e] w fun e' w' => e' = .returned (.bool true) ∧ Below w.heap.size w w' := by
  have h := pair_any X X e e w hX hX
  rw [eqFr_iff.2 rfl, show (e == e) = true from beq_self_eq_true e] at h
  exact h
theorem eq_own (X : Fr) (hX : Big X) (w : World) : (Op.equal 27 (SV.a (frC X)).real (SV.a (frC X)).real).run Tryd.prog w = .ok true w := by
  have h := eqFr1 X X hX hX w
  rw [show eqFr X X = true from eqFr_iff.2 rfl] at h
  exact h
theorem of_big (n : Int) : Big (ofF n) := fit_big _ _ _
set_option maxRecDepth 100000 in
set_option maxHeartbeats 8000000 in
theorem ratios_any (a b : Int) (w : World) (ha : I64 a) (hb : I64 b) :
    Calls Tryd.prog 11 #[.int .i64 a, .int .i64 b] w fun e w' => e = .returned (.bool true) ∧ Below w.heap.size w w' := by
  have hbg := ratio_big a b
  have hR := fun w => ratio_any a b w ha hb
  have hS := fun w => rratio_any a b w ha hb
  obtain ⟨r, er⟩ : ∃ r, r = ratioE a b := ⟨_, rfl⟩
  rw [← er] at hbg hR hS
  obtain ⟨X, e⟩ := r
  dsimp only at hbg hR hS
  have hO := fun w => rof_any a w ha
  have hP := fun w => of_frac a w ha
  have hob := of_big a
  rw [ratioE_one] at hO
  obtain ⟨O, eO⟩ : ∃ r, r = ofF a := ⟨_, rfl⟩
  rw [← eO] at hO hP hob
  have lX := frC_len X
  have lO := frC_len O
  refine calls_sat (cx := Tryd.cx 33 [] [] [] w) (Tryd.ok ..) Tryd.func11 rfl [.v (.int .i64 a), .v (.int .i64 b)] rfl (by show 2 ≤ 33; omega) [] (holds_nil (Nat.le_refl _)) ?_
  repeat' ((conv => whnf); first | refine walk (Tryd.ok ..) ?_ | (refine Cnd.mk (fun h => ?_) (fun h => ?_) <;> (first | exact cndT h (by omega) | exact cndF h (by omega) | (exfalso; simp only [decide_eq_true_eq, decide_eq_false_iff_not] at h; omega) | (exfalso; simp at h; omega) | simp at h | skip)) | refine And.intro (Kept.mk ?_) ?_ | refine Two.mk (And.intro ?_ ?_) | exact trivial | refine side2 ?_ | refine sideL2 ?_ | refine Or.inr ?_ | refine sat_drawH (Tryd.ok ..) (by kernel_rfl) ?_ | refine Exists.intro [_] (And.intro (one_byte rfl) ?_) | refine Exists.intro [_] (And.intro (fun _ => one_byte rfl) ?_) | refine Exists.intro _ (And.intro (And.intro rfl rfl) ?_) | refine Exists.intro _ (And.intro (fun _ => And.intro rfl rfl) ?_) | refine Exists.intro _ (And.intro rfl ?_))
  refine called_pure (.t [.a (frC X), .v (.int .i64 e)]) rfl hR ?_
  repeat' ((conv => whnf); first | refine walk (Tryd.ok ..) ?_ | (refine Cnd.mk (fun h => ?_) (fun h => ?_) <;> (first | exact cndT h (by omega) | exact cndF h (by omega) | (exfalso; simp only [decide_eq_true_eq, decide_eq_false_iff_not] at h; omega) | (exfalso; simp at h; omega) | simp at h | skip)) | refine And.intro (Kept.mk ?_) ?_ | refine Two.mk (And.intro ?_ ?_) | exact trivial | refine side2 ?_ | refine sideL2 ?_ | refine Or.inr ?_ | refine sat_drawH (Tryd.ok ..) (by kernel_rfl) ?_ | refine Exists.intro [_] (And.intro (one_byte rfl) ?_) | refine Exists.intro [_] (And.intro (fun _ => one_byte rfl) ?_) | refine Exists.intro _ (And.intro (And.intro rfl rfl) ?_) | refine Exists.intro _ (And.intro (fun _ => And.intro rfl rfl) ?_) | refine Exists.intro _ (And.intro rfl ?_))
  intro g5 hg5
  repeat' ((conv => whnf); first | refine walk (Tryd.ok ..) ?_ | (refine Cnd.mk (fun h => ?_) (fun h => ?_) <;> (first | exact cndT h (by omega) | exact cndF h (by omega) | (exfalso; simp only [decide_eq_true_eq, decide_eq_false_iff_not] at h; omega) | (exfalso; simp at h; omega) | simp at h | skip)) | refine And.intro (Kept.mk ?_) ?_ | refine Two.mk (And.intro ?_ ?_) | exact trivial | refine side2 ?_ | refine sideL2 ?_ | refine Or.inr ?_ | refine sat_drawH (Tryd.ok ..) (by kernel_rfl) ?_ | refine Exists.intro [_] (And.intro (one_byte rfl) ?_) | refine Exists.intro [_] (And.intro (fun _ => one_byte rfl) ?_) | refine Exists.intro _ (And.intro (And.intro rfl rfl) ?_) | refine Exists.intro _ (And.intro (fun _ => And.intro rfl rfl) ?_) | refine Exists.intro _ (And.intro rfl ?_))
  refine called_pure (.t [.a (frC X), .v (.int .i64 e)]) rfl hS ?_
  repeat' ((conv => whnf); first | refine walk (Tryd.ok ..) ?_ | (refine Cnd.mk (fun h => ?_) (fun h => ?_) <;> (first | exact cndT h (by omega) | exact cndF h (by omega) | (exfalso; simp only [decide_eq_true_eq, decide_eq_false_iff_not] at h; omega) | (exfalso; simp at h; omega) | simp at h | skip)) | refine And.intro (Kept.mk ?_) ?_ | refine Two.mk (And.intro ?_ ?_) | exact trivial | refine side2 ?_ | refine sideL2 ?_ | refine Or.inr ?_ | refine sat_drawH (Tryd.ok ..) (by kernel_rfl) ?_ | refine Exists.intro [_] (And.intro (one_byte rfl) ?_) | refine Exists.intro [_] (And.intro (fun _ => one_byte rfl) ?_) | refine Exists.intro _ (And.intro (And.intro rfl rfl) ?_) | refine Exists.intro _ (And.intro (fun _ => And.intro rfl rfl) ?_) | refine Exists.intro _ (And.intro rfl ?_))
  intro g7 hg7
  repeat' ((conv => whnf); first | refine walk (Tryd.ok ..) ?_ | (refine Cnd.mk (fun h => ?_) (fun h => ?_) <;> (first | exact cndT h (by omega) | exact cndF h (by omega) | (exfalso; simp only [decide_eq_true_eq, decide_eq_false_iff_not] at h; omega) | (exfalso; simp at h; omega) | simp at h | skip)) | refine And.intro (Kept.mk ?_) ?_ | refine Two.mk (And.intro ?_ ?_) | exact trivial | refine side2 ?_ | refine sideL2 ?_ | refine Or.inr ?_ | refine sat_drawH (Tryd.ok ..) (by kernel_rfl) ?_ | refine Exists.intro [_] (And.intro (one_byte rfl) ?_) | refine Exists.intro [_] (And.intro (fun _ => one_byte rfl) ?_) | refine Exists.intro _ (And.intro (And.intro rfl rfl) ?_) | refine Exists.intro _ (And.intro (fun _ => And.intro rfl rfl) ?_) | refine Exists.intro _ (And.intro rfl ?_))
  refine called_pure (.v (.bool true)) rfl (fun w' => by exact pair_same X e w' hbg) ?_
  repeat' ((conv => whnf); first | refine walk (Tryd.ok ..) ?_ | (refine Cnd.mk (fun h => ?_) (fun h => ?_) <;> (first | exact cndT h (by omega) | exact cndF h (by omega) | (exfalso; simp only [decide_eq_true_eq, decide_eq_false_iff_not] at h; omega) | (exfalso; simp at h; omega) | simp at h | skip)) | refine And.intro (Kept.mk ?_) ?_ | refine Two.mk (And.intro ?_ ?_) | exact trivial | refine side2 ?_ | refine sideL2 ?_ | refine Or.inr ?_ | refine sat_drawH (Tryd.ok ..) (by kernel_rfl) ?_ | refine Exists.intro [_] (And.intro (one_byte rfl) ?_) | refine Exists.intro [_] (And.intro (fun _ => one_byte rfl) ?_) | refine Exists.intro _ (And.intro (And.intro rfl rfl) ?_) | refine Exists.intro _ (And.intro (fun _ => And.intro rfl rfl) ?_) | refine Exists.intro _ (And.intro rfl ?_))
  refine calledQ_pure (.a (frC O)) rfl (fun _ w' => by exact hP w') ?_
  repeat' ((conv => whnf); first | refine walk (Tryd.ok ..) ?_ | (refine Cnd.mk (fun h => ?_) (fun h => ?_) <;> (first | exact cndT h (by omega) | exact cndF h (by omega) | (exfalso; simp only [decide_eq_true_eq, decide_eq_false_iff_not] at h; omega) | (exfalso; simp at h; omega) | simp at h | skip)) | refine And.intro (Kept.mk ?_) ?_ | refine Two.mk (And.intro ?_ ?_) | exact trivial | refine side2 ?_ | refine sideL2 ?_ | refine Or.inr ?_ | refine sat_drawH (Tryd.ok ..) (by kernel_rfl) ?_ | refine Exists.intro [_] (And.intro (one_byte rfl) ?_) | refine Exists.intro [_] (And.intro (fun _ => one_byte rfl) ?_) | refine Exists.intro _ (And.intro (And.intro rfl rfl) ?_) | refine Exists.intro _ (And.intro (fun _ => And.intro rfl rfl) ?_) | refine Exists.intro _ (And.intro rfl ?_))
  refine calledQ_pure (.a (frC O)) rfl (fun _ w' => by exact hO w') ?_
  repeat' ((conv => whnf); first | refine walk (Tryd.ok ..) ?_ | (refine Cnd.mk (fun h => ?_) (fun h => ?_) <;> (first | exact cndT h (by omega) | exact cndF h (by omega) | (exfalso; simp only [decide_eq_true_eq, decide_eq_false_iff_not] at h; omega) | (exfalso; simp at h; omega) | simp at h | skip)) | refine And.intro (Kept.mk ?_) ?_ | refine Two.mk (And.intro ?_ ?_) | exact trivial | refine side2 ?_ | refine sideL2 ?_ | refine Or.inr ?_ | refine sat_drawH (Tryd.ok ..) (by kernel_rfl) ?_ | refine Exists.intro [_] (And.intro (one_byte rfl) ?_) | refine Exists.intro [_] (And.intro (fun _ => one_byte rfl) ?_) | refine Exists.intro _ (And.intro (And.intro rfl rfl) ?_) | refine Exists.intro _ (And.intro (fun _ => And.intro rfl rfl) ?_) | refine Exists.intro _ (And.intro rfl ?_))
  refine eqAgg_eql true eqgFr1 (eq_own O hob) ?_
  repeat' ((conv => whnf); first | refine walk (Tryd.ok ..) ?_ | (refine Cnd.mk (fun h => ?_) (fun h => ?_) <;> (first | exact cndT h (by omega) | exact cndF h (by omega) | (exfalso; simp only [decide_eq_true_eq, decide_eq_false_iff_not] at h; omega) | (exfalso; simp at h; omega) | simp at h | skip)) | refine And.intro (Kept.mk ?_) ?_ | refine Two.mk (And.intro ?_ ?_) | exact trivial | refine side2 ?_ | refine sideL2 ?_ | refine Or.inr ?_ | refine sat_drawH (Tryd.ok ..) (by kernel_rfl) ?_ | refine Exists.intro [_] (And.intro (one_byte rfl) ?_) | refine Exists.intro [_] (And.intro (fun _ => one_byte rfl) ?_) | refine Exists.intro _ (And.intro (And.intro rfl rfl) ?_) | refine Exists.intro _ (And.intro (fun _ => And.intro rfl rfl) ?_) | refine Exists.intro _ (And.intro rfl ?_))
  exact done_pure rfl rfl rfl
set_option maxRecDepth 100000 in
set_option maxHeartbeats 8000000 in
theorem fratios_any (a b : Int) (w : World) (hw : Wf w) (ha : I64 a) (hb : I64 b) :
    Calls Tryd.prog 3 #[.int .i64 a, .int .i64 b] w fun e w' => e = .returned (.bool true) ∧ Below w.heap.size w w' := by
  refine calls_sat (cx := Tryd.cx 11 [] [] [] w) (Tryd.ok ..) Tryd.func3 rfl [.v (.int .i64 a), .v (.int .i64 b)] rfl (by show 2 ≤ 11; omega) [] (holds_nil (Nat.le_refl _)) ?_
  repeat' ((conv => whnf); first | refine walk (Tryd.ok ..) ?_ | (refine Cnd.mk (fun h => ?_) (fun h => ?_) <;> (first | exact cndT h (by omega) | exact cndF h (by omega) | (exfalso; simp only [decide_eq_true_eq, decide_eq_false_iff_not] at h; omega) | (exfalso; simp at h; omega) | simp at h | skip)) | refine And.intro (Kept.mk ?_) ?_ | refine Two.mk (And.intro ?_ ?_) | exact trivial | refine side2 ?_ | refine sideL2 ?_ | refine Or.inr ?_ | refine sat_drawH (Tryd.ok ..) (by kernel_rfl) ?_ | refine Exists.intro [_] (And.intro (one_byte rfl) ?_) | refine Exists.intro [_] (And.intro (fun _ => one_byte rfl) ?_) | refine Exists.intro _ (And.intro (And.intro rfl rfl) ?_) | refine Exists.intro _ (And.intro (fun _ => And.intro rfl rfl) ?_) | refine Exists.intro _ (And.intro rfl ?_))
  refine called_pure (.v (.bool true)) rfl (fun w' => by exact ratios_any a b w' ha hb) ?_
  repeat' ((conv => whnf); first | refine walk (Tryd.ok ..) ?_ | (refine Cnd.mk (fun h => ?_) (fun h => ?_) <;> (first | exact cndT h (by omega) | exact cndF h (by omega) | (exfalso; simp only [decide_eq_true_eq, decide_eq_false_iff_not] at h; omega) | (exfalso; simp at h; omega) | simp at h | skip)) | refine And.intro (Kept.mk ?_) ?_ | refine Two.mk (And.intro ?_ ?_) | exact trivial | refine side2 ?_ | refine sideL2 ?_ | refine Or.inr ?_ | refine sat_drawH (Tryd.ok ..) (by kernel_rfl) ?_ | refine Exists.intro [_] (And.intro (one_byte rfl) ?_) | refine Exists.intro [_] (And.intro (fun _ => one_byte rfl) ?_) | refine Exists.intro _ (And.intro (And.intro rfl rfl) ?_) | refine Exists.intro _ (And.intro (fun _ => And.intro rfl rfl) ?_) | refine Exists.intro _ (And.intro rfl ?_))
  refine called_at (.v (.bool true)) rfl (fun w' hh => awake_any w' (hw.at_ rfl rfl hh)) ?_
  repeat' ((conv => whnf); first | refine walk (Tryd.ok ..) ?_ | (refine Cnd.mk (fun h => ?_) (fun h => ?_) <;> (first | exact cndT h (by omega) | exact cndF h (by omega) | (exfalso; simp only [decide_eq_true_eq, decide_eq_false_iff_not] at h; omega) | (exfalso; simp at h; omega) | simp at h | skip)) | refine And.intro (Kept.mk ?_) ?_ | refine Two.mk (And.intro ?_ ?_) | exact trivial | refine side2 ?_ | refine sideL2 ?_ | refine Or.inr ?_ | refine sat_drawH (Tryd.ok ..) (by kernel_rfl) ?_ | refine Exists.intro [_] (And.intro (one_byte rfl) ?_) | refine Exists.intro [_] (And.intro (fun _ => one_byte rfl) ?_) | refine Exists.intro _ (And.intro (And.intro rfl rfl) ?_) | refine Exists.intro _ (And.intro (fun _ => And.intro rfl rfl) ?_) | refine Exists.intro _ (And.intro rfl ?_))
  exact done_pure rfl rfl rfl
end Go.Proofs.YtlkhafpkcfdlcaaDoor
