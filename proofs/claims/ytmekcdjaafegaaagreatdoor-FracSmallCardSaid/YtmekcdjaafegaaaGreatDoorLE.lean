/-
  The law FracTells, walked.
-/
import Derived.Test.YtmekcdjaafegaaaGreatDoorLQ0
import Derived.Test.YtmekcdjaafegaaaGreatDoorRE
import Derived.Test.YtmekcdjaafegaaaGreatDoorRF
namespace Go.Proofs.YtmekcdjaafegaaaGreatDoor
open Go Sat Go.RowKit Go.PlainAid
set_option linter.unusedSimpArgs false
set_option linter.unusedVariables false
theorem zero_bg : Big zeroF := ⟨by decide, by decide⟩
theorem addF_bg (X f : Fr) : Big (addF X f).1 := by
  unfold addF
  split
  · exact fit_big _ _ _
  · split <;> exact fit_big _ _ _
theorem addE_big (f g : Fr) : Big (addE f g).1 := by
  unfold addE
  split
  · exact addF_bg f g
  · exact zero_bg
theorem subE_big (f g : Fr) : Big (subE f g).1 := by
  unfold subE
  split
  · exact addF_bg f (turnF g)
  · exact zero_bg
theorem mulE_big (f g : Fr) : Big (mulE f g).1 := by
  unfold mulE
  split
  · exact fit_big _ _ _
  · exact zero_bg
theorem divE_big (f g : Fr) : Big (divE f g).1 := by
  unfold divE
  split
  · exact fit_big _ _ _
  · exact zero_bg
set_option maxRecDepth 100000 in
set_option maxHeartbeats 8000000 in
theorem tells_any (f g : Fr) (w : World) (hf : Big f) (hg : Big g) :
    Calls Tryz.prog 8 #[frV f, frV g] w fun e w' => e = .returned (.bool true) ∧ Below w.heap.size w w' := by
  have lf := frC_len f
  have lg := frC_len g
  have hA := fun w => addE_any f g w hf hg
  have hA' := fun w => rAdd_any f g w hf hg
  have bA := addE_big f g
  obtain ⟨r1, er1⟩ : ∃ r, r = addE f g := ⟨_, rfl⟩
  rw [← er1] at hA hA' bA
  have hS := fun w => subE_any f g w hf hg
  have hS' := fun w => rSub_any f g w hf hg
  have bS := subE_big f g
  obtain ⟨r2, er2⟩ : ∃ r, r = subE f g := ⟨_, rfl⟩
  rw [← er2] at hS hS' bS
  have hM := fun w => mul_any f g w hf hg
  have hM' := fun w => rMul_any f g w hf hg
  have bM := mulE_big f g
  obtain ⟨r3, er3⟩ : ∃ r, r = mulE f g := ⟨_, rfl⟩
  rw [← er3] at hM hM' bM
  have hD := fun w => div_any f g w hf hg
  have hD' := fun w => rDiv_any f g w hf hg
  have bD := divE_big f g
  obtain ⟨r4, er4⟩ : ∃ r, r = divE f g := ⟨_, rfl⟩
  rw [← er4] at hD hD' bD
  have hR := fun w => right_any f w hf
  have hR' := fun w => rright_any f w hf
  obtain ⟨rr, err⟩ : ∃ r, r = rightF f := ⟨_, rfl⟩
  rw [← err] at hR hR'
  have hC := fun w => cmpE_any f g w hf hg
  have hC' := fun w => rCmp_any f g w hf hg
  obtain ⟨r5, er5⟩ : ∃ r, r = cmpE f g := ⟨_, rfl⟩
  rw [← er5] at hC hC'
  have hF := fun w => floorE_any f w hf
  have hF' := fun w => rfloor_any f w hf
  obtain ⟨r6, er6⟩ : ∃ r, r = floorE f := ⟨_, rfl⟩
  rw [← er6] at hF hF'
  have hT := fun w => textE_any f w hf
  have hT' := fun w => rtext_any f w hf
  obtain ⟨r7, er7⟩ : ∃ r, r = textE f := ⟨_, rfl⟩
  rw [← er7] at hT hT'
  clear er1 er2 er3 er4 er5 er6 er7 err
  have l1 := frC_len r1.1
  have l2 := frC_len r2.1
  have l3 := frC_len r3.1
  have l4 := frC_len r4.1
  refine calls_sat (cx := Tryz.cx 162 [1] [] [] w) (Tryz.ok ..) Tryz.func8 rfl [.a (frC f), .a (frC g)] rfl (by show 2 ≤ 162; omega) [] (holds_nil (Nat.le_refl _)) ?_
  repeat' ((conv => whnf); first | refine walk (Tryz.ok ..) ?_ | fail)
  (conv => whnf)
  intro g2 hg2
  skip
  (conv => whnf)
  intro g3 hg3
  repeat' ((conv => whnf); first | refine walk (Tryz.ok ..) ?_ | fail)
  refine sat_join0 (fun (s : Nat × Nat) => ([(2, .yes, .p 2 g2 0 0), (3, .yes, .p 3 g3 0 0), (5, .yes, .p 5 s.1 0 0), (6, .yes, .p 6 s.2 0 0)], [(2, .blk g2 28 (frC f)), (3, .blk g3 28 (frC g)), (5, .blk s.1 37 (frC f)), (6, .blk s.2 37 (frC g))])) (fun _ => True) (fun _ => rfl) ?_ ?_
  · refine sat_drawH (Tryz.ok ..) (by kernel_rfl) ?_
    repeat' ((conv => whnf); first | refine kp ?_ ?_ | refine tw ?_ ?_ | exact trivial | refine side2 ?_ | intro g hg | (exact ⟨(_, _), trivial, by ((repeat' (first | exact trivial | exact rfl | refine And.intro ?_ ?_)) <;> (try (conv => whnf)) <;> (try simp only [SV.real, SV.r2, SV.r1])), by ((repeat' (first | exact trivial | exact rfl | refine And.intro ?_ ?_)) <;> (try (conv => whnf)) <;> (try simp only [SV.real, SV.r2, SV.r1])), rfl⟩) | fail)
  rintro s _
  repeat' ((conv => whnf); first | refine walk (Tryz.ok ..) ?_ | refine side2 ?_ | fail)
  refine called_pure (.t [.a (frC r1.1), .v (.int .i64 r1.2)]) rfl (fun w' => by exact hA w') ?_
  skip
  (conv => whnf)
  intro g7 hg7
  repeat' ((conv => whnf); first | refine walk (Tryz.ok ..) ?_ | refine side2 ?_ | fail)
  refine called_pure (.t [.a (frC r1.1), .v (.int .i64 r1.2)]) rfl (fun w' => by exact hA' w') ?_
  skip
  (conv => whnf)
  intro g9 hg9
  repeat' ((conv => whnf); first | refine walk (Tryz.ok ..) ?_ | refine side2 ?_ | refine sideL2 ?_ | fail)
  refine calledQ_pure (.v (.bool rr)) rfl (fun _ w' => by exact hR w') ?_
  repeat' ((conv => whnf); first | refine side2 ?_ | fail)
  refine calledQ_pure (.v (.bool rr)) rfl (fun _ w' => by exact hR' w') ?_
  repeat' ((conv => whnf); first | refine side2 ?_ | fail)
  refine calledQ_pure (.v (.bool true)) rfl (fun _ w' => by exact pair_same r1.1 r1.2 w' bA) ?_
  repeat' ((conv => whnf); first | refine walk (Tryz.ok ..) ?_ | (refine Cnd.mk (fun h => ?_) (fun h => ?_) <;> (first | exact cndT h (by (try dsimp only); omega) | exact cndF h (by (try dsimp only); omega) | (exfalso; simp at h; omega) | simp at h | skip)) | refine side2 ?_ | fail)
  refine called_pure (.t [.a (frC r2.1), .v (.int .i64 r2.2)]) rfl (fun w' => by exact hS w') ?_
  repeat' ((conv => whnf); first | refine walk (Tryz.ok ..) ?_ | refine side2 ?_ | fail)
  refine called_pure (.t [.a (frC r2.1), .v (.int .i64 r2.2)]) rfl (fun w' => by exact hS' w') ?_
  repeat' ((conv => whnf); first | refine walk (Tryz.ok ..) ?_ | refine side2 ?_ | fail)
  refine called_pure (.v (.bool true)) rfl (fun w' => by exact pair_same r2.1 r2.2 w' bS) ?_
  repeat' ((conv => whnf); first | refine walk (Tryz.ok ..) ?_ | (refine Cnd.mk (fun h => ?_) (fun h => ?_) <;> (first | exact cndT h (by (try dsimp only); omega) | exact cndF h (by (try dsimp only); omega) | (exfalso; simp at h; omega) | simp at h | skip)) | refine side2 ?_ | fail)
  refine called_pure (.t [.a (frC r3.1), .v (.int .i64 r3.2)]) rfl (fun w' => by exact hM w') ?_
  repeat' ((conv => whnf); first | refine walk (Tryz.ok ..) ?_ | refine side2 ?_ | fail)
  refine called_pure (.t [.a (frC r3.1), .v (.int .i64 r3.2)]) rfl (fun w' => by exact hM' w') ?_
  repeat' ((conv => whnf); first | refine walk (Tryz.ok ..) ?_ | refine side2 ?_ | fail)
  refine called_pure (.v (.bool true)) rfl (fun w' => by exact pair_same r3.1 r3.2 w' bM) ?_
  repeat' ((conv => whnf); first | refine walk (Tryz.ok ..) ?_ | (refine Cnd.mk (fun h => ?_) (fun h => ?_) <;> (first | exact cndT h (by (try dsimp only); omega) | exact cndF h (by (try dsimp only); omega) | (exfalso; simp at h; omega) | simp at h | skip)) | refine side2 ?_ | fail)
  refine called_pure (.t [.a (frC r4.1), .v (.int .i64 r4.2)]) rfl (fun w' => by exact hD w') ?_
  repeat' ((conv => whnf); first | refine walk (Tryz.ok ..) ?_ | refine side2 ?_ | fail)
  refine called_pure (.t [.a (frC r4.1), .v (.int .i64 r4.2)]) rfl (fun w' => by exact hD' w') ?_
  repeat' ((conv => whnf); first | refine walk (Tryz.ok ..) ?_ | refine side2 ?_ | fail)
  refine called_pure (.v (.bool true)) rfl (fun w' => by exact pair_same r4.1 r4.2 w' bD) ?_
  repeat' ((conv => whnf); first | refine walk (Tryz.ok ..) ?_ | (refine Cnd.mk (fun h => ?_) (fun h => ?_) <;> (first | exact cndT h (by (try dsimp only); omega) | exact cndF h (by (try dsimp only); omega) | (exfalso; simp at h; omega) | simp at h | skip)) | refine side2 ?_ | fail)
  refine called_pure (.t [.v (.int .i64 r5.1), .v (.int .i64 r5.2)]) rfl (fun w' => by exact hC w') ?_
  repeat' ((conv => whnf); first | refine walk (Tryz.ok ..) ?_ | refine side2 ?_ | fail)
  refine called_pure (.t [.v (.int .i64 r5.1), .v (.int .i64 r5.2)]) rfl (fun w' => by exact hC' w') ?_
  repeat' ((conv => whnf); first | refine walk (Tryz.ok ..) ?_ | refine side2 ?_ | fail)
  refine called_pure (.t [.v (.int .i64 r6.1), .v (.int .i64 r6.2)]) rfl (fun w' => by exact hF w') ?_
  repeat' ((conv => whnf); first | refine walk (Tryz.ok ..) ?_ | refine side2 ?_ | fail)
  refine called_pure (.t [.v (.int .i64 r6.1), .v (.int .i64 r6.2)]) rfl (fun w' => by exact hF' w') ?_
  repeat' ((conv => whnf); first | refine walk (Tryz.ok ..) ?_ | refine side2 ?_ | fail)
  refine called_pure (.t [.v (.string r7.1), .v (.int .i64 r7.2)]) rfl (fun w' => by exact hT w') ?_
  repeat' ((conv => whnf); first | refine walk (Tryz.ok ..) ?_ | refine side2 ?_ | fail)
  refine called_pure (.t [.v (.string r7.1), .v (.int .i64 r7.2)]) rfl (fun w' => by exact hT' w') ?_
  repeat' ((conv => whnf); first | refine walk (Tryz.ok ..) ?_ | refine side2 ?_ | fail)
  exact done_pure rfl rfl (congrArg Value.bool (by simp only [decide_true, beq_self_eq_true, Bool.and_self]))
end Go.Proofs.YtmekcdjaafegaaaGreatDoor
