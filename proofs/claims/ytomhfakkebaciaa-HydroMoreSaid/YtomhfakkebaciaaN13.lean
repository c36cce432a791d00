/-
  The walks of the frac package: sums, differences, the order and the whole part of fractions.
-/
import Derived.Test.YtomhfakkebaciaaN12
namespace Go.Proofs.Ytomhfakkebaciaa
open Go Sat Go.RowKit Go.PlainAid
set_option linter.unusedSimpArgs false
set_option linter.unusedVariables false
theorem turn_big {g : Fr} (h : Big g) : Big (turnF g) := ⟨h.num, h.den⟩
set_option maxRecDepth 100000 in
set_option maxHeartbeats 8000000 in
theorem addE_any (f g : Fr) (w : World) (hf : Big f) (hg : Big g) :
    Calls Try.prog 14 #[frV f, frV g] w fun e w' => e = .returned (.tuple #[frV (addE f g).1, .int .i64 (addE f g).2]) ∧ Below w.heap.size w w' := by
  refine calls_sat (cx := Try.cx 20 [] [] [] w) (Try.ok ..) Try.func14 rfl [.a (frC f), .a (frC g)] rfl (by show 2 ≤ 20; omega) [] (holds_nil (Nat.le_refl _)) ?_
  have h17 := frC_len f
  have h17' := frC_len g
  cases hrf : rightF f <;> cases hrg : rightF g
  · rw [show addE f g = (zeroF, 2) by unfold addE bothF; rw [hrf]; rfl]
    repeat' ((conv => whnf); first | refine walk (Try.ok ..) ?_ | fail)
    intro g2 hg2
    skip
    intro g3 hg3
    skip
    intro g4 hg4
    repeat' ((conv => whnf); first | refine walk (Try.ok ..) ?_ | refine side2 ?_ | fail)
    refine called_at (.v (.bool false)) rfl (fun w' hh => by rw [← hrf]; exact right_any f w' hf) ?_
    repeat' ((conv => whnf); first | refine side2 ?_ | refine sideL2 ?_ | fail)
    refine calledQ_at (.v (.bool false)) rfl (fun _ w' hh => by rw [← hrg]; exact right_any g w' hg) ?_
    repeat' ((conv => whnf); first | refine walk (Try.ok ..) ?_ | (refine Cnd.mk (fun h => ?_) (fun h => ?_) <;> (first | exact cndT h (by (try dsimp only); omega) | exact cndF h (by (try dsimp only); omega) | (exfalso; simp at h; omega) | simp at h | skip)) | refine side2 ?_ | fail)
    exact done_pure rfl rfl rfl
  · rw [show addE f g = (zeroF, 2) by unfold addE bothF; rw [hrf]; rfl]
    repeat' ((conv => whnf); first | refine walk (Try.ok ..) ?_ | fail)
    intro g2 hg2
    skip
    intro g3 hg3
    skip
    intro g4 hg4
    repeat' ((conv => whnf); first | refine walk (Try.ok ..) ?_ | refine side2 ?_ | fail)
    refine called_at (.v (.bool false)) rfl (fun w' hh => by rw [← hrf]; exact right_any f w' hf) ?_
    repeat' ((conv => whnf); first | refine side2 ?_ | refine sideL2 ?_ | fail)
    refine calledQ_at (.v (.bool true)) rfl (fun _ w' hh => by rw [← hrg]; exact right_any g w' hg) ?_
    repeat' ((conv => whnf); first | refine walk (Try.ok ..) ?_ | (refine Cnd.mk (fun h => ?_) (fun h => ?_) <;> (first | exact cndT h (by (try dsimp only); omega) | exact cndF h (by (try dsimp only); omega) | (exfalso; simp at h; omega) | simp at h | skip)) | refine side2 ?_ | fail)
    exact done_pure rfl rfl rfl
  · rw [show addE f g = (zeroF, 2) by unfold addE bothF; rw [hrf, hrg]; rfl]
    repeat' ((conv => whnf); first | refine walk (Try.ok ..) ?_ | fail)
    intro g2 hg2
    skip
    intro g3 hg3
    skip
    intro g4 hg4
    repeat' ((conv => whnf); first | refine walk (Try.ok ..) ?_ | refine side2 ?_ | fail)
    refine called_at (.v (.bool true)) rfl (fun w' hh => by rw [← hrf]; exact right_any f w' hf) ?_
    repeat' ((conv => whnf); first | refine side2 ?_ | refine sideL2 ?_ | fail)
    refine calledQ_at (.v (.bool false)) rfl (fun _ w' hh => by rw [← hrg]; exact right_any g w' hg) ?_
    repeat' ((conv => whnf); first | refine walk (Try.ok ..) ?_ | (refine Cnd.mk (fun h => ?_) (fun h => ?_) <;> (first | exact cndT h (by (try dsimp only); omega) | exact cndF h (by (try dsimp only); omega) | (exfalso; simp at h; omega) | simp at h | skip)) | refine side2 ?_ | fail)
    exact done_pure rfl rfl rfl
  · obtain ⟨r, er⟩ : ∃ r, r = (addF f g).1 := ⟨_, rfl⟩
    obtain ⟨e0, ee⟩ : ∃ r, r = (addF f g).2 := ⟨_, rfl⟩
    rw [show addE f g = (r, e0) by unfold addE bothF; rw [hrf, hrg, er, ee]; rfl]
    repeat' ((conv => whnf); first | refine walk (Try.ok ..) ?_ | fail)
    intro g2 hg2
    skip
    intro g3 hg3
    skip
    intro g4 hg4
    repeat' ((conv => whnf); first | refine walk (Try.ok ..) ?_ | refine side2 ?_ | fail)
    refine called_at (.v (.bool true)) rfl (fun w' hh => by rw [← hrf]; exact right_any f w' hf) ?_
    repeat' ((conv => whnf); first | refine side2 ?_ | refine sideL2 ?_ | fail)
    refine calledQ_at (.v (.bool true)) rfl (fun _ w' hh => by rw [← hrg]; exact right_any g w' hg) ?_
    repeat' ((conv => whnf); first | refine walk (Try.ok ..) ?_ | (refine Cnd.mk (fun h => ?_) (fun h => ?_) <;> (first | exact cndT h (by (try dsimp only); omega) | exact cndF h (by (try dsimp only); omega) | (exfalso; simp at h; omega) | simp at h | skip)) | refine side2 ?_ | fail)
    refine called_at (.t [.a (frC r), .v (.int .i64 e0)]) rfl (fun w' hh => by
      rw [er, ee]
      exact add_any f g w' hf hg (den_pos hrf) (den_pos hrg)) ?_
    repeat' ((conv => whnf); first | refine walk (Try.ok ..) ?_ | refine side2 ?_ | fail)
    exact done_pure rfl rfl (congrArg (fun l => (SV.t [.a l, .v (.int .i64 e0)]).real) (tk1 r))
set_option maxRecDepth 100000 in
set_option maxHeartbeats 8000000 in
theorem subE_any (f g : Fr) (w : World) (hf : Big f) (hg : Big g) :
    Calls Try.prog 51 #[frV f, frV g] w fun e w' => e = .returned (.tuple #[frV (subE f g).1, .int .i64 (subE f g).2]) ∧ Below w.heap.size w w' := by
  refine calls_sat (cx := Try.cx 21 [3] [] [] w) (Try.ok ..) Try.func51 rfl [.a (frC f), .a (frC g)] rfl (by show 2 ≤ 21; omega) [] (holds_nil (Nat.le_refl _)) ?_
  have h17 := frC_len f
  have h17' := frC_len g
  cases hrf : rightF f <;> cases hrg : rightF g
  · rw [show subE f g = (zeroF, 2) by unfold subE bothF; rw [hrf]; rfl]
    repeat' ((conv => whnf); first | refine walk (Try.ok ..) ?_ | fail)
    intro g2 hg2
    skip
    intro g3 hg3
    skip
    intro g4 hg4
    repeat' ((conv => whnf); first | refine walk (Try.ok ..) ?_ | refine side2 ?_ | fail)
    refine called_at (.v (.bool false)) rfl (fun w' hh => by rw [← hrf]; exact right_any f w' hf) ?_
    repeat' ((conv => whnf); first | refine side2 ?_ | refine sideL2 ?_ | fail)
    refine calledQ_at (.v (.bool false)) rfl (fun _ w' hh => by rw [← hrg]; exact right_any g w' hg) ?_
    repeat' ((conv => whnf); first | refine walk (Try.ok ..) ?_ | (refine Cnd.mk (fun h => ?_) (fun h => ?_) <;> (first | exact cndT h (by (try dsimp only); omega) | exact cndF h (by (try dsimp only); omega) | (exfalso; simp at h; omega) | simp at h | skip)) | refine side2 ?_ | fail)
    exact done_pure rfl rfl rfl
  · rw [show subE f g = (zeroF, 2) by unfold subE bothF; rw [hrf]; rfl]
    repeat' ((conv => whnf); first | refine walk (Try.ok ..) ?_ | fail)
    intro g2 hg2
    skip
    intro g3 hg3
    skip
    intro g4 hg4
    repeat' ((conv => whnf); first | refine walk (Try.ok ..) ?_ | refine side2 ?_ | fail)
    refine called_at (.v (.bool false)) rfl (fun w' hh => by rw [← hrf]; exact right_any f w' hf) ?_
    repeat' ((conv => whnf); first | refine side2 ?_ | refine sideL2 ?_ | fail)
    refine calledQ_at (.v (.bool true)) rfl (fun _ w' hh => by rw [← hrg]; exact right_any g w' hg) ?_
    repeat' ((conv => whnf); first | refine walk (Try.ok ..) ?_ | (refine Cnd.mk (fun h => ?_) (fun h => ?_) <;> (first | exact cndT h (by (try dsimp only); omega) | exact cndF h (by (try dsimp only); omega) | (exfalso; simp at h; omega) | simp at h | skip)) | refine side2 ?_ | fail)
    exact done_pure rfl rfl rfl
  · rw [show subE f g = (zeroF, 2) by unfold subE bothF; rw [hrf, hrg]; rfl]
    repeat' ((conv => whnf); first | refine walk (Try.ok ..) ?_ | fail)
    intro g2 hg2
    skip
    intro g3 hg3
    skip
    intro g4 hg4
    repeat' ((conv => whnf); first | refine walk (Try.ok ..) ?_ | refine side2 ?_ | fail)
    refine called_at (.v (.bool true)) rfl (fun w' hh => by rw [← hrf]; exact right_any f w' hf) ?_
    repeat' ((conv => whnf); first | refine side2 ?_ | refine sideL2 ?_ | fail)
    refine calledQ_at (.v (.bool false)) rfl (fun _ w' hh => by rw [← hrg]; exact right_any g w' hg) ?_
    repeat' ((conv => whnf); first | refine walk (Try.ok ..) ?_ | (refine Cnd.mk (fun h => ?_) (fun h => ?_) <;> (first | exact cndT h (by (try dsimp only); omega) | exact cndF h (by (try dsimp only); omega) | (exfalso; simp at h; omega) | simp at h | skip)) | refine side2 ?_ | fail)
    exact done_pure rfl rfl rfl
  · obtain ⟨r, er⟩ : ∃ r, r = (addF f (turnF g)).1 := ⟨_, rfl⟩
    obtain ⟨e0, ee⟩ : ∃ r, r = (addF f (turnF g)).2 := ⟨_, rfl⟩
    rw [show subE f g = (r, e0) by unfold subE bothF; rw [hrf, hrg, er, ee]; rfl]
    repeat' ((conv => whnf); first | refine walk (Try.ok ..) ?_ | fail)
    intro g2 hg2
    skip
    intro g3 hg3
    skip
    intro g4 hg4
    repeat' ((conv => whnf); first | refine walk (Try.ok ..) ?_ | refine side2 ?_ | fail)
    refine called_at (.v (.bool true)) rfl (fun w' hh => by rw [← hrf]; exact right_any f w' hf) ?_
    repeat' ((conv => whnf); first | refine side2 ?_ | refine sideL2 ?_ | fail)
    refine calledQ_at (.v (.bool true)) rfl (fun _ w' hh => by rw [← hrg]; exact right_any g w' hg) ?_
    repeat' ((conv => whnf); first | refine walk (Try.ok ..) ?_ | (refine Cnd.mk (fun h => ?_) (fun h => ?_) <;> (first | exact cndT h (by (try dsimp only); omega) | exact cndF h (by (try dsimp only); omega) | (exfalso; simp at h; omega) | simp at h | skip)) | refine side2 ?_ | fail)
    refine sat_draw (Try.ok ..) [] [(2, .blk g2 26 (frC f)), (3, .blk g3 26 (frC g))] (by kernel_rfl) (fun w hw => hw.sub ?_) ?_
    · ((repeat' (first | exact trivial | exact rfl | refine And.intro ?_ ?_)) <;> (try (conv => whnf)) <;> (try simp only [SV.real, SV.r2, SV.r1]))
    repeat' ((conv => whnf); first | refine side2 ?_ | fail)
    refine called_at (.a (frC (turnF g))) rfl (fun w' hh => turned_any g w' hg) ?_
    repeat' ((conv => whnf); first | refine kp ?_ ?_ | exact trivial | refine side2 ?_ | fail)
    refine called_at (.t [.a (frC r), .v (.int .i64 e0)]) rfl (fun w' hh => by
      rw [er, ee]
      exact add_any f (turnF g) w' hf (turn_big hg) (den_pos hrf) (show 0 < g.den from den_pos hrg)) ?_
    repeat' ((conv => whnf); first | refine walk (Try.ok ..) ?_ | refine kp ?_ ?_ | exact trivial | refine side2 ?_ | fail)
    exact done_pure rfl rfl (congrArg (fun l => (SV.t [.a l, .v (.int .i64 e0)]).real) (tk1 r))
theorem cmpN_neg (x y : Nat) : 0 - cmpN x y = cmpN y x := by
  unfold cmpN
  repeat' split
  all_goals omega
theorem cmpN_bd (x y : Nat) : -1 ≤ cmpN x y ∧ cmpN x y ≤ 1 := by
  unfold cmpN
  repeat' split
  all_goals omega
theorem real_2 {a a' b b' : Int} (h : a = a') (h2 : b = b') : (SV.t [.v (.int .i64 a), .v (.int .i64 b)]).real = .tuple #[.int .i64 a', .int .i64 b'] := by subst h; subst h2; rfl
set_option maxRecDepth 100000 in
set_option maxHeartbeats 8000000 in
theorem cmpE_any (f g : Fr) (w : World) (hf : Big f) (hg : Big g) :
    Calls Try.prog 20 #[frV f, frV g] w fun e w' => e = .returned (.tuple #[.int .i64 (cmpE f g).1, .int .i64 (cmpE f g).2]) ∧ Below w.heap.size w w' := by
  refine calls_sat (cx := Try.cx 51 [] [] [] w) (Try.ok ..) Try.func20 rfl [.a (frC f), .a (frC g)] rfl (by show 2 ≤ 51; omega) [] (holds_nil (Nat.le_refl _)) ?_
  have h17 := frC_len f
  have h17' := frC_len g
  cases hrf : rightF f <;> cases hrg : rightF g
  · rw [show cmpE f g = (0, 2) by unfold cmpE bothF; rw [hrf]; rfl]
    repeat' ((conv => whnf); first | refine walk (Try.ok ..) ?_ | fail)
    intro g2 hg2
    skip
    intro g3 hg3
    repeat' ((conv => whnf); first | refine walk (Try.ok ..) ?_ | refine side2 ?_ | fail)
    refine called_at (.v (.bool false)) rfl (fun w' hh => by rw [← hrf]; exact right_any f w' hf) ?_
    repeat' ((conv => whnf); first | refine side2 ?_ | refine sideL2 ?_ | fail)
    refine calledQ_at (.v (.bool false)) rfl (fun _ w' hh => by rw [← hrg]; exact right_any g w' hg) ?_
    repeat' ((conv => whnf); first | refine walk (Try.ok ..) ?_ | (refine Cnd.mk (fun h => ?_) (fun h => ?_) <;> (first | exact cndT h (by (try dsimp only); omega) | exact cndF h (by (try dsimp only); omega) | (exfalso; simp at h; omega) | simp at h | skip)) | refine side2 ?_ | fail)
    exact done_pure rfl rfl rfl
  · rw [show cmpE f g = (0, 2) by unfold cmpE bothF; rw [hrf]; rfl]
    repeat' ((conv => whnf); first | refine walk (Try.ok ..) ?_ | fail)
    intro g2 hg2
    skip
    intro g3 hg3
    repeat' ((conv => whnf); first | refine walk (Try.ok ..) ?_ | refine side2 ?_ | fail)
    refine called_at (.v (.bool false)) rfl (fun w' hh => by rw [← hrf]; exact right_any f w' hf) ?_
    repeat' ((conv => whnf); first | refine side2 ?_ | refine sideL2 ?_ | fail)
    refine calledQ_at (.v (.bool true)) rfl (fun _ w' hh => by rw [← hrg]; exact right_any g w' hg) ?_
    repeat' ((conv => whnf); first | refine walk (Try.ok ..) ?_ | (refine Cnd.mk (fun h => ?_) (fun h => ?_) <;> (first | exact cndT h (by (try dsimp only); omega) | exact cndF h (by (try dsimp only); omega) | (exfalso; simp at h; omega) | simp at h | skip)) | refine side2 ?_ | fail)
    exact done_pure rfl rfl rfl
  · rw [show cmpE f g = (0, 2) by unfold cmpE bothF; rw [hrf, hrg]; rfl]
    repeat' ((conv => whnf); first | refine walk (Try.ok ..) ?_ | fail)
    intro g2 hg2
    skip
    intro g3 hg3
    repeat' ((conv => whnf); first | refine walk (Try.ok ..) ?_ | refine side2 ?_ | fail)
    refine called_at (.v (.bool true)) rfl (fun w' hh => by rw [← hrf]; exact right_any f w' hf) ?_
    repeat' ((conv => whnf); first | refine side2 ?_ | refine sideL2 ?_ | fail)
    refine calledQ_at (.v (.bool false)) rfl (fun _ w' hh => by rw [← hrg]; exact right_any g w' hg) ?_
    repeat' ((conv => whnf); first | refine walk (Try.ok ..) ?_ | (refine Cnd.mk (fun h => ?_) (fun h => ?_) <;> (first | exact cndT h (by (try dsimp only); omega) | exact cndF h (by (try dsimp only); omega) | (exfalso; simp at h; omega) | simp at h | skip)) | refine side2 ?_ | fail)
    exact done_pure rfl rfl rfl
  rw [show cmpE f g = (cmpF f g, 0) by unfold cmpE bothF; rw [hrf, hrg]; rfl]
  have b1 := big_len' hf.num
  have b2 := big_len' hf.den
  have b3 := big_len' hg.num
  have b4 := big_len' hg.den
  have c1 := big_mul' hf.num hg.den
  have c2 := big_mul' hg.num hf.den
  have hcb := cmpN_bd (f.num * g.den) (g.num * f.den)
  repeat' ((conv => whnf); first | refine walk (Try.ok ..) ?_ | fail)
  intro g2 hg2
  skip
  intro g3 hg3
  repeat' ((conv => whnf); first | refine walk (Try.ok ..) ?_ | refine side2 ?_ | fail)
  refine called_at (.v (.bool true)) rfl (fun w' hh => by rw [← hrf]; exact right_any f w' hf) ?_
  repeat' ((conv => whnf); first | refine side2 ?_ | refine sideL2 ?_ | fail)
  refine calledQ_at (.v (.bool true)) rfl (fun _ w' hh => by rw [← hrg]; exact right_any g w' hg) ?_
  repeat' ((conv => whnf); first | refine walk (Try.ok ..) ?_ | (refine Cnd.mk (fun h => ?_) (fun h => ?_) <;> (first | exact cndT h (by (try dsimp only); omega) | exact cndF h (by (try dsimp only); omega) | (exfalso; simp at h; omega) | simp at h | skip)) | refine side2 ?_ | fail)
  refine eqAgg_eql (eqFr f g) eqgFr1 (fun w => by rw [tk1, tk1]; exact eqFr1 f g hf hg w) ?_
  cases heq : eqFr f g
  · repeat' ((conv => whnf); first | refine walk (Try.ok ..) ?_ | (refine Cnd.mk (fun h => ?_) (fun h => ?_) <;> (first | exact cndT h (by (try dsimp only); omega) | exact cndF h (by (try dsimp only); omega) | (exfalso; simp at h; omega) | simp at h | skip)) | refine side2 ?_ | refine xi _ (And.intro rfl rfl) ?_ | fail)
    · exact done_pure rfl rfl (real_2 (by unfold cmpF; rw [if_neg (by simpa using ‹_›), if_pos (by assumption)]) rfl)
    · exact done_pure rfl rfl (real_2 (by unfold cmpF; rw [if_neg (by simpa using ‹_›), if_neg (by simp_all)]) rfl)
    have hs : f.neg = g.neg := by simpa using h
    refine called_newblk 31 (ty := 26) (cs := frC f) (fun g' => .t [.s 31 g' 0 1 (dg bb f.num).length 8, .s 31 g' 0 9 (dg bb f.den).length 8]) (fun w' hh => parts_any f w' hf) ?_
    intro ga hga
    repeat' ((conv => whnf); first | refine walk (Try.ok ..) ?_ | refine side2 ?_ | fail)
    refine called_newblk 36 (ty := 26) (cs := frC g) (fun g' => .t [.s 36 g' 0 1 (dg bb g.num).length 8, .s 36 g' 0 9 (dg bb g.den).length 8]) (fun w' hh => parts_any g w' hg) ?_
    intro gc hgc
    repeat' ((conv => whnf); first | refine walk (Try.ok ..) ?_ | fail)
    refine called_row 41 (xs := us (dg bb (f.num * g.den))) (m := (dg bb (f.num * g.den)).length) (fun v => v) (fun A cap => .o 41 A (dg bb (f.num * g.den)).length cap) (fun A cap => rfl) (fun w' hh => times_any f.num g.den (some (ga, 1)) (some (gc, 9)) 8 8 w' (ro_num hh hf (id := 31) rfl) (ro_den hh hg (id := 36) rfl) (by omega) (by omega)) ?_
    intro A1 k1
    skip
    refine called_row 44 (xs := us (dg bb (g.num * f.den))) (m := (dg bb (g.num * f.den)).length) (fun v => v) (fun A cap => .o 44 A (dg bb (g.num * f.den)).length cap) (fun A cap => rfl) (fun w' hh => times_any g.num f.den (some (gc, 1)) (some (ga, 9)) 8 8 w' (ro_num hh hg (id := 36) rfl) (ro_den hh hf (id := 31) rfl) (by omega) (by omega)) ?_
    intro A2 k2
    skip
    refine called_at (.v (.int .i64 (cmpN (f.num * g.den) (g.num * f.den)))) rfl (fun w' hh => cmp_any (f.num * g.den) (g.num * f.den) A1 A2 k1 k2 w' (ro_of_row hh (id := 41) rfl) (ro_of_row hh (id := 44) rfl) (by omega) (by omega)) ?_
    repeat' ((conv => whnf); first | refine walk (Try.ok ..) ?_ | (refine Cnd.mk (fun h => ?_) (fun h => ?_) <;> (first | exact cndT h (by (try dsimp only); omega) | exact cndF h (by (try dsimp only); omega) | (exfalso; simp at h; omega) | simp at h | skip)) | refine side2 ?_ | refine sideL2 ?_ | refine xi _ (And.intro rfl rfl) ?_ | fail)
    · exact done_pure rfl rfl (real_2 (by unfold cmpF; rw [if_pos hs, if_pos (by assumption), cmpN_neg]) rfl)
    · exact done_pure rfl rfl (real_2 (by unfold cmpF; rw [if_pos hs, if_neg (by simp_all)]) rfl)
  · have hfg := eqFr_iff.1 heq
    subst hfg
    repeat' ((conv => whnf); first | refine walk (Try.ok ..) ?_ | (refine Cnd.mk (fun h => ?_) (fun h => ?_) <;> (first | exact cndT h (by (try dsimp only); omega) | exact cndF h (by (try dsimp only); omega) | (exfalso; simp at h; omega) | simp at h | skip)) | fail)
    exact done_pure rfl rfl (real_2 (by unfold cmpF; rw [if_pos rfl, cmp_eq]; split <;> rfl) rfl)
end Go.Proofs.Ytomhfakkebaciaa
