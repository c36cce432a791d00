/-
  The walks of the frac package: quotients of whole numbers, products of fractions.
-/
import Derived.Test.YtomhfakkebaciaaN10
namespace Go.Proofs.Ytomhfakkebaciaa
open Go Sat Go.RowKit Go.PlainAid
set_option linter.unusedSimpArgs false
set_option linter.unusedVariables false
set_option maxRecDepth 100000 in
set_option maxHeartbeats 8000000 in
theorem ratio_any (a b : Int) (w : World) (ha : I64 a) (hb : I64 b) :
    Calls Try.prog 31 #[.int .i64 a, .int .i64 b] w fun e w' => e = .returned (.tuple #[frV (ratioE a b).1, .int .i64 (ratioE a b).2]) ∧ Below w.heap.size w w' := by
  have hla := abs_len ha
  have hlb := abs_len hb
  refine calls_sat (cx := Try.cx 21 [] [] [] w) (Try.ok ..) Try.func31 rfl [.v (.int .i64 a), .v (.int .i64 b)] rfl (by show 2 ≤ 21; omega) [] (holds_nil (Nat.le_refl _)) ?_
  by_cases h0 : b = 0
  · subst h0
    rw [show ratioE a 0 = (zeroF, 2) from rfl]
    repeat' ((conv => whnf); first | refine walk (Try.ok ..) ?_ | fail)
    intro g4 hg4
    repeat' ((conv => whnf); first | refine walk (Try.ok ..) ?_ | (refine Cnd.mk (fun h => ?_) (fun h => ?_) <;> (first | exact cndT h (by (try dsimp only); omega) | exact cndF h (by (try dsimp only); omega) | (exfalso; simp at h; omega) | simp at h | skip)) | refine side2 ?_ | fail)
    exact done_pure rfl rfl rfl
  · obtain ⟨r, er⟩ : ∃ r, r = (fitF (decide (a < 0) != decide (b < 0)) a.natAbs b.natAbs).1 := ⟨_, rfl⟩
    obtain ⟨e0, ee⟩ : ∃ r, r = (fitF (decide (a < 0) != decide (b < 0)) a.natAbs b.natAbs).2 := ⟨_, rfl⟩
    rw [show ratioE a b = (r, e0) by unfold ratioE; rw [if_neg h0, er, ee]]
    repeat' ((conv => whnf); first | refine walk (Try.ok ..) ?_ | fail)
    intro g4 hg4
    repeat' ((conv => whnf); first | refine walk (Try.ok ..) ?_ | (refine Cnd.mk (fun h => ?_) (fun h => ?_) <;> (first | exact cndT h (by (try dsimp only); omega) | exact cndF h (by (try dsimp only); omega) | (exfalso; simp at h; omega) | simp at h | skip)) | fail)
    refine called_row 15 (xs := us (dg bb a.natAbs)) (m := (dg bb a.natAbs).length) (fun v => v) (fun A cap => .o 15 A (dg bb a.natAbs).length cap) (fun A cap => rfl) (fun w' hh => size64_any a w' ha) ?_
    intro A1 c1
    skip
    refine called_row 17 (xs := us (dg bb b.natAbs)) (m := (dg bb b.natAbs).length) (fun v => v) (fun A cap => .o 17 A (dg bb b.natAbs).length cap) (fun A cap => rfl) (fun w' hh => size64_any b w' hb) ?_
    intro A2 c2
    skip
    refine called_at (.t [.a (frC r), .v (.int .i64 e0)]) rfl (fun w' hh => by
      rw [er, ee]
      exact fit_any (decide (a < 0) != decide (b < 0)) a.natAbs b.natAbs A1 A2 c1 c2 w' (ro_of_row hh (id := 15) rfl) (ro_of_row hh (id := 17) rfl) (by omega) (by omega) (by omega)) ?_
    repeat' ((conv => whnf); first | refine walk (Try.ok ..) ?_ | refine side2 ?_ | fail)
    exact done_pure rfl rfl (congrArg (fun l => (SV.t [.a l, .v (.int .i64 e0)]).real) (tk1 r))
theorem fr_neg (f : Fr) : (frC f)[0]? = some (.v (.bool f.neg)) ∧ (SV.v (.bool f.neg)).scal = true := ⟨rfl, rfl⟩
theorem den_pos {f : Fr} (h : rightF f = true) : 0 < f.den := (right_iff.1 h).den
theorem big_len {n : Nat} (h : n < big) : (dg bb n).length ≤ 10000 := by have := dg_big h; omega
theorem big_mul {n m : Nat} (h : n < big) (h' : m < big) : (dg bb (n * m)).length ≤ 10000 := by
  have h1 : n * m < bb ^ 16 := by
    have h2 : n * m ≤ n * big := Nat.mul_le_mul_left _ (Nat.le_of_lt h')
    have h3 : n * big < big * big := Nat.mul_lt_mul_of_pos_right h (by decide)
    have h4 : big * big = bb ^ 16 := by decide
    omega
  have := (dg_len (B := bb) (by decide) 16 (n * m)).2 h1
  omega
set_option maxRecDepth 100000 in
set_option maxHeartbeats 8000000 in
theorem mul_any (f g : Fr) (w : World) (hf : Big f) (hg : Big g) :
    Calls Try.prog 52 #[frV f, frV g] w fun e w' => e = .returned (.tuple #[frV (mulE f g).1, .int .i64 (mulE f g).2]) ∧ Below w.heap.size w w' := by
  refine calls_sat (cx := Try.cx 43 [5] [] [] w) (Try.ok ..) Try.func52 rfl [.a (frC f), .a (frC g)] rfl (by show 2 ≤ 43; omega) [] (holds_nil (Nat.le_refl _)) ?_
  have h17 := frC_len f
  have h17' := frC_len g
  cases hrf : rightF f <;> cases hrg : rightF g
  · rw [show mulE f g = (zeroF, 2) by unfold mulE bothF; rw [hrf]; rfl]
    repeat' ((conv => whnf); first | refine walk (Try.ok ..) ?_ | fail)
    intro g2 hg2
    skip
    intro g3 hg3
    skip
    intro g4 hg4
    repeat' ((conv => whnf); first | refine walk (Try.ok ..) ?_ | refine side2 ?_ | fail)
    refine called_at (.v (.bool false)) rfl (fun w' hh => by rw [← hrf]; exact right_any f w' hf) ?_
    repeat' ((conv => whnf); first | refine side2 ?_ | refine sideL2 ?_ | fail)
    refine calledQ_at (.v (.bool false)) rfl (fun _ w' hh => by rw [← hrg]; exact right_any g w' hg) ?_
    repeat' ((conv => whnf); first | refine walk (Try.ok ..) ?_ | (refine Cnd.mk (fun h => ?_) (fun h => ?_) <;> (first | exact cndT h (by (try dsimp only); omega) | exact cndF h (by (try dsimp only); omega) | (exfalso; simp at h; omega) | simp at h | skip)) | refine side2 ?_ | fail)
    exact done_pure rfl rfl rfl
  · rw [show mulE f g = (zeroF, 2) by unfold mulE bothF; rw [hrf]; rfl]
    repeat' ((conv => whnf); first | refine walk (Try.ok ..) ?_ | fail)
    intro g2 hg2
    skip
    intro g3 hg3
    skip
    intro g4 hg4
    repeat' ((conv => whnf); first | refine walk (Try.ok ..) ?_ | refine side2 ?_ | fail)
    refine called_at (.v (.bool false)) rfl (fun w' hh => by rw [← hrf]; exact right_any f w' hf) ?_
    repeat' ((conv => whnf); first | refine side2 ?_ | refine sideL2 ?_ | fail)
    refine calledQ_at (.v (.bool true)) rfl (fun _ w' hh => by rw [← hrg]; exact right_any g w' hg) ?_
    repeat' ((conv => whnf); first | refine walk (Try.ok ..) ?_ | (refine Cnd.mk (fun h => ?_) (fun h => ?_) <;> (first | exact cndT h (by (try dsimp only); omega) | exact cndF h (by (try dsimp only); omega) | (exfalso; simp at h; omega) | simp at h | skip)) | refine side2 ?_ | fail)
    exact done_pure rfl rfl rfl
  · rw [show mulE f g = (zeroF, 2) by unfold mulE bothF; rw [hrf, hrg]; rfl]
    repeat' ((conv => whnf); first | refine walk (Try.ok ..) ?_ | fail)
    intro g2 hg2
    skip
    intro g3 hg3
    skip
    intro g4 hg4
    repeat' ((conv => whnf); first | refine walk (Try.ok ..) ?_ | refine side2 ?_ | fail)
    refine called_at (.v (.bool true)) rfl (fun w' hh => by rw [← hrf]; exact right_any f w' hf) ?_
    repeat' ((conv => whnf); first | refine side2 ?_ | refine sideL2 ?_ | fail)
    refine calledQ_at (.v (.bool false)) rfl (fun _ w' hh => by rw [← hrg]; exact right_any g w' hg) ?_
    repeat' ((conv => whnf); first | refine walk (Try.ok ..) ?_ | (refine Cnd.mk (fun h => ?_) (fun h => ?_) <;> (first | exact cndT h (by (try dsimp only); omega) | exact cndF h (by (try dsimp only); omega) | (exfalso; simp at h; omega) | simp at h | skip)) | refine side2 ?_ | fail)
    exact done_pure rfl rfl rfl
  · obtain ⟨r, er⟩ : ∃ r, r = (fitF (f.neg != g.neg) (f.num * g.num) (f.den * g.den)).1 := ⟨_, rfl⟩
    obtain ⟨e0, ee⟩ : ∃ r, r = (fitF (f.neg != g.neg) (f.num * g.num) (f.den * g.den)).2 := ⟨_, rfl⟩
    have hdf := den_pos hrf
    have hdg := den_pos hrg
    rw [show mulE f g = (r, e0) by unfold mulE bothF; rw [hrf, hrg, er, ee]; rfl]
    repeat' ((conv => whnf); first | refine walk (Try.ok ..) ?_ | fail)
    intro g2 hg2
    skip
    intro g3 hg3
    skip
    intro g4 hg4
    repeat' ((conv => whnf); first | refine walk (Try.ok ..) ?_ | refine side2 ?_ | fail)
    refine called_at (.v (.bool true)) rfl (fun w' hh => by rw [← hrf]; exact right_any f w' hf) ?_
    repeat' ((conv => whnf); first | refine side2 ?_ | refine sideL2 ?_ | fail)
    refine calledQ_at (.v (.bool true)) rfl (fun _ w' hh => by rw [← hrg]; exact right_any g w' hg) ?_
    repeat' ((conv => whnf); first | refine walk (Try.ok ..) ?_ | (refine Cnd.mk (fun h => ?_) (fun h => ?_) <;> (first | exact cndT h (by (try dsimp only); omega) | exact cndF h (by (try dsimp only); omega) | (exfalso; simp at h; omega) | simp at h | skip)) | refine side2 ?_ | fail)
    refine called_newblk 21 (ty := 26) (cs := frC f) (fun g' => .t [.s 21 g' 0 1 (dg bb f.num).length 8, .s 21 g' 0 9 (dg bb f.den).length 8]) (fun w' hh => parts_any f w' hf) ?_
    intro ga hga
    repeat' ((conv => whnf); first | refine walk (Try.ok ..) ?_ | refine side2 ?_ | fail)
    refine called_newblk 26 (ty := 26) (cs := frC g) (fun g' => .t [.s 26 g' 0 1 (dg bb g.num).length 8, .s 26 g' 0 9 (dg bb g.den).length 8]) (fun w' hh => parts_any g w' hg) ?_
    intro gc hgc
    repeat' ((conv => whnf); first | refine walk (Try.ok ..) ?_ | fail)
    refine sat_draw (Try.ok ..) [] [(2, .blk g2 26 (frC f)), (3, .blk g3 26 (frC g)), (21, .blk ga 26 (frC f)), (26, .blk gc 26 (frC g))] (by kernel_rfl) (fun w hw => hw.sub ?_) ?_
    · ((repeat' (first | exact trivial | exact rfl | refine And.intro ?_ ?_)) <;> (try (conv => whnf)) <;> (try simp only [SV.real, SV.r2, SV.r1]))
    repeat' ((conv => whnf); first | refine side2 ?_ | refine xi _ (And.intro rfl rfl) ?_ | fail)
    refine called_row 36 (xs := us (dg bb (f.num * g.num))) (m := (dg bb (f.num * g.num)).length) (fun v => v) (fun A cap => .o 36 A (dg bb (f.num * g.num)).length cap) (fun A cap => rfl) (fun w' hh => times_any f.num g.num (some (ga, 1)) (some (gc, 1)) 8 8 w' (ro_num hh hf (id := 21) rfl) (ro_num hh hg (id := 26) rfl) (by have := big_len hf.num; omega) (by have := big_len hg.num; omega)) ?_
    intro A1 c1
    repeat' ((conv => whnf); first | refine kp ?_ ?_ | exact trivial | refine side2 ?_ | fail)
    refine called_row 39 (xs := us (dg bb (f.den * g.den))) (m := (dg bb (f.den * g.den)).length) (fun v => v) (fun A cap => .o 39 A (dg bb (f.den * g.den)).length cap) (fun A cap => rfl) (fun w' hh => times_any f.den g.den (some (ga, 9)) (some (gc, 9)) 8 8 w' (ro_den hh hf (id := 21) rfl) (ro_den hh hg (id := 26) rfl) (by have := big_len hf.den; omega) (by have := big_len hg.den; omega)) ?_
    intro A2 c2
    repeat' ((conv => whnf); first | refine kp ?_ ?_ | exact trivial | refine side2 ?_ | fail)
    refine called_at (.t [.a (frC r), .v (.int .i64 e0)]) rfl (fun w' hh => by
      rw [er, ee]
      exact fit_any (f.neg != g.neg) (f.num * g.num) (f.den * g.den) A1 A2 c1 c2 w' (ro_of_row hh (id := 36) rfl) (ro_of_row hh (id := 39) rfl) (big_mul hf.num hg.num) (big_mul hf.den hg.den) (Nat.mul_pos hdf hdg)) ?_
    repeat' ((conv => whnf); first | refine walk (Try.ok ..) ?_ | refine kp ?_ ?_ | exact trivial | refine side2 ?_ | fail)
    exact done_pure rfl rfl (congrArg (fun l => (SV.t [.a l, .v (.int .i64 e0)]).real) (tk1 r))
def z8 : List SV := List.replicate 8 (.v (.int .u32 0))
theorem eqNumIn (d : Nat) (g : Fr) (hg : Big g) (w : World) : (Op.equalIn (d + 1 + 1) 24 (SV.a (List.take 8 (List.drop 1 (frC g)))).real (SV.a z8).real).run Try.prog w = .ok (decide (g.num = 0)) w := by
  have e1 : (SV.a (List.take 8 (List.drop 1 (frC g)))).real = .agg (u32L (lim g.num)).toArray := congrArg (fun l : List Value => Value.agg l.toArray) (frC_num g)
  have e2 : (SV.a z8).real = .agg (u32L (lim 0)).toArray := rfl
  have e3 := eq_arr (T := (Try.cx 0 [] [] [] w).T) (Try.ok 0 [] [] [] w.heap.size [] w).T (t := 24) (e := 23) rfl rfl rfl rfl rfl d w (lim_len g.num) (lim_len 0)
  rw [lim_dec hg.num (show 0 < big by decide)] at e3
  rw [e1, e2]
  exact e3
theorem eqNum (g : Fr) (hg : Big g) (w : World) : (Op.equal 24 (SV.a (List.take 8 (List.drop 1 (frC g)))).real (SV.a z8).real).run Try.prog w = .ok (decide (g.num = 0)) w := eqNumIn 9998 g hg w
theorem eqgNum : Try.prog.eqGuardType Try.prog.depth 24 = false := by kernel_rfl
set_option maxRecDepth 100000 in
set_option maxHeartbeats 8000000 in
theorem div_any (f g : Fr) (w : World) (hf : Big f) (hg : Big g) :
    Calls Try.prog 19 #[frV f, frV g] w fun e w' => e = .returned (.tuple #[frV (divE f g).1, .int .i64 (divE f g).2]) ∧ Below w.heap.size w w' := by
  refine calls_sat (cx := Try.cx 49 [5] [] [] w) (Try.ok ..) Try.func19 rfl [.a (frC f), .a (frC g)] rfl (by show 2 ≤ 49; omega) [] (holds_nil (Nat.le_refl _)) ?_
  have h17 := frC_len f
  have h17' := frC_len g
  cases hrf : rightF f <;> cases hrg : rightF g
  · rw [show divE f g = (zeroF, 2) by unfold divE bothF; rw [hrf, if_neg (by simp)]]
    repeat' ((conv => whnf); first | refine walk (Try.ok ..) ?_ | fail)
    intro g2 hg2
    skip
    intro g3 hg3
    skip
    intro g4 hg4
    repeat' ((conv => whnf); first | refine walk (Try.ok ..) ?_ | refine side2 ?_ | fail)
    refine called_at (.v (.bool false)) rfl (fun w' hh => by rw [← hrf]; exact right_any f w' hf) ?_
    repeat' ((conv => whnf); first | refine side2 ?_ | refine sideL2 ?_ | fail)
    refine calledQ_at (.v (.bool false)) rfl (fun _ w' hh => by rw [← hrg]; exact right_any g w' hg) ?_
    repeat' ((conv => whnf); first | refine side2 ?_ | fail)
    refine eqAgg_eql (decide (g.num = 0)) eqgNum (eqNum g hg) ?_
    repeat' ((conv => whnf); first | refine walk (Try.ok ..) ?_ | (refine Cnd.mk (fun h => ?_) (fun h => ?_) <;> (first | exact cndT h (by (try dsimp only); omega) | exact cndF h (by (try dsimp only); omega) | (exfalso; simp at h; omega) | simp at h | skip)) | refine side2 ?_ | fail)
    exact done_pure rfl rfl rfl
  · rw [show divE f g = (zeroF, 2) by unfold divE bothF; rw [hrf, if_neg (by simp)]]
    repeat' ((conv => whnf); first | refine walk (Try.ok ..) ?_ | fail)
    intro g2 hg2
    skip
    intro g3 hg3
    skip
    intro g4 hg4
    repeat' ((conv => whnf); first | refine walk (Try.ok ..) ?_ | refine side2 ?_ | fail)
    refine called_at (.v (.bool false)) rfl (fun w' hh => by rw [← hrf]; exact right_any f w' hf) ?_
    repeat' ((conv => whnf); first | refine side2 ?_ | refine sideL2 ?_ | fail)
    refine calledQ_at (.v (.bool true)) rfl (fun _ w' hh => by rw [← hrg]; exact right_any g w' hg) ?_
    repeat' ((conv => whnf); first | refine side2 ?_ | fail)
    refine eqAgg_eql (decide (g.num = 0)) eqgNum (eqNum g hg) ?_
    repeat' ((conv => whnf); first | refine walk (Try.ok ..) ?_ | (refine Cnd.mk (fun h => ?_) (fun h => ?_) <;> (first | exact cndT h (by (try dsimp only); omega) | exact cndF h (by (try dsimp only); omega) | (exfalso; simp at h; omega) | simp at h | skip)) | refine side2 ?_ | fail)
    exact done_pure rfl rfl rfl
  · rw [show divE f g = (zeroF, 2) by unfold divE bothF; rw [hrf, hrg, if_neg (by simp)]]
    repeat' ((conv => whnf); first | refine walk (Try.ok ..) ?_ | fail)
    intro g2 hg2
    skip
    intro g3 hg3
    skip
    intro g4 hg4
    repeat' ((conv => whnf); first | refine walk (Try.ok ..) ?_ | refine side2 ?_ | fail)
    refine called_at (.v (.bool true)) rfl (fun w' hh => by rw [← hrf]; exact right_any f w' hf) ?_
    repeat' ((conv => whnf); first | refine side2 ?_ | refine sideL2 ?_ | fail)
    refine calledQ_at (.v (.bool false)) rfl (fun _ w' hh => by rw [← hrg]; exact right_any g w' hg) ?_
    repeat' ((conv => whnf); first | refine side2 ?_ | fail)
    refine eqAgg_eql (decide (g.num = 0)) eqgNum (eqNum g hg) ?_
    repeat' ((conv => whnf); first | refine walk (Try.ok ..) ?_ | (refine Cnd.mk (fun h => ?_) (fun h => ?_) <;> (first | exact cndT h (by (try dsimp only); omega) | exact cndF h (by (try dsimp only); omega) | (exfalso; simp at h; omega) | simp at h | skip)) | refine side2 ?_ | fail)
    exact done_pure rfl rfl rfl
  by_cases h0 : g.num = 0
  · rw [show divE f g = (zeroF, 2) by unfold divE; rw [h0, if_neg (by simp)]]
    repeat' ((conv => whnf); first | refine walk (Try.ok ..) ?_ | fail)
    intro g2 hg2
    skip
    intro g3 hg3
    skip
    intro g4 hg4
    repeat' ((conv => whnf); first | refine walk (Try.ok ..) ?_ | refine side2 ?_ | fail)
    refine called_at (.v (.bool true)) rfl (fun w' hh => by rw [← hrf]; exact right_any f w' hf) ?_
    repeat' ((conv => whnf); first | refine side2 ?_ | refine sideL2 ?_ | fail)
    refine calledQ_at (.v (.bool true)) rfl (fun _ w' hh => by rw [← hrg]; exact right_any g w' hg) ?_
    repeat' ((conv => whnf); first | refine side2 ?_ | fail)
    refine eqAgg_eql (decide (g.num = 0)) eqgNum (eqNum g hg) ?_
    rw [decide_eq_true h0]
    repeat' ((conv => whnf); first | refine walk (Try.ok ..) ?_ | (refine Cnd.mk (fun h => ?_) (fun h => ?_) <;> (first | exact cndT h (by (try dsimp only); omega) | exact cndF h (by (try dsimp only); omega) | (exfalso; simp at h; omega) | simp at h | skip)) | refine side2 ?_ | fail)
    exact done_pure rfl rfl rfl
  · obtain ⟨r, er⟩ : ∃ r, r = (fitF (f.neg != g.neg) (f.num * g.den) (f.den * g.num)).1 := ⟨_, rfl⟩
    obtain ⟨e0, ee⟩ : ∃ r, r = (fitF (f.neg != g.neg) (f.num * g.den) (f.den * g.num)).2 := ⟨_, rfl⟩
    have hdf := den_pos hrf
    have hdg := den_pos hrg
    rw [show divE f g = (r, e0) by unfold divE bothF; rw [hrf, hrg, er, ee, if_pos ⟨rfl, h0⟩]]
    repeat' ((conv => whnf); first | refine walk (Try.ok ..) ?_ | fail)
    intro g2 hg2
    skip
    intro g3 hg3
    skip
    intro g4 hg4
    repeat' ((conv => whnf); first | refine walk (Try.ok ..) ?_ | refine side2 ?_ | fail)
    refine called_at (.v (.bool true)) rfl (fun w' hh => by rw [← hrf]; exact right_any f w' hf) ?_
    repeat' ((conv => whnf); first | refine side2 ?_ | refine sideL2 ?_ | fail)
    refine calledQ_at (.v (.bool true)) rfl (fun _ w' hh => by rw [← hrg]; exact right_any g w' hg) ?_
    repeat' ((conv => whnf); first | refine side2 ?_ | fail)
    refine eqAgg_eql (decide (g.num = 0)) eqgNum (eqNum g hg) ?_
    rw [decide_eq_false h0]
    repeat' ((conv => whnf); first | refine walk (Try.ok ..) ?_ | (refine Cnd.mk (fun h => ?_) (fun h => ?_) <;> (first | exact cndT h (by (try dsimp only); omega) | exact cndF h (by (try dsimp only); omega) | (exfalso; simp at h; omega) | simp at h | skip)) | refine side2 ?_ | fail)
    refine called_newblk 27 (ty := 26) (cs := frC f) (fun g' => .t [.s 27 g' 0 1 (dg bb f.num).length 8, .s 27 g' 0 9 (dg bb f.den).length 8]) (fun w' hh => parts_any f w' hf) ?_
    intro ga hga
    repeat' ((conv => whnf); first | refine walk (Try.ok ..) ?_ | refine side2 ?_ | fail)
    refine called_newblk 32 (ty := 26) (cs := frC g) (fun g' => .t [.s 32 g' 0 1 (dg bb g.num).length 8, .s 32 g' 0 9 (dg bb g.den).length 8]) (fun w' hh => parts_any g w' hg) ?_
    intro gc hgc
    repeat' ((conv => whnf); first | refine walk (Try.ok ..) ?_ | fail)
    refine sat_draw (Try.ok ..) [] [(2, .blk g2 26 (frC f)), (3, .blk g3 26 (frC g)), (27, .blk ga 26 (frC f)), (32, .blk gc 26 (frC g))] (by kernel_rfl) (fun w hw => hw.sub ?_) ?_
    · ((repeat' (first | exact trivial | exact rfl | refine And.intro ?_ ?_)) <;> (try (conv => whnf)) <;> (try simp only [SV.real, SV.r2, SV.r1]))
    repeat' ((conv => whnf); first | refine side2 ?_ | refine xi _ (And.intro rfl rfl) ?_ | fail)
    refine called_row 42 (xs := us (dg bb (f.num * g.den))) (m := (dg bb (f.num * g.den)).length) (fun v => v) (fun A cap => .o 42 A (dg bb (f.num * g.den)).length cap) (fun A cap => rfl) (fun w' hh => times_any f.num g.den (some (ga, 1)) (some (gc, 9)) 8 8 w' (ro_num hh hf (id := 27) rfl) (ro_den hh hg (id := 32) rfl) (by have := big_len hf.num; omega) (by have := big_len hg.den; omega)) ?_
    intro A1 c1
    repeat' ((conv => whnf); first | refine kp ?_ ?_ | exact trivial | refine side2 ?_ | fail)
    refine called_row 45 (xs := us (dg bb (f.den * g.num))) (m := (dg bb (f.den * g.num)).length) (fun v => v) (fun A cap => .o 45 A (dg bb (f.den * g.num)).length cap) (fun A cap => rfl) (fun w' hh => times_any f.den g.num (some (ga, 9)) (some (gc, 1)) 8 8 w' (ro_den hh hf (id := 27) rfl) (ro_num hh hg (id := 32) rfl) (by have := big_len hf.den; omega) (by have := big_len hg.num; omega)) ?_
    intro A2 c2
    repeat' ((conv => whnf); first | refine kp ?_ ?_ | exact trivial | refine side2 ?_ | fail)
    refine called_at (.t [.a (frC r), .v (.int .i64 e0)]) rfl (fun w' hh => by
      rw [er, ee]
      exact fit_any (f.neg != g.neg) (f.num * g.den) (f.den * g.num) A1 A2 c1 c2 w' (ro_of_row hh (id := 42) rfl) (ro_of_row hh (id := 45) rfl) (big_mul hf.num hg.den) (big_mul hf.den hg.num) (Nat.mul_pos hdf (by omega))) ?_
    repeat' ((conv => whnf); first | refine walk (Try.ok ..) ?_ | refine kp ?_ ?_ | exact trivial | refine side2 ?_ | fail)
    exact done_pure rfl rfl (congrArg (fun l => (SV.t [.a l, .v (.int .i64 e0)]).real) (tk1 r))
end Go.Proofs.Ytomhfakkebaciaa
