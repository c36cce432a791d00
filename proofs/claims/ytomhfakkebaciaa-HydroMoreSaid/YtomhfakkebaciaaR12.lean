/-
  The walks of the reference: differences, products, quotients of two fractions.
-/
import Derived.Test.YtomhfakkebaciaaR11
namespace Go.Proofs.Ytomhfakkebaciaa
open Go Sat Go.RowKit Go.PlainAid
set_option linter.unusedSimpArgs false
set_option linter.unusedVariables false
set_option maxRecDepth 100000 in
set_option maxHeartbeats 8000000 in
theorem rSub_any (f g : Fr) (w : World) (hf : Big f) (hg : Big g) :
    Calls Try.prog 79 #[frV f, frV g] w fun e w' => e = .returned (.tuple #[frV (subE f g).1, .int .i64 (subE f g).2]) ∧ Below w.heap.size w w' := by
  have lf := frC_len f
  have lg := frC_len g
  have ln := frC_len (negR g)
  have hs := subE_neg f g
  obtain ⟨r, er⟩ : ∃ r, r = subE f g := ⟨_, rfl⟩
  rw [← er] at hs ⊢
  have lr := frC_len r.1
  refine calls_sat (cx := Try.cx 12 [1] [] [] w) (Try.ok ..) Try.func79 rfl [.a (frC f), .a (frC g)] rfl (by show 2 ≤ 12; omega) [] (holds_nil (Nat.le_refl _)) ?_
  repeat' ((conv => whnf); first | refine walk (Try.ok ..) ?_ | fail)
  (conv => whnf)
  intro g2 hg2
  skip
  (conv => whnf)
  intro g3 hg3
  skip
  (conv => whnf)
  intro g4 hg4
  repeat' ((conv => whnf); first | refine walk (Try.ok ..) ?_ | fail)
  refine sat_draw (Try.ok ..) [] [(2, .blk g2 62 (frC f)), (3, .blk g3 62 (frC g))] (by kernel_rfl) (fun w hw => hw.sub ?_) ?_
  · ((repeat' (first | exact trivial | exact rfl | refine And.intro ?_ ?_)) <;> (try (conv => whnf)) <;> (try simp only [SV.real, SV.r2, SV.r1]))
  repeat' ((conv => whnf); first | refine side2 ?_ | fail)
  refine called_pure (.a (frC (negR g))) rfl (fun w' => by exact rneg_any g w' hg) ?_
  repeat' ((conv => whnf); first | refine kp ?_ ?_ | exact trivial | refine side2 ?_ | fail)
  refine called_pure (.t [.a (frC r.1), .v (.int .i64 r.2)]) rfl (fun w' => by have h := rAdd_any f (negR g) w' hf (negR_big hg); rw [hs] at h; exact h) ?_
  repeat' ((conv => whnf); first | refine walk (Try.ok ..) ?_ | refine kp ?_ ?_ | exact trivial | refine side2 ?_ | fail)
  exact done_pure rfl rfl (congrArg (fun l => (SV.t [.a l, .v (.int .i64 r.2)]).real) (tk2 r.1))
set_option maxRecDepth 100000 in
set_option maxHeartbeats 8000000 in
theorem rMul_any (f g : Fr) (w : World) (hf : Big f) (hg : Big g) :
    Calls Try.prog 80 #[frV f, frV g] w fun e w' => e = .returned (.tuple #[frV (mulE f g).1, .int .i64 (mulE f g).2]) ∧ Below w.heap.size w w' := by
  have lf := frC_len f
  have lg := frC_len g
  obtain ⟨r, er⟩ : ∃ r, r = mulE f g := ⟨_, rfl⟩
  rw [← er]
  have lr := frC_len r.1
  refine calls_sat (cx := Try.cx 37 [3] [] [] w) (Try.ok ..) Try.func80 rfl [.a (frC f), .a (frC g)] rfl (by show 2 ≤ 37; omega) [] (holds_nil (Nat.le_refl _)) ?_
  repeat' ((conv => whnf); first | refine walk (Try.ok ..) ?_ | fail)
  (conv => whnf)
  intro g2 hg2
  skip
  (conv => whnf)
  intro g3 hg3
  skip
  (conv => whnf)
  intro g4 hg4
  by_cases hrf : rightF f = true
  case neg =>
    have hrf2 : rightF f = false := by simpa using hrf
    have hno : r = (zeroF, 2) := by rw [er]; unfold mulE bothF; rw [hrf2]; rfl
    rw [hno]
    repeat' ((conv => whnf); first | refine walk (Try.ok ..) ?_ | refine side2 ?_ | fail)
    refine called_pure (.v (.bool false)) rfl (fun w' => by rw [← hrf2]; exact rright_any f w' hf) ?_
    repeat' ((conv => whnf); first | refine side2 ?_ | refine sideL2 ?_ | fail)
    refine calledQ_pure (v := .bool true) (.v (.bool true)) rfl (fun hc _ => absurd (show (!!false) = true from hc) (by decide)) ?_
    repeat' ((conv => whnf); first | refine walk (Try.ok ..) ?_ | (refine Cnd.mk (fun h => ?_) (fun h => ?_) <;> (first | exact cndT h (by (try dsimp only); omega) | exact cndF h (by (try dsimp only); omega) | (exfalso; simp at h; omega) | simp at h | skip)) | refine side2 ?_ | fail)
    exact done_pure rfl rfl rfl
  by_cases hrg : rightF g = true
  case neg =>
    have hrg2 : rightF g = false := by simpa using hrg
    have hno : r = (zeroF, 2) := by rw [er]; unfold mulE bothF; rw [hrg2, Bool.and_false]; rfl
    rw [hno]
    repeat' ((conv => whnf); first | refine walk (Try.ok ..) ?_ | refine side2 ?_ | fail)
    refine called_pure (.v (.bool true)) rfl (fun w' => by rw [← hrf]; exact rright_any f w' hf) ?_
    repeat' ((conv => whnf); first | refine side2 ?_ | refine sideL2 ?_ | fail)
    refine calledQ_pure (.v (.bool false)) rfl (fun _ w' => by rw [← hrg2]; exact rright_any g w' hg) ?_
    repeat' ((conv => whnf); first | refine walk (Try.ok ..) ?_ | (refine Cnd.mk (fun h => ?_) (fun h => ?_) <;> (first | exact cndT h (by (try dsimp only); omega) | exact cndF h (by (try dsimp only); omega) | (exfalso; simp at h; omega) | simp at h | skip)) | refine side2 ?_ | fail)
    exact done_pure rfl rfl rfl
  repeat' ((conv => whnf); first | refine walk (Try.ok ..) ?_ | refine side2 ?_ | fail)
  refine called_pure (.v (.bool true)) rfl (fun w' => by rw [← hrf]; exact rright_any f w' hf) ?_
  repeat' ((conv => whnf); first | refine side2 ?_ | refine sideL2 ?_ | fail)
  refine calledQ_pure (.v (.bool true)) rfl (fun _ w' => by rw [← hrg]; exact rright_any g w' hg) ?_
  have hdp := Nat.mul_pos (right_den hrf) (right_den hrg)
  have b1 := dg_big6 hf.num
  have b2 := dg_big6 hf.den
  have b3 := dg_big6 hg.num
  have b4 := dg_big6 hg.den
  have m1 := mul_len6 hf.num hg.num
  have m3 := mul_len6 hf.den hg.den
  have er : r = fitF (f.neg != g.neg) (f.num * g.num) (f.den * g.den) := by rw [er]; unfold mulE bothF; rw [hrf, hrg]; rfl
  repeat' ((conv => whnf); first | refine walk (Try.ok ..) ?_ | (refine Cnd.mk (fun h => ?_) (fun h => ?_) <;> (first | exact cndT h (by (try dsimp only); omega) | exact cndF h (by (try dsimp only); omega) | (exfalso; simp at h; omega) | simp at h | skip)) | refine side2 ?_ | fail)
  refine sat_draw (Try.ok ..) [] [(2, .blk g2 62 (frC f)), (3, .blk g3 62 (frC g))] (by kernel_rfl) (fun w hw => hw.sub ?_) ?_
  · ((repeat' (first | exact trivial | exact rfl | refine And.intro ?_ ?_)) <;> (try (conv => whnf)) <;> (try simp only [SV.real, SV.r2, SV.r1]))
  repeat' ((conv => whnf); first | refine side2 ?_ | refine xi _ (And.intro rfl rfl) ?_ | fail)
  refine called_row 22 (xs := iv (dg b6 f.num)) (m := (dg b6 f.num).length) (fun v => v) (fun A cap => .o 22 A (dg b6 f.num).length cap) (fun _ _ => rfl) (fun w' hh => by exact rdig_num f w' hf) ?_
  intro A22 c22
  repeat' ((conv => whnf); first | refine kp ?_ ?_ | exact trivial | refine side2 ?_ | fail)
  refine called_row 25 (xs := iv (dg b6 g.num)) (m := (dg b6 g.num).length) (fun v => v) (fun A cap => .o 25 A (dg b6 g.num).length cap) (fun _ _ => rfl) (fun w' hh => by exact rdig_num g w' hg) ?_
  intro A25 c25
  repeat' ((conv => whnf); first | refine kp ?_ ?_ | exact trivial | refine side2 ?_ | fail)
  refine called_row 26 (xs := iv (dg b6 (f.num * g.num))) (m := (dg b6 (f.num * g.num)).length) (fun v => v) (fun A cap => .o 26 A (dg b6 (f.num * g.num)).length cap) (fun _ _ => rfl) (fun w' hh => rmul_any f.num g.num A22 A25 c22 c25 w' (ro_of_row hh (id := 22) rfl) (ro_of_row hh (id := 25) rfl) (by omega) (by omega)) ?_
  intro A26 c26
  repeat' ((conv => whnf); first | refine kp ?_ ?_ | exact trivial | refine side2 ?_ | fail)
  refine called_row 29 (xs := iv (dg b6 f.den)) (m := (dg b6 f.den).length) (fun v => v) (fun A cap => .o 29 A (dg b6 f.den).length cap) (fun _ _ => rfl) (fun w' hh => by exact rdig_den f w' hf) ?_
  intro A29 c29
  repeat' ((conv => whnf); first | refine kp ?_ ?_ | exact trivial | refine side2 ?_ | fail)
  refine called_row 32 (xs := iv (dg b6 g.den)) (m := (dg b6 g.den).length) (fun v => v) (fun A cap => .o 32 A (dg b6 g.den).length cap) (fun _ _ => rfl) (fun w' hh => by exact rdig_den g w' hg) ?_
  intro A32 c32
  repeat' ((conv => whnf); first | refine kp ?_ ?_ | exact trivial | refine side2 ?_ | fail)
  refine called_row 33 (xs := iv (dg b6 (f.den * g.den))) (m := (dg b6 (f.den * g.den)).length) (fun v => v) (fun A cap => .o 33 A (dg b6 (f.den * g.den)).length cap) (fun _ _ => rfl) (fun w' hh => rmul_any f.den g.den A29 A32 c29 c32 w' (ro_of_row hh (id := 29) rfl) (ro_of_row hh (id := 32) rfl) (by omega) (by omega)) ?_
  intro A33 c33
  repeat' ((conv => whnf); first | refine kp ?_ ?_ | exact trivial | refine side2 ?_ | fail)
  refine called_at (.t [.a (frC r.1), .v (.int .i64 r.2)]) rfl (fun w' hh => by
    rw [er]
    exact rmake_any (f.neg != g.neg) (f.num * g.num) (f.den * g.den) A26 A33 c26 c33 w' (ro_of_row hh (id := 26) rfl) (ro_of_row hh (id := 33) rfl) (by omega) (by omega) (row_cap6 hh (id := 26) rfl) (row_cap6 hh (id := 33) rfl) hdp) ?_
  repeat' ((conv => whnf); first | refine walk (Try.ok ..) ?_ | refine kp ?_ ?_ | exact trivial | refine side2 ?_ | fail)
  exact done_pure rfl rfl (congrArg (fun l => (SV.t [.a l, .v (.int .i64 r.2)]).real) (tk2 r.1))
set_option maxRecDepth 100000 in
set_option maxHeartbeats 8000000 in
theorem rDiv_any (f g : Fr) (w : World) (hf : Big f) (hg : Big g) :
    Calls Try.prog 81 #[frV f, frV g] w fun e w' => e = .returned (.tuple #[frV (divE f g).1, .int .i64 (divE f g).2]) ∧ Below w.heap.size w w' := by
  have lf := frC_len f
  have lg := frC_len g
  have zn := len_zero (n := g.num)
  obtain ⟨r, er⟩ : ∃ r, r = divE f g := ⟨_, rfl⟩
  rw [← er]
  have lr := frC_len r.1
  refine calls_sat (cx := Try.cx 44 [3] [] [] w) (Try.ok ..) Try.func81 rfl [.a (frC f), .a (frC g)] rfl (by show 2 ≤ 44; omega) [] (holds_nil (Nat.le_refl _)) ?_
  repeat' ((conv => whnf); first | refine walk (Try.ok ..) ?_ | fail)
  (conv => whnf)
  intro g2 hg2
  skip
  (conv => whnf)
  intro g3 hg3
  skip
  (conv => whnf)
  intro g4 hg4
  by_cases hrf : rightF f = true
  case neg =>
    have hrf2 : rightF f = false := by simpa using hrf
    have hno : r = (zeroF, 2) := by rw [er]; unfold divE bothF; rw [hrf2, if_neg (by simp)]
    rw [hno]
    repeat' ((conv => whnf); first | refine walk (Try.ok ..) ?_ | refine side2 ?_ | fail)
    refine called_pure (.v (.bool false)) rfl (fun w' => by rw [← hrf2]; exact rright_any f w' hf) ?_
    repeat' ((conv => whnf); first | refine side2 ?_ | refine sideL2 ?_ | fail)
    refine calledQ_pure (v := .bool true) (.v (.bool true)) rfl (fun hc _ => absurd (show (!!false) = true from hc) (by decide)) ?_
    repeat' ((conv => whnf); first | refine side2 ?_ | refine sideL2 ?_ | fail)
    refine calledQ_pure (v := .slice none 0 0) (.v (.slice none 0 0)) rfl (fun hc _ => absurd (show (!(!false || !true)) = true from hc) (by decide)) ?_
    repeat' ((conv => whnf); first | refine walk (Try.ok ..) ?_ | (refine Cnd.mk (fun h => ?_) (fun h => ?_) <;> (first | exact cndT h (by (try dsimp only); omega) | exact cndF h (by (try dsimp only); omega) | (exfalso; simp at h; omega) | simp at h | skip)) | refine side2 ?_ | fail)
    exact done_pure rfl rfl rfl
  by_cases hrg : rightF g = true
  case neg =>
    have hrg2 : rightF g = false := by simpa using hrg
    have hno : r = (zeroF, 2) := by rw [er]; unfold divE bothF; rw [hrg2, if_neg (by simp)]
    rw [hno]
    repeat' ((conv => whnf); first | refine walk (Try.ok ..) ?_ | refine side2 ?_ | fail)
    refine called_pure (.v (.bool true)) rfl (fun w' => by rw [← hrf]; exact rright_any f w' hf) ?_
    repeat' ((conv => whnf); first | refine side2 ?_ | refine sideL2 ?_ | fail)
    refine calledQ_pure (.v (.bool false)) rfl (fun _ w' => by rw [← hrg2]; exact rright_any g w' hg) ?_
    repeat' ((conv => whnf); first | refine side2 ?_ | refine sideL2 ?_ | fail)
    refine calledQ_pure (v := .slice none 0 0) (.v (.slice none 0 0)) rfl (fun hc _ => absurd (show (!(!true || !false)) = true from hc) (by decide)) ?_
    repeat' ((conv => whnf); first | refine walk (Try.ok ..) ?_ | (refine Cnd.mk (fun h => ?_) (fun h => ?_) <;> (first | exact cndT h (by (try dsimp only); omega) | exact cndF h (by (try dsimp only); omega) | (exfalso; simp at h; omega) | simp at h | skip)) | refine side2 ?_ | fail)
    exact done_pure rfl rfl rfl
  repeat' ((conv => whnf); first | refine walk (Try.ok ..) ?_ | refine side2 ?_ | fail)
  refine called_pure (.v (.bool true)) rfl (fun w' => by rw [← hrf]; exact rright_any f w' hf) ?_
  repeat' ((conv => whnf); first | refine side2 ?_ | refine sideL2 ?_ | fail)
  refine calledQ_pure (.v (.bool true)) rfl (fun _ w' => by rw [← hrg]; exact rright_any g w' hg) ?_
  repeat' ((conv => whnf); first | refine side2 ?_ | (with_reducible refine Or.inr (Cnd.mk (fun _ => ?_) (fun h => absurd h (by simp)))) | fail)
  refine called_row 17 (xs := iv (dg b6 g.num)) (m := (dg b6 g.num).length) (fun v => v) (fun A cap => .o 17 A (dg b6 g.num).length cap) (fun _ _ => rfl) (fun w' hh => by exact rdig_num g w' hg) ?_
  intro A17 c17
  by_cases h0 : g.num = 0
  · have hl : (dg b6 g.num).length = 0 := zn.2 h0
    have hno : r = (zeroF, 2) := by rw [er]; unfold divE; rw [if_neg fun h => h.2 h0]
    rw [hno]
    repeat' ((conv => whnf); first | refine walk (Try.ok ..) ?_ | (refine Cnd.mk (fun h => ?_) (fun h => ?_) <;> (first | exact cndT h (by (try dsimp only); omega) | exact cndF h (by (try dsimp only); omega) | (exfalso; simp at h; omega) | simp at h | skip)) | refine side2 ?_ | fail)
    exact done_pure rfl rfl rfl
  have hl : 0 < (dg b6 g.num).length := Nat.pos_of_ne_zero fun h => h0 (zn.1 h)
  have hdp := Nat.mul_pos (right_den hrf) (Nat.pos_of_ne_zero h0)
  have b1 := dg_big6 hf.num
  have b2 := dg_big6 hf.den
  have b3 := dg_big6 hg.num
  have b4 := dg_big6 hg.den
  have m1 := mul_len6 hf.num hg.den
  have m3 := mul_len6 hf.den hg.num
  have er : r = fitF (f.neg != g.neg) (f.num * g.den) (f.den * g.num) := by
    rw [er]; unfold divE bothF; rw [hrf, hrg, if_pos ⟨rfl, h0⟩]
  repeat' ((conv => whnf); first | refine walk (Try.ok ..) ?_ | (refine Cnd.mk (fun h => ?_) (fun h => ?_) <;> (first | exact cndT h (by (try dsimp only); omega) | exact cndF h (by (try dsimp only); omega) | (exfalso; simp at h; omega) | simp at h | skip)) | refine side2 ?_ | fail)
  refine sat_draw (Try.ok ..) [] [(2, .blk g2 62 (frC f)), (3, .blk g3 62 (frC g))] (by kernel_rfl) (fun w hw => hw.sub ?_) ?_
  · ((repeat' (first | exact trivial | exact rfl | refine And.intro ?_ ?_)) <;> (try (conv => whnf)) <;> (try simp only [SV.real, SV.r2, SV.r1]))
  repeat' ((conv => whnf); first | refine side2 ?_ | refine xi _ (And.intro rfl rfl) ?_ | fail)
  refine called_row 29 (xs := iv (dg b6 f.num)) (m := (dg b6 f.num).length) (fun v => v) (fun A cap => .o 29 A (dg b6 f.num).length cap) (fun _ _ => rfl) (fun w' hh => by exact rdig_num f w' hf) ?_
  intro A29 c29
  repeat' ((conv => whnf); first | refine kp ?_ ?_ | exact trivial | refine side2 ?_ | fail)
  refine called_row 32 (xs := iv (dg b6 g.den)) (m := (dg b6 g.den).length) (fun v => v) (fun A cap => .o 32 A (dg b6 g.den).length cap) (fun _ _ => rfl) (fun w' hh => by exact rdig_den g w' hg) ?_
  intro A32 c32
  repeat' ((conv => whnf); first | refine kp ?_ ?_ | exact trivial | refine side2 ?_ | fail)
  refine called_row 33 (xs := iv (dg b6 (f.num * g.den))) (m := (dg b6 (f.num * g.den)).length) (fun v => v) (fun A cap => .o 33 A (dg b6 (f.num * g.den)).length cap) (fun _ _ => rfl) (fun w' hh => rmul_any f.num g.den A29 A32 c29 c32 w' (ro_of_row hh (id := 29) rfl) (ro_of_row hh (id := 32) rfl) (by omega) (by omega)) ?_
  intro A33 c33
  repeat' ((conv => whnf); first | refine kp ?_ ?_ | exact trivial | refine side2 ?_ | fail)
  refine called_row 36 (xs := iv (dg b6 f.den)) (m := (dg b6 f.den).length) (fun v => v) (fun A cap => .o 36 A (dg b6 f.den).length cap) (fun _ _ => rfl) (fun w' hh => by exact rdig_den f w' hf) ?_
  intro A36 c36
  repeat' ((conv => whnf); first | refine kp ?_ ?_ | exact trivial | refine side2 ?_ | fail)
  refine called_row 39 (xs := iv (dg b6 g.num)) (m := (dg b6 g.num).length) (fun v => v) (fun A cap => .o 39 A (dg b6 g.num).length cap) (fun _ _ => rfl) (fun w' hh => by exact rdig_num g w' hg) ?_
  intro A39 c39
  repeat' ((conv => whnf); first | refine kp ?_ ?_ | exact trivial | refine side2 ?_ | fail)
  refine called_row 40 (xs := iv (dg b6 (f.den * g.num))) (m := (dg b6 (f.den * g.num)).length) (fun v => v) (fun A cap => .o 40 A (dg b6 (f.den * g.num)).length cap) (fun _ _ => rfl) (fun w' hh => rmul_any f.den g.num A36 A39 c36 c39 w' (ro_of_row hh (id := 36) rfl) (ro_of_row hh (id := 39) rfl) (by omega) (by omega)) ?_
  intro A40 c40
  repeat' ((conv => whnf); first | refine kp ?_ ?_ | exact trivial | refine side2 ?_ | fail)
  refine called_at (.t [.a (frC r.1), .v (.int .i64 r.2)]) rfl (fun w' hh => by
    rw [er]
    exact rmake_any (f.neg != g.neg) (f.num * g.den) (f.den * g.num) A33 A40 c33 c40 w' (ro_of_row hh (id := 33) rfl) (ro_of_row hh (id := 40) rfl) (by omega) (by omega) (row_cap6 hh (id := 33) rfl) (row_cap6 hh (id := 40) rfl) hdp) ?_
  repeat' ((conv => whnf); first | refine walk (Try.ok ..) ?_ | refine kp ?_ ?_ | exact trivial | refine side2 ?_ | fail)
  exact done_pure rfl rfl (congrArg (fun l => (SV.t [.a l, .v (.int .i64 r.2)]).real) (tk2 r.1))
end Go.Proofs.Ytomhfakkebaciaa
