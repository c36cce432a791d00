/-
  The walks of the reference: comparison of two fractions.
-/
import Derived.Test.YtomhfakkebaciaaR11
namespace Go.Proofs.Ytomhfakkebaciaa
open Go Sat Go.RowKit Go.PlainAid
set_option linter.unusedSimpArgs false
set_option linter.unusedVariables false
set_option maxRecDepth 100000 in
set_option maxHeartbeats 8000000 in
theorem rCmp_any (f g : Fr) (w : World) (hf : Big f) (hg : Big g) :
    Calls Try.prog 60 #[frV f, frV g] w fun e w' => e = .returned (.tuple #[.int .i64 (cmpE f g).1, .int .i64 (cmpE f g).2]) ∧ Below w.heap.size w w' := by
  have lf := frC_len f
  have lg := frC_len g
  obtain ⟨r, er⟩ : ∃ r, r = cmpE f g := ⟨_, rfl⟩
  rw [← er]
  refine calls_sat (cx := Try.cx 54 [3, 4] [] [] w) (Try.ok ..) Try.func60 rfl [.a (frC f), .a (frC g)] rfl (by show 2 ≤ 54; omega) [] (holds_nil (Nat.le_refl _)) ?_
  repeat' ((conv => whnf); first | refine walk (Try.ok ..) ?_ | fail)
  (conv => whnf)
  intro g2 hg2
  skip
  (conv => whnf)
  intro g3 hg3
  by_cases hrf : rightF f = true
  case neg =>
    have hrf2 : rightF f = false := by simpa using hrf
    have hno : r = (0, 2) := by rw [er]; unfold cmpE bothF; rw [hrf2]; rfl
    rw [hno]
    repeat' ((conv => whnf); first | refine walk (Try.ok ..) ?_ | refine side2 ?_ | fail)
    refine called_pure (.v (.bool false)) rfl (fun w' => by rw [← hrf2]; exact rright_any f w' hf) ?_
    repeat' ((conv => whnf); first | refine side2 ?_ | refine sideL2 ?_ | fail)
    refine calledQ_pure (v := .bool true) (.v (.bool true)) rfl (fun hc _ => absurd (show (!!false) = true from hc) (by decide)) ?_
    repeat' ((conv => whnf); first | refine walk (Try.ok ..) ?_ | (refine Cnd.mk (fun h => ?_) (fun h => ?_) <;> (first | exact cndT h (by (try dsimp only); omega) | exact cndF h (by (try dsimp only); omega) | (exfalso; simp at h; omega) | simp at h | skip)) | refine side2 ?_ | fail)
    exact done_pure rfl rfl rfl
  by_cases hrg : rightF g = true
  case neg =>
    have hrg2 : rightF g = false := by simpa using hrg
    have hno : r = (0, 2) := by rw [er]; unfold cmpE bothF; rw [hrg2, Bool.and_false]; rfl
    rw [hno]
    repeat' ((conv => whnf); first | refine walk (Try.ok ..) ?_ | refine side2 ?_ | fail)
    refine called_pure (.v (.bool true)) rfl (fun w' => by rw [← hrf]; exact rright_any f w' hf) ?_
    repeat' ((conv => whnf); first | refine side2 ?_ | refine sideL2 ?_ | fail)
    refine calledQ_pure (.v (.bool false)) rfl (fun _ w' => by rw [← hrg2]; exact rright_any g w' hg) ?_
    repeat' ((conv => whnf); first | refine walk (Try.ok ..) ?_ | (refine Cnd.mk (fun h => ?_) (fun h => ?_) <;> (first | exact cndT h (by (try dsimp only); omega) | exact cndF h (by (try dsimp only); omega) | (exfalso; simp at h; omega) | simp at h | skip)) | refine side2 ?_ | fail)
    exact done_pure rfl rfl rfl
  repeat' ((conv => whnf); first | refine walk (Try.ok ..) ?_ | refine side2 ?_ | fail)
  refine called_pure (.v (.bool true)) rfl (fun w' => by rw [← hrf]; exact rright_any f w' hf) ?_
  repeat' ((conv => whnf); first | refine side2 ?_ | refine sideL2 ?_ | fail)
  refine calledQ_pure (.v (.bool true)) rfl (fun _ w' => by rw [← hrg]; exact rright_any g w' hg) ?_
  have b1 := dg_big6 hf.num
  have b2 := dg_big6 hf.den
  have b3 := dg_big6 hg.num
  have b4 := dg_big6 hg.den
  have m1 := mul_len6 hf.num hg.den
  have m2 := mul_len6 hg.num hf.den
  have er : r = (cmpF f g, 0) := by rw [er]; unfold cmpE bothF; rw [hrf, hrg]; rfl
  unfold cmpF at er
  repeat' ((conv => whnf); first | refine walk (Try.ok ..) ?_ | (refine Cnd.mk (fun h => ?_) (fun h => ?_) <;> (first | exact cndT h (by (try dsimp only); omega) | exact cndF h (by (try dsimp only); omega) | (exfalso; simp at h; omega) | simp at h | skip)) | refine side2 ?_ | fail)
  refine sat_draw (Try.ok ..) [] [(2, .blk g2 62 (frC f)), (3, .blk g3 62 (frC g))] (by kernel_rfl) (fun w hw => hw.sub ?_) ?_
  · ((repeat' (first | exact trivial | exact rfl | refine And.intro ?_ ?_)) <;> (try (conv => whnf)) <;> (try simp only [SV.real, SV.r2, SV.r1]))
  repeat' ((conv => whnf); first | refine side2 ?_ | fail)
  refine called_row 18 (xs := iv (dg b6 f.num)) (m := (dg b6 f.num).length) (fun v => v) (fun A cap => .o 18 A (dg b6 f.num).length cap) (fun _ _ => rfl) (fun w' hh => by exact rdig_num f w' hf) ?_
  intro A18 c18
  repeat' ((conv => whnf); first | refine kp ?_ ?_ | exact trivial | refine side2 ?_ | fail)
  refine called_row 21 (xs := iv (dg b6 g.den)) (m := (dg b6 g.den).length) (fun v => v) (fun A cap => .o 21 A (dg b6 g.den).length cap) (fun _ _ => rfl) (fun w' hh => by exact rdig_den g w' hg) ?_
  intro A21 c21
  repeat' ((conv => whnf); first | refine kp ?_ ?_ | exact trivial | refine side2 ?_ | fail)
  refine called_row 22 (xs := iv (dg b6 (f.num * g.den))) (m := (dg b6 (f.num * g.den)).length) (fun v => v) (fun A cap => .o 22 A (dg b6 (f.num * g.den)).length cap) (fun _ _ => rfl) (fun w' hh => rmul_any f.num g.den A18 A21 c18 c21 w' (ro_of_row hh (id := 18) rfl) (ro_of_row hh (id := 21) rfl) (by omega) (by omega)) ?_
  intro A22 c22
  repeat' ((conv => whnf); first | refine kp ?_ ?_ | exact trivial | refine side2 ?_ | fail)
  refine called_row 25 (xs := iv (dg b6 g.num)) (m := (dg b6 g.num).length) (fun v => v) (fun A cap => .o 25 A (dg b6 g.num).length cap) (fun _ _ => rfl) (fun w' hh => by exact rdig_num g w' hg) ?_
  intro A25 c25
  repeat' ((conv => whnf); first | refine kp ?_ ?_ | exact trivial | refine side2 ?_ | fail)
  refine called_row 28 (xs := iv (dg b6 f.den)) (m := (dg b6 f.den).length) (fun v => v) (fun A cap => .o 28 A (dg b6 f.den).length cap) (fun _ _ => rfl) (fun w' hh => by exact rdig_den f w' hf) ?_
  intro A28 c28
  repeat' ((conv => whnf); first | refine kp ?_ ?_ | exact trivial | refine side2 ?_ | fail)
  refine called_row 29 (xs := iv (dg b6 (g.num * f.den))) (m := (dg b6 (g.num * f.den)).length) (fun v => v) (fun A cap => .o 29 A (dg b6 (g.num * f.den)).length cap) (fun _ _ => rfl) (fun w' hh => rmul_any g.num f.den A25 A28 c25 c28 w' (ro_of_row hh (id := 25) rfl) (ro_of_row hh (id := 28) rfl) (by omega) (by omega)) ?_
  intro A29 c29
  obtain ⟨x, ex⟩ : ∃ x, x = f.num * g.den := ⟨_, rfl⟩
  obtain ⟨y, ey⟩ : ∃ x, x = g.num * f.den := ⟨_, rfl⟩
  rw [← ex] at er m1 ⊢
  rw [← ey] at er m2 ⊢
  repeat' ((conv => whnf); first | refine walk (Try.ok ..) ?_ | refine kp ?_ ?_ | exact trivial | refine side2 ?_ | fail)
  refine sat_ren [(2, .yes, .p 2 g2 0 0), (3, .yes, .p 3 g3 0 0), (6, .yes, .o 22 A22 (dg b6 x).length c22), (7, .yes, .o 29 A29 (dg b6 y).length c29)]
    [(2, 2, .blk g2 62 (frC f)), (3, 3, .blk g3 62 (frC g)), (22, 22, .row A22 3 1 (dg b6 x).length c22 (iv (dg b6 x))), (29, 29, .row A29 3 1 (dg b6 y).length c29 (iv (dg b6 y)))] ?_ rfl rfl rfl ?_ ?_
  · rfl
  · ((repeat' (first | exact trivial | exact rfl | refine And.intro ?_ ?_)) <;> (try (conv => whnf)) <;> (try simp only [SV.real, SV.r2, SV.r1]))
  refine sat_ops (Try.ok ..) ?_
  obtain ⟨fn, fu, fd⟩ := f
  obtain ⟨gn, gu, gd⟩ := g
  dsimp only at er
  clear hf hg hrf hrg lf lg b1 b2 b3 b4 ex ey
  cases fn <;> cases gn
  · rw [if_pos rfl, if_neg (by decide)] at er
    by_cases h1 : x < y
    · have hr : r = (-1, 0) := by rw [er, show cmpN x y = -1 from cmp_lt h1]
      rw [hr]
      repeat' ((conv => whnf); first | refine walk (Try.ok ..) ?_ | (refine Cnd.mk (fun h => ?_) (fun h => ?_) <;> (first | exact cndT h (by (try dsimp only); omega) | exact cndF h (by (try dsimp only); omega) | (exfalso; simp at h; omega) | simp at h | skip)) | refine side2 ?_ | refine xi _ (And.intro rfl rfl) ?_ | refine xi _ (fun _ => And.intro rfl rfl) ?_ | fail)
      refine called_at (.v (.bool true)) rfl (fun w' hh => by have h := rless_any x y A22 A29 c22 c29 w' (ro_of_row hh (id := 22) rfl) (ro_of_row hh (id := 29) rfl) (by omega) (by omega); rw [decide_eq_true h1] at h; exact h) ?_
      repeat' ((conv => whnf); first | refine walk (Try.ok ..) ?_ | (refine Cnd.mk (fun h => ?_) (fun h => ?_) <;> (first | exact cndT h (by (try dsimp only); omega) | exact cndF h (by (try dsimp only); omega) | (exfalso; simp at h; omega) | simp at h | skip)) | fail)
      exact done_pure rfl rfl rfl
    by_cases h2 : y < x
    · have hr : r = (1, 0) := by rw [er, show cmpN x y = 1 from cmp_gt h2]
      rw [hr]
      repeat' ((conv => whnf); first | refine walk (Try.ok ..) ?_ | (refine Cnd.mk (fun h => ?_) (fun h => ?_) <;> (first | exact cndT h (by (try dsimp only); omega) | exact cndF h (by (try dsimp only); omega) | (exfalso; simp at h; omega) | simp at h | skip)) | refine side2 ?_ | refine xi _ (And.intro rfl rfl) ?_ | refine xi _ (fun _ => And.intro rfl rfl) ?_ | fail)
      refine called_at (.v (.bool false)) rfl (fun w' hh => by have h := rless_any x y A22 A29 c22 c29 w' (ro_of_row hh (id := 22) rfl) (ro_of_row hh (id := 29) rfl) (by omega) (by omega); rw [decide_eq_false h1] at h; exact h) ?_
      repeat' ((conv => whnf); first | refine walk (Try.ok ..) ?_ | (refine Cnd.mk (fun h => ?_) (fun h => ?_) <;> (first | exact cndT h (by (try dsimp only); omega) | exact cndF h (by (try dsimp only); omega) | (exfalso; simp at h; omega) | simp at h | skip)) | fail)
      refine called_at (.v (.bool true)) rfl (fun w' hh => by have h := rless_any y x A29 A22 c29 c22 w' (ro_of_row hh (id := 29) rfl) (ro_of_row hh (id := 22) rfl) (by omega) (by omega); rw [decide_eq_true h2] at h; exact h) ?_
      repeat' ((conv => whnf); first | refine walk (Try.ok ..) ?_ | (refine Cnd.mk (fun h => ?_) (fun h => ?_) <;> (first | exact cndT h (by (try dsimp only); omega) | exact cndF h (by (try dsimp only); omega) | (exfalso; simp at h; omega) | simp at h | skip)) | fail)
      exact done_pure rfl rfl rfl
    · have hr : r = (0, 0) := by rw [er, show x = y by omega, cmp_eq]
      rw [hr]
      repeat' ((conv => whnf); first | refine walk (Try.ok ..) ?_ | (refine Cnd.mk (fun h => ?_) (fun h => ?_) <;> (first | exact cndT h (by (try dsimp only); omega) | exact cndF h (by (try dsimp only); omega) | (exfalso; simp at h; omega) | simp at h | skip)) | refine side2 ?_ | refine xi _ (And.intro rfl rfl) ?_ | refine xi _ (fun _ => And.intro rfl rfl) ?_ | fail)
      refine called_at (.v (.bool false)) rfl (fun w' hh => by have h := rless_any x y A22 A29 c22 c29 w' (ro_of_row hh (id := 22) rfl) (ro_of_row hh (id := 29) rfl) (by omega) (by omega); rw [decide_eq_false h1] at h; exact h) ?_
      repeat' ((conv => whnf); first | refine walk (Try.ok ..) ?_ | (refine Cnd.mk (fun h => ?_) (fun h => ?_) <;> (first | exact cndT h (by (try dsimp only); omega) | exact cndF h (by (try dsimp only); omega) | (exfalso; simp at h; omega) | simp at h | skip)) | fail)
      refine called_at (.v (.bool false)) rfl (fun w' hh => by have h := rless_any y x A29 A22 c29 c22 w' (ro_of_row hh (id := 29) rfl) (ro_of_row hh (id := 22) rfl) (by omega) (by omega); rw [decide_eq_false h2] at h; exact h) ?_
      repeat' ((conv => whnf); first | refine walk (Try.ok ..) ?_ | (refine Cnd.mk (fun h => ?_) (fun h => ?_) <;> (first | exact cndT h (by (try dsimp only); omega) | exact cndF h (by (try dsimp only); omega) | (exfalso; simp at h; omega) | simp at h | skip)) | fail)
      exact done_pure rfl rfl rfl
  · rw [if_neg (by decide), if_neg (by decide)] at er
    rw [er]
    repeat' ((conv => whnf); first | refine walk (Try.ok ..) ?_ | (refine Cnd.mk (fun h => ?_) (fun h => ?_) <;> (first | exact cndT h (by (try dsimp only); omega) | exact cndF h (by (try dsimp only); omega) | (exfalso; simp at h; omega) | simp at h | skip)) | refine side2 ?_ | refine xi _ (And.intro rfl rfl) ?_ | refine xi _ (fun _ => And.intro rfl rfl) ?_ | fail)
    exact done_pure rfl rfl rfl
  · rw [if_neg (by decide), if_pos rfl] at er
    rw [er]
    repeat' ((conv => whnf); first | refine walk (Try.ok ..) ?_ | (refine Cnd.mk (fun h => ?_) (fun h => ?_) <;> (first | exact cndT h (by (try dsimp only); omega) | exact cndF h (by (try dsimp only); omega) | (exfalso; simp at h; omega) | simp at h | skip)) | refine side2 ?_ | refine xi _ (And.intro rfl rfl) ?_ | refine xi _ (fun _ => And.intro rfl rfl) ?_ | fail)
    exact done_pure rfl rfl rfl
  · rw [if_pos rfl, if_pos rfl] at er
    by_cases h1 : y < x
    · have hr : r = (-1, 0) := by rw [er, show cmpN y x = -1 from cmp_lt h1]
      rw [hr]
      repeat' ((conv => whnf); first | refine walk (Try.ok ..) ?_ | (refine Cnd.mk (fun h => ?_) (fun h => ?_) <;> (first | exact cndT h (by (try dsimp only); omega) | exact cndF h (by (try dsimp only); omega) | (exfalso; simp at h; omega) | simp at h | skip)) | refine side2 ?_ | refine xi _ (And.intro rfl rfl) ?_ | refine xi _ (fun _ => And.intro rfl rfl) ?_ | fail)
      refine called_at (.v (.bool true)) rfl (fun w' hh => by have h := rless_any y x A29 A22 c29 c22 w' (ro_of_row hh (id := 29) rfl) (ro_of_row hh (id := 22) rfl) (by omega) (by omega); rw [decide_eq_true h1] at h; exact h) ?_
      repeat' ((conv => whnf); first | refine walk (Try.ok ..) ?_ | (refine Cnd.mk (fun h => ?_) (fun h => ?_) <;> (first | exact cndT h (by (try dsimp only); omega) | exact cndF h (by (try dsimp only); omega) | (exfalso; simp at h; omega) | simp at h | skip)) | fail)
      exact done_pure rfl rfl rfl
    by_cases h2 : x < y
    · have hr : r = (1, 0) := by rw [er, show cmpN y x = 1 from cmp_gt h2]
      rw [hr]
      repeat' ((conv => whnf); first | refine walk (Try.ok ..) ?_ | (refine Cnd.mk (fun h => ?_) (fun h => ?_) <;> (first | exact cndT h (by (try dsimp only); omega) | exact cndF h (by (try dsimp only); omega) | (exfalso; simp at h; omega) | simp at h | skip)) | refine side2 ?_ | refine xi _ (And.intro rfl rfl) ?_ | refine xi _ (fun _ => And.intro rfl rfl) ?_ | fail)
      refine called_at (.v (.bool false)) rfl (fun w' hh => by have h := rless_any y x A29 A22 c29 c22 w' (ro_of_row hh (id := 29) rfl) (ro_of_row hh (id := 22) rfl) (by omega) (by omega); rw [decide_eq_false h1] at h; exact h) ?_
      repeat' ((conv => whnf); first | refine walk (Try.ok ..) ?_ | (refine Cnd.mk (fun h => ?_) (fun h => ?_) <;> (first | exact cndT h (by (try dsimp only); omega) | exact cndF h (by (try dsimp only); omega) | (exfalso; simp at h; omega) | simp at h | skip)) | fail)
      refine called_at (.v (.bool true)) rfl (fun w' hh => by have h := rless_any x y A22 A29 c22 c29 w' (ro_of_row hh (id := 22) rfl) (ro_of_row hh (id := 29) rfl) (by omega) (by omega); rw [decide_eq_true h2] at h; exact h) ?_
      repeat' ((conv => whnf); first | refine walk (Try.ok ..) ?_ | (refine Cnd.mk (fun h => ?_) (fun h => ?_) <;> (first | exact cndT h (by (try dsimp only); omega) | exact cndF h (by (try dsimp only); omega) | (exfalso; simp at h; omega) | simp at h | skip)) | fail)
      exact done_pure rfl rfl rfl
    · have hr : r = (0, 0) := by rw [er, show y = x by omega, cmp_eq]
      rw [hr]
      repeat' ((conv => whnf); first | refine walk (Try.ok ..) ?_ | (refine Cnd.mk (fun h => ?_) (fun h => ?_) <;> (first | exact cndT h (by (try dsimp only); omega) | exact cndF h (by (try dsimp only); omega) | (exfalso; simp at h; omega) | simp at h | skip)) | refine side2 ?_ | refine xi _ (And.intro rfl rfl) ?_ | refine xi _ (fun _ => And.intro rfl rfl) ?_ | fail)
      refine called_at (.v (.bool false)) rfl (fun w' hh => by have h := rless_any y x A29 A22 c29 c22 w' (ro_of_row hh (id := 29) rfl) (ro_of_row hh (id := 22) rfl) (by omega) (by omega); rw [decide_eq_false h1] at h; exact h) ?_
      repeat' ((conv => whnf); first | refine walk (Try.ok ..) ?_ | (refine Cnd.mk (fun h => ?_) (fun h => ?_) <;> (first | exact cndT h (by (try dsimp only); omega) | exact cndF h (by (try dsimp only); omega) | (exfalso; simp at h; omega) | simp at h | skip)) | fail)
      refine called_at (.v (.bool false)) rfl (fun w' hh => by have h := rless_any x y A22 A29 c22 c29 w' (ro_of_row hh (id := 22) rfl) (ro_of_row hh (id := 29) rfl) (by omega) (by omega); rw [decide_eq_false h2] at h; exact h) ?_
      repeat' ((conv => whnf); first | refine walk (Try.ok ..) ?_ | (refine Cnd.mk (fun h => ?_) (fun h => ?_) <;> (first | exact cndT h (by (try dsimp only); omega) | exact cndF h (by (try dsimp only); omega) | (exfalso; simp at h; omega) | simp at h | skip)) | fail)
      exact done_pure rfl rfl rfl
end Go.Proofs.Ytomhfakkebaciaa
