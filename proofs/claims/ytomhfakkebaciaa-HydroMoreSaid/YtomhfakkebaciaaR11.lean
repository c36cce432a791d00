/-
  The walks of the reference: sums of two fractions.
-/
import Derived.Test.YtomhfakkebaciaaRD
import Derived.Test.YtomhfakkebaciaaNS
namespace Go.Proofs.Ytomhfakkebaciaa
open Go Sat Go.RowKit Go.PlainAid
set_option linter.unusedSimpArgs false
set_option linter.unusedVariables false
theorem mul_len6 {x y : Nat} (hx : x < big) (hy : y < big) : (dg b6 (x * y)).length ≤ 32 := by
  rw [dg_len b6_2, show (32 : Nat) = 16 + 16 from rfl, Nat.pow_add, ← big_b6]
  exact Nat.mul_lt_mul'' hx hy
theorem add_len6 {x y k : Nat} (hx : (dg b6 x).length ≤ k) (hy : (dg b6 y).length ≤ k) : (dg b6 (x + y)).length ≤ k + 1 := by
  rw [dg_len b6_2, Nat.pow_succ]
  have h1 := (dg_len b6_2 k x).1 hx
  have h2 := (dg_len b6_2 k y).1 hy
  have h3 : b6 ^ k * 2 ≤ b6 ^ k * b6 := Nat.mul_le_mul_left _ b6_2
  omega
set_option maxRecDepth 100000 in
set_option maxHeartbeats 8000000 in
theorem rAdd_any (f g : Fr) (w : World) (hf : Big f) (hg : Big g) :
    Calls Try.prog 82 #[frV f, frV g] w fun e w' => e = .returned (.tuple #[frV (addE f g).1, .int .i64 (addE f g).2]) ∧ Below w.heap.size w w' := by
  have lf := frC_len f
  have lg := frC_len g
  obtain ⟨r, er⟩ : ∃ r, r = addE f g := ⟨_, rfl⟩
  rw [← er]
  have lr := frC_len r.1
  refine calls_sat (cx := Try.cx 78 [3, 5, 6, 8, 9] [] [] w) (Try.ok ..) Try.func82 rfl [.a (frC f), .a (frC g)] rfl (by show 2 ≤ 78; omega) [] (holds_nil (Nat.le_refl _)) ?_
  repeat' ((conv => whnf); first | refine walk (Try.ok ..) ?_ | fail)
  (conv => whnf)
  intro g2 hg2
  skip
  (conv => whnf)
  intro g3 hg3
  skip
  (conv => whnf)
  intro g4 hg4
  by_cases hrf : rightF f = true
  case neg =>
    have hrf2 : rightF f = false := by simpa using hrf
    have hno : r = (zeroF, 2) := by rw [er]; unfold addE bothF; rw [hrf2]; rfl
    rw [hno]
    repeat' ((conv => whnf); first | refine walk (Try.ok ..) ?_ | refine side2 ?_ | fail)
    refine called_pure (.v (.bool false)) rfl (fun w' => by rw [← hrf2]; exact rright_any f w' hf) ?_
    repeat' ((conv => whnf); first | refine side2 ?_ | refine sideL2 ?_ | fail)
    refine calledQ_pure (v := .bool true) (.v (.bool true)) rfl (fun hc _ => absurd (show (!!false) = true from hc) (by decide)) ?_
    repeat' ((conv => whnf); first | refine walk (Try.ok ..) ?_ | (refine Cnd.mk (fun h => ?_) (fun h => ?_) <;> (first | exact cndT h (by (try dsimp only); omega) | exact cndF h (by (try dsimp only); omega) | (exfalso; simp at h; omega) | simp at h | skip)) | refine side2 ?_ | fail)
    exact done_pure rfl rfl rfl
  by_cases hrg : rightF g = true
  case neg =>
    have hrg2 : rightF g = false := by simpa using hrg
    have hno : r = (zeroF, 2) := by rw [er]; unfold addE bothF; rw [hrg2, Bool.and_false]; rfl
    rw [hno]
    repeat' ((conv => whnf); first | refine walk (Try.ok ..) ?_ | refine side2 ?_ | fail)
    refine called_pure (.v (.bool true)) rfl (fun w' => by rw [← hrf]; exact rright_any f w' hf) ?_
    repeat' ((conv => whnf); first | refine side2 ?_ | refine sideL2 ?_ | fail)
    refine calledQ_pure (.v (.bool false)) rfl (fun _ w' => by rw [← hrg2]; exact rright_any g w' hg) ?_
    repeat' ((conv => whnf); first | refine walk (Try.ok ..) ?_ | (refine Cnd.mk (fun h => ?_) (fun h => ?_) <;> (first | exact cndT h (by (try dsimp only); omega) | exact cndF h (by (try dsimp only); omega) | (exfalso; simp at h; omega) | simp at h | skip)) | refine side2 ?_ | fail)
    exact done_pure rfl rfl rfl
  repeat' ((conv => whnf); first | refine walk (Try.ok ..) ?_ | refine side2 ?_ | fail)
  refine called_pure (.v (.bool true)) rfl (fun w' => by rw [← hrf]; exact rright_any f w' hf) ?_
  repeat' ((conv => whnf); first | refine side2 ?_ | refine sideL2 ?_ | fail)
  refine calledQ_pure (.v (.bool true)) rfl (fun _ w' => by rw [← hrg]; exact rright_any g w' hg) ?_
  have d1 := right_den hrf
  have d2 := right_den hrg
  have hdp := Nat.mul_pos d1 d2
  have b1 := dg_big6 hf.num
  have b2 := dg_big6 hf.den
  have b3 := dg_big6 hg.num
  have b4 := dg_big6 hg.den
  have m1 := mul_len6 hf.num hg.den
  have m2 := mul_len6 hg.num hf.den
  have m3 := mul_len6 hf.den hg.den
  have ms := add_len6 m1 m2
  have er : r = addF f g := by rw [er]; unfold addE bothF; rw [hrf, hrg]; rfl
  unfold addF at er
  repeat' ((conv => whnf); first | refine walk (Try.ok ..) ?_ | (refine Cnd.mk (fun h => ?_) (fun h => ?_) <;> (first | exact cndT h (by (try dsimp only); omega) | exact cndF h (by (try dsimp only); omega) | (exfalso; simp at h; omega) | simp at h | skip)) | refine side2 ?_ | fail)
  refine sat_draw (Try.ok ..) [] [(2, .blk g2 62 (frC f)), (3, .blk g3 62 (frC g))] (by kernel_rfl) (fun w hw => hw.sub ?_) ?_
  · ((repeat' (first | exact trivial | exact rfl | refine And.intro ?_ ?_)) <;> (try (conv => whnf)) <;> (try simp only [SV.real, SV.r2, SV.r1]))
  repeat' ((conv => whnf); first | refine side2 ?_ | fail)
  refine called_row 24 (xs := iv (dg b6 f.num)) (m := (dg b6 f.num).length) (fun v => v) (fun A cap => .o 24 A (dg b6 f.num).length cap) (fun _ _ => rfl) (fun w' hh => by exact rdig_num f w' hf) ?_
  intro A24 c24
  repeat' ((conv => whnf); first | refine kp ?_ ?_ | exact trivial | refine side2 ?_ | fail)
  refine called_row 27 (xs := iv (dg b6 f.den)) (m := (dg b6 f.den).length) (fun v => v) (fun A cap => .o 27 A (dg b6 f.den).length cap) (fun _ _ => rfl) (fun w' hh => by exact rdig_den f w' hf) ?_
  intro A27 c27
  repeat' ((conv => whnf); first | refine kp ?_ ?_ | exact trivial | refine side2 ?_ | fail)
  refine called_row 30 (xs := iv (dg b6 g.num)) (m := (dg b6 g.num).length) (fun v => v) (fun A cap => .o 30 A (dg b6 g.num).length cap) (fun _ _ => rfl) (fun w' hh => by exact rdig_num g w' hg) ?_
  intro A30 c30
  repeat' ((conv => whnf); first | refine kp ?_ ?_ | exact trivial | refine side2 ?_ | fail)
  refine called_row 33 (xs := iv (dg b6 g.den)) (m := (dg b6 g.den).length) (fun v => v) (fun A cap => .o 33 A (dg b6 g.den).length cap) (fun _ _ => rfl) (fun w' hh => by exact rdig_den g w' hg) ?_
  intro A33 c33
  repeat' ((conv => whnf); first | refine walk (Try.ok ..) ?_ | refine kp ?_ ?_ | exact trivial | refine side2 ?_ | fail)
  refine called_row 36 (xs := iv (dg b6 (f.num * g.den))) (m := (dg b6 (f.num * g.den)).length) (fun v => v) (fun A cap => .o 36 A (dg b6 (f.num * g.den)).length cap) (fun _ _ => rfl) (fun w' hh => rmul_any f.num g.den A24 A33 c24 c33 w' (ro_of_row hh (id := 24) rfl) (ro_of_row hh (id := 33) rfl) (by omega) (by omega)) ?_
  intro A36 c36
  skip
  refine called_row 39 (xs := iv (dg b6 (g.num * f.den))) (m := (dg b6 (g.num * f.den)).length) (fun v => v) (fun A cap => .o 39 A (dg b6 (g.num * f.den)).length cap) (fun _ _ => rfl) (fun w' hh => rmul_any g.num f.den A30 A27 c30 c27 w' (ro_of_row hh (id := 30) rfl) (ro_of_row hh (id := 27) rfl) (by omega) (by omega)) ?_
  intro A39 c39
  skip
  refine called_row 42 (xs := iv (dg b6 (f.den * g.den))) (m := (dg b6 (f.den * g.den)).length) (fun v => v) (fun A cap => .o 42 A (dg b6 (f.den * g.den)).length cap) (fun _ _ => rfl) (fun w' hh => rmul_any f.den g.den A27 A33 c27 c33 w' (ro_of_row hh (id := 27) rfl) (ro_of_row hh (id := 33) rfl) (by omega) (by omega)) ?_
  intro A42 c42
  obtain ⟨x, ex⟩ : ∃ x, x = f.num * g.den := ⟨_, rfl⟩
  obtain ⟨y, ey⟩ : ∃ x, x = g.num * f.den := ⟨_, rfl⟩
  obtain ⟨z, ez⟩ : ∃ x, x = f.den * g.den := ⟨_, rfl⟩
  rw [← ex] at er m1 ms ⊢
  rw [← ey] at er m2 ms ⊢
  rw [← ez] at er m3 hdp ⊢
  repeat' ((conv => whnf); first | refine walk (Try.ok ..) ?_ | fail)
  refine sat_ren [(2, .yes, .p 2 g2 0 0), (3, .yes, .p 3 g3 0 0), (4, .yes, .p 4 g4 0 0), (10, .yes, .o 36 A36 (dg b6 x).length c36), (11, .yes, .o 39 A39 (dg b6 y).length c39), (12, .yes, .o 42 A42 (dg b6 z).length c42)]
    [(2, 2, .blk g2 62 (frC f)), (3, 3, .blk g3 62 (frC g)), (4, 4, .blk g4 62 (frC zeroF)), (36, 36, .row A36 3 1 (dg b6 x).length c36 (iv (dg b6 x))), (39, 39, .row A39 3 1 (dg b6 y).length c39 (iv (dg b6 y))), (42, 42, .row A42 3 1 (dg b6 z).length c42 (iv (dg b6 z)))] ?_ rfl rfl rfl ?_ ?_
  · rfl
  · ((repeat' (first | exact trivial | exact rfl | refine And.intro ?_ ?_)) <;> (try (conv => whnf)) <;> (try simp only [SV.real, SV.r2, SV.r1]))
  refine sat_ops (Try.ok ..) ?_
  by_cases hng : f.neg = g.neg
  · rw [if_pos hng] at er
    have hb : (f.neg == g.neg) = true := beq_iff_eq.2 hng
    repeat' ((conv => whnf); first | refine walk (Try.ok ..) ?_ | (refine Cnd.mk (fun h => ?_) (fun h => ?_) <;> (first | exact cndT h (by (try dsimp only); omega) | exact cndF h (by (try dsimp only); omega) | (exfalso; simp at h; omega) | simp at h | skip)) | refine side2 ?_ | refine xi _ (And.intro rfl rfl) ?_ | fail)
    refine sat_draw (Try.ok ..) [] [(2, .blk g2 62 (frC f)), (3, .blk g3 62 (frC g))] (by kernel_rfl) (fun w hw => hw.sub ?_) ?_
    · ((repeat' (first | exact trivial | exact rfl | refine And.intro ?_ ?_)) <;> (try (conv => whnf)) <;> (try simp only [SV.real, SV.r2, SV.r1]))
    repeat' ((conv => whnf); first | refine side2 ?_ | refine xi _ (And.intro rfl rfl) ?_ | fail)
    refine called_row 52 (xs := iv (dg b6 (x + y))) (m := (dg b6 (x + y)).length) (fun v => v) (fun A cap => .o 52 A (dg b6 (x + y)).length cap) (fun _ _ => rfl) (fun w' hh => radd_any x y A36 A39 c36 c39 w' (ro_of_row hh (id := 36) rfl) (ro_of_row hh (id := 39) rfl) (by omega) (by omega)) ?_
    intro A1 c1
    repeat' ((conv => whnf); first | refine kp ?_ ?_ | exact trivial | refine side2 ?_ | fail)
    refine called_at (.t [.a (frC r.1), .v (.int .i64 r.2)]) rfl (fun w' hh => by
      rw [er]
      exact rmake_any f.neg (x + y) z A1 A42 c1 c42 w' (ro_of_row hh (id := 52) rfl) (ro_of_row hh (id := 42) rfl) (by omega) (by omega) (row_cap6 hh (id := 52) rfl) (row_cap6 hh (id := 42) rfl) hdp) ?_
    repeat' ((conv => whnf); first | refine walk (Try.ok ..) ?_ | refine kp ?_ ?_ | exact trivial | refine side2 ?_ | fail)
    exact done_pure rfl rfl (congrArg (fun l => (SV.t [.a l, .v (.int .i64 r.2)]).real) (tk2 r.1))
  have hb : (f.neg == g.neg) = false := beq_eq_false_iff_ne.2 hng
  rw [if_neg hng] at er
  by_cases hxy : x < y
  · rw [if_pos hxy] at er
    have ls : (dg b6 (y - x)).length ≤ 32 := Nat.le_trans (len_le b6_2 (Nat.sub_le y x)) m2
    repeat' ((conv => whnf); first | refine walk (Try.ok ..) ?_ | (refine Cnd.mk (fun h => ?_) (fun h => ?_) <;> (first | exact cndT h (by (try dsimp only); omega) | exact cndF h (by (try dsimp only); omega) | (exfalso; simp at h; omega) | simp at h | skip)) | refine side2 ?_ | refine xi _ (And.intro rfl rfl) ?_ | fail)
    refine called_at (.v (.bool true)) rfl (fun w' hh => by have h := rless_any x y A36 A39 c36 c39 w' (ro_of_row hh (id := 36) rfl) (ro_of_row hh (id := 39) rfl) (by omega) (by omega); rw [decide_eq_true hxy] at h; exact h) ?_
    repeat' ((conv => whnf); first | refine walk (Try.ok ..) ?_ | (refine Cnd.mk (fun h => ?_) (fun h => ?_) <;> (first | exact cndT h (by (try dsimp only); omega) | exact cndF h (by (try dsimp only); omega) | (exfalso; simp at h; omega) | simp at h | skip)) | fail)
    refine sat_draw (Try.ok ..) [] [(2, .blk g2 62 (frC f)), (3, .blk g3 62 (frC g))] (by kernel_rfl) (fun w hw => hw.sub ?_) ?_
    · ((repeat' (first | exact trivial | exact rfl | refine And.intro ?_ ?_)) <;> (try (conv => whnf)) <;> (try simp only [SV.real, SV.r2, SV.r1]))
    repeat' ((conv => whnf); first | refine side2 ?_ | refine xi _ (And.intro rfl rfl) ?_ | fail)
    refine called_row 64 (xs := iv (dg b6 (y - x))) (m := (dg b6 (y - x)).length) (fun v => v) (fun A cap => .o 64 A (dg b6 (y - x)).length cap) (fun _ _ => rfl) (fun w' hh => rsub_any y x A39 A36 c39 c36 w' (by omega) (ro_of_row hh (id := 39) rfl) (ro_of_row hh (id := 36) rfl) (by omega)) ?_
    intro A1 c1
    repeat' ((conv => whnf); first | refine kp ?_ ?_ | exact trivial | refine side2 ?_ | fail)
    refine called_at (.t [.a (frC r.1), .v (.int .i64 r.2)]) rfl (fun w' hh => by
      rw [er]
      exact rmake_any g.neg (y - x) z A1 A42 c1 c42 w' (ro_of_row hh (id := 64) rfl) (ro_of_row hh (id := 42) rfl) (by omega) (by omega) (row_cap6 hh (id := 64) rfl) (row_cap6 hh (id := 42) rfl) hdp) ?_
    repeat' ((conv => whnf); first | refine walk (Try.ok ..) ?_ | refine kp ?_ ?_ | exact trivial | refine side2 ?_ | fail)
    exact done_pure rfl rfl (congrArg (fun l => (SV.t [.a l, .v (.int .i64 r.2)]).real) (tk2 r.1))
  · rw [if_neg hxy] at er
    have ls : (dg b6 (x - y)).length ≤ 32 := Nat.le_trans (len_le b6_2 (Nat.sub_le x y)) m1
    repeat' ((conv => whnf); first | refine walk (Try.ok ..) ?_ | (refine Cnd.mk (fun h => ?_) (fun h => ?_) <;> (first | exact cndT h (by (try dsimp only); omega) | exact cndF h (by (try dsimp only); omega) | (exfalso; simp at h; omega) | simp at h | skip)) | refine side2 ?_ | refine xi _ (And.intro rfl rfl) ?_ | fail)
    refine called_at (.v (.bool false)) rfl (fun w' hh => by have h := rless_any x y A36 A39 c36 c39 w' (ro_of_row hh (id := 36) rfl) (ro_of_row hh (id := 39) rfl) (by omega) (by omega); rw [decide_eq_false hxy] at h; exact h) ?_
    repeat' ((conv => whnf); first | refine walk (Try.ok ..) ?_ | (refine Cnd.mk (fun h => ?_) (fun h => ?_) <;> (first | exact cndT h (by (try dsimp only); omega) | exact cndF h (by (try dsimp only); omega) | (exfalso; simp at h; omega) | simp at h | skip)) | fail)
    refine sat_draw (Try.ok ..) [] [(2, .blk g2 62 (frC f)), (3, .blk g3 62 (frC g))] (by kernel_rfl) (fun w hw => hw.sub ?_) ?_
    · ((repeat' (first | exact trivial | exact rfl | refine And.intro ?_ ?_)) <;> (try (conv => whnf)) <;> (try simp only [SV.real, SV.r2, SV.r1]))
    repeat' ((conv => whnf); first | refine side2 ?_ | refine xi _ (And.intro rfl rfl) ?_ | fail)
    refine called_row 73 (xs := iv (dg b6 (x - y))) (m := (dg b6 (x - y)).length) (fun v => v) (fun A cap => .o 73 A (dg b6 (x - y)).length cap) (fun _ _ => rfl) (fun w' hh => rsub_any x y A36 A39 c36 c39 w' (by omega) (ro_of_row hh (id := 36) rfl) (ro_of_row hh (id := 39) rfl) (by omega)) ?_
    intro A1 c1
    repeat' ((conv => whnf); first | refine kp ?_ ?_ | exact trivial | refine side2 ?_ | fail)
    refine called_at (.t [.a (frC r.1), .v (.int .i64 r.2)]) rfl (fun w' hh => by
      rw [er]
      exact rmake_any f.neg (x - y) z A1 A42 c1 c42 w' (ro_of_row hh (id := 73) rfl) (ro_of_row hh (id := 42) rfl) (by omega) (by omega) (row_cap6 hh (id := 73) rfl) (row_cap6 hh (id := 42) rfl) hdp) ?_
    repeat' ((conv => whnf); first | refine walk (Try.ok ..) ?_ | refine kp ?_ ?_ | exact trivial | refine side2 ?_ | fail)
    exact done_pure rfl rfl (congrArg (fun l => (SV.t [.a l, .v (.int .i64 r.2)]).real) (tk2 r.1))
end Go.Proofs.Ytomhfakkebaciaa
