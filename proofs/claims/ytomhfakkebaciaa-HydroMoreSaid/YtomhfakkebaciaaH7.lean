/-
  The walks of the reference for hydrostatic tables: a line, step by step.
-/
import Derived.Test.YtomhfakkebaciaaH6
import Derived.Test.YtomhfakkebaciaaR12
import Derived.Test.YtomhfakkebaciaaR13
set_option linter.unusedSimpArgs false
set_option linter.unusedVariables false
namespace Go.Proofs.Ytomhfakkebaciaa
open Go Sat Go.RowKit Go.PlainAid
theorem rof2 (n : Int) (w : World) (hn : I64 n) : Calls Try.prog 57 #[.int .i64 n] w fun e w' => e = .returned (frV (ofF n)) ∧ Below w.heap.size w w' := by
  rw [← ratioE_one]
  exact rof_any n w hn
theorem fit_big (neg : Bool) (n d : Nat) : Big (fitF neg n d).1 := ⟨(fitF_small _ _ _).1, (fitF_small _ _ _).2⟩
theorem zero_bg : Big zeroF := ⟨by decide, by decide⟩
theorem addF_bg (X f : Fr) : Big (addF X f).1 := by
  unfold addF
  split
  · exact fit_big _ _ _
  · split <;> exact fit_big _ _ _
theorem addE_big (f g : Fr) : Big (addE f g).1 := by
  unfold addE
  split
  · exact addF_bg f g
  · exact zero_bg
theorem subE_big (f g : Fr) : Big (subE f g).1 := by
  unfold subE
  split
  · exact addF_bg f (turnF g)
  · exact zero_bg
theorem mulE_big (f g : Fr) : Big (mulE f g).1 := by
  unfold mulE
  split
  · exact fit_big _ _ _
  · exact zero_bg
theorem divE_big (f g : Fr) : Big (divE f g).1 := by
  unfold divE
  split
  · exact fit_big _ _ _
  · exact zero_bg
theorem ofF_big (n : Int) : Big (ofF n) := ⟨(fitF_small _ _ _).1, (fitF_small _ _ _).2⟩
set_option maxRecDepth 100000 in
set_option maxHeartbeats 8000000 in
theorem rline_any (a b p q : Int) (x : Fr) (w : World) (hx : Big x) (ha : I64 a) (hb : I64 b) (hp : I64 p) (hq : I64 q) (hba : I64 (b - a)) (hqp : I64 (q - p)) :
    Calls Try.prog 58 #[.int .i64 a, .int .i64 b, frV x, .int .i64 p, .int .i64 q] w fun e w' => e = .returned (.tuple #[frV (lineE a b x p q).1, .int .i64 (lineE a b x p q).2]) ∧ Below w.heap.size w w' := by
  obtain ⟨_, _⟩ := ha
  obtain ⟨_, _⟩ := hb
  obtain ⟨_, _⟩ := hp
  obtain ⟨_, _⟩ := hq
  obtain ⟨_, _⟩ := hba
  obtain ⟨_, _⟩ := hqp
  unfold lineE
  have lx := frC_len x
  have hS := fun w => rSub_any x (ofF p) w hx (ofF_big p)
  have bS : Big (subE x (ofF p)).1 := subE_big _ _
  obtain ⟨s, es⟩ : ∃ r, r = subE x (ofF p) := ⟨_, rfl⟩
  rw [← es] at hS bS ⊢
  have hM := fun w => rMul_any s.1 (ofF (b - a)) w bS (ofF_big _)
  have bM : Big (mulE s.1 (ofF (b - a))).1 := mulE_big _ _
  obtain ⟨m, em⟩ : ∃ r, r = mulE s.1 (ofF (b - a)) := ⟨_, rfl⟩
  have hD := fun w => rDiv_any m.1 (ofF (q - p)) w (em ▸ bM) (ofF_big _)
  rw [← em] at hM bM
  have bD : Big (divE m.1 (ofF (q - p))).1 := divE_big _ _
  obtain ⟨d, ed⟩ : ∃ r, r = divE m.1 (ofF (q - p)) := ⟨_, rfl⟩
  rw [← ed] at hD bD
  have hR := fun w => rAdd_any d.1 (ofF a) w bD (ofF_big _)
  obtain ⟨r, er⟩ : ∃ r, r = addE d.1 (ofF a) := ⟨_, rfl⟩
  rw [← er] at hR
  have ls := frC_len s.1
  have lm := frC_len m.1
  have ld := frC_len d.1
  have lr := frC_len r.1
  have lp := frC_len (ofF p)
  simp only [← em, ← ed, ← er]
  clear es em ed er bS bM bD
  refine calls_sat (cx := Try.cx 57 [1, 3, 5, 7] [] [] w) (Try.ok ..) Try.func58 rfl [.v (.int .i64 a), .v (.int .i64 b), .a (frC x), .v (.int .i64 p), .v (.int .i64 q)] rfl (by show 5 ≤ 57; omega) [] (holds_nil (Nat.le_refl _)) ?_
  repeat' ((conv => whnf); first | refine walk (Try.ok ..) ?_ | (refine Cnd.mk (fun h => ?_) (fun h => ?_) <;> (first | exact cndT h (by (try dsimp only); omega) | exact cndF h (by (try dsimp only); omega) | (exfalso; simp at h; omega) | simp at h | skip)) | refine kp ?_ ?_ | refine tw ?_ ?_ | exact trivial | refine side2 ?_ | refine sideL2 ?_ | refine Or.inr ?_ | refine sat_drawH (Try.ok ..) (by kernel_rfl) ?_ | refine xi _ (And.intro rfl rfl) ?_ | refine xi _ (fun _ => And.intro rfl rfl) ?_ | refine xi _ rfl ?_)
  (conv => whnf)
  intro g7 hg7
  repeat' ((conv => whnf); first | refine walk (Try.ok ..) ?_ | (refine Cnd.mk (fun h => ?_) (fun h => ?_) <;> (first | exact cndT h (by (try dsimp only); omega) | exact cndF h (by (try dsimp only); omega) | (exfalso; simp at h; omega) | simp at h | skip)) | refine kp ?_ ?_ | refine tw ?_ ?_ | exact trivial | refine side2 ?_ | refine sideL2 ?_ | refine Or.inr ?_ | refine sat_drawH (Try.ok ..) (by kernel_rfl) ?_ | refine xi _ (And.intro rfl rfl) ?_ | refine xi _ (fun _ => And.intro rfl rfl) ?_ | refine xi _ rfl ?_)
  (conv => whnf)
  intro g10 hg10
  repeat' ((conv => whnf); first | refine walk (Try.ok ..) ?_ | (refine Cnd.mk (fun h => ?_) (fun h => ?_) <;> (first | exact cndT h (by (try dsimp only); omega) | exact cndF h (by (try dsimp only); omega) | (exfalso; simp at h; omega) | simp at h | skip)) | refine kp ?_ ?_ | refine tw ?_ ?_ | exact trivial | refine side2 ?_ | refine sideL2 ?_ | refine Or.inr ?_ | refine xi _ (And.intro rfl rfl) ?_ | refine xi _ (fun _ => And.intro rfl rfl) ?_ | refine xi _ rfl ?_)
  (conv => whnf)
  refine sat_join0 (fun (g : Nat) => ([(0, .yes, .v (.int .i64 a)), (1, .yes, .v (.int .i64 b)), (3, .yes, .v (.int .i64 p)), (4, .yes, .v (.int .i64 q)), (7, .yes, .p 7 g7 0 0), (10, .yes, .p 10 g10 0 0), (11, .yes, .v (.int .i64 0)), (12, .yes, .p 12 g 0 0), (13, .yes, .v (.int .i64 s.2))], [(7, .blk g7 62 (frC x)), (10, .blk g10 62 (frC zeroF)), (12, .blk g 62 (frC s.1))])) (fun _ => True) (fun _ => rfl) ?_ ?_
  · refine sat_drawH (Try.ok ..) (by kernel_rfl) ?_
    repeat' ((conv => whnf); first | refine walk (Try.ok ..) ?_ | (refine Cnd.mk (fun h => ?_) (fun h => ?_) <;> (first | exact cndT h (by (try dsimp only); omega) | exact cndF h (by (try dsimp only); omega) | (exfalso; simp at h; omega) | simp at h | skip)) | refine kp ?_ ?_ | refine tw ?_ ?_ | exact trivial | refine side2 ?_ | refine sideL2 ?_ | refine Or.inr ?_ | refine sat_drawH (Try.ok ..) (by kernel_rfl) ?_ | refine xi _ (And.intro rfl rfl) ?_ | refine xi _ (fun _ => And.intro rfl rfl) ?_ | refine xi _ rfl ?_ | intro g hg | (refine called_pure (.t [.a (frC s.1), .v (.int .i64 s.2)]) rfl (fun w' => by exact hS w') ?_) | (refine called_pure (.a (frC (ofF p))) rfl (fun w' => rof2 _ w' (by refine ⟨?_, ?_⟩ <;> omega)) ?_) | (exact ⟨g, trivial, by ((repeat' (first | exact trivial | exact rfl | refine And.intro ?_ ?_)) <;> (try (conv => whnf)) <;> (try simp only [SV.real, SV.r2, SV.r1])), by ((repeat' (first | exact trivial | exact rfl | refine And.intro ?_ ?_)) <;> (try (conv => whnf)) <;> (try simp only [SV.real, SV.r2, SV.r1])), rfl⟩))
  rintro g12 -
  by_cases h1 : s.2 = 0
  case neg =>
    rw [if_neg h1]
    repeat' ((conv => whnf); first | refine walk (Try.ok ..) ?_ | (refine Cnd.mk (fun h => ?_) (fun h => ?_) <;> (first | exact cndT h (by (try dsimp only); omega) | exact cndF h (by (try dsimp only); omega) | (exfalso; simp at h; omega) | simp at h | skip)) | refine kp ?_ ?_ | refine tw ?_ ?_ | exact trivial | refine side2 ?_ | refine sideL2 ?_ | refine Or.inr ?_ | refine sat_drawH (Try.ok ..) (by kernel_rfl) ?_ | refine xi _ (And.intro rfl rfl) ?_ | refine xi _ (fun _ => And.intro rfl rfl) ?_ | refine xi _ rfl ?_)
    exact done_pure rfl rfl (congrArg (fun l => (SV.t [.a l, .v (.int .i64 s.2)]).real) (show _ = frC zeroF from rfl))
  rw [if_pos h1]
  repeat' ((conv => whnf); first | refine walk (Try.ok ..) ?_ | (refine Cnd.mk (fun h => ?_) (fun h => ?_) <;> (first | exact cndT h (by (try dsimp only); omega) | exact cndF h (by (try dsimp only); omega) | (exfalso; simp at h; omega) | simp at h | skip)) | refine kp ?_ ?_ | refine tw ?_ ?_ | exact trivial | refine side2 ?_ | refine sideL2 ?_ | refine Or.inr ?_ | refine xi _ (And.intro rfl rfl) ?_ | refine xi _ (fun _ => And.intro rfl rfl) ?_ | refine xi _ rfl ?_)
  refine sat_join0 (fun (g : Nat) => ([(0, .yes, .v (.int .i64 a)), (1, .yes, .v (.int .i64 b)), (3, .yes, .v (.int .i64 p)), (4, .yes, .v (.int .i64 q)), (7, .yes, .p 7 g7 0 0), (10, .yes, .p 10 g10 0 0), (11, .yes, .v (.int .i64 0)), (12, .yes, .p 12 g12 0 0), (13, .yes, .v (.int .i64 m.2))], [(7, .blk g7 62 (frC x)), (10, .blk g10 62 (frC zeroF)), (12, .blk g12 62 (frC m.1))])) (fun _ => True) (fun _ => rfl) ?_ ?_
  · refine sat_draw (Try.ok ..) [0] [(7, .blk g7 62 (frC x)), (10, .blk g10 62 (frC zeroF))] (by kernel_rfl) (fun w hw => hw.sub ?_) ?_
    · ((repeat' (first | exact trivial | exact rfl | refine And.intro ?_ ?_)) <;> (try (conv => whnf)) <;> (try simp only [SV.real, SV.r2, SV.r1]))
    repeat' ((conv => whnf); first | refine walk (Try.ok ..) ?_ | (refine Cnd.mk (fun h => ?_) (fun h => ?_) <;> (first | exact cndT h (by (try dsimp only); omega) | exact cndF h (by (try dsimp only); omega) | (exfalso; simp at h; omega) | simp at h | skip)) | refine kp ?_ ?_ | refine tw ?_ ?_ | exact trivial | refine side2 ?_ | refine sideL2 ?_ | refine Or.inr ?_ | refine sat_drawH (Try.ok ..) (by kernel_rfl) ?_ | refine xi _ (And.intro rfl rfl) ?_ | refine xi _ (fun _ => And.intro rfl rfl) ?_ | refine xi _ rfl ?_ | intro g hg | (refine called_pure (.t [.a (frC m.1), .v (.int .i64 m.2)]) rfl (fun w' => by exact hM w') ?_) | (refine called_pure (.a (frC (ofF (b - a)))) rfl (fun w' => rof2 _ w' (by refine ⟨?_, ?_⟩ <;> omega)) ?_) | (exact ⟨0, trivial, by ((repeat' (first | exact trivial | exact rfl | refine And.intro ?_ ?_)) <;> (try (conv => whnf)) <;> (try simp only [SV.real, SV.r2, SV.r1])), by ((repeat' (first | exact trivial | exact rfl | refine And.intro ?_ ?_)) <;> (try (conv => whnf)) <;> (try simp only [SV.real, SV.r2, SV.r1])), rfl⟩))
  rintro _ -
  by_cases h2 : m.2 = 0
  case neg =>
    rw [if_neg h2]
    repeat' ((conv => whnf); first | refine walk (Try.ok ..) ?_ | (refine Cnd.mk (fun h => ?_) (fun h => ?_) <;> (first | exact cndT h (by (try dsimp only); omega) | exact cndF h (by (try dsimp only); omega) | (exfalso; simp at h; omega) | simp at h | skip)) | refine kp ?_ ?_ | refine tw ?_ ?_ | exact trivial | refine side2 ?_ | refine sideL2 ?_ | refine Or.inr ?_ | refine sat_drawH (Try.ok ..) (by kernel_rfl) ?_ | refine xi _ (And.intro rfl rfl) ?_ | refine xi _ (fun _ => And.intro rfl rfl) ?_ | refine xi _ rfl ?_)
    exact done_pure rfl rfl (congrArg (fun l => (SV.t [.a l, .v (.int .i64 m.2)]).real) (show _ = frC zeroF from rfl))
  rw [if_pos h2]
  repeat' ((conv => whnf); first | refine walk (Try.ok ..) ?_ | (refine Cnd.mk (fun h => ?_) (fun h => ?_) <;> (first | exact cndT h (by (try dsimp only); omega) | exact cndF h (by (try dsimp only); omega) | (exfalso; simp at h; omega) | simp at h | skip)) | refine kp ?_ ?_ | refine tw ?_ ?_ | exact trivial | refine side2 ?_ | refine sideL2 ?_ | refine Or.inr ?_ | refine xi _ (And.intro rfl rfl) ?_ | refine xi _ (fun _ => And.intro rfl rfl) ?_ | refine xi _ rfl ?_)
  refine sat_join0 (fun (g : Nat) => ([(0, .yes, .v (.int .i64 a)), (1, .yes, .v (.int .i64 b)), (3, .yes, .v (.int .i64 p)), (4, .yes, .v (.int .i64 q)), (7, .yes, .p 7 g7 0 0), (10, .yes, .p 10 g10 0 0), (11, .yes, .v (.int .i64 0)), (12, .yes, .p 12 g12 0 0), (13, .yes, .v (.int .i64 d.2))], [(7, .blk g7 62 (frC x)), (10, .blk g10 62 (frC zeroF)), (12, .blk g12 62 (frC d.1))])) (fun _ => True) (fun _ => rfl) ?_ ?_
  · refine sat_draw (Try.ok ..) [0] [(7, .blk g7 62 (frC x)), (10, .blk g10 62 (frC zeroF))] (by kernel_rfl) (fun w hw => hw.sub ?_) ?_
    · ((repeat' (first | exact trivial | exact rfl | refine And.intro ?_ ?_)) <;> (try (conv => whnf)) <;> (try simp only [SV.real, SV.r2, SV.r1]))
    repeat' ((conv => whnf); first | refine walk (Try.ok ..) ?_ | (refine Cnd.mk (fun h => ?_) (fun h => ?_) <;> (first | exact cndT h (by (try dsimp only); omega) | exact cndF h (by (try dsimp only); omega) | (exfalso; simp at h; omega) | simp at h | skip)) | refine kp ?_ ?_ | refine tw ?_ ?_ | exact trivial | refine side2 ?_ | refine sideL2 ?_ | refine Or.inr ?_ | refine sat_drawH (Try.ok ..) (by kernel_rfl) ?_ | refine xi _ (And.intro rfl rfl) ?_ | refine xi _ (fun _ => And.intro rfl rfl) ?_ | refine xi _ rfl ?_ | intro g hg | (refine called_pure (.t [.a (frC d.1), .v (.int .i64 d.2)]) rfl (fun w' => by exact hD w') ?_) | (refine called_pure (.a (frC (ofF (q - p)))) rfl (fun w' => rof2 _ w' (by refine ⟨?_, ?_⟩ <;> omega)) ?_) | (exact ⟨0, trivial, by ((repeat' (first | exact trivial | exact rfl | refine And.intro ?_ ?_)) <;> (try (conv => whnf)) <;> (try simp only [SV.real, SV.r2, SV.r1])), by ((repeat' (first | exact trivial | exact rfl | refine And.intro ?_ ?_)) <;> (try (conv => whnf)) <;> (try simp only [SV.real, SV.r2, SV.r1])), rfl⟩))
  rintro _ -
  by_cases h3 : d.2 = 0
  case neg =>
    rw [if_neg h3]
    repeat' ((conv => whnf); first | refine walk (Try.ok ..) ?_ | (refine Cnd.mk (fun h => ?_) (fun h => ?_) <;> (first | exact cndT h (by (try dsimp only); omega) | exact cndF h (by (try dsimp only); omega) | (exfalso; simp at h; omega) | simp at h | skip)) | refine kp ?_ ?_ | refine tw ?_ ?_ | exact trivial | refine side2 ?_ | refine sideL2 ?_ | refine Or.inr ?_ | refine sat_drawH (Try.ok ..) (by kernel_rfl) ?_ | refine xi _ (And.intro rfl rfl) ?_ | refine xi _ (fun _ => And.intro rfl rfl) ?_ | refine xi _ rfl ?_)
    exact done_pure rfl rfl (congrArg (fun l => (SV.t [.a l, .v (.int .i64 d.2)]).real) (show _ = frC zeroF from rfl))
  rw [if_pos h3]
  repeat' ((conv => whnf); first | refine walk (Try.ok ..) ?_ | (refine Cnd.mk (fun h => ?_) (fun h => ?_) <;> (first | exact cndT h (by (try dsimp only); omega) | exact cndF h (by (try dsimp only); omega) | (exfalso; simp at h; omega) | simp at h | skip)) | refine kp ?_ ?_ | refine tw ?_ ?_ | exact trivial | refine side2 ?_ | refine sideL2 ?_ | refine Or.inr ?_ | refine xi _ (And.intro rfl rfl) ?_ | refine xi _ (fun _ => And.intro rfl rfl) ?_ | refine xi _ rfl ?_)
  refine sat_join0 (fun (g : Nat) => ([(0, .yes, .v (.int .i64 a)), (1, .yes, .v (.int .i64 b)), (3, .yes, .v (.int .i64 p)), (4, .yes, .v (.int .i64 q)), (7, .yes, .p 7 g7 0 0), (10, .yes, .p 10 g10 0 0), (11, .yes, .v (.int .i64 0)), (12, .yes, .p 12 g12 0 0), (13, .yes, .v (.int .i64 r.2))], [(7, .blk g7 62 (frC x)), (10, .blk g10 62 (frC zeroF)), (12, .blk g12 62 (frC r.1))])) (fun _ => True) (fun _ => rfl) ?_ ?_
  · refine sat_draw (Try.ok ..) [0] [(7, .blk g7 62 (frC x)), (10, .blk g10 62 (frC zeroF))] (by kernel_rfl) (fun w hw => hw.sub ?_) ?_
    · ((repeat' (first | exact trivial | exact rfl | refine And.intro ?_ ?_)) <;> (try (conv => whnf)) <;> (try simp only [SV.real, SV.r2, SV.r1]))
    repeat' ((conv => whnf); first | refine walk (Try.ok ..) ?_ | (refine Cnd.mk (fun h => ?_) (fun h => ?_) <;> (first | exact cndT h (by (try dsimp only); omega) | exact cndF h (by (try dsimp only); omega) | (exfalso; simp at h; omega) | simp at h | skip)) | refine kp ?_ ?_ | refine tw ?_ ?_ | exact trivial | refine side2 ?_ | refine sideL2 ?_ | refine Or.inr ?_ | refine sat_drawH (Try.ok ..) (by kernel_rfl) ?_ | refine xi _ (And.intro rfl rfl) ?_ | refine xi _ (fun _ => And.intro rfl rfl) ?_ | refine xi _ rfl ?_ | intro g hg | (refine called_pure (.t [.a (frC r.1), .v (.int .i64 r.2)]) rfl (fun w' => by exact hR w') ?_) | (refine called_pure (.a (frC (ofF (a)))) rfl (fun w' => rof2 _ w' (by refine ⟨?_, ?_⟩ <;> omega)) ?_) | (exact ⟨0, trivial, by ((repeat' (first | exact trivial | exact rfl | refine And.intro ?_ ?_)) <;> (try (conv => whnf)) <;> (try simp only [SV.real, SV.r2, SV.r1])), by ((repeat' (first | exact trivial | exact rfl | refine And.intro ?_ ?_)) <;> (try (conv => whnf)) <;> (try simp only [SV.real, SV.r2, SV.r1])), rfl⟩))
  rintro _ -
  by_cases h4 : r.2 = 0
  case neg =>
    rw [if_neg h4]
    repeat' ((conv => whnf); first | refine walk (Try.ok ..) ?_ | (refine Cnd.mk (fun h => ?_) (fun h => ?_) <;> (first | exact cndT h (by (try dsimp only); omega) | exact cndF h (by (try dsimp only); omega) | (exfalso; simp at h; omega) | simp at h | skip)) | refine kp ?_ ?_ | refine tw ?_ ?_ | exact trivial | refine side2 ?_ | refine sideL2 ?_ | refine Or.inr ?_ | refine sat_drawH (Try.ok ..) (by kernel_rfl) ?_ | refine xi _ (And.intro rfl rfl) ?_ | refine xi _ (fun _ => And.intro rfl rfl) ?_ | refine xi _ rfl ?_)
    exact done_pure rfl rfl (congrArg (fun l => (SV.t [.a l, .v (.int .i64 r.2)]).real) (show _ = frC zeroF from rfl))
  rw [if_pos h4]
  repeat' ((conv => whnf); first | refine walk (Try.ok ..) ?_ | (refine Cnd.mk (fun h => ?_) (fun h => ?_) <;> (first | exact cndT h (by (try dsimp only); omega) | exact cndF h (by (try dsimp only); omega) | (exfalso; simp at h; omega) | simp at h | skip)) | refine kp ?_ ?_ | refine tw ?_ ?_ | exact trivial | refine side2 ?_ | refine sideL2 ?_ | refine Or.inr ?_ | refine sat_drawH (Try.ok ..) (by kernel_rfl) ?_ | refine xi _ (And.intro rfl rfl) ?_ | refine xi _ (fun _ => And.intro rfl rfl) ?_ | refine xi _ rfl ?_)
  exact done_pure rfl rfl (congrArg (fun l => (SV.t [.a l, .v (.int .i64 0)]).real) (tk2 r.1))
end Go.Proofs.Ytomhfakkebaciaa
