/-
  The walks of the hydro package: operations by a whole number, one after the other.
-/
import Derived.Test.YtomhfakkebaciaaH10
set_option linter.unusedSimpArgs false
set_option linter.unusedVariables false
namespace Go.Proofs.Ytomhfakkebaciaa
open Go Sat Go.RowKit Go.PlainAid
/-- a callee that makes two blocks of its own -/
theorem called_newblk2 {cx : Cx} {n : Nat} {args : List SV} {H : Heap} {K : SV → Heap → Prop} (d1 d2 : Nat) {t1 t2 : Nat} {c1 c2 : List SV} (r : Nat → Nat → SV)
    (h : ∀ w, Holds cx H w → Calls cx.P n (args.map SV.real).toArray w fun e' w' => ∃ g1 g2, e' = .returned (r g1 g2).real ∧ w.heap.size ≤ g1 ∧ w.heap.size ≤ g2 ∧ g1 ≠ g2 ∧ w'.heap[g1]? = some (.cells (c1.map SV.r1).toArray t1 (0, 0)) ∧ w'.heap[g2]? = some (.cells (c2.map SV.r1).toArray t2 (0, 0)) ∧ Below w.heap.size w w')
    (hk : ∀ g1 g2, K (r g1 g2) ((d2, .blk g2 t2 c2) :: hdel ((d1, .blk g1 t1 c1) :: hdel H d1) d2)) : Called cx n args H K := by
  refine ⟨fun w hw => (h w hw).mono fun _ w' ⟨g1, g2, he, hg1, hg2, hne, hc1, hc2, hb⟩ => ?_⟩
  have hn : cx.n0 ≤ w.heap.size := Nat.le_trans hw.n0 hw.keep.size
  refine ⟨r g1 g2, _, he, ?_, hk g1 g2⟩
  have h1 : Holds cx ((d1, .blk g1 t1 c1) :: hdel H d1) w' := by
    refine hw.turn d1 _ ⟨hb.os, hb.tape, hb.output, hb.size, fun k hk _ => hb.block k (by omega)⟩ ⟨.inl (by omega), hc1⟩ fun x hx g' hg' => ?_
    have hlt := HB.lt (hw.ent x (hdel_mem hx).1) hg'
    exact ⟨hb.block g' hlt, by simp only [HB.gs, List.mem_singleton]; omega⟩
  refine h1.turn d2 _ (Keep.refl ..) ⟨.inl (by omega), hc2⟩ fun x hx g' hg' => ⟨rfl, ?_⟩
  simp only [HB.gs, List.mem_singleton]
  have hm := (hdel_mem hx).1
  rcases List.mem_cons.1 hm with h2 | h2
  · subst h2
    simp only [HB.gs, List.mem_singleton] at hg'
    omega
  · have hlt := HB.lt (hw.ent x (hdel_mem h2).1) hg'
    omega
theorem done_newblk2 {cx : Cx} {v : SV} {H : Heap} {t1 t2 : Nat} {c1 c2 : List SV} {r : Nat → Nat → Value} (hn : cx.n0 = cx.W.heap.size) (hM : cx.M = []) (d1 d2 g1 g2 : Nat) (hd : d1 ≠ d2) (hf1 : hfind H d1 = some (.blk g1 t1 c1)) (hf2 : hfind H d2 = some (.blk g2 t2 c2)) (h : v.real = r g1 g2) :
    Done cx (fun e' w' => ∃ g1 g2, e' = .returned (r g1 g2) ∧ cx.W.heap.size ≤ g1 ∧ cx.W.heap.size ≤ g2 ∧ g1 ≠ g2 ∧ w'.heap[g1]? = some (.cells (c1.map SV.r1).toArray t1 (0, 0)) ∧ w'.heap[g2]? = some (.cells (c2.map SV.r1).toArray t2 (0, 0)) ∧ Below cx.W.heap.size cx.W w') v H := by
  refine ⟨fun w hw => ⟨g1, g2, by rw [h], ?_, ?_, ?_, (hw.at_ hf1).2, (hw.at_ hf2).2, below_of hn hM hw⟩⟩
  · have hb : (HB.blk g1 t1 c1).holds cx w := hw.at_ hf1
    rcases hb.1 with h1 | h1
    · omega
    · rw [hM] at h1; cases h1
  · have hb : (HB.blk g2 t2 c2).holds cx w := hw.at_ hf2
    rcases hb.1 with h1 | h1
    · omega
    · rw [hM] at h1; cases h1
  · intro he
    exact hw.sep _ _ _ _ (hfind_mem hf1) (hfind_mem hf2) hd g1 (by simp [HB.gs]) (by simp [HB.gs, he])
def opV (D : Nat) : Value := .func (.func D) #[] #[]
def byV (g1 g2 : Nat) : Value := .func (.func 49) #[] #[ptrV g1, ptrV g2]
theorem by_any (D : Nat) (n : Int) (w : World) :
    Calls Try.prog 48 #[opV D, .int .i64 n] w fun e w' => ∃ g1 g2, e = .returned (byV g1 g2) ∧ w.heap.size ≤ g1 ∧ w.heap.size ≤ g2 ∧ g1 ≠ g2 ∧ w'.heap[g1]? = some (.cells (List.map SV.r1 [.v (opV D)]).toArray 40 (0, 0)) ∧ w'.heap[g2]? = some (.cells (List.map SV.r1 [.v (.int .i64 n)]).toArray 3 (0, 0)) ∧ Below w.heap.size w w' := by
  refine calls_sat (cx := Try.cx 6 [] [] [] w) (Try.ok ..) Try.func48 rfl [.v (opV D), .v (.int .i64 n)] rfl (by show 2 ≤ 6; omega) [] (holds_nil (Nat.le_refl _)) ?_
  repeat' ((conv => whnf); first | refine walk (Try.ok ..) ?_ | (refine Cnd.mk (fun h => ?_) (fun h => ?_) <;> (first | exact cndT h (by (try dsimp only); omega) | exact cndF h (by (try dsimp only); omega) | (exfalso; simp at h; omega) | simp at h | skip)) | refine kp ?_ ?_ | refine tw ?_ ?_ | exact trivial | refine side2 ?_ | refine sideL2 ?_ | refine Or.inr ?_ | refine sat_drawH (Try.ok ..) (by kernel_rfl) ?_ | refine xi _ (And.intro rfl rfl) ?_ | refine xi _ (fun _ => And.intro rfl rfl) ?_ | refine xi _ rfl ?_)
  (conv => whnf)
  intro g2 hg2
  repeat' ((conv => whnf); first | refine walk (Try.ok ..) ?_ | (refine Cnd.mk (fun h => ?_) (fun h => ?_) <;> (first | exact cndT h (by (try dsimp only); omega) | exact cndF h (by (try dsimp only); omega) | (exfalso; simp at h; omega) | simp at h | skip)) | refine kp ?_ ?_ | refine tw ?_ ?_ | exact trivial | refine side2 ?_ | refine sideL2 ?_ | refine Or.inr ?_ | refine sat_drawH (Try.ok ..) (by kernel_rfl) ?_ | refine xi _ (And.intro rfl rfl) ?_ | refine xi _ (fun _ => And.intro rfl rfl) ?_ | refine xi _ rfl ?_)
  (conv => whnf)
  intro g3 hg3
  repeat' ((conv => whnf); first | refine walk (Try.ok ..) ?_ | (refine Cnd.mk (fun h => ?_) (fun h => ?_) <;> (first | exact cndT h (by (try dsimp only); omega) | exact cndF h (by (try dsimp only); omega) | (exfalso; simp at h; omega) | simp at h | skip)) | refine kp ?_ ?_ | refine tw ?_ ?_ | exact trivial | refine side2 ?_ | refine sideL2 ?_ | refine Or.inr ?_ | refine sat_drawH (Try.ok ..) (by kernel_rfl) ?_ | refine xi _ (And.intro rfl rfl) ?_ | refine xi _ (fun _ => And.intro rfl rfl) ?_ | refine xi _ rfl ?_)
  exact done_newblk2 (r := byV) rfl rfl 2 3 g2 g3 (by decide) rfl rfl rfl
theorem sub_by (f : Fr) (n : Int) (g1 g2 : Nat) (w : World) (hf : Big f) (hn : I64 n) (h1 : Ro w (some (g1, 0)) 1 1 [opV 51]) (h2 : Ro w (some (g2, 0)) 1 1 [.int .i64 n]) :
    Calls Try.prog 49 #[frV f, ptrV g1, ptrV g2] w fun e w' => e = .returned (.tuple #[frV (subE f (ofF n)).1, .int .i64 (subE f (ofF n)).2]) ∧ Below w.heap.size w w' := by
  have lf := frC_len f
  have lo := frC_len (ofF n)
  have hS := fun w => subE_any f (ofF n) w hf (ofF_big n)
  obtain ⟨s, es⟩ : ∃ r, r = subE f (ofF n) := ⟨_, rfl⟩
  rw [← es] at hS ⊢
  have ls := frC_len s.1
  refine calls_sat (cx := Try.cx 13 [1] [] [] w) (Try.ok ..) Try.func49 rfl [.a (frC f), .p 301 g1 0 0, .p 302 g2 0 0] rfl (by show 3 ≤ 13; omega) [(301, .ro (some (g1, 0)) 1 1 [opV 51]), (302, .ro (some (g2, 0)) 1 1 [.int .i64 n])] (holds_ros rfl rfl ⟨h1, h2, trivial⟩) ?_
  repeat' ((conv => whnf); first | refine walk (Try.ok ..) ?_ | (refine Cnd.mk (fun h => ?_) (fun h => ?_) <;> (first | exact cndT h (by (try dsimp only); omega) | exact cndF h (by (try dsimp only); omega) | (exfalso; simp at h; omega) | simp at h | skip)) | refine kp ?_ ?_ | refine tw ?_ ?_ | exact trivial | refine side2 ?_ | refine sideL2 ?_ | refine Or.inr ?_ | refine sat_drawH (Try.ok ..) (by kernel_rfl) ?_ | refine xi _ (And.intro rfl rfl) ?_ | refine xi _ (fun _ => And.intro rfl rfl) ?_ | refine xi _ rfl ?_)
  (conv => whnf)
  intro g3 hg3
  repeat' ((conv => whnf); first | refine walk (Try.ok ..) ?_ | (refine Cnd.mk (fun h => ?_) (fun h => ?_) <;> (first | exact cndT h (by (try dsimp only); omega) | exact cndF h (by (try dsimp only); omega) | (exfalso; simp at h; omega) | simp at h | skip)) | refine kp ?_ ?_ | refine tw ?_ ?_ | exact trivial | refine side2 ?_ | refine sideL2 ?_ | refine Or.inr ?_ | refine sat_drawH (Try.ok ..) (by kernel_rfl) ?_ | refine xi _ (And.intro rfl rfl) ?_ | refine xi _ (fun _ => And.intro rfl rfl) ?_ | refine xi _ rfl ?_)
  (conv => whnf)
  intro g4 hg4
  repeat' ((conv => whnf); first | refine walk (Try.ok ..) ?_ | (refine Cnd.mk (fun h => ?_) (fun h => ?_) <;> (first | exact cndT h (by (try dsimp only); omega) | exact cndF h (by (try dsimp only); omega) | (exfalso; simp at h; omega) | simp at h | skip)) | refine kp ?_ ?_ | refine tw ?_ ?_ | exact trivial | refine side2 ?_ | refine sideL2 ?_ | refine Or.inr ?_ | refine xi _ (And.intro rfl rfl) ?_ | refine xi _ (fun _ => And.intro rfl rfl) ?_ | refine xi _ rfl ?_)
  (conv => whnf)
  refine sat_draw (Try.ok ..) [] [(3, .blk g3 26 (frC f)), (301, .ro (some (g1, 0)) 1 1 [opV 51]), (302, .ro (some (g2, 0)) 1 1 [.int .i64 n])] (by kernel_rfl) (fun w hw => hw.sub ?_) ?_
  · ((repeat' (first | exact trivial | exact rfl | refine And.intro ?_ ?_)) <;> (try (conv => whnf)) <;> (try simp only [SV.real, SV.r2, SV.r1]))
  repeat' ((conv => whnf); first | refine walk (Try.ok ..) ?_ | (refine Cnd.mk (fun h => ?_) (fun h => ?_) <;> (first | exact cndT h (by (try dsimp only); omega) | exact cndF h (by (try dsimp only); omega) | (exfalso; simp at h; omega) | simp at h | skip)) | refine kp ?_ ?_ | refine tw ?_ ?_ | exact trivial | refine side2 ?_ | refine sideL2 ?_ | refine Or.inr ?_ | refine sat_drawH (Try.ok ..) (by kernel_rfl) ?_ | refine xi _ (And.intro rfl rfl) ?_ | refine xi _ (fun _ => And.intro rfl rfl) ?_ | refine xi _ rfl ?_)
  refine called_pure (.a (frC (ofF n))) rfl (fun w' => of_frac _ w' hn) ?_
  repeat' ((conv => whnf); first | refine walk (Try.ok ..) ?_ | (refine Cnd.mk (fun h => ?_) (fun h => ?_) <;> (first | exact cndT h (by (try dsimp only); omega) | exact cndF h (by (try dsimp only); omega) | (exfalso; simp at h; omega) | simp at h | skip)) | refine kp ?_ ?_ | refine tw ?_ ?_ | exact trivial | refine side2 ?_ | refine sideL2 ?_ | refine Or.inr ?_ | refine sat_drawH (Try.ok ..) (by kernel_rfl) ?_ | refine xi _ (And.intro rfl rfl) ?_ | refine xi _ (fun _ => And.intro rfl rfl) ?_ | refine xi _ rfl ?_)
  refine called_pure (.t [.a (frC s.1), .v (.int .i64 s.2)]) rfl (fun w' => by rw [tk1]; exact hS w') ?_
  repeat' ((conv => whnf); first | refine walk (Try.ok ..) ?_ | (refine Cnd.mk (fun h => ?_) (fun h => ?_) <;> (first | exact cndT h (by (try dsimp only); omega) | exact cndF h (by (try dsimp only); omega) | (exfalso; simp at h; omega) | simp at h | skip)) | refine kp ?_ ?_ | refine tw ?_ ?_ | exact trivial | refine side2 ?_ | refine sideL2 ?_ | refine Or.inr ?_ | refine sat_drawH (Try.ok ..) (by kernel_rfl) ?_ | refine xi _ (And.intro rfl rfl) ?_ | refine xi _ (fun _ => And.intro rfl rfl) ?_ | refine xi _ rfl ?_)
  exact done_pure rfl rfl (congrArg (fun l => (SV.t [.a l, .v (.int .i64 s.2)]).real) (tk1 s.1))
theorem mul_by (f : Fr) (n : Int) (g1 g2 : Nat) (w : World) (hf : Big f) (hn : I64 n) (h1 : Ro w (some (g1, 0)) 1 1 [opV 52]) (h2 : Ro w (some (g2, 0)) 1 1 [.int .i64 n]) :
    Calls Try.prog 49 #[frV f, ptrV g1, ptrV g2] w fun e w' => e = .returned (.tuple #[frV (mulE f (ofF n)).1, .int .i64 (mulE f (ofF n)).2]) ∧ Below w.heap.size w w' := by
  have lf := frC_len f
  have lo := frC_len (ofF n)
  have hS := fun w => mul_any f (ofF n) w hf (ofF_big n)
  obtain ⟨s, es⟩ : ∃ r, r = mulE f (ofF n) := ⟨_, rfl⟩
  rw [← es] at hS ⊢
  have ls := frC_len s.1
  refine calls_sat (cx := Try.cx 13 [1] [] [] w) (Try.ok ..) Try.func49 rfl [.a (frC f), .p 301 g1 0 0, .p 302 g2 0 0] rfl (by show 3 ≤ 13; omega) [(301, .ro (some (g1, 0)) 1 1 [opV 52]), (302, .ro (some (g2, 0)) 1 1 [.int .i64 n])] (holds_ros rfl rfl ⟨h1, h2, trivial⟩) ?_
  repeat' ((conv => whnf); first | refine walk (Try.ok ..) ?_ | (refine Cnd.mk (fun h => ?_) (fun h => ?_) <;> (first | exact cndT h (by (try dsimp only); omega) | exact cndF h (by (try dsimp only); omega) | (exfalso; simp at h; omega) | simp at h | skip)) | refine kp ?_ ?_ | refine tw ?_ ?_ | exact trivial | refine side2 ?_ | refine sideL2 ?_ | refine Or.inr ?_ | refine sat_drawH (Try.ok ..) (by kernel_rfl) ?_ | refine xi _ (And.intro rfl rfl) ?_ | refine xi _ (fun _ => And.intro rfl rfl) ?_ | refine xi _ rfl ?_)
  (conv => whnf)
  intro g3 hg3
  repeat' ((conv => whnf); first | refine walk (Try.ok ..) ?_ | (refine Cnd.mk (fun h => ?_) (fun h => ?_) <;> (first | exact cndT h (by (try dsimp only); omega) | exact cndF h (by (try dsimp only); omega) | (exfalso; simp at h; omega) | simp at h | skip)) | refine kp ?_ ?_ | refine tw ?_ ?_ | exact trivial | refine side2 ?_ | refine sideL2 ?_ | refine Or.inr ?_ | refine sat_drawH (Try.ok ..) (by kernel_rfl) ?_ | refine xi _ (And.intro rfl rfl) ?_ | refine xi _ (fun _ => And.intro rfl rfl) ?_ | refine xi _ rfl ?_)
  (conv => whnf)
  intro g4 hg4
  repeat' ((conv => whnf); first | refine walk (Try.ok ..) ?_ | (refine Cnd.mk (fun h => ?_) (fun h => ?_) <;> (first | exact cndT h (by (try dsimp only); omega) | exact cndF h (by (try dsimp only); omega) | (exfalso; simp at h; omega) | simp at h | skip)) | refine kp ?_ ?_ | refine tw ?_ ?_ | exact trivial | refine side2 ?_ | refine sideL2 ?_ | refine Or.inr ?_ | refine xi _ (And.intro rfl rfl) ?_ | refine xi _ (fun _ => And.intro rfl rfl) ?_ | refine xi _ rfl ?_)
  (conv => whnf)
  refine sat_draw (Try.ok ..) [] [(3, .blk g3 26 (frC f)), (301, .ro (some (g1, 0)) 1 1 [opV 52]), (302, .ro (some (g2, 0)) 1 1 [.int .i64 n])] (by kernel_rfl) (fun w hw => hw.sub ?_) ?_
  · ((repeat' (first | exact trivial | exact rfl | refine And.intro ?_ ?_)) <;> (try (conv => whnf)) <;> (try simp only [SV.real, SV.r2, SV.r1]))
  repeat' ((conv => whnf); first | refine walk (Try.ok ..) ?_ | (refine Cnd.mk (fun h => ?_) (fun h => ?_) <;> (first | exact cndT h (by (try dsimp only); omega) | exact cndF h (by (try dsimp only); omega) | (exfalso; simp at h; omega) | simp at h | skip)) | refine kp ?_ ?_ | refine tw ?_ ?_ | exact trivial | refine side2 ?_ | refine sideL2 ?_ | refine Or.inr ?_ | refine sat_drawH (Try.ok ..) (by kernel_rfl) ?_ | refine xi _ (And.intro rfl rfl) ?_ | refine xi _ (fun _ => And.intro rfl rfl) ?_ | refine xi _ rfl ?_)
  refine called_pure (.a (frC (ofF n))) rfl (fun w' => of_frac _ w' hn) ?_
  repeat' ((conv => whnf); first | refine walk (Try.ok ..) ?_ | (refine Cnd.mk (fun h => ?_) (fun h => ?_) <;> (first | exact cndT h (by (try dsimp only); omega) | exact cndF h (by (try dsimp only); omega) | (exfalso; simp at h; omega) | simp at h | skip)) | refine kp ?_ ?_ | refine tw ?_ ?_ | exact trivial | refine side2 ?_ | refine sideL2 ?_ | refine Or.inr ?_ | refine sat_drawH (Try.ok ..) (by kernel_rfl) ?_ | refine xi _ (And.intro rfl rfl) ?_ | refine xi _ (fun _ => And.intro rfl rfl) ?_ | refine xi _ rfl ?_)
  refine called_pure (.t [.a (frC s.1), .v (.int .i64 s.2)]) rfl (fun w' => by rw [tk1]; exact hS w') ?_
  repeat' ((conv => whnf); first | refine walk (Try.ok ..) ?_ | (refine Cnd.mk (fun h => ?_) (fun h => ?_) <;> (first | exact cndT h (by (try dsimp only); omega) | exact cndF h (by (try dsimp only); omega) | (exfalso; simp at h; omega) | simp at h | skip)) | refine kp ?_ ?_ | refine tw ?_ ?_ | exact trivial | refine side2 ?_ | refine sideL2 ?_ | refine Or.inr ?_ | refine sat_drawH (Try.ok ..) (by kernel_rfl) ?_ | refine xi _ (And.intro rfl rfl) ?_ | refine xi _ (fun _ => And.intro rfl rfl) ?_ | refine xi _ rfl ?_)
  exact done_pure rfl rfl (congrArg (fun l => (SV.t [.a l, .v (.int .i64 s.2)]).real) (tk1 s.1))
theorem div_by (f : Fr) (n : Int) (g1 g2 : Nat) (w : World) (hf : Big f) (hn : I64 n) (h1 : Ro w (some (g1, 0)) 1 1 [opV 19]) (h2 : Ro w (some (g2, 0)) 1 1 [.int .i64 n]) :
    Calls Try.prog 49 #[frV f, ptrV g1, ptrV g2] w fun e w' => e = .returned (.tuple #[frV (divE f (ofF n)).1, .int .i64 (divE f (ofF n)).2]) ∧ Below w.heap.size w w' := by
  have lf := frC_len f
  have lo := frC_len (ofF n)
  have hS := fun w => div_any f (ofF n) w hf (ofF_big n)
  obtain ⟨s, es⟩ : ∃ r, r = divE f (ofF n) := ⟨_, rfl⟩
  rw [← es] at hS ⊢
  have ls := frC_len s.1
  refine calls_sat (cx := Try.cx 13 [1] [] [] w) (Try.ok ..) Try.func49 rfl [.a (frC f), .p 301 g1 0 0, .p 302 g2 0 0] rfl (by show 3 ≤ 13; omega) [(301, .ro (some (g1, 0)) 1 1 [opV 19]), (302, .ro (some (g2, 0)) 1 1 [.int .i64 n])] (holds_ros rfl rfl ⟨h1, h2, trivial⟩) ?_
  repeat' ((conv => whnf); first | refine walk (Try.ok ..) ?_ | (refine Cnd.mk (fun h => ?_) (fun h => ?_) <;> (first | exact cndT h (by (try dsimp only); omega) | exact cndF h (by (try dsimp only); omega) | (exfalso; simp at h; omega) | simp at h | skip)) | refine kp ?_ ?_ | refine tw ?_ ?_ | exact trivial | refine side2 ?_ | refine sideL2 ?_ | refine Or.inr ?_ | refine sat_drawH (Try.ok ..) (by kernel_rfl) ?_ | refine xi _ (And.intro rfl rfl) ?_ | refine xi _ (fun _ => And.intro rfl rfl) ?_ | refine xi _ rfl ?_)
  (conv => whnf)
  intro g3 hg3
  repeat' ((conv => whnf); first | refine walk (Try.ok ..) ?_ | (refine Cnd.mk (fun h => ?_) (fun h => ?_) <;> (first | exact cndT h (by (try dsimp only); omega) | exact cndF h (by (try dsimp only); omega) | (exfalso; simp at h; omega) | simp at h | skip)) | refine kp ?_ ?_ | refine tw ?_ ?_ | exact trivial | refine side2 ?_ | refine sideL2 ?_ | refine Or.inr ?_ | refine sat_drawH (Try.ok ..) (by kernel_rfl) ?_ | refine xi _ (And.intro rfl rfl) ?_ | refine xi _ (fun _ => And.intro rfl rfl) ?_ | refine xi _ rfl ?_)
  (conv => whnf)
  intro g4 hg4
  repeat' ((conv => whnf); first | refine walk (Try.ok ..) ?_ | (refine Cnd.mk (fun h => ?_) (fun h => ?_) <;> (first | exact cndT h (by (try dsimp only); omega) | exact cndF h (by (try dsimp only); omega) | (exfalso; simp at h; omega) | simp at h | skip)) | refine kp ?_ ?_ | refine tw ?_ ?_ | exact trivial | refine side2 ?_ | refine sideL2 ?_ | refine Or.inr ?_ | refine xi _ (And.intro rfl rfl) ?_ | refine xi _ (fun _ => And.intro rfl rfl) ?_ | refine xi _ rfl ?_)
  (conv => whnf)
  refine sat_draw (Try.ok ..) [] [(3, .blk g3 26 (frC f)), (301, .ro (some (g1, 0)) 1 1 [opV 19]), (302, .ro (some (g2, 0)) 1 1 [.int .i64 n])] (by kernel_rfl) (fun w hw => hw.sub ?_) ?_
  · ((repeat' (first | exact trivial | exact rfl | refine And.intro ?_ ?_)) <;> (try (conv => whnf)) <;> (try simp only [SV.real, SV.r2, SV.r1]))
  repeat' ((conv => whnf); first | refine walk (Try.ok ..) ?_ | (refine Cnd.mk (fun h => ?_) (fun h => ?_) <;> (first | exact cndT h (by (try dsimp only); omega) | exact cndF h (by (try dsimp only); omega) | (exfalso; simp at h; omega) | simp at h | skip)) | refine kp ?_ ?_ | refine tw ?_ ?_ | exact trivial | refine side2 ?_ | refine sideL2 ?_ | refine Or.inr ?_ | refine sat_drawH (Try.ok ..) (by kernel_rfl) ?_ | refine xi _ (And.intro rfl rfl) ?_ | refine xi _ (fun _ => And.intro rfl rfl) ?_ | refine xi _ rfl ?_)
  refine called_pure (.a (frC (ofF n))) rfl (fun w' => of_frac _ w' hn) ?_
  repeat' ((conv => whnf); first | refine walk (Try.ok ..) ?_ | (refine Cnd.mk (fun h => ?_) (fun h => ?_) <;> (first | exact cndT h (by (try dsimp only); omega) | exact cndF h (by (try dsimp only); omega) | (exfalso; simp at h; omega) | simp at h | skip)) | refine kp ?_ ?_ | refine tw ?_ ?_ | exact trivial | refine side2 ?_ | refine sideL2 ?_ | refine Or.inr ?_ | refine sat_drawH (Try.ok ..) (by kernel_rfl) ?_ | refine xi _ (And.intro rfl rfl) ?_ | refine xi _ (fun _ => And.intro rfl rfl) ?_ | refine xi _ rfl ?_)
  refine called_pure (.t [.a (frC s.1), .v (.int .i64 s.2)]) rfl (fun w' => by rw [tk1]; exact hS w') ?_
  repeat' ((conv => whnf); first | refine walk (Try.ok ..) ?_ | (refine Cnd.mk (fun h => ?_) (fun h => ?_) <;> (first | exact cndT h (by (try dsimp only); omega) | exact cndF h (by (try dsimp only); omega) | (exfalso; simp at h; omega) | simp at h | skip)) | refine kp ?_ ?_ | refine tw ?_ ?_ | exact trivial | refine side2 ?_ | refine sideL2 ?_ | refine Or.inr ?_ | refine sat_drawH (Try.ok ..) (by kernel_rfl) ?_ | refine xi _ (And.intro rfl rfl) ?_ | refine xi _ (fun _ => And.intro rfl rfl) ?_ | refine xi _ rfl ?_)
  exact done_pure rfl rfl (congrArg (fun l => (SV.t [.a l, .v (.int .i64 s.2)]).real) (tk1 s.1))
theorem add_by (f : Fr) (n : Int) (g1 g2 : Nat) (w : World) (hf : Big f) (hn : I64 n) (h1 : Ro w (some (g1, 0)) 1 1 [opV 14]) (h2 : Ro w (some (g2, 0)) 1 1 [.int .i64 n]) :
    Calls Try.prog 49 #[frV f, ptrV g1, ptrV g2] w fun e w' => e = .returned (.tuple #[frV (addE f (ofF n)).1, .int .i64 (addE f (ofF n)).2]) ∧ Below w.heap.size w w' := by
  have lf := frC_len f
  have lo := frC_len (ofF n)
  have hS := fun w => addE_any f (ofF n) w hf (ofF_big n)
  obtain ⟨s, es⟩ : ∃ r, r = addE f (ofF n) := ⟨_, rfl⟩
  rw [← es] at hS ⊢
  have ls := frC_len s.1
  refine calls_sat (cx := Try.cx 13 [1] [] [] w) (Try.ok ..) Try.func49 rfl [.a (frC f), .p 301 g1 0 0, .p 302 g2 0 0] rfl (by show 3 ≤ 13; omega) [(301, .ro (some (g1, 0)) 1 1 [opV 14]), (302, .ro (some (g2, 0)) 1 1 [.int .i64 n])] (holds_ros rfl rfl ⟨h1, h2, trivial⟩) ?_
  repeat' ((conv => whnf); first | refine walk (Try.ok ..) ?_ | (refine Cnd.mk (fun h => ?_) (fun h => ?_) <;> (first | exact cndT h (by (try dsimp only); omega) | exact cndF h (by (try dsimp only); omega) | (exfalso; simp at h; omega) | simp at h | skip)) | refine kp ?_ ?_ | refine tw ?_ ?_ | exact trivial | refine side2 ?_ | refine sideL2 ?_ | refine Or.inr ?_ | refine sat_drawH (Try.ok ..) (by kernel_rfl) ?_ | refine xi _ (And.intro rfl rfl) ?_ | refine xi _ (fun _ => And.intro rfl rfl) ?_ | refine xi _ rfl ?_)
  (conv => whnf)
  intro g3 hg3
  repeat' ((conv => whnf); first | refine walk (Try.ok ..) ?_ | (refine Cnd.mk (fun h => ?_) (fun h => ?_) <;> (first | exact cndT h (by (try dsimp only); omega) | exact cndF h (by (try dsimp only); omega) | (exfalso; simp at h; omega) | simp at h | skip)) | refine kp ?_ ?_ | refine tw ?_ ?_ | exact trivial | refine side2 ?_ | refine sideL2 ?_ | refine Or.inr ?_ | refine sat_drawH (Try.ok ..) (by kernel_rfl) ?_ | refine xi _ (And.intro rfl rfl) ?_ | refine xi _ (fun _ => And.intro rfl rfl) ?_ | refine xi _ rfl ?_)
  (conv => whnf)
  intro g4 hg4
  repeat' ((conv => whnf); first | refine walk (Try.ok ..) ?_ | (refine Cnd.mk (fun h => ?_) (fun h => ?_) <;> (first | exact cndT h (by (try dsimp only); omega) | exact cndF h (by (try dsimp only); omega) | (exfalso; simp at h; omega) | simp at h | skip)) | refine kp ?_ ?_ | refine tw ?_ ?_ | exact trivial | refine side2 ?_ | refine sideL2 ?_ | refine Or.inr ?_ | refine xi _ (And.intro rfl rfl) ?_ | refine xi _ (fun _ => And.intro rfl rfl) ?_ | refine xi _ rfl ?_)
  (conv => whnf)
  refine sat_draw (Try.ok ..) [] [(3, .blk g3 26 (frC f)), (301, .ro (some (g1, 0)) 1 1 [opV 14]), (302, .ro (some (g2, 0)) 1 1 [.int .i64 n])] (by kernel_rfl) (fun w hw => hw.sub ?_) ?_
  · ((repeat' (first | exact trivial | exact rfl | refine And.intro ?_ ?_)) <;> (try (conv => whnf)) <;> (try simp only [SV.real, SV.r2, SV.r1]))
  repeat' ((conv => whnf); first | refine walk (Try.ok ..) ?_ | (refine Cnd.mk (fun h => ?_) (fun h => ?_) <;> (first | exact cndT h (by (try dsimp only); omega) | exact cndF h (by (try dsimp only); omega) | (exfalso; simp at h; omega) | simp at h | skip)) | refine kp ?_ ?_ | refine tw ?_ ?_ | exact trivial | refine side2 ?_ | refine sideL2 ?_ | refine Or.inr ?_ | refine sat_drawH (Try.ok ..) (by kernel_rfl) ?_ | refine xi _ (And.intro rfl rfl) ?_ | refine xi _ (fun _ => And.intro rfl rfl) ?_ | refine xi _ rfl ?_)
  refine called_pure (.a (frC (ofF n))) rfl (fun w' => of_frac _ w' hn) ?_
  repeat' ((conv => whnf); first | refine walk (Try.ok ..) ?_ | (refine Cnd.mk (fun h => ?_) (fun h => ?_) <;> (first | exact cndT h (by (try dsimp only); omega) | exact cndF h (by (try dsimp only); omega) | (exfalso; simp at h; omega) | simp at h | skip)) | refine kp ?_ ?_ | refine tw ?_ ?_ | exact trivial | refine side2 ?_ | refine sideL2 ?_ | refine Or.inr ?_ | refine sat_drawH (Try.ok ..) (by kernel_rfl) ?_ | refine xi _ (And.intro rfl rfl) ?_ | refine xi _ (fun _ => And.intro rfl rfl) ?_ | refine xi _ rfl ?_)
  refine called_pure (.t [.a (frC s.1), .v (.int .i64 s.2)]) rfl (fun w' => by rw [tk1]; exact hS w') ?_
  repeat' ((conv => whnf); first | refine walk (Try.ok ..) ?_ | (refine Cnd.mk (fun h => ?_) (fun h => ?_) <;> (first | exact cndT h (by (try dsimp only); omega) | exact cndF h (by (try dsimp only); omega) | (exfalso; simp at h; omega) | simp at h | skip)) | refine kp ?_ ?_ | refine tw ?_ ?_ | exact trivial | refine side2 ?_ | refine sideL2 ?_ | refine Or.inr ?_ | refine sat_drawH (Try.ok ..) (by kernel_rfl) ?_ | refine xi _ (And.intro rfl rfl) ?_ | refine xi _ (fun _ => And.intro rfl rfl) ?_ | refine xi _ rfl ?_)
  exact done_pure rfl rfl (congrArg (fun l => (SV.t [.a l, .v (.int .i64 s.2)]).real) (tk1 s.1))
end Go.Proofs.Ytomhfakkebaciaa
