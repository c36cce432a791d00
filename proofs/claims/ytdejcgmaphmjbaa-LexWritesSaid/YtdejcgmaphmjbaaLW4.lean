/-
  The law LexWrites, walked.
-/
import Derived.Test.YtdejcgmaphmjbaaV6
set_option linter.unusedSimpArgs false
set_option linter.unusedVariables false
namespace Go.Proofs.Ytdejcgmaphmjbaa
open Go Sat Go.RowKit Go.PlainAid
set_option maxRecDepth 100000 in
set_option maxHeartbeats 8000000 in
theorem lexWrites_any (l : List Segm) (va : Value) (w : World) (hA : NLA w (fun _ => True) va l) (hf : FewL l) :
    Calls Try.prog 4 #[va] w fun e w' => e = .returned (.bool true) ∧ Below w.heap.size w w' := by
  refine calls_sat (cx := Try.cx 13 [] [] [] w) (Try.ok ..) Try.func4 rfl [.v va] rfl (by show 1 ≤ 13; omega) [] (holds_nil (Nat.le_refl _)) ?_
  repeat' ((conv => whnf); first | refine walk (Try.ok ..) ?_ | (refine Cnd.mk (fun h => ?_) (fun h => ?_) <;> (first | exact cndT h (by (try dsimp only); omega) | exact cndF h (by (try dsimp only); omega) | (exfalso; simp at h; omega) | simp at h | skip)) | refine kp ?_ ?_ | refine tw ?_ ?_ | refine appnil rfl ?_ | refine rawnil rfl ?_ | exact trivial | refine side2 ?_ | refine sideL2 ?_ | refine Or.inr ?_ | refine sat_drawH (Try.ok ..) (by kernel_rfl) ?_ | refine xi _ (And.intro rfl rfl) ?_ | refine xi _ (fun _ => And.intro rfl rfl) ?_ | refine xi _ rfl ?_)
  (conv => whnf)
  refine called_some (SmallTells l) (fun b => .v (.bool b)) (fun w' hh => by exact small_some l va w' (nla_below hA (below_of rfl rfl hh))) ?_
  intro b hb
  cases b
  · repeat' ((conv => whnf); first | refine walk (Try.ok ..) ?_ | (refine Cnd.mk (fun h => ?_) (fun h => ?_) <;> (first | exact cndT h (by (try dsimp only); omega) | exact cndF h (by (try dsimp only); omega) | (exfalso; simp at h; omega) | simp at h | skip)) | refine kp ?_ ?_ | refine tw ?_ ?_ | refine appnil rfl ?_ | refine rawnil rfl ?_ | exact trivial | refine side2 ?_ | refine sideL2 ?_ | refine Or.inr ?_ | refine sat_drawH (Try.ok ..) (by kernel_rfl) ?_ | refine xi _ (And.intro rfl rfl) ?_ | refine xi _ (fun _ => And.intro rfl rfl) ?_ | refine xi _ rfl ?_)
    (conv => whnf)
    refine calledQ_at (.v (.bool true)) rfl (fun hc w' hh => by exact absurd hc Bool.false_ne_true) ?_
    repeat' ((conv => whnf); first | refine walk (Try.ok ..) ?_ | (refine Cnd.mk (fun h => ?_) (fun h => ?_) <;> (first | exact cndT h (by (try dsimp only); omega) | exact cndF h (by (try dsimp only); omega) | (exfalso; simp at h; omega) | simp at h | skip)) | refine kp ?_ ?_ | refine tw ?_ ?_ | refine appnil rfl ?_ | refine rawnil rfl ?_ | exact trivial | refine side2 ?_ | refine sideL2 ?_ | refine Or.inr ?_ | refine sat_drawH (Try.ok ..) (by kernel_rfl) ?_ | refine xi _ (And.intro rfl rfl) ?_ | refine xi _ (fun _ => And.intro rfl rfl) ?_ | refine xi _ rfl ?_)
    (conv => whnf)
    refine called_pure (.v (.bool true)) rfl (fun w' => awake_any w') ?_
    repeat' ((conv => whnf); first | refine walk (Try.ok ..) ?_ | (refine Cnd.mk (fun h => ?_) (fun h => ?_) <;> (first | exact cndT h (by (try dsimp only); omega) | exact cndF h (by (try dsimp only); omega) | (exfalso; simp at h; omega) | simp at h | skip)) | refine kp ?_ ?_ | refine tw ?_ ?_ | refine appnil rfl ?_ | refine rawnil rfl ?_ | exact trivial | refine side2 ?_ | refine sideL2 ?_ | refine Or.inr ?_ | refine sat_drawH (Try.ok ..) (by kernel_rfl) ?_ | refine xi _ (And.intro rfl rfl) ?_ | refine xi _ (fun _ => And.intro rfl rfl) ?_ | refine xi _ rfl ?_)
    exact done_pure rfl rfl rfl
  · repeat' ((conv => whnf); first | refine walk (Try.ok ..) ?_ | (refine Cnd.mk (fun h => ?_) (fun h => ?_) <;> (first | exact cndT h (by (try dsimp only); omega) | exact cndF h (by (try dsimp only); omega) | (exfalso; simp at h; omega) | simp at h | skip)) | refine kp ?_ ?_ | refine tw ?_ ?_ | refine appnil rfl ?_ | refine rawnil rfl ?_ | exact trivial | refine side2 ?_ | refine sideL2 ?_ | refine Or.inr ?_ | refine sat_drawH (Try.ok ..) (by kernel_rfl) ?_ | refine xi _ (And.intro rfl rfl) ?_ | refine xi _ (fun _ => And.intro rfl rfl) ?_ | refine xi _ rfl ?_)
    (conv => whnf)
    refine calledQ_at (.v (.bool true)) rfl (fun _ w' hh => by exact writes_any l va w' (nla_below hA (below_of rfl rfl hh)) hf) ?_
    repeat' ((conv => whnf); first | refine walk (Try.ok ..) ?_ | (refine Cnd.mk (fun h => ?_) (fun h => ?_) <;> (first | exact cndT h (by (try dsimp only); omega) | exact cndF h (by (try dsimp only); omega) | (exfalso; simp at h; omega) | simp at h | skip)) | refine kp ?_ ?_ | refine tw ?_ ?_ | refine appnil rfl ?_ | refine rawnil rfl ?_ | exact trivial | refine side2 ?_ | refine sideL2 ?_ | refine Or.inr ?_ | refine sat_drawH (Try.ok ..) (by kernel_rfl) ?_ | refine xi _ (And.intro rfl rfl) ?_ | refine xi _ (fun _ => And.intro rfl rfl) ?_ | refine xi _ rfl ?_)
    (conv => whnf)
    refine called_pure (.v (.bool true)) rfl (fun w' => awake_any w') ?_
    repeat' ((conv => whnf); first | refine walk (Try.ok ..) ?_ | (refine Cnd.mk (fun h => ?_) (fun h => ?_) <;> (first | exact cndT h (by (try dsimp only); omega) | exact cndF h (by (try dsimp only); omega) | (exfalso; simp at h; omega) | simp at h | skip)) | refine kp ?_ ?_ | refine tw ?_ ?_ | refine appnil rfl ?_ | refine rawnil rfl ?_ | exact trivial | refine side2 ?_ | refine sideL2 ?_ | refine Or.inr ?_ | refine sat_drawH (Try.ok ..) (by kernel_rfl) ?_ | refine xi _ (And.intro rfl rfl) ?_ | refine xi _ (fun _ => And.intro rfl rfl) ?_ | refine xi _ rfl ?_)
    exact done_pure rfl rfl rfl
end Go.Proofs.Ytdejcgmaphmjbaa
