/-
  The walks of the laws of routes that compare with the reference.
-/
import Derived.Test.YtbpklalkoocneaaDoorAw
import Derived.Test.YtbpklalkoocneaaDoorX
import Derived.Test.YtbpklalkoocneaaDoorZ
namespace Go.Proofs.YtbpklalkoocneaaDoor
open Go Sat Go.RowKit Go.PlainAid
set_option linter.unusedSimpArgs false
set_option linter.unusedVariables false
set_option maxRecDepth 100000 in
set_option maxHeartbeats 8000000 in
theorem routeTells_any (l : List Cl) (A : Option (Nat × Nat)) (cap : Nat) (k t : Int) (s : ByteArray) (w : World) (hro : Ro w A l.length 3 (cells l)) (hl : l.length * 32 ≤ 140737488351232) (hw : Wf w) : Calls Tryd.prog 11 #[.slice (adr A) l.length cap, .int .i64 k, .int .i64 t, .string s] w fun e w' => e = .returned (.bool true) ∧ Below w.heap.size w w' := by
  refine calls_sat (cx := Tryd.cx 17 [] [] [] w) (Tryd.ok ..) Tryd.func11 rfl [.o 100 A l.length cap, .v (.int .i64 k), .v (.int .i64 t), .v (.string s)] rfl (by show 4 ≤ 17; omega) [(100, .ro A l.length 3 (cells l))] (holds_ros rfl rfl ⟨hro, trivial⟩) ?_
  repeat' ((conv => whnf); first
    | refine walk (Tryd.ok ..) ?_
    | refine walk (COk.with_ (Tryd.ok ..) _ _) ?_
    | refine walk (COk.with_ (COk.with_ (Tryd.ok ..) _ _) _ _) ?_
    | (refine Cnd.mk (fun h => ?_) (fun h => ?_) <;> (first | (exfalso; simp only [decide_eq_true_eq, decide_eq_false_iff_not, Bool.not_eq_true', Bool.not_eq_false'] at h; omega) | (exfalso; simp at h; omega) | simp at h | skip))
    | refine And.intro (Kept.mk ?_) ?_
    | refine Two.mk (And.intro ?_ ?_)
    | exact trivial
    | refine side ?_
    | refine sideL ?_
    | refine Or.inr ?_
    | refine sat_drawH (Tryd.ok ..) (by kernel_rfl) ?_
    | refine sat_drawH (COk.with_ (Tryd.ok ..) _ _) (by kernel_rfl) ?_
    | refine sat_drawH (COk.with_ (COk.with_ (Tryd.ok ..) _ _) _ _) (by kernel_rfl) ?_
    | refine Exists.intro [_] (And.intro (one_byte rfl) ?_)
    | refine Exists.intro [_] (And.intro (fun _ => one_byte rfl) ?_)
    | refine Exists.intro _ (And.intro (And.intro rfl rfl) ?_)
    | refine Exists.intro _ (And.intro (fun _ => And.intro rfl rfl) ?_)
    | refine Exists.intro _ (And.intro rfl ?_))
  refine called_at (.v (.bool true)) rfl (fun w' hh => tells_any l A cap k t s w' (ro_of_ro hh (id := 100) rfl) hl) ?_
  repeat' ((conv => whnf); first
    | refine walk (Tryd.ok ..) ?_
    | refine walk (COk.with_ (Tryd.ok ..) _ _) ?_
    | refine walk (COk.with_ (COk.with_ (Tryd.ok ..) _ _) _ _) ?_
    | (refine Cnd.mk (fun h => ?_) (fun h => ?_) <;> (first | (exfalso; simp only [decide_eq_true_eq, decide_eq_false_iff_not, Bool.not_eq_true', Bool.not_eq_false'] at h; omega) | (exfalso; simp at h; omega) | simp at h | skip))
    | refine And.intro (Kept.mk ?_) ?_
    | refine Two.mk (And.intro ?_ ?_)
    | exact trivial
    | refine side ?_
    | refine sideL ?_
    | refine Or.inr ?_
    | refine sat_drawH (Tryd.ok ..) (by kernel_rfl) ?_
    | refine sat_drawH (COk.with_ (Tryd.ok ..) _ _) (by kernel_rfl) ?_
    | refine sat_drawH (COk.with_ (COk.with_ (Tryd.ok ..) _ _) _ _) (by kernel_rfl) ?_
    | refine Exists.intro [_] (And.intro (one_byte rfl) ?_)
    | refine Exists.intro [_] (And.intro (fun _ => one_byte rfl) ?_)
    | refine Exists.intro _ (And.intro (And.intro rfl rfl) ?_)
    | refine Exists.intro _ (And.intro (fun _ => And.intro rfl rfl) ?_)
    | refine Exists.intro _ (And.intro rfl ?_))
  refine called_at (.v (.bool true)) rfl (fun w' hh => awake_any w' (hw.at_ rfl rfl hh)) ?_
  repeat' ((conv => whnf); first
    | refine walk (Tryd.ok ..) ?_
    | refine walk (COk.with_ (Tryd.ok ..) _ _) ?_
    | refine walk (COk.with_ (COk.with_ (Tryd.ok ..) _ _) _ _) ?_
    | (refine Cnd.mk (fun h => ?_) (fun h => ?_) <;> (first | (exfalso; simp only [decide_eq_true_eq, decide_eq_false_iff_not, Bool.not_eq_true', Bool.not_eq_false'] at h; omega) | (exfalso; simp at h; omega) | simp at h | skip))
    | refine And.intro (Kept.mk ?_) ?_
    | refine Two.mk (And.intro ?_ ?_)
    | exact trivial
    | refine side ?_
    | refine sideL ?_
    | refine Or.inr ?_
    | refine sat_drawH (Tryd.ok ..) (by kernel_rfl) ?_
    | refine sat_drawH (COk.with_ (Tryd.ok ..) _ _) (by kernel_rfl) ?_
    | refine sat_drawH (COk.with_ (COk.with_ (Tryd.ok ..) _ _) _ _) (by kernel_rfl) ?_
    | refine Exists.intro [_] (And.intro (one_byte rfl) ?_)
    | refine Exists.intro [_] (And.intro (fun _ => one_byte rfl) ?_)
    | refine Exists.intro _ (And.intro (And.intro rfl rfl) ?_)
    | refine Exists.intro _ (And.intro (fun _ => And.intro rfl rfl) ?_)
    | refine Exists.intro _ (And.intro rfl ?_))
  exact done_pure rfl rfl rfl
set_option maxRecDepth 100000 in
set_option maxHeartbeats 8000000 in
theorem routeDelays_any (l : List Cl) (A : Option (Nat × Nat)) (cap : Nat) (k t : Int) (w : World) (hro : Ro w A l.length 3 (cells l)) (hl : l.length * 32 ≤ 140737488351232) (hw : Wf w) : Calls Tryd.prog 3 #[.slice (adr A) l.length cap, .int .i64 k, .int .i64 t] w fun e w' => e = .returned (.bool true) ∧ Below w.heap.size w w' := by
  refine calls_sat (cx := Tryd.cx 14 [] [] [] w) (Tryd.ok ..) Tryd.func3 rfl [.o 100 A l.length cap, .v (.int .i64 k), .v (.int .i64 t)] rfl (by show 3 ≤ 14; omega) [(100, .ro A l.length 3 (cells l))] (holds_ros rfl rfl ⟨hro, trivial⟩) ?_
  repeat' ((conv => whnf); first
    | refine walk (Tryd.ok ..) ?_
    | refine walk (COk.with_ (Tryd.ok ..) _ _) ?_
    | refine walk (COk.with_ (COk.with_ (Tryd.ok ..) _ _) _ _) ?_
    | (refine Cnd.mk (fun h => ?_) (fun h => ?_) <;> (first | (exfalso; simp only [decide_eq_true_eq, decide_eq_false_iff_not, Bool.not_eq_true', Bool.not_eq_false'] at h; omega) | (exfalso; simp at h; omega) | simp at h | skip))
    | refine And.intro (Kept.mk ?_) ?_
    | refine Two.mk (And.intro ?_ ?_)
    | exact trivial
    | refine side ?_
    | refine sideL ?_
    | refine Or.inr ?_
    | refine sat_drawH (Tryd.ok ..) (by kernel_rfl) ?_
    | refine sat_drawH (COk.with_ (Tryd.ok ..) _ _) (by kernel_rfl) ?_
    | refine sat_drawH (COk.with_ (COk.with_ (Tryd.ok ..) _ _) _ _) (by kernel_rfl) ?_
    | refine Exists.intro [_] (And.intro (one_byte rfl) ?_)
    | refine Exists.intro [_] (And.intro (fun _ => one_byte rfl) ?_)
    | refine Exists.intro _ (And.intro (And.intro rfl rfl) ?_)
    | refine Exists.intro _ (And.intro (fun _ => And.intro rfl rfl) ?_)
    | refine Exists.intro _ (And.intro rfl ?_))
  refine called_at (.v (.bool true)) rfl (fun w' hh => delays_any l A cap k t w' (ro_of_ro hh (id := 100) rfl) hl) ?_
  repeat' ((conv => whnf); first
    | refine walk (Tryd.ok ..) ?_
    | refine walk (COk.with_ (Tryd.ok ..) _ _) ?_
    | refine walk (COk.with_ (COk.with_ (Tryd.ok ..) _ _) _ _) ?_
    | (refine Cnd.mk (fun h => ?_) (fun h => ?_) <;> (first | (exfalso; simp only [decide_eq_true_eq, decide_eq_false_iff_not, Bool.not_eq_true', Bool.not_eq_false'] at h; omega) | (exfalso; simp at h; omega) | simp at h | skip))
    | refine And.intro (Kept.mk ?_) ?_
    | refine Two.mk (And.intro ?_ ?_)
    | exact trivial
    | refine side ?_
    | refine sideL ?_
    | refine Or.inr ?_
    | refine sat_drawH (Tryd.ok ..) (by kernel_rfl) ?_
    | refine sat_drawH (COk.with_ (Tryd.ok ..) _ _) (by kernel_rfl) ?_
    | refine sat_drawH (COk.with_ (COk.with_ (Tryd.ok ..) _ _) _ _) (by kernel_rfl) ?_
    | refine Exists.intro [_] (And.intro (one_byte rfl) ?_)
    | refine Exists.intro [_] (And.intro (fun _ => one_byte rfl) ?_)
    | refine Exists.intro _ (And.intro (And.intro rfl rfl) ?_)
    | refine Exists.intro _ (And.intro (fun _ => And.intro rfl rfl) ?_)
    | refine Exists.intro _ (And.intro rfl ?_))
  refine called_at (.v (.bool true)) rfl (fun w' hh => awake_any w' (hw.at_ rfl rfl hh)) ?_
  repeat' ((conv => whnf); first
    | refine walk (Tryd.ok ..) ?_
    | refine walk (COk.with_ (Tryd.ok ..) _ _) ?_
    | refine walk (COk.with_ (COk.with_ (Tryd.ok ..) _ _) _ _) ?_
    | (refine Cnd.mk (fun h => ?_) (fun h => ?_) <;> (first | (exfalso; simp only [decide_eq_true_eq, decide_eq_false_iff_not, Bool.not_eq_true', Bool.not_eq_false'] at h; omega) | (exfalso; simp at h; omega) | simp at h | skip))
    | refine And.intro (Kept.mk ?_) ?_
    | refine Two.mk (And.intro ?_ ?_)
    | exact trivial
    | refine side ?_
    | refine sideL ?_
    | refine Or.inr ?_
    | refine sat_drawH (Tryd.ok ..) (by kernel_rfl) ?_
    | refine sat_drawH (COk.with_ (Tryd.ok ..) _ _) (by kernel_rfl) ?_
    | refine sat_drawH (COk.with_ (COk.with_ (Tryd.ok ..) _ _) _ _) (by kernel_rfl) ?_
    | refine Exists.intro [_] (And.intro (one_byte rfl) ?_)
    | refine Exists.intro [_] (And.intro (fun _ => one_byte rfl) ?_)
    | refine Exists.intro _ (And.intro (And.intro rfl rfl) ?_)
    | refine Exists.intro _ (And.intro (fun _ => And.intro rfl rfl) ?_)
    | refine Exists.intro _ (And.intro rfl ?_))
  exact done_pure rfl rfl rfl
set_option maxRecDepth 100000 in
set_option maxHeartbeats 8000000 in
theorem routeTexts_any (c : Cl) (s : ByteArray) (w : World) (hs : s.size ≤ 4294967280) (hw : Wf w) : Calls Tryd.prog 4 #[.agg #[.string c.p, .int .i64 c.t, .int .i64 c.d], .string s] w fun e w' => e = .returned (.bool true) ∧ Below w.heap.size w w' := by
  refine calls_sat (cx := Tryd.cx 11 [] [] [] w) (Tryd.ok ..) Tryd.func4 rfl [sC c, .v (.string s)] rfl (by show 2 ≤ 11; omega) [] (holds_nil (Nat.le_refl _)) ?_
  repeat' ((conv => whnf); first
    | refine walk (Tryd.ok ..) ?_
    | refine walk (COk.with_ (Tryd.ok ..) _ _) ?_
    | refine walk (COk.with_ (COk.with_ (Tryd.ok ..) _ _) _ _) ?_
    | (refine Cnd.mk (fun h => ?_) (fun h => ?_) <;> (first | (exfalso; simp only [decide_eq_true_eq, decide_eq_false_iff_not, Bool.not_eq_true', Bool.not_eq_false'] at h; omega) | (exfalso; simp at h; omega) | simp at h | skip))
    | refine And.intro (Kept.mk ?_) ?_
    | refine Two.mk (And.intro ?_ ?_)
    | exact trivial
    | refine side ?_
    | refine sideL ?_
    | refine Or.inr ?_
    | refine sat_drawH (Tryd.ok ..) (by kernel_rfl) ?_
    | refine sat_drawH (COk.with_ (Tryd.ok ..) _ _) (by kernel_rfl) ?_
    | refine sat_drawH (COk.with_ (COk.with_ (Tryd.ok ..) _ _) _ _) (by kernel_rfl) ?_
    | refine Exists.intro [_] (And.intro (one_byte rfl) ?_)
    | refine Exists.intro [_] (And.intro (fun _ => one_byte rfl) ?_)
    | refine Exists.intro _ (And.intro (And.intro rfl rfl) ?_)
    | refine Exists.intro _ (And.intro (fun _ => And.intro rfl rfl) ?_)
    | refine Exists.intro _ (And.intro rfl ?_))
  intro g hg
  repeat' ((conv => whnf); first
    | refine walk (Tryd.ok ..) ?_
    | refine walk (COk.with_ (Tryd.ok ..) _ _) ?_
    | refine walk (COk.with_ (COk.with_ (Tryd.ok ..) _ _) _ _) ?_
    | (refine Cnd.mk (fun h => ?_) (fun h => ?_) <;> (first | (exfalso; simp only [decide_eq_true_eq, decide_eq_false_iff_not, Bool.not_eq_true', Bool.not_eq_false'] at h; omega) | (exfalso; simp at h; omega) | simp at h | skip))
    | refine And.intro (Kept.mk ?_) ?_
    | refine Two.mk (And.intro ?_ ?_)
    | exact trivial
    | refine side ?_
    | refine sideL ?_
    | refine Or.inr ?_
    | refine sat_drawH (Tryd.ok ..) (by kernel_rfl) ?_
    | refine sat_drawH (COk.with_ (Tryd.ok ..) _ _) (by kernel_rfl) ?_
    | refine sat_drawH (COk.with_ (COk.with_ (Tryd.ok ..) _ _) _ _) (by kernel_rfl) ?_
    | refine Exists.intro [_] (And.intro (one_byte rfl) ?_)
    | refine Exists.intro [_] (And.intro (fun _ => one_byte rfl) ?_)
    | refine Exists.intro _ (And.intro (And.intro rfl rfl) ?_)
    | refine Exists.intro _ (And.intro (fun _ => And.intro rfl rfl) ?_)
    | refine Exists.intro _ (And.intro rfl ?_))
  refine called_at (.v (.bool true)) rfl (fun w' hh => texts_any c s w' hs (hw.at_ rfl rfl hh)) ?_
  repeat' ((conv => whnf); first
    | refine walk (Tryd.ok ..) ?_
    | refine walk (COk.with_ (Tryd.ok ..) _ _) ?_
    | refine walk (COk.with_ (COk.with_ (Tryd.ok ..) _ _) _ _) ?_
    | (refine Cnd.mk (fun h => ?_) (fun h => ?_) <;> (first | (exfalso; simp only [decide_eq_true_eq, decide_eq_false_iff_not, Bool.not_eq_true', Bool.not_eq_false'] at h; omega) | (exfalso; simp at h; omega) | simp at h | skip))
    | refine And.intro (Kept.mk ?_) ?_
    | refine Two.mk (And.intro ?_ ?_)
    | exact trivial
    | refine side ?_
    | refine sideL ?_
    | refine Or.inr ?_
    | refine sat_drawH (Tryd.ok ..) (by kernel_rfl) ?_
    | refine sat_drawH (COk.with_ (Tryd.ok ..) _ _) (by kernel_rfl) ?_
    | refine sat_drawH (COk.with_ (COk.with_ (Tryd.ok ..) _ _) _ _) (by kernel_rfl) ?_
    | refine Exists.intro [_] (And.intro (one_byte rfl) ?_)
    | refine Exists.intro [_] (And.intro (fun _ => one_byte rfl) ?_)
    | refine Exists.intro _ (And.intro (And.intro rfl rfl) ?_)
    | refine Exists.intro _ (And.intro (fun _ => And.intro rfl rfl) ?_)
    | refine Exists.intro _ (And.intro rfl ?_))
  refine called_at (.v (.bool true)) rfl (fun w' hh => awake_any w' (hw.at_ rfl rfl hh)) ?_
  repeat' ((conv => whnf); first
    | refine walk (Tryd.ok ..) ?_
    | refine walk (COk.with_ (Tryd.ok ..) _ _) ?_
    | refine walk (COk.with_ (COk.with_ (Tryd.ok ..) _ _) _ _) ?_
    | (refine Cnd.mk (fun h => ?_) (fun h => ?_) <;> (first | (exfalso; simp only [decide_eq_true_eq, decide_eq_false_iff_not, Bool.not_eq_true', Bool.not_eq_false'] at h; omega) | (exfalso; simp at h; omega) | simp at h | skip))
    | refine And.intro (Kept.mk ?_) ?_
    | refine Two.mk (And.intro ?_ ?_)
    | exact trivial
    | refine side ?_
    | refine sideL ?_
    | refine Or.inr ?_
    | refine sat_drawH (Tryd.ok ..) (by kernel_rfl) ?_
    | refine sat_drawH (COk.with_ (Tryd.ok ..) _ _) (by kernel_rfl) ?_
    | refine sat_drawH (COk.with_ (COk.with_ (Tryd.ok ..) _ _) _ _) (by kernel_rfl) ?_
    | refine Exists.intro [_] (And.intro (one_byte rfl) ?_)
    | refine Exists.intro [_] (And.intro (fun _ => one_byte rfl) ?_)
    | refine Exists.intro _ (And.intro (And.intro rfl rfl) ?_)
    | refine Exists.intro _ (And.intro (fun _ => And.intro rfl rfl) ?_)
    | refine Exists.intro _ (And.intro rfl ?_))
  exact done_pure rfl rfl rfl
end Go.Proofs.YtbpklalkoocneaaDoor

