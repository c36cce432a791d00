/-
  The walks of the route package: whether the ship is at a call.
-/
import Derived.Test.YtbpklalkoocneaaDoorD
namespace Go.Proofs.YtbpklalkoocneaaDoor
open Go Sat Go.RowKit Go.PlainAid
set_option linter.unusedSimpArgs false
set_option linter.unusedVariables false
def atB (l : List Cl) (t k : Int) : Bool := (whB l t == decide (0 ≤ k)) && (whK l t == max k 0)
set_option maxRecDepth 100000 in
set_option maxHeartbeats 8000000 in
theorem at_any (l : List Cl) (A : Option (Nat × Nat)) (cap : Nat) (t k : Int) (w : World) (hro : Ro w A l.length 3 (cells l)) (hl : l.length ≤ 9223372036854775807) : Calls Tryd.prog 23 #[.slice (adr A) l.length cap, .int .i64 t, .int .i64 k] w fun e w' => e = .returned (.bool (atB l t k)) ∧ Below w.heap.size w w' := by
  refine calls_sat (cx := Tryd.cx 25 [] [] [] w) (Tryd.ok ..) Tryd.func23 rfl [.o 100 A l.length cap, .v (.int .i64 t), .v (.int .i64 k)] rfl (by show 3 ≤ 25; omega) [(100, .ro A l.length 3 (cells l))] (holds_ros rfl rfl ⟨hro, trivial⟩) ?_
  repeat' ((conv => whnf); first
    | refine walk (Tryd.ok ..) ?_
    | refine walk (COk.with_ (Tryd.ok ..) _ _) ?_
    | refine walk (COk.with_ (COk.with_ (Tryd.ok ..) _ _) _ _) ?_
    | (refine Cnd.mk (fun h => ?_) (fun h => ?_) <;> (first | (exfalso; simp only [decide_eq_true_eq, decide_eq_false_iff_not, Bool.not_eq_true', Bool.not_eq_false'] at h; omega) | (exfalso; simp at h; omega) | simp at h | skip))
    | refine And.intro (Kept.mk ?_) ?_
    | refine Two.mk (And.intro ?_ ?_)
    | exact trivial
    | refine side ?_
    | refine sideL ?_
    | refine Or.inr ?_
    | refine sat_drawH (Tryd.ok ..) (by kernel_rfl) ?_
    | refine sat_drawH (COk.with_ (Tryd.ok ..) _ _) (by kernel_rfl) ?_
    | refine sat_drawH (COk.with_ (COk.with_ (Tryd.ok ..) _ _) _ _) (by kernel_rfl) ?_
    | refine Exists.intro [_] (And.intro (one_byte rfl) ?_)
    | refine Exists.intro [_] (And.intro (fun _ => one_byte rfl) ?_)
    | refine Exists.intro _ (And.intro (And.intro rfl rfl) ?_)
    | refine Exists.intro _ (And.intro (fun _ => And.intro rfl rfl) ?_)
    | refine Exists.intro _ (And.intro rfl ?_))
  refine called_at (.t [.v (.int .i64 (whK l t)), .v (.bool (whB l t))]) rfl (fun w' hw => where_any l A cap t w' (ro_of_ro hw (id := 100) rfl) hl) ?_
  repeat' ((conv => whnf); first
    | refine walk (Tryd.ok ..) ?_
    | refine walk (COk.with_ (Tryd.ok ..) _ _) ?_
    | refine walk (COk.with_ (COk.with_ (Tryd.ok ..) _ _) _ _) ?_
    | (refine Cnd.mk (fun h => ?_) (fun h => ?_) <;> (first | (exfalso; simp only [decide_eq_true_eq, decide_eq_false_iff_not, Bool.not_eq_true', Bool.not_eq_false'] at h; omega) | (exfalso; simp at h; omega) | simp at h | skip))
    | refine And.intro (Kept.mk ?_) ?_
    | refine Two.mk (And.intro ?_ ?_)
    | exact trivial
    | refine side ?_
    | refine sideL ?_
    | refine Or.inr ?_
    | refine sat_drawH (Tryd.ok ..) (by kernel_rfl) ?_
    | refine sat_drawH (COk.with_ (Tryd.ok ..) _ _) (by kernel_rfl) ?_
    | refine sat_drawH (COk.with_ (COk.with_ (Tryd.ok ..) _ _) _ _) (by kernel_rfl) ?_
    | refine Exists.intro [_] (And.intro (one_byte rfl) ?_)
    | refine Exists.intro [_] (And.intro (fun _ => one_byte rfl) ?_)
    | refine Exists.intro _ (And.intro (And.intro rfl rfl) ?_)
    | refine Exists.intro _ (And.intro (fun _ => And.intro rfl rfl) ?_)
    | refine Exists.intro _ (And.intro rfl ?_))
  exact done_pure rfl rfl rfl
end Go.Proofs.YtbpklalkoocneaaDoor

