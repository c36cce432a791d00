/-
  The walks of the route package: calls.
-/
import Derived.Test.YtbpklalkoocneaaDoorTab
import Derived.Test.YtbpklalkoocneaaDoorPlain
import Derived.Test.YtbpklalkoocneaaDoorUpper
import Derived.Test.YtbpklalkoocneaaDoorShelf
namespace Go.Proofs.YtbpklalkoocneaaDoor
open Go Sat Go.RowKit Go.PlainAid
set_option linter.unusedSimpArgs false
set_option linter.unusedVariables false
theorem small_any (w : World) : PredAtRunes Tryd.prog 41 #[] noCap w := fun W r hr _ => by
  unfold FnGives noCap
  by_cases h1 : r < 65 <;> by_cases h2 : 90 < r
  all_goals
    have z1 : (r : Int) < 65 ↔ r < 65 := by omega
    have z2 : (90 : Int) < (r : Int) ↔ 90 < r := by omega
    go_enter Tryd.func41, Tryd.ntmps41
    go_wp2
    all_goals first | (exfalso; omega) | (go_ret; exact ⟨by simp [h1, h2], 0, rfl⟩)
theorem upTo_iff (s : ByteArray) : ∀ k, upTo s k = true ↔ ∀ i, i < k → 65 ≤ bt s i ∧ bt s i ≤ 90 := fun k => by
  unfold upTo
  simp
theorem cf_any (s : ByteArray) (w : World) : Calls Tryd.prog 42 #[.string s, .func (.func 41) #[] #[]] w fun e w' => e = .returned (.bool (!upB s)) ∧ Below w.heap.size w w' := by
  have h := Tryd.strings_ContainsFunc_runes 41 #[] (enters_of Tryd.func41 (by kernel_rfl) rfl) noCap s w (small_any w)
  refine h.mono ?_
  rintro e w' ⟨rfl, hb⟩
  refine ⟨congrArg (fun b => Ending.returned (.bool b)) ?_, hb⟩
  rw [Bool.eq_iff_iff]
  simp only [decide_eq_true_eq, Bool.not_eq_true']
  rw [caps_iff]
  constructor
  · rintro ⟨i, hi, h⟩
    rw [← Bool.not_eq_true]
    intro hu
    exact h ((upTo_iff s s.size).1 hu i hi)
  · intro hu
    rw [← Bool.not_eq_true] at hu
    refine Classical.byContradiction fun hn => hu ((upTo_iff s s.size).2 fun i hi => Classical.byContradiction fun hc => hn ⟨i, hi, hc⟩)
def sC (c : Cl) : SV := .a [.v (.string c.p), .v (.int .i64 c.t), .v (.int .i64 c.d)]
set_option maxRecDepth 100000 in
set_option maxHeartbeats 8000000 in
theorem right_any (c : Cl) (w : World) : Calls Tryd.prog 21 #[.agg #[.string c.p, .int .i64 c.t, .int .i64 c.d]] w fun e w' => e = .returned (.bool (rightC c)) ∧ Below w.heap.size w w' := by
  refine calls_sat (cx := Tryd.cx 35 [] [] [] w) (Tryd.ok ..) Tryd.func21 rfl [sC c] rfl (by show 1 ≤ 35; omega) [] (holds_nil (Nat.le_refl _)) ?_
  repeat' ((conv => whnf); first
    | refine walk (Tryd.ok ..) ?_
    | refine walk (COk.with_ (Tryd.ok ..) _ _) ?_
    | refine walk (COk.with_ (COk.with_ (Tryd.ok ..) _ _) _ _) ?_
    | (refine Cnd.mk (fun h => ?_) (fun h => ?_) <;> (first | (exfalso; simp only [decide_eq_true_eq, decide_eq_false_iff_not, Bool.not_eq_true', Bool.not_eq_false'] at h; omega) | (exfalso; simp at h; omega) | simp at h | skip))
    | refine And.intro (Kept.mk ?_) ?_
    | refine Two.mk (And.intro ?_ ?_)
    | exact trivial
    | refine side ?_
    | refine sideL ?_
    | refine Or.inr ?_
    | refine sat_drawH (Tryd.ok ..) (by kernel_rfl) ?_
    | refine sat_drawH (COk.with_ (Tryd.ok ..) _ _) (by kernel_rfl) ?_
    | refine sat_drawH (COk.with_ (COk.with_ (Tryd.ok ..) _ _) _ _) (by kernel_rfl) ?_
    | refine Exists.intro [_] (And.intro (one_byte rfl) ?_)
    | refine Exists.intro [_] (And.intro (fun _ => one_byte rfl) ?_)
    | refine Exists.intro _ (And.intro (And.intro rfl rfl) ?_)
    | refine Exists.intro _ (And.intro (fun _ => And.intro rfl rfl) ?_)
    | refine Exists.intro _ (And.intro rfl ?_)
    | intro g hg)
  all_goals (try (conv => whnf))
  refine calledQ_pure (.v (.bool (!upB c.p))) rfl (fun _ w' => cf_any _ w') ?_
  repeat' ((conv => whnf); first
    | refine walk (Tryd.ok ..) ?_
    | refine walk (COk.with_ (Tryd.ok ..) _ _) ?_
    | refine walk (COk.with_ (COk.with_ (Tryd.ok ..) _ _) _ _) ?_
    | (refine Cnd.mk (fun h => ?_) (fun h => ?_) <;> (first | (exfalso; simp only [decide_eq_true_eq, decide_eq_false_iff_not, Bool.not_eq_true', Bool.not_eq_false'] at h; omega) | (exfalso; simp at h; omega) | simp at h | skip))
    | refine And.intro (Kept.mk ?_) ?_
    | refine Two.mk (And.intro ?_ ?_)
    | exact trivial
    | refine side ?_
    | refine sideL ?_
    | refine Or.inr ?_
    | refine sat_drawH (Tryd.ok ..) (by kernel_rfl) ?_
    | refine sat_drawH (COk.with_ (Tryd.ok ..) _ _) (by kernel_rfl) ?_
    | refine sat_drawH (COk.with_ (COk.with_ (Tryd.ok ..) _ _) _ _) (by kernel_rfl) ?_
    | refine Exists.intro [_] (And.intro (one_byte rfl) ?_)
    | refine Exists.intro [_] (And.intro (fun _ => one_byte rfl) ?_)
    | refine Exists.intro _ (And.intro (And.intro rfl rfl) ?_)
    | refine Exists.intro _ (And.intro (fun _ => And.intro rfl rfl) ?_)
    | refine Exists.intro _ (And.intro rfl ?_)
    | intro g hg)
  refine done_pure rfl rfl (congrArg Value.bool ?_)
  unfold rightC
  rw [Bool.eq_iff_iff]
  simp
  omega
end Go.Proofs.YtbpklalkoocneaaDoor

