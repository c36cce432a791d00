/-
  The walks of the route package's reference: the limit.
-/
import Derived.Test.YtbpklalkoocneaaDoorB
namespace Go.Proofs.YtbpklalkoocneaaDoor
open Go Sat Go.RowKit Go.PlainAid
set_option linter.unusedSimpArgs false
set_option linter.unusedVariables false
theorem at_d {l : List Cl} {i : Int} {k : Nat} {c : Cl} (hc : l[k]? = some c) (hi : i = k) : (cells l)[mulS i.toNat 3 + 2]? = some (.int .i64 c.d) := by
  rw [mulS_eq, hi, Int.toNat_natCast]
  exact (cells_get hc).2.2
/-- what the reference yields of two draughts -/
def rl2 (a b : Int) : Int := if a < 1 ∧ b < 1 then 0 else if a < 1 ∨ (1 ≤ b ∧ b < a) then b else a
def rlI (l : List Cl) (k : Int) : Int := rl2 (if 0 ≤ k ∧ k < l.length then (match l[k.toNat]? with | some a => a.d | none => 0) else 0) (if 0 ≤ k ∧ k + 1 < l.length then (match l[k.toNat + 1]? with | some b => b.d | none => 0) else 0)
set_option maxRecDepth 100000 in
set_option maxHeartbeats 8000000 in
theorem rlimit_any (l : List Cl) (A : Option (Nat × Nat)) (cap : Nat) (k : Int) (w : World) (hro : Ro w A l.length 3 (cells l)) (hl : l.length ≤ 9223372036854775805) : Calls Tryd.prog 46 #[.slice (adr A) l.length cap, .int .i64 k] w fun e w' => e = .returned (.int .i64 (rlI l k)) ∧ Below w.heap.size w w' := by
  refine calls_sat (cx := Tryd.cx 50 [] [] [] w) (Tryd.ok ..) Tryd.func46 rfl [.o 100 A l.length cap, .v (.int .i64 k)] rfl (by show 2 ≤ 50; omega) [(100, .ro A l.length 3 (cells l))] (holds_ros rfl rfl ⟨hro, trivial⟩) ?_
  by_cases h0 : 0 ≤ k ∧ k < l.length
  · obtain ⟨a, ha⟩ : ∃ c, l[k.toNat]? = some c := ⟨l[k.toNat]'(by omega), List.getElem?_eq_getElem (by omega)⟩
    have hka : k = (k.toNat : Nat) := by omega
    by_cases h1 : k + 1 < l.length
    · obtain ⟨b, hb⟩ : ∃ c, l[k.toNat + 1]? = some c := ⟨l[k.toNat + 1]'(by omega), List.getElem?_eq_getElem (by omega)⟩
      have hkb : k + 1 = ((k.toNat + 1 : Nat) : Int) := by omega
      have hr : rlI l k = rl2 a.d b.d := by unfold rlI; rw [if_pos h0, if_pos ⟨h0.1, h1⟩, ha, hb]
      rw [hr]
      repeat' ((conv => whnf); first
        | refine walk (Tryd.ok ..) ?_
        | refine walk (COk.with_ (Tryd.ok ..) _ _) ?_
        | refine walk (COk.with_ (COk.with_ (Tryd.ok ..) _ _) _ _) ?_
        | (refine Cnd.mk (fun h => ?_) (fun h => ?_) <;> (first | (exfalso; simp only [decide_eq_true_eq, decide_eq_false_iff_not, Bool.not_eq_true', Bool.not_eq_false'] at h; omega) | (exfalso; simp at h; omega) | simp at h | skip))
        | refine And.intro (Kept.mk ?_) ?_
        | refine Two.mk (And.intro ?_ ?_)
        | exact trivial
        | refine side ?_
        | refine sideL ?_
        | refine Or.inr ?_
        | refine sat_drawH (Tryd.ok ..) (by kernel_rfl) ?_
        | refine sat_drawH (COk.with_ (Tryd.ok ..) _ _) (by kernel_rfl) ?_
        | refine sat_drawH (COk.with_ (COk.with_ (Tryd.ok ..) _ _) _ _) (by kernel_rfl) ?_
        | refine Exists.intro [_] (And.intro (one_byte rfl) ?_)
        | refine Exists.intro [_] (And.intro (fun _ => one_byte rfl) ?_)
        | refine Exists.intro _ (And.intro (And.intro rfl rfl) ?_)
        | refine Exists.intro _ (And.intro (fun _ => And.intro rfl rfl) ?_)
        | refine Exists.intro _ (And.intro rfl ?_)
        | refine Exists.intro _ (And.intro (fun _ => (at_d ha hka)) ?_)
        | refine Exists.intro _ (And.intro (at_d ha hka) ?_)
        | refine Exists.intro _ (And.intro (fun _ => (at_d hb hkb)) ?_)
        | refine Exists.intro _ (And.intro (at_d hb hkb) ?_))
      all_goals exact done_pure rfl rfl (congrArg (Value.int .i64) (by unfold rl2; (repeat' split) <;> omega))
    · have hr : rlI l k = rl2 a.d 0 := by unfold rlI; rw [if_pos h0, if_neg (by omega), ha]
      rw [hr]
      repeat' ((conv => whnf); first
        | refine walk (Tryd.ok ..) ?_
        | refine walk (COk.with_ (Tryd.ok ..) _ _) ?_
        | refine walk (COk.with_ (COk.with_ (Tryd.ok ..) _ _) _ _) ?_
        | (refine Cnd.mk (fun h => ?_) (fun h => ?_) <;> (first | (exfalso; simp only [decide_eq_true_eq, decide_eq_false_iff_not, Bool.not_eq_true', Bool.not_eq_false'] at h; omega) | (exfalso; simp at h; omega) | simp at h | skip))
        | refine And.intro (Kept.mk ?_) ?_
        | refine Two.mk (And.intro ?_ ?_)
        | exact trivial
        | refine side ?_
        | refine sideL ?_
        | refine Or.inr ?_
        | refine sat_drawH (Tryd.ok ..) (by kernel_rfl) ?_
        | refine sat_drawH (COk.with_ (Tryd.ok ..) _ _) (by kernel_rfl) ?_
        | refine sat_drawH (COk.with_ (COk.with_ (Tryd.ok ..) _ _) _ _) (by kernel_rfl) ?_
        | refine Exists.intro [_] (And.intro (one_byte rfl) ?_)
        | refine Exists.intro [_] (And.intro (fun _ => one_byte rfl) ?_)
        | refine Exists.intro _ (And.intro (And.intro rfl rfl) ?_)
        | refine Exists.intro _ (And.intro (fun _ => And.intro rfl rfl) ?_)
        | refine Exists.intro _ (And.intro rfl ?_)
        | refine Exists.intro _ (And.intro (fun _ => (at_d ha hka)) ?_)
        | refine Exists.intro _ (And.intro (at_d ha hka) ?_))
      all_goals exact done_pure rfl rfl (congrArg (Value.int .i64) (by unfold rl2; (repeat' split) <;> omega))
  · have hr : rlI l k = rl2 0 0 := by unfold rlI; rw [if_neg h0, if_neg (by omega)]
    rw [hr]
    repeat' ((conv => whnf); first
      | refine walk (Tryd.ok ..) ?_
      | refine walk (COk.with_ (Tryd.ok ..) _ _) ?_
      | refine walk (COk.with_ (COk.with_ (Tryd.ok ..) _ _) _ _) ?_
      | (refine Cnd.mk (fun h => ?_) (fun h => ?_) <;> (first | (exfalso; simp only [decide_eq_true_eq, decide_eq_false_iff_not, Bool.not_eq_true', Bool.not_eq_false'] at h; omega) | (exfalso; simp at h; omega) | simp at h | skip))
      | refine And.intro (Kept.mk ?_) ?_
      | refine Two.mk (And.intro ?_ ?_)
      | exact trivial
      | refine side ?_
      | refine sideL ?_
      | refine Or.inr ?_
      | refine sat_drawH (Tryd.ok ..) (by kernel_rfl) ?_
      | refine sat_drawH (COk.with_ (Tryd.ok ..) _ _) (by kernel_rfl) ?_
      | refine sat_drawH (COk.with_ (COk.with_ (Tryd.ok ..) _ _) _ _) (by kernel_rfl) ?_
      | refine Exists.intro [_] (And.intro (one_byte rfl) ?_)
      | refine Exists.intro [_] (And.intro (fun _ => one_byte rfl) ?_)
      | refine Exists.intro _ (And.intro (And.intro rfl rfl) ?_)
      | refine Exists.intro _ (And.intro (fun _ => And.intro rfl rfl) ?_)
      | refine Exists.intro _ (And.intro rfl ?_))
    all_goals exact done_pure rfl rfl (congrArg (Value.int .i64) (by unfold rl2; (repeat' split) <;> omega))
end Go.Proofs.YtbpklalkoocneaaDoor

