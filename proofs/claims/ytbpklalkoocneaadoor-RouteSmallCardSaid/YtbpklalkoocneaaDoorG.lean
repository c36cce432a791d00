/-
  The walks of the route package: two routes that are the same.
-/
import Derived.Test.YtbpklalkoocneaaDoorB
namespace Go.Proofs.YtbpklalkoocneaaDoor
open Go Sat Go.RowKit Go.PlainAid
set_option linter.unusedSimpArgs false
set_option linter.unusedVariables false
def sameC (a b : Cl) : Bool := a.p == b.p && (a.t == b.t && (a.d == b.d && true))
def sameTo (l m : List Cl) : Nat → Bool
  | 0 => true
  | k + 1 => sameTo l m k && (match l[k]?, m[k]? with
    | some a, some b => sameC a b
    | _, _ => true)
theorem sameTo_at {l m : List Cl} {k : Nat} {a b : Cl} (ha : l[k]? = some a) (hb : m[k]? = some b) : sameTo l m (k + 1) = (sameTo l m k && sameC a b) := by rw [sameTo, ha, hb]
theorem sameTo_no {l m : List Cl} {k n : Nat} (h : sameTo l m k = false) (hk : k ≤ n) : sameTo l m n = false := by
  induction n with
  | zero => obtain rfl : k = 0 := by omega
            exact h
  | succ n ih =>
    by_cases e : k = n + 1
    · rw [← e]; exact h
    · rw [sameTo, ih (by omega)]; rfl
def sameB (l m : List Cl) : Bool := decide (l.length = m.length) && sameTo l m l.length
set_option maxRecDepth 100000 in
set_option maxHeartbeats 8000000 in
theorem same_any (l m : List Cl) (A A2 : Option (Nat × Nat)) (cap cap2 : Nat) (w : World) (hro : Ro w A l.length 3 (cells l)) (hro2 : Ro w A2 m.length 3 (cells m)) (hl : l.length ≤ 9223372036854775806) : Calls Tryd.prog 27 #[.slice (adr A) l.length cap, .slice (adr A2) m.length cap2] w fun e w' => e = .returned (.bool (sameB l m)) ∧ Below w.heap.size w w' := by
  refine calls_sat (cx := Tryd.cx 26 [] [] [] w) (Tryd.ok ..) Tryd.func27 rfl [.o 100 A l.length cap, .o 101 A2 m.length cap2] rfl (by show 2 ≤ 26; omega) [(100, .ro A l.length 3 (cells l)), (101, .ro A2 m.length 3 (cells m))] (holds_ros rfl rfl ⟨hro, hro2, trivial⟩) ?_
  repeat' ((conv => whnf); first
    | refine walk (Tryd.ok ..) ?_
    | refine walk (COk.with_ (Tryd.ok ..) _ _) ?_
    | refine walk (COk.with_ (COk.with_ (Tryd.ok ..) _ _) _ _) ?_
    | (refine Cnd.mk (fun h => ?_) (fun h => ?_) <;> (first | (exfalso; simp only [decide_eq_true_eq, decide_eq_false_iff_not, Bool.not_eq_true', Bool.not_eq_false'] at h; omega) | (exfalso; simp at h; omega) | simp at h | skip))
    | refine And.intro (Kept.mk ?_) ?_
    | refine Two.mk (And.intro ?_ ?_)
    | exact trivial
    | refine side ?_
    | refine sideL ?_
    | refine Or.inr ?_
    | refine sat_drawH (Tryd.ok ..) (by kernel_rfl) ?_
    | refine sat_drawH (COk.with_ (Tryd.ok ..) _ _) (by kernel_rfl) ?_
    | refine sat_drawH (COk.with_ (COk.with_ (Tryd.ok ..) _ _) _ _) (by kernel_rfl) ?_
    | refine Exists.intro [_] (And.intro (one_byte rfl) ?_)
    | refine Exists.intro [_] (And.intro (fun _ => one_byte rfl) ?_)
    | refine Exists.intro _ (And.intro (And.intro rfl rfl) ?_)
    | refine Exists.intro _ (And.intro (fun _ => And.intro rfl rfl) ?_)
    | refine Exists.intro _ (And.intro rfl ?_))
  · exact done_pure rfl rfl (congrArg Value.bool (by unfold sameB; rw [decide_eq_false (by omega)]; rfl))
  have hlm : l.length = m.length := by omega
  refine sat_loop (Tryd.ok ..) (α := Nat) (fun x => ([(0, .yes, .o 100 A l.length cap), (1, .yes, .o 101 A2 m.length cap2), (5, .yes, .v (.int .i64 x))], [(100, .ro A l.length 3 (cells l)), (101, .ro A2 m.length 3 (cells m))])) (fun x => x ≤ l.length ∧ sameTo l m x = true) (fun x => l.length - x) (fun _ => rfl) ?_ ?_
  · refine ⟨0, ⟨by omega, rfl⟩, ?_, ?_, rfl⟩
    all_goals ((repeat' (first | exact trivial | exact rfl | refine And.intro ?_ ?_)) <;> (try (conv => whnf)) <;> (try simp only [SV.real, SV.r2, SV.r1]))
  rintro k ⟨hk, hok⟩
  by_cases hk1 : k < l.length
  · obtain ⟨a, ha⟩ : ∃ c, l[k]? = some c := ⟨l[k], List.getElem?_eq_getElem hk1⟩
    obtain ⟨b, hb⟩ : ∃ c, m[k]? = some c := ⟨m[k]'(by omega), List.getElem?_eq_getElem (by omega)⟩
    repeat' ((conv => whnf); first
      | refine walk (Tryd.ok ..) ?_
      | refine walk (COk.with_ (Tryd.ok ..) _ _) ?_
      | refine walk (COk.with_ (COk.with_ (Tryd.ok ..) _ _) _ _) ?_
      | (refine Cnd.mk (fun h => ?_) (fun h => ?_) <;> (first | (exfalso; simp only [decide_eq_true_eq, decide_eq_false_iff_not, Bool.not_eq_true', Bool.not_eq_false'] at h; omega) | (exfalso; simp at h; omega) | simp at h | skip))
      | refine And.intro (Kept.mk ?_) ?_
      | refine Two.mk (And.intro ?_ ?_)
      | exact trivial
      | refine side ?_
      | refine sideL ?_
      | refine Or.inr ?_
      | refine sat_drawH (Tryd.ok ..) (by kernel_rfl) ?_
      | refine sat_drawH (COk.with_ (Tryd.ok ..) _ _) (by kernel_rfl) ?_
      | refine sat_drawH (COk.with_ (COk.with_ (Tryd.ok ..) _ _) _ _) (by kernel_rfl) ?_
      | refine Exists.intro [_] (And.intro (one_byte rfl) ?_)
      | refine Exists.intro [_] (And.intro (fun _ => one_byte rfl) ?_)
      | refine Exists.intro _ (And.intro (And.intro rfl rfl) ?_)
      | refine Exists.intro _ (And.intro (fun _ => And.intro rfl rfl) ?_)
      | refine Exists.intro _ (And.intro rfl ?_)
      | refine Exists.intro _ (And.intro (fun _ => (at_c ha rfl)) ?_)
      | refine Exists.intro _ (And.intro (at_c ha rfl) ?_)
      | refine Exists.intro _ (And.intro (fun _ => (at_c hb rfl)) ?_)
      | refine Exists.intro _ (And.intro (at_c hb rfl) ?_))
    refine eqAgg_neq _ Tryd.eqg26 (fun w => Tryd.eq26 _ _ _ _ _ _ w) ?_
    repeat' ((conv => whnf); first
      | refine walk (Tryd.ok ..) ?_
      | refine walk (COk.with_ (Tryd.ok ..) _ _) ?_
      | refine walk (COk.with_ (COk.with_ (Tryd.ok ..) _ _) _ _) ?_
      | (refine Cnd.mk (fun h => ?_) (fun h => ?_) <;> (first | (exfalso; simp only [decide_eq_true_eq, decide_eq_false_iff_not, Bool.not_eq_true', Bool.not_eq_false'] at h; omega) | (exfalso; simp at h; omega) | simp at h | skip))
      | refine And.intro (Kept.mk ?_) ?_
      | refine Two.mk (And.intro ?_ ?_)
      | exact trivial
      | refine side ?_
      | refine sideL ?_
      | refine Or.inr ?_
      | refine sat_drawH (Tryd.ok ..) (by kernel_rfl) ?_
      | refine sat_drawH (COk.with_ (Tryd.ok ..) _ _) (by kernel_rfl) ?_
      | refine sat_drawH (COk.with_ (COk.with_ (Tryd.ok ..) _ _) _ _) (by kernel_rfl) ?_
      | refine Exists.intro [_] (And.intro (one_byte rfl) ?_)
      | refine Exists.intro [_] (And.intro (fun _ => one_byte rfl) ?_)
      | refine Exists.intro _ (And.intro (And.intro rfl rfl) ?_)
      | refine Exists.intro _ (And.intro (fun _ => And.intro rfl rfl) ?_)
      | refine Exists.intro _ (And.intro rfl ?_))
    · have hf : sameTo l m (k + 1) = false := by
        rw [sameTo_at ha hb, hok]
        unfold sameC
        rw [← Bool.not_eq_true]
        simp
        intro h1 h2 h3
        rcases h with h | h | h
        · exact h h1
        · exact h h2
        · exact h h3
      exact done_pure rfl rfl (congrArg Value.bool (by unfold sameB; rw [sameTo_no hf (by omega), Bool.and_false]))
    · have ht : sameTo l m (k + 1) = true := by
        rw [sameTo_at ha hb, hok]
        unfold sameC
        simp [h.1, h.2.1, h.2.2]
      refine ⟨k + 1, ⟨⟨by omega, ht⟩, by omega⟩, ?_, ?_, rfl⟩
      all_goals ((repeat' (first | exact trivial | exact rfl | refine And.intro ?_ ?_)) <;> (try (conv => whnf)) <;> (try simp only [SV.real, SV.r2, SV.r1]))
  · obtain rfl : k = l.length := by omega
    repeat' ((conv => whnf); first
      | refine walk (Tryd.ok ..) ?_
      | refine walk (COk.with_ (Tryd.ok ..) _ _) ?_
      | refine walk (COk.with_ (COk.with_ (Tryd.ok ..) _ _) _ _) ?_
      | (refine Cnd.mk (fun h => ?_) (fun h => ?_) <;> (first | (exfalso; simp only [decide_eq_true_eq, decide_eq_false_iff_not, Bool.not_eq_true', Bool.not_eq_false'] at h; omega) | (exfalso; simp at h; omega) | simp at h | skip))
      | refine And.intro (Kept.mk ?_) ?_
      | refine Two.mk (And.intro ?_ ?_)
      | exact trivial
      | refine side ?_
      | refine sideL ?_
      | refine Or.inr ?_
      | refine sat_drawH (Tryd.ok ..) (by kernel_rfl) ?_
      | refine sat_drawH (COk.with_ (Tryd.ok ..) _ _) (by kernel_rfl) ?_
      | refine sat_drawH (COk.with_ (COk.with_ (Tryd.ok ..) _ _) _ _) (by kernel_rfl) ?_
      | refine Exists.intro [_] (And.intro (one_byte rfl) ?_)
      | refine Exists.intro [_] (And.intro (fun _ => one_byte rfl) ?_)
      | refine Exists.intro _ (And.intro (And.intro rfl rfl) ?_)
      | refine Exists.intro _ (And.intro (fun _ => And.intro rfl rfl) ?_)
      | refine Exists.intro _ (And.intro rfl ?_))
    exact done_pure rfl rfl (congrArg Value.bool (by unfold sameB; rw [decide_eq_true hlm, hok]; rfl))
end Go.Proofs.YtbpklalkoocneaaDoor

