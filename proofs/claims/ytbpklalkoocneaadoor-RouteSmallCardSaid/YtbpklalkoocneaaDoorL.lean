/-
  The walks of the route package's reference: the first call at a port.
-/
import Derived.Test.YtbpklalkoocneaaDoorB
namespace Go.Proofs.YtbpklalkoocneaaDoor
open Go Sat Go.RowKit Go.PlainAid
set_option linter.unusedSimpArgs false
set_option linter.unusedVariables false
theorem at_p {l : List Cl} {k : Nat} {c : Cl} (hc : l[k]? = some c) : (cells l)[mulS ((k : Int)).toNat 3]? = some (.string c.p) := by
  rw [mulS_eq, Int.toNat_natCast]
  exact (cells_get hc).1
theorem at_p0 {l : List Cl} {k : Nat} {c : Cl} (hc : l[k]? = some c) : (cells l)[mulS ((k : Int)).toNat 3 + 0]? = some (.string c.p) := at_p hc
/-- from the first index on, n calls ahead: the first one at the port that is not ahead of k -/
def rfFrom (l : List Cl) (s : ByteArray) (k : Int) : Nat → Nat → Int
  | _, 0 => -1
  | i, n + 1 => if k ≤ i ∧ isAt l s i = true then i else rfFrom l s k (i + 1) n
def rfI (l : List Cl) (s : ByteArray) (k : Int) : Int := if 0 ≤ k then rfFrom l s k 0 l.length else -1
set_option maxRecDepth 100000 in
set_option maxHeartbeats 8000000 in
theorem rfind_any (l : List Cl) (A : Option (Nat × Nat)) (cap : Nat) (s : ByteArray) (k : Int) (w : World) (hro : Ro w A l.length 3 (cells l)) (hl : l.length ≤ 9223372036854775806) : Calls Tryd.prog 48 #[.slice (adr A) l.length cap, .string s, .int .i64 k] w fun e w' => e = .returned (.int .i64 (rfI l s k)) ∧ Below w.heap.size w w' := by
  refine calls_sat (cx := Tryd.cx 31 [] [] [] w) (Tryd.ok ..) Tryd.func48 rfl [.o 100 A l.length cap, .v (.string s), .v (.int .i64 k)] rfl (by show 3 ≤ 31; omega) [(100, .ro A l.length 3 (cells l))] (holds_ros rfl rfl ⟨hro, trivial⟩) ?_
  repeat' ((conv => whnf); first
    | refine walk (Tryd.ok ..) ?_
    | refine walk (COk.with_ (Tryd.ok ..) _ _) ?_
    | refine walk (COk.with_ (COk.with_ (Tryd.ok ..) _ _) _ _) ?_
    | (refine Cnd.mk (fun h => ?_) (fun h => ?_) <;> (first | (exfalso; simp only [decide_eq_true_eq, decide_eq_false_iff_not, Bool.not_eq_true', Bool.not_eq_false'] at h; omega) | (exfalso; simp at h; omega) | simp at h | skip))
    | refine And.intro (Kept.mk ?_) ?_
    | refine Two.mk (And.intro ?_ ?_)
    | exact trivial
    | refine side ?_
    | refine sideL ?_
    | refine Or.inr ?_
    | refine sat_drawH (Tryd.ok ..) (by kernel_rfl) ?_
    | refine sat_drawH (COk.with_ (Tryd.ok ..) _ _) (by kernel_rfl) ?_
    | refine sat_drawH (COk.with_ (COk.with_ (Tryd.ok ..) _ _) _ _) (by kernel_rfl) ?_
    | refine Exists.intro [_] (And.intro (one_byte rfl) ?_)
    | refine Exists.intro [_] (And.intro (fun _ => one_byte rfl) ?_)
    | refine Exists.intro _ (And.intro (And.intro rfl rfl) ?_)
    | refine Exists.intro _ (And.intro (fun _ => And.intro rfl rfl) ?_)
    | refine Exists.intro _ (And.intro rfl ?_))
  refine sat_loop (Tryd.ok ..) (α := Nat) (fun x => ([(0, .yes, .o 100 A l.length cap), (1, .yes, .v (.string s)), (2, .yes, .v (.int .i64 k)), (7, .yes, .v (.int .i64 x))], [(100, .ro A l.length 3 (cells l))])) (fun x => x ≤ l.length ∧ (0 ≤ k → rfI l s k = rfFrom l s k x (l.length - x))) (fun x => l.length - x) (fun _ => rfl) ?_ ?_
  · refine ⟨0, ⟨by omega, fun h => by unfold rfI; rw [if_pos h]; rfl⟩, ?_, ?_, rfl⟩
    all_goals ((repeat' (first | exact trivial | exact rfl | refine And.intro ?_ ?_)) <;> (try (conv => whnf)) <;> (try simp only [SV.real, SV.r2, SV.r1]))
  rintro x ⟨hx, hok⟩
  by_cases h0 : 0 ≤ k
  · by_cases hxm : x < l.length
    · obtain ⟨c, hc⟩ : ∃ c, l[x]? = some c := ⟨l[x], List.getElem?_eq_getElem hxm⟩
      have hs : l.length - x = (l.length - (x + 1)) + 1 := by omega
      have ho := hok h0
      rw [hs, rfFrom] at ho
      have hat : isAt l s x = (c.p == s) := by unfold isAt; rw [hc]
      repeat' ((conv => whnf); first
        | refine walk (Tryd.ok ..) ?_
        | refine walk (COk.with_ (Tryd.ok ..) _ _) ?_
        | refine walk (COk.with_ (COk.with_ (Tryd.ok ..) _ _) _ _) ?_
        | (refine Cnd.mk (fun h => ?_) (fun h => ?_) <;> (first | (exfalso; simp only [decide_eq_true_eq, decide_eq_false_iff_not, Bool.not_eq_true', Bool.not_eq_false'] at h; omega) | (exfalso; simp at h; omega) | simp at h | skip))
        | refine And.intro (Kept.mk ?_) ?_
        | refine Two.mk (And.intro ?_ ?_)
        | exact trivial
        | refine side ?_
        | refine sideL ?_
        | refine Or.inr ?_
        | refine sat_drawH (Tryd.ok ..) (by kernel_rfl) ?_
        | refine sat_drawH (COk.with_ (Tryd.ok ..) _ _) (by kernel_rfl) ?_
        | refine sat_drawH (COk.with_ (COk.with_ (Tryd.ok ..) _ _) _ _) (by kernel_rfl) ?_
        | refine Exists.intro [_] (And.intro (one_byte rfl) ?_)
        | refine Exists.intro [_] (And.intro (fun _ => one_byte rfl) ?_)
        | refine Exists.intro _ (And.intro (And.intro rfl rfl) ?_)
        | refine Exists.intro _ (And.intro (fun _ => And.intro rfl rfl) ?_)
        | refine Exists.intro _ (And.intro rfl ?_)
        | refine Exists.intro _ (And.intro (fun _ => (at_p0 hc)) ?_)
        | refine Exists.intro _ (And.intro (at_p0 hc) ?_)
        | refine Exists.intro _ (And.intro (fun _ => (at_p hc)) ?_)
        | refine Exists.intro _ (And.intro (at_p hc) ?_))
      · have he : rfI l s k = x := by rw [ho, if_pos ⟨h.1, by rw [hat, h.2]; simp⟩]
        exact done_pure rfl rfl (congrArg (Value.int .i64) he.symm)
      · have he : rfI l s k = rfFrom l s k (x + 1) (l.length - (x + 1)) := by
          rw [ho, if_neg (fun hh => h hh.1 (by have := hh.2; rw [hat] at this; simpa using this))]
        refine ⟨x + 1, ⟨⟨by omega, fun _ => he⟩, by omega⟩, ?_, ?_, rfl⟩
        all_goals ((repeat' (first | exact trivial | exact rfl | refine And.intro ?_ ?_)) <;> (try (conv => whnf)) <;> (try simp only [SV.real, SV.r2, SV.r1]))
    · obtain rfl : x = l.length := by omega
      repeat' ((conv => whnf); first
        | refine walk (Tryd.ok ..) ?_
        | refine walk (COk.with_ (Tryd.ok ..) _ _) ?_
        | refine walk (COk.with_ (COk.with_ (Tryd.ok ..) _ _) _ _) ?_
        | (refine Cnd.mk (fun h => ?_) (fun h => ?_) <;> (first | (exfalso; simp only [decide_eq_true_eq, decide_eq_false_iff_not, Bool.not_eq_true', Bool.not_eq_false'] at h; omega) | (exfalso; simp at h; omega) | simp at h | skip))
        | refine And.intro (Kept.mk ?_) ?_
        | refine Two.mk (And.intro ?_ ?_)
        | exact trivial
        | refine side ?_
        | refine sideL ?_
        | refine Or.inr ?_
        | refine sat_drawH (Tryd.ok ..) (by kernel_rfl) ?_
        | refine sat_drawH (COk.with_ (Tryd.ok ..) _ _) (by kernel_rfl) ?_
        | refine sat_drawH (COk.with_ (COk.with_ (Tryd.ok ..) _ _) _ _) (by kernel_rfl) ?_
        | refine Exists.intro [_] (And.intro (one_byte rfl) ?_)
        | refine Exists.intro [_] (And.intro (fun _ => one_byte rfl) ?_)
        | refine Exists.intro _ (And.intro (And.intro rfl rfl) ?_)
        | refine Exists.intro _ (And.intro (fun _ => And.intro rfl rfl) ?_)
        | refine Exists.intro _ (And.intro rfl ?_))
      exact done_pure rfl rfl (congrArg (Value.int .i64) (by rw [hok h0, Nat.sub_self]; rfl))
  · have hr : rfI l s k = -1 := by unfold rfI; rw [if_neg h0]
    rw [hr]
    repeat' ((conv => whnf); first
      | refine walk (Tryd.ok ..) ?_
      | refine walk (COk.with_ (Tryd.ok ..) _ _) ?_
      | refine walk (COk.with_ (COk.with_ (Tryd.ok ..) _ _) _ _) ?_
      | (refine Cnd.mk (fun h => ?_) (fun h => ?_) <;> (first | (exfalso; simp only [decide_eq_true_eq, decide_eq_false_iff_not, Bool.not_eq_true', Bool.not_eq_false'] at h; omega) | (exfalso; simp at h; omega) | simp at h | skip))
      | refine And.intro (Kept.mk ?_) ?_
      | refine Two.mk (And.intro ?_ ?_)
      | exact trivial
      | refine side ?_
      | refine sideL ?_
      | refine Or.inr ?_
      | refine sat_drawH (Tryd.ok ..) (by kernel_rfl) ?_
      | refine sat_drawH (COk.with_ (Tryd.ok ..) _ _) (by kernel_rfl) ?_
      | refine sat_drawH (COk.with_ (COk.with_ (Tryd.ok ..) _ _) _ _) (by kernel_rfl) ?_
      | refine Exists.intro [_] (And.intro (one_byte rfl) ?_)
      | refine Exists.intro [_] (And.intro (fun _ => one_byte rfl) ?_)
      | refine Exists.intro _ (And.intro (And.intro rfl rfl) ?_)
      | refine Exists.intro _ (And.intro (fun _ => And.intro rfl rfl) ?_)
      | refine Exists.intro _ (And.intro rfl ?_))
    all_goals (try (conv => whnf))
    all_goals exact done_pure rfl rfl rfl
end Go.Proofs.YtbpklalkoocneaaDoor

