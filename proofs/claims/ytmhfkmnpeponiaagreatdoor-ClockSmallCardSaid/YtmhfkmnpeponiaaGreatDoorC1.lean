/-
  The walks of the clock package: times, spans that are apart, calendars that are right.
-/
import Derived.Test.YtmhfkmnpeponiaaGreatDoorTab
import Derived.Test.YtmhfkmnpeponiaaGreatDoorCQ
namespace Go.Proofs.YtmhfkmnpeponiaaGreatDoor
open Go Sat Go.RowKit Go.PlainAid
set_option linter.unusedSimpArgs false
set_option linter.unusedVariables false
def timedB (n : Int) : Bool := decide (0 ≤ n) && decide (n ≤ 100000000)
def orderedB (a b : Int) : Bool := timedB a && timedB b && decide (a ≤ b)
set_option maxRecDepth 100000 in
set_option maxHeartbeats 8000000 in
theorem timed_any (n : Int) (w : World) : Calls Tryz.prog 46 #[.int .i64 n] w fun e w' => e = .returned (.bool (timedB n)) ∧ Below w.heap.size w w' := by
  refine calls_sat (cx := Tryz.cx 9 [] [] [] w) (Tryz.ok ..) Tryz.func46 rfl [.v (.int .i64 n)] rfl (by show 1 ≤ 9; omega) [] (holds_nil (Nat.le_refl _)) ?_
  repeat' ((conv => whnf); first | refine walk (Tryz.ok ..) ?_ | (refine Cnd.mk (fun h => ?_) (fun h => ?_) <;> (first | exact cndT h (by (try dsimp only); omega) | exact cndF h (by (try dsimp only); omega) | (exfalso; simp at h; omega) | simp at h | skip)) | refine kp ?_ ?_ | refine tw ?_ ?_ | exact trivial | refine side ?_ | refine sideL ?_ | refine Or.inr ?_ | refine sat_drawH (Tryz.ok ..) (by kernel_rfl) ?_ | refine xi _ (And.intro rfl rfl) ?_ | refine xi _ (fun _ => And.intro rfl rfl) ?_ | refine xi _ rfl ?_)
  refine done_pure rfl rfl (congrArg Value.bool ?_)
  unfold timedB
  rfl
set_option maxRecDepth 100000 in
set_option maxHeartbeats 8000000 in
theorem ordered_any (a b : Int) (w : World) : Calls Tryz.prog 50 #[.int .i64 a, .int .i64 b] w fun e w' => e = .returned (.bool (orderedB a b)) ∧ Below w.heap.size w w' := by
  refine calls_sat (cx := Tryz.cx 16 [] [] [] w) (Tryz.ok ..) Tryz.func50 rfl [.v (.int .i64 a), .v (.int .i64 b)] rfl (by show 2 ≤ 16; omega) [] (holds_nil (Nat.le_refl _)) ?_
  repeat' ((conv => whnf); first | refine walk (Tryz.ok ..) ?_ | (refine Cnd.mk (fun h => ?_) (fun h => ?_) <;> (first | exact cndT h (by (try dsimp only); omega) | exact cndF h (by (try dsimp only); omega) | (exfalso; simp at h; omega) | simp at h | skip)) | refine kp ?_ ?_ | refine tw ?_ ?_ | exact trivial | refine side ?_ | refine sideL ?_ | refine Or.inr ?_ | refine sat_drawH (Tryz.ok ..) (by kernel_rfl) ?_ | refine xi _ (And.intro rfl rfl) ?_ | refine xi _ (fun _ => And.intro rfl rfl) ?_ | refine xi _ rfl ?_)
  refine called_pure (.v (.bool (timedB a))) rfl (fun w' => timed_any a w') ?_
  repeat' ((conv => whnf); first | refine walk (Tryz.ok ..) ?_ | (refine Cnd.mk (fun h => ?_) (fun h => ?_) <;> (first | exact cndT h (by (try dsimp only); omega) | exact cndF h (by (try dsimp only); omega) | (exfalso; simp at h; omega) | simp at h | skip)) | refine kp ?_ ?_ | refine tw ?_ ?_ | exact trivial | refine side ?_ | refine sideL ?_ | refine Or.inr ?_ | refine sat_drawH (Tryz.ok ..) (by kernel_rfl) ?_ | refine xi _ (And.intro rfl rfl) ?_ | refine xi _ (fun _ => And.intro rfl rfl) ?_ | refine xi _ rfl ?_)
  refine calledQ_pure (.v (.bool (timedB b))) rfl (fun _ w' => timed_any b w') ?_
  repeat' ((conv => whnf); first | refine walk (Tryz.ok ..) ?_ | (refine Cnd.mk (fun h => ?_) (fun h => ?_) <;> (first | exact cndT h (by (try dsimp only); omega) | exact cndF h (by (try dsimp only); omega) | (exfalso; simp at h; omega) | simp at h | skip)) | refine kp ?_ ?_ | refine tw ?_ ?_ | exact trivial | refine side ?_ | refine sideL ?_ | refine Or.inr ?_ | refine sat_drawH (Tryz.ok ..) (by kernel_rfl) ?_ | refine xi _ (And.intro rfl rfl) ?_ | refine xi _ (fun _ => And.intro rfl rfl) ?_ | refine xi _ rfl ?_)
  refine done_pure rfl rfl (congrArg Value.bool ?_)
  unfold orderedB
  rfl
theorem at_s {l : List Sp} {i : Int} {k : Nat} {s : Sp} (hs : l[k]? = some s) (hi : i = k) : (sC s).length = 2 ∧ ∀ j, j < 2 → (sps l)[mulS i.toNat 2 + j]? = (sC s)[j]? := by
  refine ⟨rfl, fun j hj => ?_⟩
  rw [mulS_eq, hi, Int.toNat_natCast]
  have h := sps_get hs
  rcases j with _ | _ | j
  · exact h.1
  · exact h.2
  · omega
def lastF (l : List Sp) : Nat → Int
  | 0 => -1
  | k + 1 => match l[k]? with
    | some s => s.t
    | none => 0
theorem lastF_at {l : List Sp} {k : Nat} {s : Sp} (h : l[k]? = some s) : lastF l (k + 1) = s.t := by rw [lastF, h]
theorem okAt_iff {l : List Sp} {k : Nat} {s : Sp} (hs : l[k]? = some s) (h : okTo l k = true) : okAt l k = true ↔ ¬ (s.f ≤ lastF l k) ∧ ¬ (s.t ≤ s.f) ∧ ¬ (100000000 < s.t) := by
  cases k with
  | zero =>
    unfold okAt
    rw [hs]
    simp [lastF]
    omega
  | succ k =>
    obtain ⟨r, hr⟩ : ∃ r, l[k]? = some r := ⟨l[k]'(by have := (List.getElem?_eq_some_iff.1 hs).1; omega), List.getElem?_eq_getElem _⟩
    have h1 := okTo_at h (Nat.lt_succ_self k)
    rw [lastF_at hr]
    unfold okAt at h1 ⊢
    rw [hr] at h1
    rw [hs]
    simp only [hr, Bool.and_eq_true, decide_eq_true_eq] at h1 ⊢
    omega
theorem okTo_no {l : List Sp} {k n : Nat} (h : okAt l k = false) (hk : k < n) : okTo l n = false := by
  rw [← Bool.not_eq_true]
  intro hc
  rw [okTo_at hc hk] at h
  cases h
set_option maxRecDepth 100000 in
set_option maxHeartbeats 8000000 in
theorem apart_any (l : List Sp) (A : Option (Nat × Nat)) (cap : Nat) (w : World) (hro : Ro w A l.length 2 (sps l)) (hl : l.length ≤ 9223372036854775806) : Calls Tryz.prog 32 #[.slice (adr A) l.length cap] w fun e w' => e = .returned (.bool (apart l)) ∧ Below w.heap.size w w' := by
  refine calls_sat (cx := Tryz.cx 34 [] [] [] w) (Tryz.ok ..) Tryz.func32 rfl [.o 100 A l.length cap] rfl (by show 1 ≤ 34; omega) [(100, .ro A l.length 2 (sps l))] (holds_ros rfl rfl ⟨hro, trivial⟩) ?_
  repeat' ((conv => whnf); first | refine walk (Tryz.ok ..) ?_ | (refine Cnd.mk (fun h => ?_) (fun h => ?_) <;> (first | exact cndT h (by (try dsimp only); omega) | exact cndF h (by (try dsimp only); omega) | (exfalso; simp at h; omega) | simp at h | skip)) | refine kp ?_ ?_ | refine tw ?_ ?_ | exact trivial | refine side ?_ | refine sideL ?_ | refine Or.inr ?_ | refine sat_drawH (Tryz.ok ..) (by kernel_rfl) ?_ | refine xi _ (And.intro rfl rfl) ?_ | refine xi _ (fun _ => And.intro rfl rfl) ?_ | refine xi _ rfl ?_)
  refine sat_loop (Tryz.ok ..) (α := Nat) (fun k => ([(0, .yes, .o 100 A l.length cap), (3, .yes, .v (.int .i64 (lastF l k))), (6, .yes, .o 100 A l.length cap), (7, .yes, .v (.int .i64 l.length)), (8, .yes, .v (.int .i64 k))], [(100, .ro A l.length 2 (sps l))])) (fun k => k ≤ l.length ∧ okTo l k = true) (fun k => l.length - k) (fun _ => rfl) ?_ ?_
  · refine ⟨0, ⟨by omega, rfl⟩, ?_, ?_, rfl⟩
    all_goals ((repeat' (first | exact trivial | exact rfl | refine And.intro ?_ ?_)) <;> (try (conv => whnf)) <;> (try simp only [SV.real, SV.r2, SV.r1]))
  rintro k ⟨hk, hok⟩
  by_cases hk1 : k < l.length
  · obtain ⟨s, hs⟩ : ∃ s, l[k]? = some s := ⟨l[k], List.getElem?_eq_getElem hk1⟩
    have hiff := okAt_iff hs hok
    repeat' ((conv => whnf); first | refine walk (Tryz.ok ..) ?_ | (refine Cnd.mk (fun h => ?_) (fun h => ?_) <;> (first | exact cndT h (by (try dsimp only); omega) | exact cndF h (by (try dsimp only); omega) | (exfalso; simp at h; omega) | simp at h | skip)) | refine kp ?_ ?_ | refine tw ?_ ?_ | exact trivial | refine side ?_ | refine sideL ?_ | refine Or.inr ?_ | refine sat_drawH (Tryz.ok ..) (by kernel_rfl) ?_ | refine xi _ (And.intro rfl rfl) ?_ | refine xi _ (fun _ => And.intro rfl rfl) ?_ | refine xi _ rfl ?_ | refine xi _ (fun _ => (at_s hs rfl)) ?_ | refine xi _ (at_s hs rfl) ?_ | intro g hg)
    · refine done_pure rfl rfl (congrArg Value.bool ?_)
      have hb : okAt l k = false := by
        rw [← Bool.not_eq_true, hiff]
        omega
      unfold apart
      rw [okTo_no hb hk1]
      rfl
    · refine ⟨k + 1, ⟨⟨hk1, ?_⟩, by omega⟩, ?_, ?_, rfl⟩
      · rw [okTo_succ, hok, hiff.2 (by omega)]
        rfl
      · dsimp only
        rw [lastF_at hs]
        ((repeat' (first | exact trivial | exact rfl | refine And.intro ?_ ?_)) <;> (try (conv => whnf)) <;> (try simp only [SV.real, SV.r2, SV.r1]))
      · ((repeat' (first | exact trivial | exact rfl | refine And.intro ?_ ?_)) <;> (try (conv => whnf)) <;> (try simp only [SV.real, SV.r2, SV.r1]))
  · obtain rfl : k = l.length := by omega
    repeat' ((conv => whnf); first | refine walk (Tryz.ok ..) ?_ | (refine Cnd.mk (fun h => ?_) (fun h => ?_) <;> (first | exact cndT h (by (try dsimp only); omega) | exact cndF h (by (try dsimp only); omega) | (exfalso; simp at h; omega) | simp at h | skip)) | refine kp ?_ ?_ | refine tw ?_ ?_ | exact trivial | refine side ?_ | refine sideL ?_ | refine Or.inr ?_ | refine sat_drawH (Tryz.ok ..) (by kernel_rfl) ?_ | refine xi _ (And.intro rfl rfl) ?_ | refine xi _ (fun _ => And.intro rfl rfl) ?_ | refine xi _ rfl ?_)
    refine done_pure rfl rfl (congrArg Value.bool ?_)
    unfold apart
    rw [hok]
    simp
    omega
end Go.Proofs.YtmhfkmnpeponiaaGreatDoor
