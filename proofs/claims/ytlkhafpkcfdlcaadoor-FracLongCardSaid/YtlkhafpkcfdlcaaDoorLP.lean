/-
  A power of two as a fraction: the closure of FracLong, walked.
-/
import Derived.Test.YtlkhafpkcfdlcaaDoorN22
import Derived.Test.YtlkhafpkcfdlcaaDoorLR
import Derived.Test.YtlkhafpkcfdlcaaDoorLA
import Derived.Test.YtlkhafpkcfdlcaaDoorFL
namespace Go.Proofs.YtlkhafpkcfdlcaaDoor
open Go Sat Go.RowKit Go.PlainAid
set_option linter.unusedSimpArgs false
set_option linter.unusedVariables false
theorem pw_small {d : Nat} (h : d ≤ 224) : Small (nr (2 ^ d)) := by
  rw [nr_small, big_two]
  exact Nat.pow_lt_pow_right (by omega) (by omega)
def pwF (d : Nat) : Fr := ofR (nr (2 ^ d))
theorem pw_rq {d : Nat} (h : d ≤ 224) : Rq (pwF d) (nr (2 ^ d)) := ⟨rfl, pw_small h⟩
set_option maxRecDepth 100000 in
set_option maxHeartbeats 8000000 in
theorem power_any (k : Nat) (w : World) (hk : k ≤ 224) :
    Calls Tryd.prog 20 #[.int .i64 k] w fun e w' => e = .returned (.tuple #[frV (pwF k), .int .i64 0]) ∧ Below w.heap.size w w' := by
  have one := pw_rq (d := 0) (by omega)
  have l1 := frC_len (pwF 0)
  refine calls_sat (cx := Tryd.cx 25 [5] [] [] w) (Tryd.ok ..) Tryd.func20 rfl [.v (.int .i64 k)] rfl (by show 1 ≤ 25; omega) [] (holds_nil (Nat.le_refl _)) ?_
  repeat' ((conv => whnf); first | refine walk (Tryd.ok ..) ?_ | (refine Cnd.mk (fun h => ?_) (fun h => ?_) <;> (first | exact cndT h (by omega) | exact cndF h (by omega) | (exfalso; simp only [decide_eq_true_eq, decide_eq_false_iff_not] at h; omega) | (exfalso; simp at h; omega) | simp at h | skip)) | refine And.intro (Kept.mk ?_) ?_ | refine Two.mk (And.intro ?_ ?_) | exact trivial | refine side2 ?_ | refine sideL2 ?_ | refine Or.inr ?_ | refine sat_drawH (Tryd.ok ..) (by kernel_rfl) ?_ | refine Exists.intro [_] (And.intro (one_byte rfl) ?_) | refine Exists.intro [_] (And.intro (fun _ => one_byte rfl) ?_) | refine Exists.intro _ (And.intro (And.intro rfl rfl) ?_) | refine Exists.intro _ (And.intro (fun _ => And.intro rfl rfl) ?_) | refine Exists.intro _ (And.intro rfl ?_))
  intro g2 hg2
  repeat' ((conv => whnf); first | refine walk (Tryd.ok ..) ?_ | (refine Cnd.mk (fun h => ?_) (fun h => ?_) <;> (first | exact cndT h (by omega) | exact cndF h (by omega) | (exfalso; simp only [decide_eq_true_eq, decide_eq_false_iff_not] at h; omega) | (exfalso; simp at h; omega) | simp at h | skip)) | refine And.intro (Kept.mk ?_) ?_ | refine Two.mk (And.intro ?_ ?_) | exact trivial | refine side2 ?_ | refine sideL2 ?_ | refine Or.inr ?_ | refine sat_drawH (Tryd.ok ..) (by kernel_rfl) ?_ | refine Exists.intro [_] (And.intro (one_byte rfl) ?_) | refine Exists.intro [_] (And.intro (fun _ => one_byte rfl) ?_) | refine Exists.intro _ (And.intro (And.intro rfl rfl) ?_) | refine Exists.intro _ (And.intro (fun _ => And.intro rfl rfl) ?_) | refine Exists.intro _ (And.intro rfl ?_))
  refine called_pure (.a (frC (pwF 0))) rfl (fun w' => by exact of_rv one ⟨by decide, by decide⟩ w') ?_
  repeat' ((conv => whnf); first | refine walk (Tryd.ok ..) ?_ | (refine Cnd.mk (fun h => ?_) (fun h => ?_) <;> (first | exact cndT h (by omega) | exact cndF h (by omega) | (exfalso; simp only [decide_eq_true_eq, decide_eq_false_iff_not] at h; omega) | (exfalso; simp at h; omega) | simp at h | skip)) | refine And.intro (Kept.mk ?_) ?_ | refine Two.mk (And.intro ?_ ?_) | exact trivial | refine side2 ?_ | refine sideL2 ?_ | refine Or.inr ?_ | refine sat_drawH (Tryd.ok ..) (by kernel_rfl) ?_ | refine Exists.intro [_] (And.intro (one_byte rfl) ?_) | refine Exists.intro [_] (And.intro (fun _ => one_byte rfl) ?_) | refine Exists.intro _ (And.intro (And.intro rfl rfl) ?_) | refine Exists.intro _ (And.intro (fun _ => And.intro rfl rfl) ?_) | refine Exists.intro _ (And.intro rfl ?_))
  intro g4 hg4
  repeat' ((conv => whnf); first | refine walk (Tryd.ok ..) ?_ | (refine Cnd.mk (fun h => ?_) (fun h => ?_) <;> (first | exact cndT h (by omega) | exact cndF h (by omega) | (exfalso; simp only [decide_eq_true_eq, decide_eq_false_iff_not] at h; omega) | (exfalso; simp at h; omega) | simp at h | skip)) | refine And.intro (Kept.mk ?_) ?_ | refine Two.mk (And.intro ?_ ?_) | exact trivial | refine side2 ?_ | refine sideL2 ?_ | refine Or.inr ?_ | refine sat_drawH (Tryd.ok ..) (by kernel_rfl) ?_ | refine Exists.intro [_] (And.intro (one_byte rfl) ?_) | refine Exists.intro [_] (And.intro (fun _ => one_byte rfl) ?_) | refine Exists.intro _ (And.intro (And.intro rfl rfl) ?_) | refine Exists.intro _ (And.intro (fun _ => And.intro rfl rfl) ?_) | refine Exists.intro _ (And.intro rfl ?_))
  refine sat_loop (Tryd.ok ..) (α := Nat) (fun j => ([(0, .yes, .v (.int .i64 ((k : Int) - 60 * (j : Int)))), (2, .yes, .p 2 g2 0 0), (4, .yes, .p 4 g4 0 0)], [(2, .blk g2 27 (frC zeroF)), (4, .blk g4 27 (frC (pwF (min k (60 * j)))))]))
    (fun j => 60 * j < k + 60) (fun j => k + 60 - 60 * j) (fun _ => rfl) ?_ ?_
  · refine ⟨0, by omega, ?_, ?_, rfl⟩
    · ((repeat' (first | exact trivial | exact rfl | refine And.intro ?_ ?_)) <;> (try (conv => whnf)) <;> (try simp only [SV.real, SV.r2, SV.r1]))
      all_goals exact congrArg (Value.int .i64) (by omega)
    · dsimp only
      rw [show min k (60 * 0) = 0 by omega]
      ((repeat' (first | exact trivial | exact rfl | refine And.intro ?_ ?_)) <;> (try (conv => whnf)) <;> (try simp only [SV.real, SV.r2, SV.r1]))
  intro j hj
  have lj := frC_len (pwF (min k (60 * j)))
  by_cases hjk : 60 * j < k
  · obtain ⟨m, hm⟩ : ∃ m, m = min (k - 60 * j) 60 := ⟨_, rfl⟩
    have e1 : min k (60 * j) + m = min k (60 * (j + 1)) := by omega
    have em : min ((k : Int) - 60 * (j : Int)) 60 = (m : Int) := by omega
    have hp60 : 2 ^ m ≤ 2 ^ 60 := Nat.pow_le_pow_right (by omega) (by omega)
    have hw : IntKind.i64.wrap (1 * 2 ^ (min ((k : Int) - 60 * (j : Int)) 60).toNat) = ((2 ^ m : Nat) : Int) := by
      rw [em, Int.toNat_natCast, Int.one_mul, show (2 : Int) ^ m = ((2 ^ m : Nat) : Int) from (Int.natCast_pow 2 m).symm]
      obtain ⟨M, hM⟩ : ∃ M, M = 2 ^ m := ⟨_, rfl⟩
      rw [← hM] at hp60 ⊢
      rw [show (2 : Nat) ^ 60 = 1152921504606846976 from rfl] at hp60
      rw [IntKind.wrap_i64]
      omega
    have hP := pw_rq (d := m) (by omega)
    have hQ := pw_rq (d := min k (60 * (j + 1))) (by omega)
    have lP := frC_len (pwF m)
    have lQ := frC_len (pwF (min k (60 * (j + 1))))
    repeat' ((conv => whnf); first | refine walk (Tryd.ok ..) ?_ | (refine Cnd.mk (fun h => ?_) (fun h => ?_) <;> (first | exact cndT h (by omega) | exact cndF h (by omega) | (exfalso; simp only [decide_eq_true_eq, decide_eq_false_iff_not] at h; omega) | (exfalso; simp at h; omega) | simp at h | skip)) | refine And.intro (Kept.mk ?_) ?_ | refine Two.mk (And.intro ?_ ?_) | exact trivial | refine side2 ?_ | refine sideL2 ?_ | refine Or.inr ?_ | refine Exists.intro [_] (And.intro (one_byte rfl) ?_) | refine Exists.intro [_] (And.intro (fun _ => one_byte rfl) ?_) | refine Exists.intro _ (And.intro (And.intro rfl rfl) ?_) | refine Exists.intro _ (And.intro (fun _ => And.intro rfl rfl) ?_) | refine Exists.intro _ (And.intro rfl ?_))
    refine sat_draw (Tryd.ok ..) [0] [] (by kernel_rfl) (fun w hw => hw.sub trivial) ?_
    repeat' ((conv => whnf); first | refine walk (Tryd.ok ..) ?_ | (refine Cnd.mk (fun h => ?_) (fun h => ?_) <;> (first | exact cndT h (by omega) | exact cndF h (by omega) | (exfalso; simp only [decide_eq_true_eq, decide_eq_false_iff_not] at h; omega) | (exfalso; simp at h; omega) | simp at h | skip)) | refine And.intro (Kept.mk ?_) ?_ | refine Two.mk (And.intro ?_ ?_) | exact trivial | refine side2 ?_ | refine sideL2 ?_ | refine Or.inr ?_ | refine sat_drawH (Tryd.ok ..) (by kernel_rfl) ?_ | refine Exists.intro [_] (And.intro (one_byte rfl) ?_) | refine Exists.intro [_] (And.intro (fun _ => one_byte rfl) ?_) | refine Exists.intro _ (And.intro (And.intro rfl rfl) ?_) | refine Exists.intro _ (And.intro (fun _ => And.intro rfl rfl) ?_) | refine Exists.intro _ (And.intro rfl ?_))
    · refine called_pure (.a (frC (pwF m))) rfl (fun w' => by
        have h := of_rv (X := pwF m) (n := ((2 ^ m : Nat) : Int)) hP ⟨Int.le_trans (by decide) (Int.natCast_nonneg _), by
          rw [show (2 : Nat) ^ 60 = 1152921504606846976 from rfl] at hp60
          omega⟩ w'
        rw [← hw] at h
        exact h) ?_
      repeat' ((conv => whnf); first | refine walk (Tryd.ok ..) ?_ | (refine Cnd.mk (fun h => ?_) (fun h => ?_) <;> (first | exact cndT h (by omega) | exact cndF h (by omega) | (exfalso; simp only [decide_eq_true_eq, decide_eq_false_iff_not] at h; omega) | (exfalso; simp at h; omega) | simp at h | skip)) | refine And.intro (Kept.mk ?_) ?_ | refine Two.mk (And.intro ?_ ?_) | exact trivial | refine side2 ?_ | refine sideL2 ?_ | refine Or.inr ?_ | refine sat_drawH (Tryd.ok ..) (by kernel_rfl) ?_ | refine Exists.intro [_] (And.intro (one_byte rfl) ?_) | refine Exists.intro [_] (And.intro (fun _ => one_byte rfl) ?_) | refine Exists.intro _ (And.intro (And.intro rfl rfl) ?_) | refine Exists.intro _ (And.intro (fun _ => And.intro rfl rfl) ?_) | refine Exists.intro _ (And.intro rfl ?_))
      refine called_pure (.t [.a (frC (pwF (min k (60 * (j + 1))))), .v (.int .i64 0)]) rfl (fun w' => by exact mul_rv (pw_rq (d := min k (60 * j)) (by omega)) hP (by rw [nr_mul, ← Nat.pow_add, e1]; exact hQ) w') ?_
      repeat' ((conv => whnf); first | refine walk (Tryd.ok ..) ?_ | (refine Cnd.mk (fun h => ?_) (fun h => ?_) <;> (first | exact cndT h (by omega) | exact cndF h (by omega) | (exfalso; simp only [decide_eq_true_eq, decide_eq_false_iff_not] at h; omega) | (exfalso; simp at h; omega) | simp at h | skip)) | refine And.intro (Kept.mk ?_) ?_ | refine Two.mk (And.intro ?_ ?_) | exact trivial | refine side2 ?_ | refine sideL2 ?_ | refine Or.inr ?_ | refine sat_drawH (Tryd.ok ..) (by kernel_rfl) ?_ | refine Exists.intro [_] (And.intro (one_byte rfl) ?_) | refine Exists.intro [_] (And.intro (fun _ => one_byte rfl) ?_) | refine Exists.intro _ (And.intro (And.intro rfl rfl) ?_) | refine Exists.intro _ (And.intro (fun _ => And.intro rfl rfl) ?_) | refine Exists.intro _ (And.intro rfl ?_))
      refine ⟨j + 1, ⟨by omega, by omega⟩, ?_, ?_, rfl⟩
      · ((repeat' (first | exact trivial | exact rfl | refine And.intro ?_ ?_)) <;> (try (conv => whnf)) <;> (try simp only [SV.real, SV.r2, SV.r1]))
        all_goals exact congrArg (Value.int .i64) (by omega)
      · ((repeat' (first | exact trivial | exact rfl | refine And.intro ?_ ?_)) <;> (try (conv => whnf)) <;> (try simp only [SV.real, SV.r2, SV.r1]))
    · repeat' ((conv => whnf); first | refine walk (Tryd.ok ..) ?_ | (refine Cnd.mk (fun h => ?_) (fun h => ?_) <;> (first | exact cndT h (by omega) | exact cndF h (by omega) | (exfalso; simp only [decide_eq_true_eq, decide_eq_false_iff_not] at h; omega) | (exfalso; simp at h; omega) | simp at h | skip)) | refine And.intro (Kept.mk ?_) ?_ | refine Two.mk (And.intro ?_ ?_) | exact trivial | refine side2 ?_ | refine sideL2 ?_ | refine Or.inr ?_ | refine sat_drawH (Tryd.ok ..) (by kernel_rfl) ?_ | refine Exists.intro [_] (And.intro (one_byte rfl) ?_) | refine Exists.intro [_] (And.intro (fun _ => one_byte rfl) ?_) | refine Exists.intro _ (And.intro (And.intro rfl rfl) ?_) | refine Exists.intro _ (And.intro (fun _ => And.intro rfl rfl) ?_) | refine Exists.intro _ (And.intro rfl ?_))
      refine called_pure (.a (frC (pwF m))) rfl (fun w' => by
        have h := of_rv (X := pwF m) (n := ((2 ^ m : Nat) : Int)) hP ⟨Int.le_trans (by decide) (Int.natCast_nonneg _), by
          rw [show (2 : Nat) ^ 60 = 1152921504606846976 from rfl] at hp60
          omega⟩ w'
        rw [← hw] at h
        exact h) ?_
      repeat' ((conv => whnf); first | refine walk (Tryd.ok ..) ?_ | (refine Cnd.mk (fun h => ?_) (fun h => ?_) <;> (first | exact cndT h (by omega) | exact cndF h (by omega) | (exfalso; simp only [decide_eq_true_eq, decide_eq_false_iff_not] at h; omega) | (exfalso; simp at h; omega) | simp at h | skip)) | refine And.intro (Kept.mk ?_) ?_ | refine Two.mk (And.intro ?_ ?_) | exact trivial | refine side2 ?_ | refine sideL2 ?_ | refine Or.inr ?_ | refine sat_drawH (Tryd.ok ..) (by kernel_rfl) ?_ | refine Exists.intro [_] (And.intro (one_byte rfl) ?_) | refine Exists.intro [_] (And.intro (fun _ => one_byte rfl) ?_) | refine Exists.intro _ (And.intro (And.intro rfl rfl) ?_) | refine Exists.intro _ (And.intro (fun _ => And.intro rfl rfl) ?_) | refine Exists.intro _ (And.intro rfl ?_))
      refine called_pure (.t [.a (frC (pwF (min k (60 * (j + 1))))), .v (.int .i64 0)]) rfl (fun w' => by exact mul_rv (pw_rq (d := min k (60 * j)) (by omega)) hP (by rw [nr_mul, ← Nat.pow_add, e1]; exact hQ) w') ?_
      repeat' ((conv => whnf); first | refine walk (Tryd.ok ..) ?_ | (refine Cnd.mk (fun h => ?_) (fun h => ?_) <;> (first | exact cndT h (by omega) | exact cndF h (by omega) | (exfalso; simp only [decide_eq_true_eq, decide_eq_false_iff_not] at h; omega) | (exfalso; simp at h; omega) | simp at h | skip)) | refine And.intro (Kept.mk ?_) ?_ | refine Two.mk (And.intro ?_ ?_) | exact trivial | refine side2 ?_ | refine sideL2 ?_ | refine Or.inr ?_ | refine sat_drawH (Tryd.ok ..) (by kernel_rfl) ?_ | refine Exists.intro [_] (And.intro (one_byte rfl) ?_) | refine Exists.intro [_] (And.intro (fun _ => one_byte rfl) ?_) | refine Exists.intro _ (And.intro (And.intro rfl rfl) ?_) | refine Exists.intro _ (And.intro (fun _ => And.intro rfl rfl) ?_) | refine Exists.intro _ (And.intro rfl ?_))
      refine ⟨j + 1, ⟨by omega, by omega⟩, ?_, ?_, rfl⟩
      · ((repeat' (first | exact trivial | exact rfl | refine And.intro ?_ ?_)) <;> (try (conv => whnf)) <;> (try simp only [SV.real, SV.r2, SV.r1]))
        all_goals exact congrArg (Value.int .i64) (by omega)
      · ((repeat' (first | exact trivial | exact rfl | refine And.intro ?_ ?_)) <;> (try (conv => whnf)) <;> (try simp only [SV.real, SV.r2, SV.r1]))
  · have ek : min k (60 * j) = k := by omega
    rw [ek] at lj ⊢
    repeat' ((conv => whnf); first | refine walk (Tryd.ok ..) ?_ | (refine Cnd.mk (fun h => ?_) (fun h => ?_) <;> (first | exact cndT h (by omega) | exact cndF h (by omega) | (exfalso; simp only [decide_eq_true_eq, decide_eq_false_iff_not] at h; omega) | (exfalso; simp at h; omega) | simp at h | skip)) | refine And.intro (Kept.mk ?_) ?_ | refine Two.mk (And.intro ?_ ?_) | exact trivial | refine side2 ?_ | refine sideL2 ?_ | refine Or.inr ?_ | refine Exists.intro [_] (And.intro (one_byte rfl) ?_) | refine Exists.intro [_] (And.intro (fun _ => one_byte rfl) ?_) | refine Exists.intro _ (And.intro (And.intro rfl rfl) ?_) | refine Exists.intro _ (And.intro (fun _ => And.intro rfl rfl) ?_) | refine Exists.intro _ (And.intro rfl ?_))
    exact done_pure rfl rfl (congrArg (fun l => (SV.t [.a l, .v (.int .i64 0)]).real) (tk2 (pwF k)))
end Go.Proofs.YtlkhafpkcfdlcaaDoor
