/-
  The walks of the clock package and of its reference: tides that are right, high waters.
-/
import Derived.Test.YtmhfkmnpeponiaaGreatDoorC4
import Derived.Test.YtmhfkmnpeponiaaGreatDoorCQ
namespace Go.Proofs.YtmhfkmnpeponiaaGreatDoor
open Go Sat Go.RowKit Go.PlainAid
set_option linter.unusedSimpArgs false
set_option linter.unusedVariables false
theorem timed_iff2 {n : Int} : timedB n = true ↔ 0 ≤ n ∧ n ≤ 100000000 := by unfold timedB; simp
def tdC (t : Td) : List SV := [.v (.int .i64 t.first), .v (.int .i64 t.num), .v (.int .i64 t.den), .v (.int .i64 t.before), .v (.int .i64 t.after)]
def tdV (t : Td) : Value := .agg #[.int .i64 t.first, .int .i64 t.num, .int .i64 t.den, .int .i64 t.before, .int .i64 t.after]
def tidalB (t : Td) : Bool := timedB t.first && decide (1 ≤ t.den) && decide (t.den ≤ 1000) && decide (0 ≤ t.before) && decide (0 ≤ t.after) && decide (t.before < 10080) && decide (t.after < 10080) && decide (t.before + t.after ≠ 0) && decide (0 < t.num) && decide (t.num ≤ 20160 * t.den) && decide (t.before + t.after < t.num / t.den)
set_option maxRecDepth 100000 in
set_option maxHeartbeats 8000000 in
theorem tidal_any (t : Td) (w : World) : Calls Tryz.prog 42 #[tdV t] w fun e w' => e = .returned (.bool (tidalB t)) ∧ Below w.heap.size w w' := by
  refine calls_sat (cx := Tryz.cx 69 [] [] [] w) (Tryz.ok ..) Tryz.func42 rfl [.a (tdC t)] rfl (by show 1 ≤ 69; omega) [] (holds_nil (Nat.le_refl _)) ?_
  obtain ⟨p, hp⟩ : ∃ p, p = timedB t.first := ⟨_, rfl⟩
  repeat' ((conv => whnf); first | refine walk (Tryz.ok ..) ?_ | (refine Cnd.mk (fun h => ?_) (fun h => ?_) <;> (first | exact cndT h (by (try dsimp only); omega) | exact cndF h (by (try dsimp only); omega) | (exfalso; simp at h; omega) | simp at h | skip)) | refine kp ?_ ?_ | refine tw ?_ ?_ | exact trivial | refine side ?_ | refine sideL ?_ | refine Or.inr ?_ | refine sat_drawH (Tryz.ok ..) (by kernel_rfl) ?_ | refine xi _ (And.intro rfl rfl) ?_ | refine xi _ (fun _ => And.intro rfl rfl) ?_ | refine xi _ rfl ?_)
  intro g hg
  repeat' ((conv => whnf); first | refine walk (Tryz.ok ..) ?_ | (refine Cnd.mk (fun h => ?_) (fun h => ?_) <;> (first | exact cndT h (by (try dsimp only); omega) | exact cndF h (by (try dsimp only); omega) | (exfalso; simp at h; omega) | simp at h | skip)) | refine kp ?_ ?_ | refine tw ?_ ?_ | exact trivial | refine side ?_ | refine sideL ?_ | refine Or.inr ?_ | refine sat_drawH (Tryz.ok ..) (by kernel_rfl) ?_ | refine xi _ (And.intro rfl rfl) ?_ | refine xi _ (fun _ => And.intro rfl rfl) ?_ | refine xi _ rfl ?_)
  refine called_pure (.v (.bool p)) rfl (fun w' => by rw [hp]; exact timed_any _ w') ?_
  repeat' ((conv => whnf); first | refine walk (Tryz.ok ..) ?_ | (refine Cnd.mk (fun h => ?_) (fun h => ?_) <;> (first | exact cndT h (by (try dsimp only); omega) | exact cndF h (by (try dsimp only); omega) | (exfalso; simp at h; omega) | simp at h | skip)) | refine kp ?_ ?_ | refine tw ?_ ?_ | exact trivial | refine side ?_ | refine sideL ?_ | refine Or.inr ?_ | refine sat_drawH (Tryz.ok ..) (by kernel_rfl) ?_ | refine xi _ (And.intro rfl rfl) ?_ | refine xi _ (fun _ => And.intro rfl rfl) ?_ | refine xi _ rfl ?_)
  · refine done_pure rfl rfl (congrArg Value.bool ?_)
    unfold tidalB
    rw [← hp]
    symm
    rw [← Bool.not_eq_true]
    simp only [Bool.and_eq_true, decide_eq_true_eq]
    intro hc
    cases p
    · exact absurd hc.1.1.1.1.1.1.1.1.1.1 (by simp)
    · simp at h
      omega
  · refine done_pure rfl rfl (congrArg Value.bool ?_)
    unfold tidalB
    rw [← hp]
    rw [h.1.1.1.1.1.1.1, decide_eq_true (show 1 ≤ t.den by omega), decide_eq_true (show t.den ≤ 1000 by omega), decide_eq_true (show 0 ≤ t.before by omega), decide_eq_true (show 0 ≤ t.after by omega), decide_eq_true (show t.before < 10080 by omega), decide_eq_true (show t.after < 10080 by omega), decide_eq_true (show t.before + t.after ≠ 0 by omega)]
    rfl
set_option maxRecDepth 100000 in
set_option maxHeartbeats 8000000 in
theorem rtidal_any (t : Td) (w : World) : Calls Tryz.prog 43 #[tdV t] w fun e w' => e = .returned (.bool (tidalB t)) ∧ Below w.heap.size w w' := by
  refine calls_sat (cx := Tryz.cx 71 [] [] [] w) (Tryz.ok ..) Tryz.func43 rfl [.a (tdC t)] rfl (by show 1 ≤ 71; omega) [] (holds_nil (Nat.le_refl _)) ?_
  obtain ⟨p, hp⟩ : ∃ p, p = timedB t.first := ⟨_, rfl⟩
  repeat' ((conv => whnf); first | refine walk (Tryz.ok ..) ?_ | (refine Cnd.mk (fun h => ?_) (fun h => ?_) <;> (first | exact cndT h (by (try dsimp only); omega) | exact cndF h (by (try dsimp only); omega) | (exfalso; simp at h; omega) | simp at h | skip)) | refine kp ?_ ?_ | refine tw ?_ ?_ | exact trivial | refine side ?_ | refine sideL ?_ | refine Or.inr ?_ | refine sat_drawH (Tryz.ok ..) (by kernel_rfl) ?_ | refine xi _ (And.intro rfl rfl) ?_ | refine xi _ (fun _ => And.intro rfl rfl) ?_ | refine xi _ rfl ?_)
  intro g hg
  repeat' ((conv => whnf); first | refine walk (Tryz.ok ..) ?_ | (refine Cnd.mk (fun h => ?_) (fun h => ?_) <;> (first | exact cndT h (by (try dsimp only); omega) | exact cndF h (by (try dsimp only); omega) | (exfalso; simp at h; omega) | simp at h | skip)) | refine kp ?_ ?_ | refine tw ?_ ?_ | exact trivial | refine side ?_ | refine sideL ?_ | refine Or.inr ?_ | refine sat_drawH (Tryz.ok ..) (by kernel_rfl) ?_ | refine xi _ (And.intro rfl rfl) ?_ | refine xi _ (fun _ => And.intro rfl rfl) ?_ | refine xi _ rfl ?_)
  refine called_pure (.v (.bool p)) rfl (fun w' => by rw [hp]; exact rtime_any _ w') ?_
  repeat' ((conv => whnf); first | refine walk (Tryz.ok ..) ?_ | (refine Cnd.mk (fun h => ?_) (fun h => ?_) <;> (first | exact cndT h (by (try dsimp only); omega) | exact cndF h (by (try dsimp only); omega) | (exfalso; simp at h; omega) | simp at h | skip)) | refine kp ?_ ?_ | refine tw ?_ ?_ | exact trivial | refine side ?_ | refine sideL ?_ | refine Or.inr ?_ | refine sat_drawH (Tryz.ok ..) (by kernel_rfl) ?_ | refine xi _ (And.intro rfl rfl) ?_ | refine xi _ (fun _ => And.intro rfl rfl) ?_ | refine xi _ rfl ?_)
  · refine done_pure rfl rfl (congrArg Value.bool ?_)
    unfold tidalB
    rw [← hp]
    symm
    rw [← Bool.not_eq_true]
    simp only [Bool.and_eq_true, decide_eq_true_eq]
    intro hc
    cases p
    · exact absurd hc.1.1.1.1.1.1.1.1.1.1 (by simp)
    · simp at h
      omega
  · refine done_pure rfl rfl (congrArg Value.bool ?_)
    unfold tidalB
    rw [← hp]
    rw [h.1.1.1.1.1.1.1, decide_eq_true (show 1 ≤ t.den by omega), decide_eq_true (show t.den ≤ 1000 by omega), decide_eq_true (show 0 ≤ t.before by omega), decide_eq_true (show 0 ≤ t.after by omega), decide_eq_true (show t.before < 10080 by omega), decide_eq_true (show t.after < 10080 by omega), decide_eq_true (show t.before + t.after ≠ 0 by omega)]
    rw [Bool.eq_iff_iff]
    simp only [Bool.and_eq_true, decide_eq_true_eq, Bool.true_and]
    have h0 : 0 ≤ t.before + t.after := by omega
    constructor
    · rintro ⟨⟨h1, h2⟩, h3⟩
      have h4 : t.num ≠ 0 := fun e => by rw [e, Int.zero_ediv] at h3; omega
      exact ⟨⟨by omega, h1⟩, h3⟩
    · rintro ⟨⟨h1, h2⟩, h3⟩
      exact ⟨⟨h2, by omega⟩, h3⟩
theorem tidy_of {t : Td} (h : tidalB t = true) : Tidy t := by
  unfold tidalB at h
  simp only [Bool.and_eq_true, decide_eq_true_eq, timed_iff2] at h
  obtain ⟨⟨⟨⟨⟨⟨⟨⟨⟨⟨h1, h2⟩, h3⟩, h4⟩, h5⟩, h6⟩, h7⟩, h8⟩, h9⟩, h10⟩, h11⟩ := h
  exact ⟨h1, ⟨h2, h3⟩, ⟨h4, h6⟩, ⟨h5, h7⟩, by omega, ⟨h9, h10⟩, h11⟩
theorem hiw_bd {t : Td} (h : Tidy t) {k : Int} (h0 : 0 ≤ k) (h1 : k ≤ 1000000000) : (0 ≤ k * t.num ∧ k * t.num ≤ 20160000000000000) ∧ 0 ≤ k * t.num / t.den ∧ k * t.num / t.den ≤ 20160000000000 := by
  have hn := h.num
  have hd := h.den
  have e1 : 0 ≤ k * t.num := Int.mul_nonneg h0 (by omega)
  have e2 : k * t.num ≤ 1000000000 * (20160 * t.den) := Int.mul_le_mul h1 hn.2 (by omega) (by omega)
  refine ⟨⟨e1, by omega⟩, Int.ediv_nonneg e1 (by omega), ?_⟩
  refine Int.ediv_le_of_le_mul (by omega) ?_
  omega
set_option maxRecDepth 100000 in
set_option maxHeartbeats 8000000 in
theorem high_any (t : Td) (k : Int) (w : World) (h : Tidy t) (h0 : 0 ≤ k) (h1 : k ≤ 1000000000) : Calls Tryz.prog 64 #[tdV t, .int .i64 k] w fun e w' => e = .returned (.int .i64 (hiw t k)) ∧ Below w.heap.size w w' := by
  refine calls_sat (cx := Tryz.cx 15 [] [] [] w) (Tryz.ok ..) Tryz.func64 rfl [.a (tdC t), .v (.int .i64 k)] rfl (by show 2 ≤ 15; omega) [] (holds_nil (Nat.le_refl _)) ?_
  obtain ⟨⟨b1, b2⟩, b3, b4⟩ := hiw_bd h h0 h1
  have hd := h.den
  have hf := h.first
  have i1 : InR .i64 (k * t.num) := by simp only [InR]; omega
  have i2 : InR .i64 (t.first + k * t.num / t.den) := by simp only [InR]; omega
  repeat' ((conv => whnf); first | refine walk (Tryz.ok ..) ?_ | (refine Cnd.mk (fun h => ?_) (fun h => ?_) <;> (first | exact cndT h (by (try dsimp only); omega) | exact cndF h (by (try dsimp only); omega) | (exfalso; simp at h; omega) | simp at h | skip)) | refine kp ?_ ?_ | refine tw ?_ ?_ | exact trivial | refine side ?_ | refine sideL ?_ | refine Or.inr ?_ | refine sat_drawH (Tryz.ok ..) (by kernel_rfl) ?_ | refine xi _ (And.intro rfl rfl) ?_ | refine xi _ (fun _ => And.intro rfl rfl) ?_ | refine xi _ rfl ?_)
  intro g hg
  repeat' ((conv => whnf); first | refine walk (Tryz.ok ..) ?_ | (refine Cnd.mk (fun h => ?_) (fun h => ?_) <;> (first | exact cndT h (by (try dsimp only); omega) | exact cndF h (by (try dsimp only); omega) | (exfalso; simp at h; omega) | simp at h | skip)) | refine kp ?_ ?_ | refine tw ?_ ?_ | exact trivial | refine side ?_ | refine sideL ?_ | refine Or.inr ?_ | refine sat_drawH (Tryz.ok ..) (by kernel_rfl) ?_ | refine xi _ (And.intro rfl rfl) ?_ | refine xi _ (fun _ => And.intro rfl rfl) ?_ | refine xi _ rfl ?_)
  exact done_pure rfl rfl rfl
set_option maxRecDepth 100000 in
set_option maxHeartbeats 8000000 in
theorem rhigh_any (t : Td) (k : Int) (w : World) (h : Tidy t) (h0 : 0 ≤ k) (h1 : k ≤ 1000000000) : Calls Tryz.prog 65 #[tdV t, .int .i64 k] w fun e w' => e = .returned (.int .i64 (hiw t k)) ∧ Below w.heap.size w w' := by
  refine calls_sat (cx := Tryz.cx 26 [] [] [] w) (Tryz.ok ..) Tryz.func65 rfl [.a (tdC t), .v (.int .i64 k)] rfl (by show 2 ≤ 26; omega) [] (holds_nil (Nat.le_refl _)) ?_
  obtain ⟨⟨b1, b2⟩, b3, b4⟩ := hiw_bd h h0 h1
  have hd := h.den
  have hf := h.first
  have hn := h.num
  have q0 : 0 ≤ k / t.den := Int.ediv_nonneg h0 (by omega)
  have q1 : k / t.den ≤ 1000000000 := Int.le_trans (Int.ediv_le_self _ h0) h1
  have r0 : 0 ≤ k % t.den := Int.emod_nonneg _ (by omega)
  have r1 : k % t.den < t.den := Int.emod_lt_of_pos _ (by omega)
  obtain ⟨⟨c1, c2⟩, c3, c4⟩ := hiw_bd h r0 (show k % t.den ≤ 1000000000 by omega)
  have s1 : 0 ≤ k / t.den * t.num := Int.mul_nonneg q0 (by omega)
  have s2 : k / t.den * t.num ≤ 1000000000 * (20160 * t.den) := Int.mul_le_mul q1 hn.2 (by omega) (by omega)
  have hw2 := high_two (k := k) (num := t.num) (den := t.den) (by omega)
  have i0 : Grd.yes.ob (0 ≤ k ∧ 1 ≤ t.den ∧ InR .i64 k) := ⟨h0, by omega, by simp only [InR]; omega⟩
  have i1 : InR .i64 (k / t.den * t.num) := by simp only [InR]; omega
  have i2 : InR .i64 (t.first + k / t.den * t.num) := by simp only [InR]; omega
  have i3 : InR .i64 (k % t.den * t.num) := by simp only [InR]; omega
  have i4 : InR .i64 (t.first + k / t.den * t.num + k % t.den * t.num / t.den) := by simp only [InR]; omega
  repeat' ((conv => whnf); first | refine walk (Tryz.ok ..) ?_ | (refine Cnd.mk (fun h => ?_) (fun h => ?_) <;> (first | exact cndT h (by (try dsimp only); omega) | exact cndF h (by (try dsimp only); omega) | (exfalso; simp at h; omega) | simp at h | skip)) | refine kp ?_ ?_ | refine tw ?_ ?_ | exact trivial | refine side ?_ | refine sideL ?_ | refine Or.inr ?_ | refine sat_drawH (Tryz.ok ..) (by kernel_rfl) ?_ | refine xi _ (And.intro rfl rfl) ?_ | refine xi _ (fun _ => And.intro rfl rfl) ?_ | refine xi _ rfl ?_)
  intro g hg
  repeat' ((conv => whnf); first | refine walk (Tryz.ok ..) ?_ | (refine Cnd.mk (fun h => ?_) (fun h => ?_) <;> (first | exact cndT h (by (try dsimp only); omega) | exact cndF h (by (try dsimp only); omega) | (exfalso; simp at h; omega) | simp at h | skip)) | refine kp ?_ ?_ | refine tw ?_ ?_ | exact trivial | refine side ?_ | refine sideL ?_ | refine Or.inr ?_ | refine sat_drawH (Tryz.ok ..) (by kernel_rfl) ?_ | refine xi _ (And.intro rfl rfl) ?_ | refine xi _ (fun _ => And.intro rfl rfl) ?_ | refine xi _ rfl ?_)
  refine done_pure rfl rfl (congrArg (Value.int .i64) ?_)
  unfold hiw
  omega
def hgV (t : Td) (k : Int) : Int := if tidalB t ∧ 0 ≤ k ∧ k ≤ 100000000 ∧ hiw t k ≤ 100000000 then hiw t k else 0
def hgE (t : Td) (k : Int) : Int := if tidalB t ∧ 0 ≤ k then (if k ≤ 100000000 ∧ hiw t k ≤ 100000000 then 0 else 3) else 2
theorem hg_no {t : Td} {k : Int} (h : ¬ (tidalB t = true ∧ 0 ≤ k)) : 0 = hgV t k ∧ 2 = hgE t k := by
  unfold hgV hgE
  rw [if_neg (fun hc => h ⟨hc.1, hc.2.1⟩), if_neg h]
  exact ⟨rfl, rfl⟩
theorem hg_long {t : Td} {k : Int} (h : tidalB t = true ∧ 0 ≤ k) (h2 : ¬ (k ≤ 100000000 ∧ hiw t k ≤ 100000000)) : 0 = hgV t k ∧ 3 = hgE t k := by
  unfold hgV hgE
  rw [if_neg (fun hc => h2 hc.2.2), if_pos h, if_neg h2]
  exact ⟨rfl, rfl⟩
theorem hg_yes {t : Td} {k : Int} (h : tidalB t = true ∧ 0 ≤ k) (h2 : k ≤ 100000000 ∧ hiw t k ≤ 100000000) : hiw t k = hgV t k ∧ 0 = hgE t k := by
  unfold hgV hgE
  rw [if_pos ⟨h.1, h.2, h2⟩, if_pos h, if_pos h2]
  exact ⟨rfl, rfl⟩
end Go.Proofs.YtmhfkmnpeponiaaGreatDoor
