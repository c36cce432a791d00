/-
  The walks of the clock package and of its reference: a high water.
-/
import Derived.Test.YtmhfkmnpeponiaaGreatDoorC12
namespace Go.Proofs.YtmhfkmnpeponiaaGreatDoor
open Go Sat Go.RowKit Go.PlainAid
set_option linter.unusedSimpArgs false
set_option linter.unusedVariables false
theorem real_hg {a a' b b' : Int} (h : a = a') (h2 : b = b') : (SV.t [.v (.int .i64 a), .v (.int .i64 b)]).real = .tuple #[.int .i64 a', .int .i64 b'] := by subst h; subst h2; rfl
set_option maxRecDepth 100000 in
set_option maxHeartbeats 8000000 in
theorem highp_any (t : Td) (k : Int) (w : World) (hk64 : k ≤ 9223372036854775807) : Calls Tryz.prog 38 #[tdV t, .int .i64 k] w fun e w' => e = .returned (.tuple #[.int .i64 (hgV t k), .int .i64 (hgE t k)]) ∧ Below w.heap.size w w' := by
  refine calls_sat (cx := Tryz.cx 26 [] [] [] w) (Tryz.ok ..) Tryz.func38 rfl [.a (tdC t), .v (.int .i64 k)] rfl (by show 2 ≤ 26; omega) [] (holds_nil (Nat.le_refl _)) ?_
  obtain ⟨p, hp⟩ : ∃ p, p = tidalB t := ⟨_, rfl⟩
  repeat' ((conv => whnf); first | refine walk (Tryz.ok ..) ?_ | (refine Cnd.mk (fun h => ?_) (fun h => ?_) <;> (first | exact cndT h (by (try dsimp only); omega) | exact cndF h (by (try dsimp only); omega) | (exfalso; simp at h; omega) | simp at h | skip)) | refine kp ?_ ?_ | refine tw ?_ ?_ | exact trivial | refine side ?_ | refine sideL ?_ | refine Or.inr ?_ | refine sat_drawH (Tryz.ok ..) (by kernel_rfl) ?_ | refine xi _ (And.intro rfl rfl) ?_ | refine xi _ (fun _ => And.intro rfl rfl) ?_ | refine xi _ rfl ?_)
  intro g2 hg2
  repeat' ((conv => whnf); first | refine walk (Tryz.ok ..) ?_ | (refine Cnd.mk (fun h => ?_) (fun h => ?_) <;> (first | exact cndT h (by (try dsimp only); omega) | exact cndF h (by (try dsimp only); omega) | (exfalso; simp at h; omega) | simp at h | skip)) | refine kp ?_ ?_ | refine tw ?_ ?_ | exact trivial | refine side ?_ | refine sideL ?_ | refine Or.inr ?_ | refine sat_drawH (Tryz.ok ..) (by kernel_rfl) ?_ | refine xi _ (And.intro rfl rfl) ?_ | refine xi _ (fun _ => And.intro rfl rfl) ?_ | refine xi _ rfl ?_)
  refine called_pure (.v (.bool p)) rfl (fun w' => by rw [hp]; exact tidal_any t w') ?_
  repeat' ((conv => whnf); first | refine walk (Tryz.ok ..) ?_ | (refine Cnd.mk (fun h => ?_) (fun h => ?_) <;> (first | exact cndT h (by (try dsimp only); omega) | exact cndF h (by (try dsimp only); omega) | (exfalso; simp at h; omega) | simp at h | skip)) | refine kp ?_ ?_ | refine tw ?_ ?_ | exact trivial | refine side ?_ | refine sideL ?_ | refine Or.inr ?_ | refine sat_drawH (Tryz.ok ..) (by kernel_rfl) ?_ | refine xi _ (And.intro rfl rfl) ?_ | refine xi _ (fun _ => And.intro rfl rfl) ?_ | refine xi _ rfl ?_)
  · obtain ⟨h1, h2⟩ := hg_no (t := t) (k := k) (by
      rw [← hp]
      rintro ⟨e1, e2⟩
      rcases h with h | h
      · rw [h] at e1; cases e1
      · omega)
    exact done_pure rfl rfl (real_hg h1 h2)
  have hok : tidalB t = true ∧ 0 ≤ k := ⟨hp ▸ h.1, by omega⟩
  have hT := tidy_of hok.1
  by_cases hk : k ≤ 100000000
  · have hh := fun w' => high_any t k w' hT hok.2 (by omega)
    refine calledQ_pure (.v (.int .i64 (hiw t k))) rfl (fun _ w' => hh w') ?_
    repeat' ((conv => whnf); first | refine walk (Tryz.ok ..) ?_ | (refine Cnd.mk (fun h => ?_) (fun h => ?_) <;> (first | exact cndT h (by (try dsimp only); omega) | exact cndF h (by (try dsimp only); omega) | (exfalso; simp at h; omega) | simp at h | skip)) | refine kp ?_ ?_ | refine tw ?_ ?_ | exact trivial | refine side ?_ | refine sideL ?_ | refine Or.inr ?_ | refine sat_drawH (Tryz.ok ..) (by kernel_rfl) ?_ | refine xi _ (And.intro rfl rfl) ?_ | refine xi _ (fun _ => And.intro rfl rfl) ?_ | refine xi _ rfl ?_)
    · obtain ⟨h1, h2⟩ := hg_long hok (by omega)
      exact done_pure rfl rfl (real_hg h1 h2)
    · refine called_pure (.v (.int .i64 (hiw t k))) rfl (fun w' => hh w') ?_
      repeat' ((conv => whnf); first | refine walk (Tryz.ok ..) ?_ | (refine Cnd.mk (fun h => ?_) (fun h => ?_) <;> (first | exact cndT h (by (try dsimp only); omega) | exact cndF h (by (try dsimp only); omega) | (exfalso; simp at h; omega) | simp at h | skip)) | refine kp ?_ ?_ | refine tw ?_ ?_ | exact trivial | refine side ?_ | refine sideL ?_ | refine Or.inr ?_ | refine sat_drawH (Tryz.ok ..) (by kernel_rfl) ?_ | refine xi _ (And.intro rfl rfl) ?_ | refine xi _ (fun _ => And.intro rfl rfl) ?_ | refine xi _ rfl ?_)
      obtain ⟨h1, h2⟩ := hg_yes hok (by omega)
      exact done_pure rfl rfl (real_hg h1 h2)
  · refine calledQ_pure (.v (.int .i64 0)) rfl (fun hg _ => absurd hg (by simp [Grd.holds]; omega)) ?_
    repeat' ((conv => whnf); first | refine walk (Tryz.ok ..) ?_ | (refine Cnd.mk (fun h => ?_) (fun h => ?_) <;> (first | exact cndT h (by (try dsimp only); omega) | exact cndF h (by (try dsimp only); omega) | (exfalso; simp at h; omega) | simp at h | skip)) | refine kp ?_ ?_ | refine tw ?_ ?_ | exact trivial | refine side ?_ | refine sideL ?_ | refine Or.inr ?_ | refine sat_drawH (Tryz.ok ..) (by kernel_rfl) ?_ | refine xi _ (And.intro rfl rfl) ?_ | refine xi _ (fun _ => And.intro rfl rfl) ?_ | refine xi _ rfl ?_)
    obtain ⟨h1, h2⟩ := hg_long hok (by omega)
    exact done_pure rfl rfl (real_hg h1 h2)
set_option maxRecDepth 100000 in
set_option maxHeartbeats 8000000 in
theorem rhighp_any (t : Td) (k : Int) (w : World) (hk64 : k ≤ 9223372036854775807) : Calls Tryz.prog 39 #[tdV t, .int .i64 k] w fun e w' => e = .returned (.tuple #[.int .i64 (hgV t k), .int .i64 (hgE t k)]) ∧ Below w.heap.size w w' := by
  refine calls_sat (cx := Tryz.cx 40 [3] [] [] w) (Tryz.ok ..) Tryz.func39 rfl [.a (tdC t), .v (.int .i64 k)] rfl (by show 2 ≤ 40; omega) [] (holds_nil (Nat.le_refl _)) ?_
  obtain ⟨p, hp⟩ : ∃ p, p = tidalB t := ⟨_, rfl⟩
  repeat' ((conv => whnf); first | refine walk (Tryz.ok ..) ?_ | (refine Cnd.mk (fun h => ?_) (fun h => ?_) <;> (first | exact cndT h (by (try dsimp only); omega) | exact cndF h (by (try dsimp only); omega) | (exfalso; simp at h; omega) | simp at h | skip)) | refine kp ?_ ?_ | refine tw ?_ ?_ | exact trivial | refine side ?_ | refine sideL ?_ | refine Or.inr ?_ | refine sat_drawH (Tryz.ok ..) (by kernel_rfl) ?_ | refine xi _ (And.intro rfl rfl) ?_ | refine xi _ (fun _ => And.intro rfl rfl) ?_ | refine xi _ rfl ?_)
  intro g2 hg2
  repeat' ((conv => whnf); first | refine walk (Tryz.ok ..) ?_ | (refine Cnd.mk (fun h => ?_) (fun h => ?_) <;> (first | exact cndT h (by (try dsimp only); omega) | exact cndF h (by (try dsimp only); omega) | (exfalso; simp at h; omega) | simp at h | skip)) | refine kp ?_ ?_ | refine tw ?_ ?_ | exact trivial | refine side ?_ | refine sideL ?_ | refine Or.inr ?_ | refine sat_drawH (Tryz.ok ..) (by kernel_rfl) ?_ | refine xi _ (And.intro rfl rfl) ?_ | refine xi _ (fun _ => And.intro rfl rfl) ?_ | refine xi _ rfl ?_)
  refine called_pure (.v (.bool p)) rfl (fun w' => by rw [hp]; exact rtidal_any t w') ?_
  repeat' ((conv => whnf); first | refine walk (Tryz.ok ..) ?_ | (refine Cnd.mk (fun h => ?_) (fun h => ?_) <;> (first | exact cndT h (by (try dsimp only); omega) | exact cndF h (by (try dsimp only); omega) | (exfalso; simp at h; omega) | simp at h | skip)) | refine kp ?_ ?_ | refine tw ?_ ?_ | exact trivial | refine side ?_ | refine sideL ?_ | refine Or.inr ?_ | refine sat_drawH (Tryz.ok ..) (by kernel_rfl) ?_ | refine xi _ (And.intro rfl rfl) ?_ | refine xi _ (fun _ => And.intro rfl rfl) ?_ | refine xi _ rfl ?_)
  · obtain ⟨h1, h2⟩ := hg_no (t := t) (k := k) (by
      rw [← hp]
      rintro ⟨e1, e2⟩
      rcases h with h | h
      · rw [h] at e1; cases e1
      · omega)
    exact done_pure rfl rfl (real_hg h1 h2)
  have hok : tidalB t = true ∧ 0 ≤ k := ⟨hp ▸ h.1, by omega⟩
  have hT := tidy_of hok.1
  by_cases hk : k ≤ 100000000
  · obtain ⟨⟨b1, b2⟩, b3, b4⟩ := hiw_bd hT hok.2 (show k ≤ 1000000000 by omega)
    have hd := hT.den
    have hf := hT.first
    have hn := hT.num
    have q0 : 0 ≤ k / t.den := Int.ediv_nonneg hok.2 (by omega)
    have q1 : k / t.den ≤ 1000000000 := Int.le_trans (Int.ediv_le_self _ hok.2) (by omega)
    have r0 : 0 ≤ k % t.den := Int.emod_nonneg _ (by omega)
    have r1 : k % t.den < t.den := Int.emod_lt_of_pos _ (by omega)
    obtain ⟨⟨c1, c2⟩, c3, c4⟩ := hiw_bd hT r0 (show k % t.den ≤ 1000000000 by omega)
    have s1 : 0 ≤ k / t.den * t.num := Int.mul_nonneg q0 (by omega)
    have s2 : k / t.den * t.num ≤ 1000000000 * (20160 * t.den) := Int.mul_le_mul q1 hn.2 (by omega) (by omega)
    have hw2 := high_two (k := k) (num := t.num) (den := t.den) (by omega)
    have i0 : Grd.yes.ob (0 ≤ k ∧ 1 ≤ t.den ∧ InR .i64 k) := ⟨hok.2, by omega, by simp only [InR]; omega⟩
    have i1 : InR .i64 (k / t.den * t.num) := by simp only [InR]; omega
    have i2 : InR .i64 (t.first + k / t.den * t.num) := by simp only [InR]; omega
    have i3 : InR .i64 (k % t.den * t.num) := by simp only [InR]; omega
    have i4 : InR .i64 (t.first + k / t.den * t.num + k % t.den * t.num / t.den) := by simp only [InR]; omega
    have hhi : hiw t k = t.first + k * t.num / t.den := rfl
    refine sat_ops (Tryz.ok ..) ?_
    repeat' ((conv => whnf); first | refine walk (Tryz.ok ..) ?_ | (refine Cnd.mk (fun h => ?_) (fun h => ?_) <;> (first | exact cndT h (by (try dsimp only); omega) | exact cndF h (by (try dsimp only); omega) | (exfalso; simp at h; omega) | simp at h | skip)) | refine kp ?_ ?_ | refine tw ?_ ?_ | exact trivial | refine side ?_ | refine sideL ?_ | refine Or.inr ?_ | refine sat_drawH (Tryz.ok ..) (by kernel_rfl) ?_ | refine xi _ (And.intro rfl rfl) ?_ | refine xi _ (fun _ => And.intro rfl rfl) ?_ | refine xi _ rfl ?_)
    · obtain ⟨h1, h2⟩ := hg_long hok (by omega)
      exact done_pure rfl rfl (real_hg h1 h2)
    · obtain ⟨h1, h2⟩ := hg_yes hok (by omega)
      exact done_pure rfl rfl (real_hg (by omega) h2)
  · refine sat_ops (Tryz.ok ..) ?_
    repeat' ((conv => whnf); first | refine walk (Tryz.ok ..) ?_ | (refine Cnd.mk (fun h => ?_) (fun h => ?_) <;> (first | exact cndT h (by (try dsimp only); omega) | exact cndF h (by (try dsimp only); omega) | (exfalso; simp at h; omega) | simp at h | skip)) | refine kp ?_ ?_ | refine tw ?_ ?_ | exact trivial | refine side ?_ | refine sideL ?_ | refine Or.inr ?_ | refine sat_drawH (Tryz.ok ..) (by kernel_rfl) ?_ | refine xi _ (And.intro rfl rfl) ?_ | refine xi _ (fun _ => And.intro rfl rfl) ?_ | refine xi _ rfl ?_)
    obtain ⟨h1, h2⟩ := hg_long hok (by omega)
    exact done_pure rfl rfl (real_hg h1 h2)
end Go.Proofs.YtmhfkmnpeponiaaGreatDoor
