/-
  The laws of the clock: lists of spans, as they are specified.
-/
import Derived.Test.YtmhfkmnpeponiaaGreatDoorAw
import Derived.Test.YtmhfkmnpeponiaaGreatDoorC11
import Derived.Test.YtmhfkmnpeponiaaGreatDoorLawE
namespace Go.Proofs.YtmhfkmnpeponiaaGreatDoor
open Go Sat Go.RowKit Go.PlainAid
set_option linter.unusedSimpArgs false
set_option linter.unusedVariables false
theorem bo_len (a b : List Sp) : (boL a b).length ≤ 1000 := by
  unfold boL
  split
  · rename_i h; exact h.2
  · simp
set_option maxRecDepth 100000 in
set_option maxHeartbeats 16000000 in
theorem lists_any (a : List Sp) (A : Option (Nat × Nat)) (cA : Nat) (b : List Sp) (B : Option (Nat × Nat)) (cB : Nat) (p q m : Int) (w : World) (hA : Ro w A a.length 2 (sps a)) (hB : Ro w B b.length 2 (sps b)) :
    Calls Tryz.prog 5 #[.slice (adr A) a.length cA, .slice (adr B) b.length cB, .int .i64 p, .int .i64 q, .int .i64 m] w fun e w' => e = .returned (.bool true) ∧ Below w.heap.size w w' := by
  refine calls_sat (cx := Tryz.cx 158 [] [] [] w) (Tryz.ok ..) Tryz.func5 rfl [.o 300 A a.length cA, .o 301 B b.length cB, .v (.int .i64 p), .v (.int .i64 q), .v (.int .i64 m)] rfl (by show 5 ≤ 158; omega) [(300, .ro A a.length 2 (sps a)), (301, .ro B b.length 2 (sps b))] (holds_ros rfl rfl ⟨hA, hB, trivial⟩) ?_
  repeat' ((conv => whnf); first | refine walk (Tryz.ok ..) ?_ | (refine Cnd.mk (fun h => ?_) (fun h => ?_) <;> (first | exact cndT h (by (try dsimp only); omega) | exact cndF h (by (try dsimp only); omega) | (exfalso; simp at h; omega) | simp at h | skip)) | refine kp ?_ ?_ | refine tw ?_ ?_ | exact trivial | refine side ?_ | refine sideL ?_ | refine Or.inr ?_ | refine sat_drawH (Tryz.ok ..) (by kernel_rfl) ?_ | refine xi _ (And.intro rfl rfl) ?_ | refine xi _ (fun _ => And.intro rfl rfl) ?_ | refine xi _ rfl ?_)
  intro g33 hg33
  repeat' ((conv => whnf); first | refine walk (Tryz.ok ..) ?_ | (refine Cnd.mk (fun h => ?_) (fun h => ?_) <;> (first | exact cndT h (by (try dsimp only); omega) | exact cndF h (by (try dsimp only); omega) | (exfalso; simp at h; omega) | simp at h | skip)) | refine kp ?_ ?_ | refine tw ?_ ?_ | exact trivial | refine side ?_ | refine sideL ?_ | refine Or.inr ?_ | refine sat_drawH (Tryz.ok ..) (by kernel_rfl) ?_ | refine xi _ (And.intro rfl rfl) ?_ | refine xi _ (fun _ => And.intro rfl rfl) ?_ | refine xi _ rfl ?_)
  by_cases hab : a.length ≤ 1100 ∧ b.length ≤ 1100
  · obtain ⟨ha, hb⟩ := hab
    refine called_at (.v (.bool true)) rfl (fun w' hh => by
      have h1 := few_any (g33, 0) (adr A) (adr B) a.length cA b.length cB 2 w' (ro_of_blk hh (id := 33) rfl 0 2 1 (by show 0 + 2 * 1 ≤ 2; omega))
      rw [decide_eq_true ha, decide_eq_true hb] at h1
      exact h1) ?_
    repeat' ((conv => whnf); first | refine walk (Tryz.ok ..) ?_ | (refine Cnd.mk (fun h => ?_) (fun h => ?_) <;> (first | exact cndT h (by (try dsimp only); omega) | exact cndF h (by (try dsimp only); omega) | (exfalso; simp at h; omega) | simp at h | skip)) | refine kp ?_ ?_ | refine tw ?_ ?_ | exact trivial | refine side ?_ | refine sideL ?_ | refine Or.inr ?_ | refine sat_drawH (Tryz.ok ..) (by kernel_rfl) ?_ | refine xi _ (And.intro rfl rfl) ?_ | refine xi _ (fun _ => And.intro rfl rfl) ?_ | refine xi _ rfl ?_)
    refine called_row 37 (xs := sps a) (fun v => v) (fun A cap => .o 37 A a.length cap) (fun A cap => rfl) (fun w' hh => given_any a A cA w' (ro_of_ro hh (id := 300) rfl) (by omega)) ?_
    intro A1 cap1
    repeat' ((conv => whnf); first | refine walk (Tryz.ok ..) ?_ | (refine Cnd.mk (fun h => ?_) (fun h => ?_) <;> (first | exact cndT h (by (try dsimp only); omega) | exact cndF h (by (try dsimp only); omega) | (exfalso; simp at h; omega) | simp at h | skip)) | refine kp ?_ ?_ | refine tw ?_ ?_ | exact trivial | refine side ?_ | refine sideL ?_ | refine Or.inr ?_ | refine sat_drawH (Tryz.ok ..) (by kernel_rfl) ?_ | refine xi _ (And.intro rfl rfl) ?_ | refine xi _ (fun _ => And.intro rfl rfl) ?_ | refine xi _ rfl ?_)
    refine called_row 39 (xs := sps b) (fun v => v) (fun A cap => .o 39 A b.length cap) (fun A cap => rfl) (fun w' hh => given_any b B cB w' (ro_of_ro hh (id := 301) rfl) (by omega)) ?_
    intro B1 capb1
    repeat' ((conv => whnf); first | refine walk (Tryz.ok ..) ?_ | (refine Cnd.mk (fun h => ?_) (fun h => ?_) <;> (first | exact cndT h (by (try dsimp only); omega) | exact cndF h (by (try dsimp only); omega) | (exfalso; simp at h; omega) | simp at h | skip)) | refine kp ?_ ?_ | refine tw ?_ ?_ | exact trivial | refine side ?_ | refine sideL ?_ | refine Or.inr ?_ | refine sat_drawH (Tryz.ok ..) (by kernel_rfl) ?_ | refine xi _ (And.intro rfl rfl) ?_ | refine xi _ (fun _ => And.intro rfl rfl) ?_ | refine xi _ rfl ?_)
    refine called_short 41 (xs := sps (a ++ nine)) (fun v => v) (fun A => .o 41 A a.length (a.length + 9)) (fun A => rfl) (fun w' hh => lent_any a A cA w' (ro_of_ro hh (id := 300) rfl) (by omega)) ?_
    intro A2
    repeat' ((conv => whnf); first | refine walk (Tryz.ok ..) ?_ | (refine Cnd.mk (fun h => ?_) (fun h => ?_) <;> (first | exact cndT h (by (try dsimp only); omega) | exact cndF h (by (try dsimp only); omega) | (exfalso; simp at h; omega) | simp at h | skip)) | refine kp ?_ ?_ | refine tw ?_ ?_ | exact trivial | refine side ?_ | refine sideL ?_ | refine Or.inr ?_ | refine sat_drawH (Tryz.ok ..) (by kernel_rfl) ?_ | refine xi _ (And.intro rfl rfl) ?_ | refine xi _ (fun _ => And.intro rfl rfl) ?_ | refine xi _ rfl ?_)
    refine called_short 43 (xs := sps (b ++ nine)) (fun v => v) (fun A => .o 43 A b.length (b.length + 9)) (fun A => rfl) (fun w' hh => lent_any b B cB w' (ro_of_ro hh (id := 301) rfl) (by omega)) ?_
    intro B2
    repeat' ((conv => whnf); first | refine walk (Tryz.ok ..) ?_ | (refine Cnd.mk (fun h => ?_) (fun h => ?_) <;> (first | exact cndT h (by (try dsimp only); omega) | exact cndF h (by (try dsimp only); omega) | (exfalso; simp at h; omega) | simp at h | skip)) | refine kp ?_ ?_ | refine tw ?_ ?_ | exact trivial | refine side ?_ | refine sideL ?_ | refine Or.inr ?_ | refine sat_drawH (Tryz.ok ..) (by kernel_rfl) ?_ | refine xi _ (And.intro rfl rfl) ?_ | refine xi _ (fun _ => And.intro rfl rfl) ?_ | refine xi _ rfl ?_)
    have hML := bo_len a b
    obtain ⟨M, eM⟩ : ∃ v, v = boL a b := ⟨_, rfl⟩
    obtain ⟨me, eme⟩ : ∃ v, v = boE a b := ⟨_, rfl⟩
    obtain ⟨n, en⟩ : ∃ v, v = btV a p q := ⟨_, rfl⟩
    obtain ⟨ne, ene⟩ : ∃ v, v = btE a p q := ⟨_, rfl⟩
    obtain ⟨u, eu⟩ : ∃ v, v = ftV a p m := ⟨_, rfl⟩
    obtain ⟨ue, eue⟩ : ∃ v, v = ftE a p m := ⟨_, rfl⟩
    obtain ⟨z, ez⟩ : ∃ v, v = fnV a p m := ⟨_, rfl⟩
    obtain ⟨ze, eze⟩ : ∃ v, v = fnE a p m := ⟨_, rfl⟩
    obtain ⟨ap, eap⟩ : ∃ v, v = apart a := ⟨_, rfl⟩
    rw [← eM] at hML
    refine called_row 44 (xs := sps M) (fun v => .tuple #[v, .int .i64 me]) (fun A cap => .t [.o 44 A M.length cap, .v (.int .i64 me)]) (fun A cap => rfl) (fun w' hh => by
      rw [eM, eme]
      exact both_any a b A2 B2 (a.length + 9) (b.length + 9) w' (ro_lent (ro_of_row hh (id := 41) rfl)) (ro_lent (ro_of_row hh (id := 43) rfl)) (by omega) (by omega) (by omega)) ?_
    intro A3 cap3
    repeat' ((conv => whnf); first | refine walk (Tryz.ok ..) ?_ | (refine Cnd.mk (fun h => ?_) (fun h => ?_) <;> (first | exact cndT h (by (try dsimp only); omega) | exact cndF h (by (try dsimp only); omega) | (exfalso; simp at h; omega) | simp at h | skip)) | refine kp ?_ ?_ | refine tw ?_ ?_ | exact trivial | refine side ?_ | refine sideL ?_ | refine Or.inr ?_ | refine sat_drawH (Tryz.ok ..) (by kernel_rfl) ?_ | refine xi _ (And.intro rfl rfl) ?_ | refine xi _ (fun _ => And.intro rfl rfl) ?_ | refine xi _ rfl ?_)
    refine called_at (.t [.v (.int .i64 n), .v (.int .i64 ne)]) rfl (fun w' hh => by
      rw [en, ene]
      exact between_any a A2 (a.length + 9) p q w' (ro_lent (ro_of_row hh (id := 41) rfl)) (by omega)) ?_
    repeat' ((conv => whnf); first | refine walk (Tryz.ok ..) ?_ | (refine Cnd.mk (fun h => ?_) (fun h => ?_) <;> (first | exact cndT h (by (try dsimp only); omega) | exact cndF h (by (try dsimp only); omega) | (exfalso; simp at h; omega) | simp at h | skip)) | refine kp ?_ ?_ | refine tw ?_ ?_ | exact trivial | refine side ?_ | refine sideL ?_ | refine Or.inr ?_ | refine sat_drawH (Tryz.ok ..) (by kernel_rfl) ?_ | refine xi _ (And.intro rfl rfl) ?_ | refine xi _ (fun _ => And.intro rfl rfl) ?_ | refine xi _ rfl ?_)
    refine called_at (.t [.v (.int .i64 u), .v (.int .i64 ue)]) rfl (fun w' hh => by
      rw [eu, eue]
      exact fit_any a A2 (a.length + 9) p m w' (ro_lent (ro_of_row hh (id := 41) rfl)) (by omega)) ?_
    repeat' ((conv => whnf); first | refine walk (Tryz.ok ..) ?_ | (refine Cnd.mk (fun h => ?_) (fun h => ?_) <;> (first | exact cndT h (by (try dsimp only); omega) | exact cndF h (by (try dsimp only); omega) | (exfalso; simp at h; omega) | simp at h | skip)) | refine kp ?_ ?_ | refine tw ?_ ?_ | exact trivial | refine side ?_ | refine sideL ?_ | refine Or.inr ?_ | refine sat_drawH (Tryz.ok ..) (by kernel_rfl) ?_ | refine xi _ (And.intro rfl rfl) ?_ | refine xi _ (fun _ => And.intro rfl rfl) ?_ | refine xi _ rfl ?_)
    refine called_at (.t [.v (.int .i64 z), .v (.int .i64 ze)]) rfl (fun w' hh => by
      rw [ez, eze]
      exact finish_any a A2 (a.length + 9) p m w' (ro_lent (ro_of_row hh (id := 41) rfl)) (by omega)) ?_
    repeat' ((conv => whnf); first | refine walk (Tryz.ok ..) ?_ | (refine Cnd.mk (fun h => ?_) (fun h => ?_) <;> (first | exact cndT h (by (try dsimp only); omega) | exact cndF h (by (try dsimp only); omega) | (exfalso; simp at h; omega) | simp at h | skip)) | refine kp ?_ ?_ | refine tw ?_ ?_ | exact trivial | refine side ?_ | refine sideL ?_ | refine Or.inr ?_ | refine sat_drawH (Tryz.ok ..) (by kernel_rfl) ?_ | refine xi _ (And.intro rfl rfl) ?_ | refine xi _ (fun _ => And.intro rfl rfl) ?_ | refine xi _ rfl ?_)
    refine called_row 71 (xs := sps M) (fun v => .tuple #[v, .int .i64 me]) (fun A cap => .t [.o 71 A M.length cap, .v (.int .i64 me)]) (fun A cap => rfl) (fun w' hh => by
      rw [eM, eme]
      exact rboth_any a b A1 B1 cap1 capb1 w' (ro_of_row hh (id := 37) rfl) (ro_of_row hh (id := 39) rfl) (by omega) (by omega)) ?_
    intro A4 cap4
    repeat' ((conv => whnf); first | refine walk (Tryz.ok ..) ?_ | (refine Cnd.mk (fun h => ?_) (fun h => ?_) <;> (first | exact cndT h (by (try dsimp only); omega) | exact cndF h (by (try dsimp only); omega) | (exfalso; simp at h; omega) | simp at h | skip)) | refine kp ?_ ?_ | refine tw ?_ ?_ | exact trivial | refine side ?_ | refine sideL ?_ | refine Or.inr ?_ | refine sat_drawH (Tryz.ok ..) (by kernel_rfl) ?_ | refine xi _ (And.intro rfl rfl) ?_ | refine xi _ (fun _ => And.intro rfl rfl) ?_ | refine xi _ rfl ?_)
    refine called_at (.t [.v (.int .i64 n), .v (.int .i64 ne)]) rfl (fun w' hh => by
      rw [en, ene]
      exact rbetween_any a A1 cap1 p q w' (ro_of_row hh (id := 37) rfl) (by omega)) ?_
    repeat' ((conv => whnf); first | refine walk (Tryz.ok ..) ?_ | (refine Cnd.mk (fun h => ?_) (fun h => ?_) <;> (first | exact cndT h (by (try dsimp only); omega) | exact cndF h (by (try dsimp only); omega) | (exfalso; simp at h; omega) | simp at h | skip)) | refine kp ?_ ?_ | refine tw ?_ ?_ | exact trivial | refine side ?_ | refine sideL ?_ | refine Or.inr ?_ | refine sat_drawH (Tryz.ok ..) (by kernel_rfl) ?_ | refine xi _ (And.intro rfl rfl) ?_ | refine xi _ (fun _ => And.intro rfl rfl) ?_ | refine xi _ rfl ?_)
    refine called_at (.t [.v (.int .i64 u), .v (.int .i64 ue)]) rfl (fun w' hh => by
      rw [eu, eue]
      exact rfit_any a A1 cap1 p m w' (ro_of_row hh (id := 37) rfl) (by omega)) ?_
    repeat' ((conv => whnf); first | refine walk (Tryz.ok ..) ?_ | (refine Cnd.mk (fun h => ?_) (fun h => ?_) <;> (first | exact cndT h (by (try dsimp only); omega) | exact cndF h (by (try dsimp only); omega) | (exfalso; simp at h; omega) | simp at h | skip)) | refine kp ?_ ?_ | refine tw ?_ ?_ | exact trivial | refine side ?_ | refine sideL ?_ | refine Or.inr ?_ | refine sat_drawH (Tryz.ok ..) (by kernel_rfl) ?_ | refine xi _ (And.intro rfl rfl) ?_ | refine xi _ (fun _ => And.intro rfl rfl) ?_ | refine xi _ rfl ?_)
    refine called_at (.t [.v (.int .i64 z), .v (.int .i64 ze)]) rfl (fun w' hh => by
      rw [ez, eze]
      exact rfinish_any a A1 cap1 p m w' (ro_of_row hh (id := 37) rfl) (by omega)) ?_
    repeat' ((conv => whnf); first | refine walk (Tryz.ok ..) ?_ | (refine Cnd.mk (fun h => ?_) (fun h => ?_) <;> (first | exact cndT h (by (try dsimp only); omega) | exact cndF h (by (try dsimp only); omega) | (exfalso; simp at h; omega) | simp at h | skip)) | refine kp ?_ ?_ | refine tw ?_ ?_ | exact trivial | refine side ?_ | refine sideL ?_ | refine Or.inr ?_ | refine sat_drawH (Tryz.ok ..) (by kernel_rfl) ?_ | refine xi _ (And.intro rfl rfl) ?_ | refine xi _ (fun _ => And.intro rfl rfl) ?_ | refine xi _ rfl ?_)
    refine called_at (.v (.bool true)) rfl (fun w' hh => kept_any a A2 A cA w' (ro_of_row hh (id := 41) rfl) (ro_of_ro hh (id := 300) rfl) (by omega)) ?_
    repeat' ((conv => whnf); first | refine walk (Tryz.ok ..) ?_ | (refine Cnd.mk (fun h => ?_) (fun h => ?_) <;> (first | exact cndT h (by (try dsimp only); omega) | exact cndF h (by (try dsimp only); omega) | (exfalso; simp at h; omega) | simp at h | skip)) | refine kp ?_ ?_ | refine tw ?_ ?_ | exact trivial | refine side ?_ | refine sideL ?_ | refine Or.inr ?_ | refine sat_drawH (Tryz.ok ..) (by kernel_rfl) ?_ | refine xi _ (And.intro rfl rfl) ?_ | refine xi _ (fun _ => And.intro rfl rfl) ?_ | refine xi _ rfl ?_)
    refine calledQ_at (.v (.bool true)) rfl (fun _ w' hh => kept_any b B2 B cB w' (ro_of_row hh (id := 43) rfl) (ro_of_ro hh (id := 301) rfl) (by omega)) ?_
    repeat' ((conv => whnf); first | refine walk (Tryz.ok ..) ?_ | (refine Cnd.mk (fun h => ?_) (fun h => ?_) <;> (first | exact cndT h (by (try dsimp only); omega) | exact cndF h (by (try dsimp only); omega) | (exfalso; simp at h; omega) | simp at h | skip)) | refine kp ?_ ?_ | refine tw ?_ ?_ | exact trivial | refine side ?_ | refine sideL ?_ | refine Or.inr ?_ | refine sat_drawH (Tryz.ok ..) (by kernel_rfl) ?_ | refine xi _ (And.intro rfl rfl) ?_ | refine xi _ (fun _ => And.intro rfl rfl) ?_ | refine xi _ rfl ?_)
    refine calledQ_at (.v (.bool ap)) rfl (fun _ w' hh => by rw [eap]; exact apart_any a A cA w' (ro_of_ro hh (id := 300) rfl) (by omega)) ?_
    repeat' ((conv => whnf); first | refine walk (Tryz.ok ..) ?_ | (refine Cnd.mk (fun h => ?_) (fun h => ?_) <;> (first | exact cndT h (by (try dsimp only); omega) | exact cndF h (by (try dsimp only); omega) | (exfalso; simp at h; omega) | simp at h | skip)) | refine kp ?_ ?_ | refine tw ?_ ?_ | exact trivial | refine side ?_ | refine sideL ?_ | refine Or.inr ?_ | refine sat_drawH (Tryz.ok ..) (by kernel_rfl) ?_ | refine xi _ (And.intro rfl rfl) ?_ | refine xi _ (fun _ => And.intro rfl rfl) ?_ | refine xi _ rfl ?_)
    refine calledQ_at (.v (.bool ap)) rfl (fun _ w' hh => by rw [eap]; exact rapart_any a A1 cap1 w' (ro_of_row hh (id := 37) rfl) (by omega)) ?_
    repeat' ((conv => whnf); first | refine walk (Tryz.ok ..) ?_ | (refine Cnd.mk (fun h => ?_) (fun h => ?_) <;> (first | exact cndT h (by (try dsimp only); omega) | exact cndF h (by (try dsimp only); omega) | (exfalso; simp at h; omega) | simp at h | skip)) | refine kp ?_ ?_ | refine tw ?_ ?_ | exact trivial | refine side ?_ | refine sideL ?_ | refine Or.inr ?_ | refine sat_drawH (Tryz.ok ..) (by kernel_rfl) ?_ | refine xi _ (And.intro rfl rfl) ?_ | refine xi _ (fun _ => And.intro rfl rfl) ?_ | refine xi _ rfl ?_)
    refine over_at rfl 41 (xs := sps (a ++ nine)) [(43, .row B2 25 2 (b.length + 9) (b.length + 9) (sps (b ++ nine))), (44, .row A3 25 2 M.length cap3 (sps M)), (71, .row A4 81 2 M.length cap4 (sps M))] rfl rfl ?_ (by rw [sps_len, List.length_append]; rfl) (by omega) (by omega) ?_
    · ((repeat' (first | exact trivial | exact rfl | refine And.intro ?_ ?_)) <;> (try (conv => whnf)) <;> (try simp only [SV.real, SV.r2, SV.r1]))
    intro X1 hX1
    repeat' ((conv => whnf); first | refine walk (Tryz.ok ..) ?_ | (refine Cnd.mk (fun h => ?_) (fun h => ?_) <;> (first | exact cndT h (by (try dsimp only); omega) | exact cndF h (by (try dsimp only); omega) | (exfalso; simp at h; omega) | simp at h | skip)) | refine kp ?_ ?_ | refine tw ?_ ?_ | exact trivial | refine side ?_ | refine sideL ?_ | refine Or.inr ?_ | refine sat_drawH (Tryz.ok ..) (by kernel_rfl) ?_ | refine xi _ (And.intro rfl rfl) ?_ | refine xi _ (fun _ => And.intro rfl rfl) ?_ | refine xi _ rfl ?_)
    refine over_at rfl 43 (xs := sps (b ++ nine)) [(44, .row A3 25 2 M.length cap3 (sps M)), (71, .row A4 81 2 M.length cap4 (sps M))] rfl rfl ?_ (by rw [sps_len, List.length_append]; rfl) (by omega) (by omega) ?_
    · ((repeat' (first | exact trivial | exact rfl | refine And.intro ?_ ?_)) <;> (try (conv => whnf)) <;> (try simp only [SV.real, SV.r2, SV.r1]))
    intro X2 hX2
    repeat' ((conv => whnf); first | refine walk (Tryz.ok ..) ?_ | (refine Cnd.mk (fun h => ?_) (fun h => ?_) <;> (first | exact cndT h (by (try dsimp only); omega) | exact cndF h (by (try dsimp only); omega) | (exfalso; simp at h; omega) | simp at h | skip)) | refine kp ?_ ?_ | refine tw ?_ ?_ | exact trivial | refine side ?_ | refine sideL ?_ | refine Or.inr ?_ | refine sat_drawH (Tryz.ok ..) (by kernel_rfl) ?_ | refine xi _ (And.intro rfl rfl) ?_ | refine xi _ (fun _ => And.intro rfl rfl) ?_ | refine xi _ rfl ?_)
    refine called_row 156 (xs := sps M) (fun v => v) (fun A cap => .o 156 A M.length cap) (fun A cap => rfl) (fun w' hh => tell_any M A4 cap4 w' (ro_of_row hh (id := 71) rfl) (by omega)) ?_
    intro A5 cap5
    repeat' ((conv => whnf); first | refine walk (Tryz.ok ..) ?_ | (refine Cnd.mk (fun h => ?_) (fun h => ?_) <;> (first | exact cndT h (by (try dsimp only); omega) | exact cndF h (by (try dsimp only); omega) | (exfalso; simp at h; omega) | simp at h | skip)) | refine kp ?_ ?_ | refine tw ?_ ?_ | exact trivial | refine side ?_ | refine sideL ?_ | refine Or.inr ?_ | refine sat_drawH (Tryz.ok ..) (by kernel_rfl) ?_ | refine xi _ (And.intro rfl rfl) ?_ | refine xi _ (fun _ => And.intro rfl rfl) ?_ | refine xi _ rfl ?_)
    refine called_at (.v (.bool true)) rfl (fun w' hh => same_any M A3 A5 cap3 cap5 w' (ro_of_row hh (id := 44) rfl) (ro_of_row hh (id := 156) rfl) (by omega)) ?_
    repeat' ((conv => whnf); first | refine walk (Tryz.ok ..) ?_ | (refine Cnd.mk (fun h => ?_) (fun h => ?_) <;> (first | exact cndT h (by (try dsimp only); omega) | exact cndF h (by (try dsimp only); omega) | (exfalso; simp at h; omega) | simp at h | skip)) | refine kp ?_ ?_ | refine tw ?_ ?_ | exact trivial | refine side ?_ | refine sideL ?_ | refine Or.inr ?_ | refine sat_drawH (Tryz.ok ..) (by kernel_rfl) ?_ | refine xi _ (And.intro rfl rfl) ?_ | refine xi _ (fun _ => And.intro rfl rfl) ?_ | refine xi _ rfl ?_)
    exact done_pure rfl rfl rfl
  · refine called_at (.v (.bool false)) rfl (fun w' hh => by
      have h1 := few_any (g33, 0) (adr A) (adr B) a.length cA b.length cB 2 w' (ro_of_blk hh (id := 33) rfl 0 2 1 (by show 0 + 2 * 1 ≤ 2; omega))
      rw [show (decide (a.length ≤ 1100) && decide (b.length ≤ 1100)) = false by
        rw [Bool.and_eq_false_iff, decide_eq_false_iff_not, decide_eq_false_iff_not]
        omega] at h1
      exact h1) ?_
    repeat' ((conv => whnf); first | refine walk (Tryz.ok ..) ?_ | (refine Cnd.mk (fun h => ?_) (fun h => ?_) <;> (first | exact cndT h (by (try dsimp only); omega) | exact cndF h (by (try dsimp only); omega) | (exfalso; simp at h; omega) | simp at h | skip)) | refine kp ?_ ?_ | refine tw ?_ ?_ | exact trivial | refine side ?_ | refine sideL ?_ | refine Or.inr ?_ | refine sat_drawH (Tryz.ok ..) (by kernel_rfl) ?_ | refine xi _ (And.intro rfl rfl) ?_ | refine xi _ (fun _ => And.intro rfl rfl) ?_ | refine xi _ rfl ?_)
    exact done_pure rfl rfl rfl
end Go.Proofs.YtmhfkmnpeponiaaGreatDoor
