/-
  The laws of the clock: calendars, as they are specified.
-/
import Derived.Test.YtmhfkmnpeponiaaGreatDoorAw
import Derived.Test.YtmhfkmnpeponiaaGreatDoorL2
import Derived.Test.YtmhfkmnpeponiaaGreatDoorC16
namespace Go.Proofs.YtmhfkmnpeponiaaGreatDoor
open Go Sat Go.RowKit Go.PlainAid
set_option linter.unusedSimpArgs false
set_option linter.unusedVariables false
theorem sn_len (l c : List Sp) (a b : Int) : (snL l c a b).length ≤ 1000 := by
  unfold snL
  split
  · rename_i h; exact h.2
  · simp
set_option maxRecDepth 100000 in
set_option maxHeartbeats 16000000 in
theorem tells_any (hS : SpansAny) (a : List Sp) (A : Option (Nat × Nat)) (cA : Nat) (b : List Sp) (B : Option (Nat × Nat)) (cB : Nat) (t p q : Int) (w : World) (hA : Ro w A a.length 2 (sps a)) (hB : Ro w B b.length 2 (sps b)) :
    Calls Tryz.prog 4 #[.agg #[.slice (adr A) a.length cA, .slice (adr B) b.length cB], .int .i64 t, .int .i64 p, .int .i64 q] w fun e w' => e = .returned (.bool true) ∧ Below w.heap.size w w' := by
  refine calls_sat (cx := Tryz.cx 126 [3, 4, 9] [] [] w) (Tryz.ok ..) Tryz.func4 rfl [.a [.o 300 A a.length cA, .o 301 B b.length cB], .v (.int .i64 t), .v (.int .i64 p), .v (.int .i64 q)] rfl (by show 4 ≤ 126; omega) [(300, .ro A a.length 2 (sps a)), (301, .ro B b.length 2 (sps b))] (holds_ros rfl rfl ⟨hA, hB, trivial⟩) ?_
  repeat' ((conv => whnf); first | refine walk (Tryz.ok ..) ?_ | (refine Cnd.mk (fun h => ?_) (fun h => ?_) <;> (first | exact cndT h (by (try dsimp only); omega) | exact cndF h (by (try dsimp only); omega) | (exfalso; simp at h; omega) | simp at h | skip)) | refine kp ?_ ?_ | refine tw ?_ ?_ | exact trivial | refine side ?_ | refine sideL ?_ | refine Or.inr ?_ | refine sat_drawH (Tryz.ok ..) (by kernel_rfl) ?_ | refine xi _ (And.intro rfl rfl) ?_ | refine xi _ (fun _ => And.intro rfl rfl) ?_ | refine xi _ rfl ?_)
  intro g4 hg4
  repeat' ((conv => whnf); first | refine walk (Tryz.ok ..) ?_ | (refine Cnd.mk (fun h => ?_) (fun h => ?_) <;> (first | exact cndT h (by (try dsimp only); omega) | exact cndF h (by (try dsimp only); omega) | (exfalso; simp at h; omega) | simp at h | skip)) | refine kp ?_ ?_ | refine tw ?_ ?_ | exact trivial | refine side ?_ | refine sideL ?_ | refine Or.inr ?_ | refine sat_drawH (Tryz.ok ..) (by kernel_rfl) ?_ | refine xi _ (And.intro rfl rfl) ?_ | refine xi _ (fun _ => And.intro rfl rfl) ?_ | refine xi _ rfl ?_)
  intro g23 hg23
  repeat' ((conv => whnf); first | refine walk (Tryz.ok ..) ?_ | (refine Cnd.mk (fun h => ?_) (fun h => ?_) <;> (first | exact cndT h (by (try dsimp only); omega) | exact cndF h (by (try dsimp only); omega) | (exfalso; simp at h; omega) | simp at h | skip)) | refine kp ?_ ?_ | refine tw ?_ ?_ | exact trivial | refine side ?_ | refine sideL ?_ | refine Or.inr ?_ | refine sat_drawH (Tryz.ok ..) (by kernel_rfl) ?_ | refine xi _ (And.intro rfl rfl) ?_ | refine xi _ (fun _ => And.intro rfl rfl) ?_ | refine xi _ rfl ?_)
  by_cases hab : a.length ≤ 1100 ∧ b.length ≤ 1100
  · obtain ⟨ha, hb⟩ := hab
    refine called_at (.v (.bool true)) rfl (fun w' hh => by
      have h1 := few_any (g23, 0) (adr A) (adr B) a.length cA b.length cB 2 w' (ro_of_blk hh (id := 23) rfl 0 2 1 (by show 0 + 2 * 1 ≤ 2; omega))
      rw [decide_eq_true ha, decide_eq_true hb] at h1
      exact h1) ?_
    repeat' ((conv => whnf); first | refine walk (Tryz.ok ..) ?_ | (refine Cnd.mk (fun h => ?_) (fun h => ?_) <;> (first | exact cndT h (by (try dsimp only); omega) | exact cndF h (by (try dsimp only); omega) | (exfalso; simp at h; omega) | simp at h | skip)) | refine kp ?_ ?_ | refine tw ?_ ?_ | exact trivial | refine side ?_ | refine sideL ?_ | refine Or.inr ?_ | refine xi _ (And.intro rfl rfl) ?_ | refine xi _ (fun _ => And.intro rfl rfl) ?_ | refine xi _ rfl ?_)
    · exact done_pure rfl rfl rfl
    · refine sat_join0 (α := Option (Nat × Nat) × Nat × Option (Nat × Nat) × Nat × Nat) (fun x => ([(1, .yes, .v (.int .i64 t)), (2, .yes, .v (.int .i64 p)), (3, .yes, .v (.int .i64 q)), (4, .yes, .p 4 g4 0 0), (9, .yes, .p 9 x.2.2.2.2 0 0)], [(4, .blk g4 29 [.o 300 A a.length cA, .o 301 B b.length cB]), (300, .ro A a.length 2 (sps a)), (301, .ro B b.length 2 (sps b)), (42, .row x.1 81 2 a.length x.2.1 (sps a)), (45, .row x.2.2.1 81 2 b.length x.2.2.2.1 (sps b)), (9, .blk x.2.2.2.2 41 [.o 42 x.1 a.length x.2.1, .o 45 x.2.2.1 b.length x.2.2.2.1])])) (fun _ => True) (fun _ => rfl) ?_ ?_
      · repeat' ((conv => whnf); first | refine walk (Tryz.ok ..) ?_ | (refine Cnd.mk (fun h => ?_) (fun h => ?_) <;> (first | exact cndT h (by (try dsimp only); omega) | exact cndF h (by (try dsimp only); omega) | (exfalso; simp at h; omega) | simp at h | skip)) | refine kp ?_ ?_ | refine tw ?_ ?_ | exact trivial | refine side ?_ | refine sideL ?_ | refine Or.inr ?_ | refine sat_drawH (Tryz.ok ..) (by kernel_rfl) ?_ | refine xi _ (And.intro rfl rfl) ?_ | refine xi _ (fun _ => And.intro rfl rfl) ?_ | refine xi _ rfl ?_)
        · (conv => whnf)
          refine called_row 42 (xs := sps a) (fun v => v) (fun A cap => .o 42 A a.length cap) (fun A cap => rfl) (fun w' hh => given_any a A cA w' (ro_of_ro hh (id := 300) rfl) (by omega)) ?_
          intro A1 c1
          repeat' ((conv => whnf); first | refine walk (Tryz.ok ..) ?_ | (refine Cnd.mk (fun h => ?_) (fun h => ?_) <;> (first | exact cndT h (by (try dsimp only); omega) | exact cndF h (by (try dsimp only); omega) | (exfalso; simp at h; omega) | simp at h | skip)) | refine kp ?_ ?_ | refine tw ?_ ?_ | exact trivial | refine side ?_ | refine sideL ?_ | refine Or.inr ?_ | refine sat_drawH (Tryz.ok ..) (by kernel_rfl) ?_ | refine xi _ (And.intro rfl rfl) ?_ | refine xi _ (fun _ => And.intro rfl rfl) ?_ | refine xi _ rfl ?_)
          · (conv => whnf)
            refine called_row 45 (xs := sps b) (fun v => v) (fun A cap => .o 45 A b.length cap) (fun A cap => rfl) (fun w' hh => given_any b B cB w' (ro_of_ro hh (id := 301) rfl) (by omega)) ?_
            intro B1 d1
            repeat' ((conv => whnf); first | refine walk (Tryz.ok ..) ?_ | (refine Cnd.mk (fun h => ?_) (fun h => ?_) <;> (first | exact cndT h (by (try dsimp only); omega) | exact cndF h (by (try dsimp only); omega) | (exfalso; simp at h; omega) | simp at h | skip)) | refine kp ?_ ?_ | refine tw ?_ ?_ | exact trivial | refine side ?_ | refine sideL ?_ | refine Or.inr ?_ | refine sat_drawH (Tryz.ok ..) (by kernel_rfl) ?_ | refine xi _ (And.intro rfl rfl) ?_ | refine xi _ (fun _ => And.intro rfl rfl) ?_ | refine xi _ rfl ?_)
            (conv => whnf)
            intro g9 hg9
            repeat' ((conv => whnf); first | refine walk (Tryz.ok ..) ?_ | (refine Cnd.mk (fun h => ?_) (fun h => ?_) <;> (first | exact cndT h (by (try dsimp only); omega) | exact cndF h (by (try dsimp only); omega) | (exfalso; simp at h; omega) | simp at h | skip)) | refine kp ?_ ?_ | refine tw ?_ ?_ | exact trivial | refine side ?_ | refine sideL ?_ | refine Or.inr ?_ | refine sat_drawH (Tryz.ok ..) (by kernel_rfl) ?_ | refine xi _ (And.intro rfl rfl) ?_ | refine xi _ (fun _ => And.intro rfl rfl) ?_ | refine xi _ rfl ?_)
            refine ⟨(A1, c1, B1, d1, g9), trivial, ?_, ?_, rfl⟩
            all_goals ((repeat' (first | exact trivial | exact rfl | refine And.intro ?_ ?_)) <;> (try (conv => whnf)) <;> (try simp only [SV.real, SV.r2, SV.r1]))
          · (conv => whnf)
            intro g9 hg9
            repeat' ((conv => whnf); first | refine walk (Tryz.ok ..) ?_ | (refine Cnd.mk (fun h => ?_) (fun h => ?_) <;> (first | exact cndT h (by (try dsimp only); omega) | exact cndF h (by (try dsimp only); omega) | (exfalso; simp at h; omega) | simp at h | skip)) | refine kp ?_ ?_ | refine tw ?_ ?_ | exact trivial | refine side ?_ | refine sideL ?_ | refine Or.inr ?_ | refine sat_drawH (Tryz.ok ..) (by kernel_rfl) ?_ | refine xi _ (And.intro rfl rfl) ?_ | refine xi _ (fun _ => And.intro rfl rfl) ?_ | refine xi _ rfl ?_)
            (conv => whnf)
            refine called_row 45 (xs := sps b) (fun v => v) (fun A cap => .o 45 A b.length cap) (fun A cap => rfl) (fun w' hh => given_any b B cB w' (ro_of_ro hh (id := 301) rfl) (by omega)) ?_
            intro B1 d1
            repeat' ((conv => whnf); first | refine walk (Tryz.ok ..) ?_ | (refine Cnd.mk (fun h => ?_) (fun h => ?_) <;> (first | exact cndT h (by (try dsimp only); omega) | exact cndF h (by (try dsimp only); omega) | (exfalso; simp at h; omega) | simp at h | skip)) | refine kp ?_ ?_ | refine tw ?_ ?_ | exact trivial | refine side ?_ | refine sideL ?_ | refine Or.inr ?_ | refine sat_drawH (Tryz.ok ..) (by kernel_rfl) ?_ | refine xi _ (And.intro rfl rfl) ?_ | refine xi _ (fun _ => And.intro rfl rfl) ?_ | refine xi _ rfl ?_)
            refine ⟨(A1, c1, B1, d1, g9), trivial, ?_, ?_, rfl⟩
            all_goals ((repeat' (first | exact trivial | exact rfl | refine And.intro ?_ ?_)) <;> (try (conv => whnf)) <;> (try simp only [SV.real, SV.r2, SV.r1]))
        · (conv => whnf)
          intro g9 hg9
          repeat' ((conv => whnf); first | refine walk (Tryz.ok ..) ?_ | (refine Cnd.mk (fun h => ?_) (fun h => ?_) <;> (first | exact cndT h (by (try dsimp only); omega) | exact cndF h (by (try dsimp only); omega) | (exfalso; simp at h; omega) | simp at h | skip)) | refine kp ?_ ?_ | refine tw ?_ ?_ | exact trivial | refine side ?_ | refine sideL ?_ | refine Or.inr ?_ | refine sat_drawH (Tryz.ok ..) (by kernel_rfl) ?_ | refine xi _ (And.intro rfl rfl) ?_ | refine xi _ (fun _ => And.intro rfl rfl) ?_ | refine xi _ rfl ?_)
          (conv => whnf)
          refine called_row 42 (xs := sps a) (fun v => v) (fun A cap => .o 42 A a.length cap) (fun A cap => rfl) (fun w' hh => given_any a A cA w' (ro_of_ro hh (id := 300) rfl) (by omega)) ?_
          intro A1 c1
          repeat' ((conv => whnf); first | refine walk (Tryz.ok ..) ?_ | (refine Cnd.mk (fun h => ?_) (fun h => ?_) <;> (first | exact cndT h (by (try dsimp only); omega) | exact cndF h (by (try dsimp only); omega) | (exfalso; simp at h; omega) | simp at h | skip)) | refine kp ?_ ?_ | refine tw ?_ ?_ | exact trivial | refine side ?_ | refine sideL ?_ | refine Or.inr ?_ | refine sat_drawH (Tryz.ok ..) (by kernel_rfl) ?_ | refine xi _ (And.intro rfl rfl) ?_ | refine xi _ (fun _ => And.intro rfl rfl) ?_ | refine xi _ rfl ?_)
          (conv => whnf)
          refine called_row 45 (xs := sps b) (fun v => v) (fun A cap => .o 45 A b.length cap) (fun A cap => rfl) (fun w' hh => given_any b B cB w' (ro_of_ro hh (id := 301) rfl) (by omega)) ?_
          intro B1 d1
          repeat' ((conv => whnf); first | refine walk (Tryz.ok ..) ?_ | (refine Cnd.mk (fun h => ?_) (fun h => ?_) <;> (first | exact cndT h (by (try dsimp only); omega) | exact cndF h (by (try dsimp only); omega) | (exfalso; simp at h; omega) | simp at h | skip)) | refine kp ?_ ?_ | refine tw ?_ ?_ | exact trivial | refine side ?_ | refine sideL ?_ | refine Or.inr ?_ | refine sat_drawH (Tryz.ok ..) (by kernel_rfl) ?_ | refine xi _ (And.intro rfl rfl) ?_ | refine xi _ (fun _ => And.intro rfl rfl) ?_ | refine xi _ rfl ?_)
          refine ⟨(A1, c1, B1, d1, g9), trivial, ?_, ?_, rfl⟩
          all_goals ((repeat' (first | exact trivial | exact rfl | refine And.intro ?_ ?_)) <;> (try (conv => whnf)) <;> (try simp only [SV.real, SV.r2, SV.r1]))
      rintro ⟨A1, c1, B1, d1, g9⟩ _
      repeat' ((conv => whnf); first | refine walk (Tryz.ok ..) ?_ | (refine Cnd.mk (fun h => ?_) (fun h => ?_) <;> (first | exact cndT h (by (try dsimp only); omega) | exact cndF h (by (try dsimp only); omega) | (exfalso; simp at h; omega) | simp at h | skip)) | refine kp ?_ ?_ | refine tw ?_ ?_ | exact trivial | refine side ?_ | refine sideL ?_ | refine Or.inr ?_ | refine xi _ (And.intro rfl rfl) ?_ | refine xi _ (fun _ => And.intro rfl rfl) ?_ | refine xi _ rfl ?_)
      refine sat_join0 (α := Option (Nat × Nat) × Option (Nat × Nat) × Nat) (fun x => ([(1, .yes, .v (.int .i64 t)), (2, .yes, .v (.int .i64 p)), (3, .yes, .v (.int .i64 q)), (4, .yes, .p 4 g4 0 0), (9, .yes, .p 9 g9 0 0), (10, .yes, .p 10 x.2.2 0 0)], [(4, .blk g4 29 [.o 300 A a.length cA, .o 301 B b.length cB]), (300, .ro A a.length 2 (sps a)), (301, .ro B b.length 2 (sps b)), (42, .row A1 81 2 a.length c1 (sps a)), (45, .row B1 81 2 b.length d1 (sps b)), (9, .blk g9 41 [.o 42 A1 a.length c1, .o 45 B1 b.length d1]), (49, .row x.1 25 2 (a.length + 9) (a.length + 9) (sps (a ++ nine))), (52, .row x.2.1 25 2 (b.length + 9) (b.length + 9) (sps (b ++ nine))), (10, .blk x.2.2 29 [.o 49 x.1 a.length (a.length + 9), .o 52 x.2.1 b.length (b.length + 9)])])) (fun _ => True) (fun _ => rfl) ?_ ?_
      · repeat' ((conv => whnf); first | refine walk (Tryz.ok ..) ?_ | (refine Cnd.mk (fun h => ?_) (fun h => ?_) <;> (first | exact cndT h (by (try dsimp only); omega) | exact cndF h (by (try dsimp only); omega) | (exfalso; simp at h; omega) | simp at h | skip)) | refine kp ?_ ?_ | refine tw ?_ ?_ | exact trivial | refine side ?_ | refine sideL ?_ | refine Or.inr ?_ | refine sat_drawH (Tryz.ok ..) (by kernel_rfl) ?_ | refine xi _ (And.intro rfl rfl) ?_ | refine xi _ (fun _ => And.intro rfl rfl) ?_ | refine xi _ rfl ?_)
        · (conv => whnf)
          refine called_short 49 (xs := sps (a ++ nine)) (fun v => v) (fun A => .o 49 A a.length (a.length + 9)) (fun A => rfl) (fun w' hh => lent_any a A cA w' (ro_of_ro hh (id := 300) rfl) (by omega)) ?_
          intro A2
          repeat' ((conv => whnf); first | refine walk (Tryz.ok ..) ?_ | (refine Cnd.mk (fun h => ?_) (fun h => ?_) <;> (first | exact cndT h (by (try dsimp only); omega) | exact cndF h (by (try dsimp only); omega) | (exfalso; simp at h; omega) | simp at h | skip)) | refine kp ?_ ?_ | refine tw ?_ ?_ | exact trivial | refine side ?_ | refine sideL ?_ | refine Or.inr ?_ | refine sat_drawH (Tryz.ok ..) (by kernel_rfl) ?_ | refine xi _ (And.intro rfl rfl) ?_ | refine xi _ (fun _ => And.intro rfl rfl) ?_ | refine xi _ rfl ?_)
          · (conv => whnf)
            refine called_short 52 (xs := sps (b ++ nine)) (fun v => v) (fun A => .o 52 A b.length (b.length + 9)) (fun A => rfl) (fun w' hh => lent_any b B cB w' (ro_of_ro hh (id := 301) rfl) (by omega)) ?_
            intro B2
            repeat' ((conv => whnf); first | refine walk (Tryz.ok ..) ?_ | (refine Cnd.mk (fun h => ?_) (fun h => ?_) <;> (first | exact cndT h (by (try dsimp only); omega) | exact cndF h (by (try dsimp only); omega) | (exfalso; simp at h; omega) | simp at h | skip)) | refine kp ?_ ?_ | refine tw ?_ ?_ | exact trivial | refine side ?_ | refine sideL ?_ | refine Or.inr ?_ | refine sat_drawH (Tryz.ok ..) (by kernel_rfl) ?_ | refine xi _ (And.intro rfl rfl) ?_ | refine xi _ (fun _ => And.intro rfl rfl) ?_ | refine xi _ rfl ?_)
            (conv => whnf)
            intro g10 hg10
            repeat' ((conv => whnf); first | refine walk (Tryz.ok ..) ?_ | (refine Cnd.mk (fun h => ?_) (fun h => ?_) <;> (first | exact cndT h (by (try dsimp only); omega) | exact cndF h (by (try dsimp only); omega) | (exfalso; simp at h; omega) | simp at h | skip)) | refine kp ?_ ?_ | refine tw ?_ ?_ | exact trivial | refine side ?_ | refine sideL ?_ | refine Or.inr ?_ | refine sat_drawH (Tryz.ok ..) (by kernel_rfl) ?_ | refine xi _ (And.intro rfl rfl) ?_ | refine xi _ (fun _ => And.intro rfl rfl) ?_ | refine xi _ rfl ?_)
            refine ⟨(A2, B2, g10), trivial, ?_, ?_, rfl⟩
            all_goals ((repeat' (first | exact trivial | exact rfl | refine And.intro ?_ ?_)) <;> (try (conv => whnf)) <;> (try simp only [SV.real, SV.r2, SV.r1]))
          · (conv => whnf)
            intro g10 hg10
            repeat' ((conv => whnf); first | refine walk (Tryz.ok ..) ?_ | (refine Cnd.mk (fun h => ?_) (fun h => ?_) <;> (first | exact cndT h (by (try dsimp only); omega) | exact cndF h (by (try dsimp only); omega) | (exfalso; simp at h; omega) | simp at h | skip)) | refine kp ?_ ?_ | refine tw ?_ ?_ | exact trivial | refine side ?_ | refine sideL ?_ | refine Or.inr ?_ | refine sat_drawH (Tryz.ok ..) (by kernel_rfl) ?_ | refine xi _ (And.intro rfl rfl) ?_ | refine xi _ (fun _ => And.intro rfl rfl) ?_ | refine xi _ rfl ?_)
            (conv => whnf)
            refine called_short 52 (xs := sps (b ++ nine)) (fun v => v) (fun A => .o 52 A b.length (b.length + 9)) (fun A => rfl) (fun w' hh => lent_any b B cB w' (ro_of_ro hh (id := 301) rfl) (by omega)) ?_
            intro B2
            repeat' ((conv => whnf); first | refine walk (Tryz.ok ..) ?_ | (refine Cnd.mk (fun h => ?_) (fun h => ?_) <;> (first | exact cndT h (by (try dsimp only); omega) | exact cndF h (by (try dsimp only); omega) | (exfalso; simp at h; omega) | simp at h | skip)) | refine kp ?_ ?_ | refine tw ?_ ?_ | exact trivial | refine side ?_ | refine sideL ?_ | refine Or.inr ?_ | refine sat_drawH (Tryz.ok ..) (by kernel_rfl) ?_ | refine xi _ (And.intro rfl rfl) ?_ | refine xi _ (fun _ => And.intro rfl rfl) ?_ | refine xi _ rfl ?_)
            refine ⟨(A2, B2, g10), trivial, ?_, ?_, rfl⟩
            all_goals ((repeat' (first | exact trivial | exact rfl | refine And.intro ?_ ?_)) <;> (try (conv => whnf)) <;> (try simp only [SV.real, SV.r2, SV.r1]))
        · (conv => whnf)
          intro g10 hg10
          repeat' ((conv => whnf); first | refine walk (Tryz.ok ..) ?_ | (refine Cnd.mk (fun h => ?_) (fun h => ?_) <;> (first | exact cndT h (by (try dsimp only); omega) | exact cndF h (by (try dsimp only); omega) | (exfalso; simp at h; omega) | simp at h | skip)) | refine kp ?_ ?_ | refine tw ?_ ?_ | exact trivial | refine side ?_ | refine sideL ?_ | refine Or.inr ?_ | refine sat_drawH (Tryz.ok ..) (by kernel_rfl) ?_ | refine xi _ (And.intro rfl rfl) ?_ | refine xi _ (fun _ => And.intro rfl rfl) ?_ | refine xi _ rfl ?_)
          (conv => whnf)
          refine called_short 49 (xs := sps (a ++ nine)) (fun v => v) (fun A => .o 49 A a.length (a.length + 9)) (fun A => rfl) (fun w' hh => lent_any a A cA w' (ro_of_ro hh (id := 300) rfl) (by omega)) ?_
          intro A2
          repeat' ((conv => whnf); first | refine walk (Tryz.ok ..) ?_ | (refine Cnd.mk (fun h => ?_) (fun h => ?_) <;> (first | exact cndT h (by (try dsimp only); omega) | exact cndF h (by (try dsimp only); omega) | (exfalso; simp at h; omega) | simp at h | skip)) | refine kp ?_ ?_ | refine tw ?_ ?_ | exact trivial | refine side ?_ | refine sideL ?_ | refine Or.inr ?_ | refine sat_drawH (Tryz.ok ..) (by kernel_rfl) ?_ | refine xi _ (And.intro rfl rfl) ?_ | refine xi _ (fun _ => And.intro rfl rfl) ?_ | refine xi _ rfl ?_)
          (conv => whnf)
          refine called_short 52 (xs := sps (b ++ nine)) (fun v => v) (fun A => .o 52 A b.length (b.length + 9)) (fun A => rfl) (fun w' hh => lent_any b B cB w' (ro_of_ro hh (id := 301) rfl) (by omega)) ?_
          intro B2
          repeat' ((conv => whnf); first | refine walk (Tryz.ok ..) ?_ | (refine Cnd.mk (fun h => ?_) (fun h => ?_) <;> (first | exact cndT h (by (try dsimp only); omega) | exact cndF h (by (try dsimp only); omega) | (exfalso; simp at h; omega) | simp at h | skip)) | refine kp ?_ ?_ | refine tw ?_ ?_ | exact trivial | refine side ?_ | refine sideL ?_ | refine Or.inr ?_ | refine sat_drawH (Tryz.ok ..) (by kernel_rfl) ?_ | refine xi _ (And.intro rfl rfl) ?_ | refine xi _ (fun _ => And.intro rfl rfl) ?_ | refine xi _ rfl ?_)
          refine ⟨(A2, B2, g10), trivial, ?_, ?_, rfl⟩
          all_goals ((repeat' (first | exact trivial | exact rfl | refine And.intro ?_ ?_)) <;> (try (conv => whnf)) <;> (try simp only [SV.real, SV.r2, SV.r1]))
      rintro ⟨A2, B2, g10⟩ _
      have hML := sn_len a b p q
      obtain ⟨M, eM⟩ : ∃ v, v = snL a b p q := ⟨_, rfl⟩
      obtain ⟨me, eme⟩ : ∃ v, v = snE a b p q := ⟨_, rfl⟩
      obtain ⟨ov, eov⟩ : ∃ v, v = opV a b t := ⟨_, rfl⟩
      obtain ⟨oe, eoe⟩ : ∃ v, v = opE a b t := ⟨_, rfl⟩
      obtain ⟨ok, eok⟩ : ∃ v, v = calOk a b := ⟨_, rfl⟩
      rw [← eM] at hML
      repeat' ((conv => whnf); first | refine walk (Tryz.ok ..) ?_ | (refine Cnd.mk (fun h => ?_) (fun h => ?_) <;> (first | exact cndT h (by (try dsimp only); omega) | exact cndF h (by (try dsimp only); omega) | (exfalso; simp at h; omega) | simp at h | skip)) | refine kp ?_ ?_ | refine tw ?_ ?_ | exact trivial | refine side ?_ | refine sideL ?_ | refine Or.inr ?_ | refine xi _ (And.intro rfl rfl) ?_ | refine xi _ (fun _ => And.intro rfl rfl) ?_ | refine xi _ rfl ?_)
      refine called_at (.t [.v (.bool ov), .v (.int .i64 oe)]) rfl (fun w' hh => by
        rw [eov, eoe]
        exact open_any a b A2 B2 (a.length + 9) (b.length + 9) t w' (ro_lent (ro_of_row hh (id := 49) rfl)) (ro_lent (ro_of_row hh (id := 52) rfl)) (by omega) (by omega)) ?_
      repeat' ((conv => whnf); first | refine walk (Tryz.ok ..) ?_ | (refine Cnd.mk (fun h => ?_) (fun h => ?_) <;> (first | exact cndT h (by (try dsimp only); omega) | exact cndF h (by (try dsimp only); omega) | (exfalso; simp at h; omega) | simp at h | skip)) | refine kp ?_ ?_ | refine tw ?_ ?_ | exact trivial | refine side ?_ | refine sideL ?_ | refine Or.inr ?_ | refine xi _ (And.intro rfl rfl) ?_ | refine xi _ (fun _ => And.intro rfl rfl) ?_ | refine xi _ rfl ?_)
      refine called_at (.t [.v (.bool ov), .v (.int .i64 oe)]) rfl (fun w' hh => by
        rw [eov, eoe]
        exact ropen_any a b A1 B1 c1 d1 t w' (ro_of_row hh (id := 42) rfl) (ro_of_row hh (id := 45) rfl) (by omega) (by omega)) ?_
      repeat' ((conv => whnf); first | refine walk (Tryz.ok ..) ?_ | (refine Cnd.mk (fun h => ?_) (fun h => ?_) <;> (first | exact cndT h (by (try dsimp only); omega) | exact cndF h (by (try dsimp only); omega) | (exfalso; simp at h; omega) | simp at h | skip)) | refine kp ?_ ?_ | refine tw ?_ ?_ | exact trivial | refine side ?_ | refine sideL ?_ | refine Or.inr ?_ | refine xi _ (And.intro rfl rfl) ?_ | refine xi _ (fun _ => And.intro rfl rfl) ?_ | refine xi _ rfl ?_)
      refine called_row 66 (xs := sps M) (fun v => .tuple #[v, .int .i64 me]) (fun A cap => .t [.o 66 A M.length cap, .v (.int .i64 me)]) (fun A cap => rfl) (fun w' hh => by
        rw [eM, eme]
        exact hS a b A2 B2 (a.length + 9) (b.length + 9) p q w' (ro_lent (ro_of_row hh (id := 49) rfl)) (ro_lent (ro_of_row hh (id := 52) rfl)) (by omega) (by omega) (by omega)) ?_
      intro A3 cap3
      repeat' ((conv => whnf); first | refine walk (Tryz.ok ..) ?_ | (refine Cnd.mk (fun h => ?_) (fun h => ?_) <;> (first | exact cndT h (by (try dsimp only); omega) | exact cndF h (by (try dsimp only); omega) | (exfalso; simp at h; omega) | simp at h | skip)) | refine kp ?_ ?_ | refine tw ?_ ?_ | exact trivial | refine side ?_ | refine sideL ?_ | refine Or.inr ?_ | refine xi _ (And.intro rfl rfl) ?_ | refine xi _ (fun _ => And.intro rfl rfl) ?_ | refine xi _ rfl ?_)
      refine called_row 73 (xs := sps M) (fun v => .tuple #[v, .int .i64 me]) (fun A cap => .t [.o 73 A M.length cap, .v (.int .i64 me)]) (fun A cap => rfl) (fun w' hh => by
        rw [eM, eme]
        exact rspans_any a b A1 B1 c1 d1 p q w' (ro_of_row hh (id := 42) rfl) (ro_of_row hh (id := 45) rfl) (by omega) (by omega)) ?_
      intro A4 cap4
      repeat' ((conv => whnf); first | refine walk (Tryz.ok ..) ?_ | (refine Cnd.mk (fun h => ?_) (fun h => ?_) <;> (first | exact cndT h (by (try dsimp only); omega) | exact cndF h (by (try dsimp only); omega) | (exfalso; simp at h; omega) | simp at h | skip)) | refine kp ?_ ?_ | refine tw ?_ ?_ | exact trivial | refine side ?_ | refine sideL ?_ | refine Or.inr ?_ | refine xi _ (And.intro rfl rfl) ?_ | refine xi _ (fun _ => And.intro rfl rfl) ?_ | refine xi _ rfl ?_)
      refine sat_drawH (Tryz.ok ..) (by kernel_rfl) ?_
      repeat' ((conv => whnf); first | refine walk (Tryz.ok ..) ?_ | (refine Cnd.mk (fun h => ?_) (fun h => ?_) <;> (first | exact cndT h (by (try dsimp only); omega) | exact cndF h (by (try dsimp only); omega) | (exfalso; simp at h; omega) | simp at h | skip)) | refine kp ?_ ?_ | refine tw ?_ ?_ | exact trivial | refine side ?_ | refine sideL ?_ | refine Or.inr ?_ | refine sat_drawH (Tryz.ok ..) (by kernel_rfl) ?_ | refine xi _ (And.intro rfl rfl) ?_ | refine xi _ (fun _ => And.intro rfl rfl) ?_ | refine xi _ rfl ?_)
      refine calledQ_at (.v (.bool ok)) rfl (fun _ w' hh => by
        rw [eok]
        exact right_any a b A2 B2 (a.length + 9) (b.length + 9) w' (ro_lent (ro_of_row hh (id := 49) rfl)) (ro_lent (ro_of_row hh (id := 52) rfl)) (by omega) (by omega)) ?_
      repeat' ((conv => whnf); first | refine walk (Tryz.ok ..) ?_ | (refine Cnd.mk (fun h => ?_) (fun h => ?_) <;> (first | exact cndT h (by (try dsimp only); omega) | exact cndF h (by (try dsimp only); omega) | (exfalso; simp at h; omega) | simp at h | skip)) | refine kp ?_ ?_ | refine tw ?_ ?_ | exact trivial | refine side ?_ | refine sideL ?_ | refine Or.inr ?_ | refine sat_drawH (Tryz.ok ..) (by kernel_rfl) ?_ | refine xi _ (And.intro rfl rfl) ?_ | refine xi _ (fun _ => And.intro rfl rfl) ?_ | refine xi _ rfl ?_)
      refine calledQ_at (.v (.bool ok)) rfl (fun _ w' hh => by
        rw [eok]
        exact rright_any a b A1 B1 c1 d1 w' (ro_of_row hh (id := 42) rfl) (ro_of_row hh (id := 45) rfl) (by omega) (by omega)) ?_
      repeat' ((conv => whnf); first | refine walk (Tryz.ok ..) ?_ | (refine Cnd.mk (fun h => ?_) (fun h => ?_) <;> (first | exact cndT h (by (try dsimp only); omega) | exact cndF h (by (try dsimp only); omega) | (exfalso; simp at h; omega) | simp at h | skip)) | refine kp ?_ ?_ | refine tw ?_ ?_ | exact trivial | refine side ?_ | refine sideL ?_ | refine Or.inr ?_ | refine sat_drawH (Tryz.ok ..) (by kernel_rfl) ?_ | refine xi _ (And.intro rfl rfl) ?_ | refine xi _ (fun _ => And.intro rfl rfl) ?_ | refine xi _ rfl ?_)
      refine calledQ_at (.v (.bool true)) rfl (fun _ w' hh => kept_any a A2 A cA w' (ro_of_row hh (id := 49) rfl) (ro_of_ro hh (id := 300) rfl) (by omega)) ?_
      repeat' ((conv => whnf); first | refine walk (Tryz.ok ..) ?_ | (refine Cnd.mk (fun h => ?_) (fun h => ?_) <;> (first | exact cndT h (by (try dsimp only); omega) | exact cndF h (by (try dsimp only); omega) | (exfalso; simp at h; omega) | simp at h | skip)) | refine kp ?_ ?_ | refine tw ?_ ?_ | exact trivial | refine side ?_ | refine sideL ?_ | refine Or.inr ?_ | refine sat_drawH (Tryz.ok ..) (by kernel_rfl) ?_ | refine xi _ (And.intro rfl rfl) ?_ | refine xi _ (fun _ => And.intro rfl rfl) ?_ | refine xi _ rfl ?_)
      refine calledQ_at (.v (.bool true)) rfl (fun _ w' hh => kept_any b B2 B cB w' (ro_of_row hh (id := 52) rfl) (ro_of_ro hh (id := 301) rfl) (by omega)) ?_
      repeat' ((conv => whnf); first | refine walk (Tryz.ok ..) ?_ | (refine Cnd.mk (fun h => ?_) (fun h => ?_) <;> (first | exact cndT h (by (try dsimp only); omega) | exact cndF h (by (try dsimp only); omega) | (exfalso; simp at h; omega) | simp at h | skip)) | refine kp ?_ ?_ | refine tw ?_ ?_ | exact trivial | refine side ?_ | refine sideL ?_ | refine Or.inr ?_ | refine sat_drawH (Tryz.ok ..) (by kernel_rfl) ?_ | refine xi _ (And.intro rfl rfl) ?_ | refine xi _ (fun _ => And.intro rfl rfl) ?_ | refine xi _ rfl ?_)
      refine over_at rfl 49 (xs := sps (a ++ nine)) [(4, .blk g4 29 [.o 300 A a.length cA, .o 301 B b.length cB]), (10, .blk g10 29 [.o 49 A2 a.length (a.length + 9), .o 52 B2 b.length (b.length + 9)]), (52, .row B2 25 2 (b.length + 9) (b.length + 9) (sps (b ++ nine))), (66, .row A3 25 2 M.length cap3 (sps M)), (73, .row A4 81 2 M.length cap4 (sps M))] rfl rfl ?_ (by rw [sps_len, List.length_append]; rfl) (by omega) (by omega) ?_
      · ((repeat' (first | exact trivial | exact rfl | refine And.intro ?_ ?_)) <;> (try (conv => whnf)) <;> (try simp only [SV.real, SV.r2, SV.r1]))
      intro X1 hX1
      repeat' ((conv => whnf); first | refine walk (Tryz.ok ..) ?_ | (refine Cnd.mk (fun h => ?_) (fun h => ?_) <;> (first | exact cndT h (by (try dsimp only); omega) | exact cndF h (by (try dsimp only); omega) | (exfalso; simp at h; omega) | simp at h | skip)) | refine kp ?_ ?_ | refine tw ?_ ?_ | exact trivial | refine side ?_ | refine sideL ?_ | refine Or.inr ?_ | refine sat_drawH (Tryz.ok ..) (by kernel_rfl) ?_ | refine xi _ (And.intro rfl rfl) ?_ | refine xi _ (fun _ => And.intro rfl rfl) ?_ | refine xi _ rfl ?_)
      refine over_at rfl 52 (xs := sps (b ++ nine)) [(66, .row A3 25 2 M.length cap3 (sps M)), (73, .row A4 81 2 M.length cap4 (sps M))] rfl rfl ?_ (by rw [sps_len, List.length_append]; rfl) (by omega) (by omega) ?_
      · ((repeat' (first | exact trivial | exact rfl | refine And.intro ?_ ?_)) <;> (try (conv => whnf)) <;> (try simp only [SV.real, SV.r2, SV.r1]))
      intro X2 hX2
      repeat' ((conv => whnf); first | refine walk (Tryz.ok ..) ?_ | (refine Cnd.mk (fun h => ?_) (fun h => ?_) <;> (first | exact cndT h (by (try dsimp only); omega) | exact cndF h (by (try dsimp only); omega) | (exfalso; simp at h; omega) | simp at h | skip)) | refine kp ?_ ?_ | refine tw ?_ ?_ | exact trivial | refine side ?_ | refine sideL ?_ | refine Or.inr ?_ | refine sat_drawH (Tryz.ok ..) (by kernel_rfl) ?_ | refine xi _ (And.intro rfl rfl) ?_ | refine xi _ (fun _ => And.intro rfl rfl) ?_ | refine xi _ rfl ?_)
      refine called_row 124 (xs := sps M) (fun v => v) (fun A cap => .o 124 A M.length cap) (fun A cap => rfl) (fun w' hh => tell_any M A4 cap4 w' (ro_of_row hh (id := 73) rfl) (by omega)) ?_
      intro A5 cap5
      repeat' ((conv => whnf); first | refine walk (Tryz.ok ..) ?_ | (refine Cnd.mk (fun h => ?_) (fun h => ?_) <;> (first | exact cndT h (by (try dsimp only); omega) | exact cndF h (by (try dsimp only); omega) | (exfalso; simp at h; omega) | simp at h | skip)) | refine kp ?_ ?_ | refine tw ?_ ?_ | exact trivial | refine side ?_ | refine sideL ?_ | refine Or.inr ?_ | refine sat_drawH (Tryz.ok ..) (by kernel_rfl) ?_ | refine xi _ (And.intro rfl rfl) ?_ | refine xi _ (fun _ => And.intro rfl rfl) ?_ | refine xi _ rfl ?_)
      refine called_at (.v (.bool true)) rfl (fun w' hh => same_any M A3 A5 cap3 cap5 w' (ro_of_row hh (id := 66) rfl) (ro_of_row hh (id := 124) rfl) (by omega)) ?_
      repeat' ((conv => whnf); first | refine walk (Tryz.ok ..) ?_ | (refine Cnd.mk (fun h => ?_) (fun h => ?_) <;> (first | exact cndT h (by (try dsimp only); omega) | exact cndF h (by (try dsimp only); omega) | (exfalso; simp at h; omega) | simp at h | skip)) | refine kp ?_ ?_ | refine tw ?_ ?_ | exact trivial | refine side ?_ | refine sideL ?_ | refine Or.inr ?_ | refine sat_drawH (Tryz.ok ..) (by kernel_rfl) ?_ | refine xi _ (And.intro rfl rfl) ?_ | refine xi _ (fun _ => And.intro rfl rfl) ?_ | refine xi _ rfl ?_)
      exact done_pure rfl rfl rfl
  · refine called_at (.v (.bool false)) rfl (fun w' hh => by
      have h1 := few_any (g23, 0) (adr A) (adr B) a.length cA b.length cB 2 w' (ro_of_blk hh (id := 23) rfl 0 2 1 (by show 0 + 2 * 1 ≤ 2; omega))
      rw [show (decide (a.length ≤ 1100) && decide (b.length ≤ 1100)) = false by
        rw [Bool.and_eq_false_iff, decide_eq_false_iff_not, decide_eq_false_iff_not]
        omega] at h1
      exact h1) ?_
    repeat' ((conv => whnf); first | refine walk (Tryz.ok ..) ?_ | (refine Cnd.mk (fun h => ?_) (fun h => ?_) <;> (first | exact cndT h (by (try dsimp only); omega) | exact cndF h (by (try dsimp only); omega) | (exfalso; simp at h; omega) | simp at h | skip)) | refine kp ?_ ?_ | refine tw ?_ ?_ | exact trivial | refine side ?_ | refine sideL ?_ | refine Or.inr ?_ | refine xi _ (And.intro rfl rfl) ?_ | refine xi _ (fun _ => And.intro rfl rfl) ?_ | refine xi _ rfl ?_)
    exact done_pure rfl rfl rfl
end Go.Proofs.YtmhfkmnpeponiaaGreatDoor
