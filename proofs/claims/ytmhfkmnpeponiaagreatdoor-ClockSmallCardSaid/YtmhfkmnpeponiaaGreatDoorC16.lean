/-
  The walks of the reference of the clock package: when a calendar is open, time by time.
-/
import Derived.Test.YtmhfkmnpeponiaaGreatDoorC15P
import Derived.Test.YtmhfkmnpeponiaaGreatDoorC14
namespace Go.Proofs.YtmhfkmnpeponiaaGreatDoor
open Go Sat Go.RowKit Go.PlainAid
set_option linter.unusedSimpArgs false
set_option linter.unusedVariables false
set_option maxRecDepth 100000 in
set_option maxHeartbeats 8000000 in
theorem rspans_any (l c : List Sp) (A B : Option (Nat × Nat)) (cA cB : Nat) (a b : Int) (w : World) (hA : Ro w A l.length 2 (sps l)) (hB : Ro w B c.length 2 (sps c)) (hl : l.length ≤ 4611686018427387903) (hc : c.length ≤ 4611686018427387903) :
    Calls Tryz.prog 17 #[.agg #[.slice (adr A) l.length cA, .slice (adr B) c.length cB], .int .i64 a, .int .i64 b] w fun e w' => ∃ v, e = .returned (.tuple #[v, .int .i64 (snE l c a b)]) ∧ w'.ownsRow w.heap.size 81 2 v (snL l c a b).length (sps (snL l c a b)) ∧ Below w.heap.size w w' := by
  refine calls_sat (cx := Tryz.cx 53 [] [] [] w) (Tryz.ok ..) Tryz.func17 rfl [.a [.o 300 A l.length cA, .o 301 B c.length cB], .v (.int .i64 a), .v (.int .i64 b)] rfl (by show 3 ≤ 53; omega) [(300, .ro A l.length 2 (sps l)), (301, .ro B c.length 2 (sps c))] (holds_ros rfl rfl ⟨hA, hB, trivial⟩) ?_
  obtain ⟨p, hp⟩ : ∃ p, p = calOk l c := ⟨_, rfl⟩
  obtain ⟨q, hq⟩ : ∃ q, q = timedB a := ⟨_, rfl⟩
  obtain ⟨r, hr⟩ : ∃ q, q = timedB b := ⟨_, rfl⟩
  repeat' ((conv => whnf); first | refine walk (Tryz.ok ..) ?_ | (refine Cnd.mk (fun h => ?_) (fun h => ?_) <;> (first | exact cndT h (by (try dsimp only); omega) | exact cndF h (by (try dsimp only); omega) | (exfalso; simp at h; omega) | simp at h | skip)) | refine kp ?_ ?_ | refine tw ?_ ?_ | exact trivial | refine side ?_ | refine sideL ?_ | refine Or.inr ?_ | refine sat_drawH (Tryz.ok ..) (by kernel_rfl) ?_ | refine xi _ (And.intro rfl rfl) ?_ | refine xi _ (fun _ => And.intro rfl rfl) ?_ | refine xi _ rfl ?_)
  intro g3 hg3
  repeat' ((conv => whnf); first | refine walk (Tryz.ok ..) ?_ | (refine Cnd.mk (fun h => ?_) (fun h => ?_) <;> (first | exact cndT h (by (try dsimp only); omega) | exact cndF h (by (try dsimp only); omega) | (exfalso; simp at h; omega) | simp at h | skip)) | refine kp ?_ ?_ | refine tw ?_ ?_ | exact trivial | refine side ?_ | refine sideL ?_ | refine Or.inr ?_ | refine sat_drawH (Tryz.ok ..) (by kernel_rfl) ?_ | refine xi _ (And.intro rfl rfl) ?_ | refine xi _ (fun _ => And.intro rfl rfl) ?_ | refine xi _ rfl ?_)
  refine called_at (.v (.bool p)) rfl (fun w' hh => by rw [hp]; exact rright_any l c A B cA cB w' (ro_of_ro hh (id := 300) rfl) (ro_of_ro hh (id := 301) rfl) (by omega) (by omega)) ?_
  repeat' ((conv => whnf); first | refine walk (Tryz.ok ..) ?_ | (refine Cnd.mk (fun h => ?_) (fun h => ?_) <;> (first | exact cndT h (by (try dsimp only); omega) | exact cndF h (by (try dsimp only); omega) | (exfalso; simp at h; omega) | simp at h | skip)) | refine kp ?_ ?_ | refine tw ?_ ?_ | exact trivial | refine side ?_ | refine sideL ?_ | refine Or.inr ?_ | refine sat_drawH (Tryz.ok ..) (by kernel_rfl) ?_ | refine xi _ (And.intro rfl rfl) ?_ | refine xi _ (fun _ => And.intro rfl rfl) ?_ | refine xi _ rfl ?_)
  refine calledQ_pure (.v (.bool q)) rfl (fun _ w' => by rw [hq]; exact rtime_any a w') ?_
  repeat' ((conv => whnf); first | refine walk (Tryz.ok ..) ?_ | (refine Cnd.mk (fun h => ?_) (fun h => ?_) <;> (first | exact cndT h (by (try dsimp only); omega) | exact cndF h (by (try dsimp only); omega) | (exfalso; simp at h; omega) | simp at h | skip)) | refine kp ?_ ?_ | refine tw ?_ ?_ | exact trivial | refine side ?_ | refine sideL ?_ | refine Or.inr ?_ | refine sat_drawH (Tryz.ok ..) (by kernel_rfl) ?_ | refine xi _ (And.intro rfl rfl) ?_ | refine xi _ (fun _ => And.intro rfl rfl) ?_ | refine xi _ rfl ?_)
  refine calledQ_pure (.v (.bool r)) rfl (fun _ w' => by rw [hr]; exact rtime_any b w') ?_
  repeat' ((conv => whnf); first | refine walk (Tryz.ok ..) ?_ | (refine Cnd.mk (fun h => ?_) (fun h => ?_) <;> (first | exact cndT h (by (try dsimp only); omega) | exact cndF h (by (try dsimp only); omega) | (exfalso; simp at h; omega) | simp at h | skip)) | refine kp ?_ ?_ | refine tw ?_ ?_ | exact trivial | refine side ?_ | refine sideL ?_ | refine Or.inr ?_ | refine sat_drawH (Tryz.ok ..) (by kernel_rfl) ?_ | refine xi _ (And.intro rfl rfl) ?_ | refine xi _ (fun _ => And.intro rfl rfl) ?_ | refine xi _ rfl ?_)
  · obtain ⟨h1, h2⟩ := sn_no (l := l) (c := c) (a := a) (b := b) (by
      unfold snOk orderedB
      rw [← hp, ← hq, ← hr]
      rcases h with ((h | h) | h) | h
      · rw [h]; rfl
      · rw [h]; simp
      · rw [h]; simp
      · rw [decide_eq_false (show ¬ a ≤ b by omega)]; simp)
    rw [h1, h2]
    exact done_nil (mk := fun v => .tuple #[v, .int .i64 2]) rfl rfl rfl
  have hyes : snOk l c a b = true := by
    unfold snOk orderedB
    rw [← hp, ← hq, ← hr, h.1.1.1, h.1.1.2, h.1.2, decide_eq_true (show a ≤ b by omega)]
    rfl
  obtain ⟨a0, a1⟩ := timed_iff2.1 (hq ▸ h.1.1.2)
  obtain ⟨b0, b1⟩ := timed_iff2.1 (hr ▸ h.1.2)
  have hab : a ≤ b := by omega
  have hsn : snR l c a b = runs (opn l c) a (b - a).toNat := toldAt_end hab
  refine sat_loop (Tryz.ok ..) (α := Nat × Option (Nat × Nat) × Nat) (fun s => ([(2, .yes, .v (.int .i64 b)), (3, .yes, .p 3 g3 0 0), (8, .yes, .o 49 s.2.1 (runs (opn l c) a s.1).length s.2.2), (9, .yes, .v (.int .i64 (a + s.1)))],
      [(49, .row s.2.1 81 2 (runs (opn l c) a s.1).length s.2.2 (sps (runs (opn l c) a s.1))), (3, .blk g3 41 [.o 300 A l.length cA, .o 301 B c.length cB]), (300, .ro A l.length 2 (sps l)), (301, .ro B c.length 2 (sps c))]))
      (fun s => a + s.1 ≤ b) (fun s => (b - a).toNat - s.1) (fun _ => rfl) ?_ ?_
  · refine ⟨(0, none, 0), by show a + (0 : Nat) ≤ b; omega, ?_, ?_, rfl⟩
    · dsimp only
      rw [show a + ((0 : Nat) : Int) = a by omega]
      ((repeat' (first | exact trivial | exact rfl | refine And.intro ?_ ?_)) <;> (try (conv => whnf)) <;> (try simp only [SV.real, SV.r2, SV.r1]))
    · ((repeat' (first | exact trivial | exact rfl | refine And.intro ?_ ?_)) <;> (try (conv => whnf)) <;> (try simp only [SV.real, SV.r2, SV.r1]))
  rintro ⟨n, A1, cap1⟩ m1
  dsimp only at m1
  have hgr := runs_grow (opn l c) a n
  by_cases hnb : a + n < b
  · have hni : runs (opn l c) a (n + 1) = if opn l c (a + n) then addT (runs (opn l c) a n) (a + n) else runs (opn l c) a n := rfl
    obtain ⟨u, hu⟩ : ∃ u, u = inB l ((a + n) % 10080) := ⟨_, rfl⟩
    obtain ⟨v, hv⟩ : ∃ v, v = inB c (a + n) := ⟨_, rfl⟩
    have hop : opn l c (a + n) = (u && !v) := by unfold opn; rw [hu, hv]
    rw [hop] at hni
    repeat' ((conv => whnf); first | refine walk (Tryz.ok ..) ?_ | (refine Cnd.mk (fun h => ?_) (fun h => ?_) <;> (first | exact cndT h (by (try dsimp only); omega) | exact cndF h (by (try dsimp only); omega) | (exfalso; simp at h; omega) | simp at h | skip)) | refine kp ?_ ?_ | refine tw ?_ ?_ | exact trivial | refine side ?_ | refine sideL ?_ | refine Or.inr ?_ | refine sat_drawH (Tryz.ok ..) (by kernel_rfl) ?_ | refine xi _ (And.intro rfl rfl) ?_ | refine xi _ (fun _ => And.intro rfl rfl) ?_ | refine xi _ rfl ?_)
    refine called_at (.v (.bool u)) rfl (fun w' hh => by rw [hu]; exact rin_any l A cA ((a + n) % 10080) w' (ro_of_ro hh (id := 300) rfl) (by omega)) ?_
    repeat' ((conv => whnf); first | refine walk (Tryz.ok ..) ?_ | (refine Cnd.mk (fun h => ?_) (fun h => ?_) <;> (first | exact cndT h (by (try dsimp only); omega) | exact cndF h (by (try dsimp only); omega) | (exfalso; simp at h; omega) | simp at h | skip)) | refine kp ?_ ?_ | refine tw ?_ ?_ | exact trivial | refine side ?_ | refine sideL ?_ | refine Or.inr ?_ | refine sat_drawH (Tryz.ok ..) (by kernel_rfl) ?_ | refine xi _ (And.intro rfl rfl) ?_ | refine xi _ (fun _ => And.intro rfl rfl) ?_ | refine xi _ rfl ?_)
    refine calledQ_at (.v (.bool v)) rfl (fun _ w' hh => by rw [hv]; exact rin_any c B cB (a + n) w' (ro_of_ro hh (id := 301) rfl) (by omega)) ?_
    repeat' ((conv => whnf); first | refine walk (Tryz.ok ..) ?_ | (refine Cnd.mk (fun h => ?_) (fun h => ?_) <;> (first | exact cndT h (by (try dsimp only); omega) | exact cndF h (by (try dsimp only); omega) | (exfalso; simp at h; omega) | simp at h | skip)) | refine kp ?_ ?_ | refine tw ?_ ?_ | exact trivial | refine side ?_ | refine sideL ?_ | refine Or.inr ?_ | refine sat_drawH (Tryz.ok ..) (by kernel_rfl) ?_ | refine xi _ (And.intro rfl rfl) ?_ | refine xi _ (fun _ => And.intro rfl rfl) ?_ | refine xi _ rfl ?_)
    · rw [h.1, h.2] at hni
      refine radd_at (l := runs (opn l c) a n) (A := A1) (cap := cap1) (x := a + n) rfl 49 [(3, .blk g3 41 [.o 300 A l.length cA, .o 301 B c.length cB]), (300, .ro A l.length 2 (sps l)), (301, .ro B c.length 2 (sps c))] rfl ?_ (by omega) (by omega) ?_
      · ((repeat' (first | exact trivial | exact rfl | refine And.intro ?_ ?_)) <;> (try (conv => whnf)) <;> (try simp only [SV.real, SV.r2, SV.r1]))
      rw [show addT (runs (opn l c) a n) (a + n) = runs (opn l c) a (n + 1) from hni.symm]
      intro A2 cap2
      repeat' ((conv => whnf); first | refine walk (Tryz.ok ..) ?_ | (refine Cnd.mk (fun h => ?_) (fun h => ?_) <;> (first | exact cndT h (by (try dsimp only); omega) | exact cndF h (by (try dsimp only); omega) | (exfalso; simp at h; omega) | simp at h | skip)) | refine kp ?_ ?_ | refine tw ?_ ?_ | exact trivial | refine side ?_ | refine sideL ?_ | refine Or.inr ?_ | refine sat_drawH (Tryz.ok ..) (by kernel_rfl) ?_ | refine xi _ (And.intro rfl rfl) ?_ | refine xi _ (fun _ => And.intro rfl rfl) ?_ | refine xi _ rfl ?_)
      refine ⟨(n + 1, A2, cap2), ⟨by show a + ((n + 1 : Nat) : Int) ≤ b; omega, by show (b - a).toNat - (n + 1) < (b - a).toNat - n; omega⟩, ?_, ?_, rfl⟩
      · dsimp only
        rw [show a + ((n + 1 : Nat) : Int) = a + n + 1 by omega]
        ((repeat' (first | exact trivial | exact rfl | refine And.intro ?_ ?_)) <;> (try (conv => whnf)) <;> (try simp only [SV.real, SV.r2, SV.r1]))
      · ((repeat' (first | exact trivial | exact rfl | refine And.intro ?_ ?_)) <;> (try (conv => whnf)) <;> (try simp only [SV.real, SV.r2, SV.r1]))
    · have hno : (u && !v) = false := by cases u <;> cases v <;> simp at h ⊢
      rw [hno] at hni
      simp only [Bool.false_eq_true, if_false] at hni
      refine ⟨(n + 1, A1, cap1), ⟨by show a + ((n + 1 : Nat) : Int) ≤ b; omega, by show (b - a).toNat - (n + 1) < (b - a).toNat - n; omega⟩, ?_, ?_, rfl⟩
      · dsimp only
        rw [show a + ((n + 1 : Nat) : Int) = a + n + 1 by omega, hni]
        ((repeat' (first | exact trivial | exact rfl | refine And.intro ?_ ?_)) <;> (try (conv => whnf)) <;> (try simp only [SV.real, SV.r2, SV.r1]))
      · dsimp only
        rw [hni]
        ((repeat' (first | exact trivial | exact rfl | refine And.intro ?_ ?_)) <;> (try (conv => whnf)) <;> (try simp only [SV.real, SV.r2, SV.r1]))
  · have hn : (b - a).toNat = n := by omega
    rw [hn] at hsn
    by_cases hle : (runs (opn l c) a n).length ≤ 1000
    · repeat' ((conv => whnf); first | refine walk (Tryz.ok ..) ?_ | (refine Cnd.mk (fun h => ?_) (fun h => ?_) <;> (first | exact cndT h (by (try dsimp only); omega) | exact cndF h (by (try dsimp only); omega) | (exfalso; simp at h; omega) | simp at h | skip)) | refine kp ?_ ?_ | refine tw ?_ ?_ | exact trivial | refine side ?_ | refine sideL ?_ | refine Or.inr ?_ | refine sat_drawH (Tryz.ok ..) (by kernel_rfl) ?_ | refine xi _ (And.intro rfl rfl) ?_ | refine xi _ (fun _ => And.intro rfl rfl) ?_ | refine xi _ rfl ?_)
      obtain ⟨h3, h4⟩ := sn_yes hyes (by rw [hsn]; exact hle)
      rw [h3, h4, hsn]
      exact done_row (mk := fun v => .tuple #[v, .int .i64 0]) rfl rfl 49 A1 cap1 rfl rfl
    · repeat' ((conv => whnf); first | refine walk (Tryz.ok ..) ?_ | (refine Cnd.mk (fun h => ?_) (fun h => ?_) <;> (first | exact cndT h (by (try dsimp only); omega) | exact cndF h (by (try dsimp only); omega) | (exfalso; simp at h; omega) | simp at h | skip)) | refine kp ?_ ?_ | refine tw ?_ ?_ | exact trivial | refine side ?_ | refine sideL ?_ | refine Or.inr ?_ | refine sat_drawH (Tryz.ok ..) (by kernel_rfl) ?_ | refine xi _ (And.intro rfl rfl) ?_ | refine xi _ (fun _ => And.intro rfl rfl) ?_ | refine xi _ rfl ?_)
      obtain ⟨h3, h4⟩ := sn_many hyes (by rw [hsn]; exact hle)
      rw [h3, h4]
      exact done_nil (mk := fun v => .tuple #[v, .int .i64 5]) rfl rfl rfl
end Go.Proofs.YtmhfkmnpeponiaaGreatDoor
