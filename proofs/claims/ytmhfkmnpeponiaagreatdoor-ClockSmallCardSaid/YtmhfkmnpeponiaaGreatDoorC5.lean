/-
  The walks of the clock package and of its reference: how many times of spans are between two; when work ends.
-/
import Derived.Test.YtmhfkmnpeponiaaGreatDoorC4
import Derived.Test.YtmhfkmnpeponiaaGreatDoorCQ
namespace Go.Proofs.YtmhfkmnpeponiaaGreatDoor
open Go Sat Go.RowKit Go.PlainAid
set_option linter.unusedSimpArgs false
set_option linter.unusedVariables false
theorem cnt1_bd {s : Sp} {a b : Int} (h : 0 ≤ s.f ∧ s.f < s.t ∧ s.t ≤ 100000000) : 0 ≤ cnt1 s a b ∧ cnt1 s a b ≤ 100000000 := by
  unfold cnt1
  simp only [Int.max_def, Int.min_def]
  (repeat' split) <;> omega
theorem cntTo_bd {l : List Sp} (h : okTo l l.length = true) (a b : Int) : ∀ n, cntTo l a b n ≤ 100000000 * n := by
  intro n
  induction n with
  | zero => simp [cntTo]
  | succ n ih =>
    cases hs : l[n]? with
    | none => rw [cntTo, hs]; dsimp only; omega
    | some s =>
      rw [cntTo_at hs]
      have := (cnt1_bd (a := a) (b := b) (ok_own h hs)).2
      omega
theorem apart_ok {l : List Sp} (h : apart l = true) : okTo l l.length = true ∧ l.length ≤ 1000 := by
  unfold apart at h
  rw [Bool.and_eq_true, decide_eq_true_eq] at h
  exact h
theorem timed_iff {n : Int} : timedB n = true ↔ 0 ≤ n ∧ n ≤ 100000000 := by unfold timedB; simp
theorem timed_no {n : Int} : timedB n = false ↔ n < 0 ∨ 100000000 < n := by
  rw [← Bool.not_eq_true, timed_iff]
  omega
def btOk (l : List Sp) (a b : Int) : Bool := apart l && orderedB a b
def btV (l : List Sp) (a b : Int) : Int := if btOk l a b then cnt l a b else 0
def btE (l : List Sp) (a b : Int) : Int := if btOk l a b then 0 else 2
theorem real_ii {a a' b b' : Int} (h : a = a') (h2 : b = b') : (SV.t [.v (.int .i64 a), .v (.int .i64 b)]).real = .tuple #[.int .i64 a', .int .i64 b'] := by subst h; subst h2; rfl
theorem bt_no {l : List Sp} {a b : Int} (h : btOk l a b = false) : 0 = btV l a b ∧ 2 = btE l a b := by unfold btV btE; rw [h]; exact ⟨rfl, rfl⟩
theorem bt_yes {l : List Sp} {a b : Int} (h : btOk l a b = true) : cnt l a b = btV l a b ∧ 0 = btE l a b := by unfold btV btE; rw [h]; exact ⟨rfl, rfl⟩
set_option maxRecDepth 100000 in
set_option maxHeartbeats 8000000 in
theorem between_any (l : List Sp) (A : Option (Nat × Nat)) (cap : Nat) (a b : Int) (w : World) (hro : Ro w A l.length 2 (sps l)) (hl : l.length ≤ 4611686018427387903) :
    Calls Tryz.prog 25 #[.slice (adr A) l.length cap, .int .i64 a, .int .i64 b] w fun e w' => e = .returned (.tuple #[.int .i64 (btV l a b), .int .i64 (btE l a b)]) ∧ Below w.heap.size w w' := by
  refine calls_sat (cx := Tryz.cx 40 [] [] [] w) (Tryz.ok ..) Tryz.func25 rfl [.o 100 A l.length cap, .v (.int .i64 a), .v (.int .i64 b)] rfl (by show 3 ≤ 40; omega) [(100, .ro A l.length 2 (sps l))] (holds_ros rfl rfl ⟨hro, trivial⟩) ?_
  repeat' ((conv => whnf); first | refine walk (Tryz.ok ..) ?_ | (refine Cnd.mk (fun h => ?_) (fun h => ?_) <;> (first | exact cndT h (by (try dsimp only); omega) | exact cndF h (by (try dsimp only); omega) | (exfalso; simp at h; omega) | simp at h | skip)) | refine kp ?_ ?_ | refine tw ?_ ?_ | exact trivial | refine side ?_ | refine sideL ?_ | refine Or.inr ?_ | refine sat_drawH (Tryz.ok ..) (by kernel_rfl) ?_ | refine xi _ (And.intro rfl rfl) ?_ | refine xi _ (fun _ => And.intro rfl rfl) ?_ | refine xi _ rfl ?_)
  obtain ⟨p, hp⟩ : ∃ p, p = apart l := ⟨_, rfl⟩
  obtain ⟨q, hq⟩ : ∃ q, q = orderedB a b := ⟨_, rfl⟩
  refine called_at (.v (.bool p)) rfl (fun w' hh => by rw [hp]; exact apart_any l A cap w' (ro_of_ro hh (id := 100) rfl) (by omega)) ?_
  repeat' ((conv => whnf); first | refine walk (Tryz.ok ..) ?_ | (refine Cnd.mk (fun h => ?_) (fun h => ?_) <;> (first | exact cndT h (by (try dsimp only); omega) | exact cndF h (by (try dsimp only); omega) | (exfalso; simp at h; omega) | simp at h | skip)) | refine kp ?_ ?_ | refine tw ?_ ?_ | exact trivial | refine side ?_ | refine sideL ?_ | refine Or.inr ?_ | refine sat_drawH (Tryz.ok ..) (by kernel_rfl) ?_ | refine xi _ (And.intro rfl rfl) ?_ | refine xi _ (fun _ => And.intro rfl rfl) ?_ | refine xi _ rfl ?_)
  refine calledQ_pure (.v (.bool q)) rfl (fun _ w' => by rw [hq]; exact ordered_any a b w') ?_
  repeat' ((conv => whnf); first | refine walk (Tryz.ok ..) ?_ | (refine Cnd.mk (fun h => ?_) (fun h => ?_) <;> (first | exact cndT h (by (try dsimp only); omega) | exact cndF h (by (try dsimp only); omega) | (exfalso; simp at h; omega) | simp at h | skip)) | refine kp ?_ ?_ | refine tw ?_ ?_ | exact trivial | refine side ?_ | refine sideL ?_ | refine Or.inr ?_ | refine sat_drawH (Tryz.ok ..) (by kernel_rfl) ?_ | refine xi _ (And.intro rfl rfl) ?_ | refine xi _ (fun _ => And.intro rfl rfl) ?_ | refine xi _ rfl ?_)
  · obtain ⟨h1, h2⟩ := bt_no (l := l) (a := a) (b := b) (by
      unfold btOk
      rw [← hp, ← hq]
      rcases h with h | h <;> rw [h] <;> simp)
    exact done_pure rfl rfl (real_ii h1 h2)
  have hb : btOk l a b = true := by
    unfold btOk
    rw [← hp, ← hq, h.1, h.2]
    rfl
  obtain ⟨hok, hn⟩ := apart_ok (hp ▸ h.1)
  have ho : (0 ≤ a ∧ a ≤ 100000000) ∧ (0 ≤ b ∧ b ≤ 100000000) ∧ a ≤ b := by
    have := h.2
    rw [hq] at this
    unfold orderedB at this
    simp only [Bool.and_eq_true, decide_eq_true_eq, timed_iff] at this
    exact ⟨this.1.1, this.1.2, this.2⟩
  refine sat_loop (Tryz.ok ..) (α := Nat) (fun k => ([(1, .yes, .v (.int .i64 a)), (2, .yes, .v (.int .i64 b)), (8, .yes, .v (.int .i64 (cntTo l a b k))), (20, .yes, .o 100 A l.length cap), (21, .yes, .v (.int .i64 l.length)), (22, .yes, .v (.int .i64 k))], [(100, .ro A l.length 2 (sps l))])) (fun k => k ≤ l.length) (fun k => l.length - k) (fun _ => rfl) ?_ ?_
  · refine ⟨0, Nat.zero_le _, ?_, ?_, rfl⟩
    all_goals ((repeat' (first | exact trivial | exact rfl | refine And.intro ?_ ?_)) <;> (try (conv => whnf)) <;> (try simp only [SV.real, SV.r2, SV.r1]))
  intro k hk
  by_cases hk1 : k < l.length
  · obtain ⟨s, hs⟩ : ∃ s, l[k]? = some s := ⟨l[k], List.getElem?_eq_getElem hk1⟩
    obtain ⟨o1, o2, o3⟩ := ok_own hok hs
    have hc0 := cntTo_pos l a b k
    have hc1 := cntTo_bd hok a b k
    have hin1 : InR .i64 (min s.t b - max s.f a) := by simp only [InR, Int.max_def, Int.min_def]; (repeat' split) <;> omega
    have hin2 : InR .i64 (cntTo l a b k + max (min s.t b - max s.f a) 0) := by simp only [InR, Int.max_def, Int.min_def]; (repeat' split) <;> omega
    repeat' ((conv => whnf); first | refine walk (Tryz.ok ..) ?_ | (refine Cnd.mk (fun h => ?_) (fun h => ?_) <;> (first | exact cndT h (by (try dsimp only); omega) | exact cndF h (by (try dsimp only); omega) | (exfalso; simp at h; omega) | simp at h | skip)) | refine kp ?_ ?_ | refine tw ?_ ?_ | exact trivial | refine side ?_ | refine sideL ?_ | refine Or.inr ?_ | refine sat_drawH (Tryz.ok ..) (by kernel_rfl) ?_ | refine xi _ (And.intro rfl rfl) ?_ | refine xi _ (fun _ => And.intro rfl rfl) ?_ | refine xi _ rfl ?_ | refine xi _ (fun _ => (at_s hs rfl)) ?_ | refine xi _ (at_s hs rfl) ?_ | intro g hg)
    refine ⟨k + 1, ⟨by omega, by omega⟩, ?_, ?_, rfl⟩
    · dsimp only
      rw [cntTo_at hs]
      unfold cnt1
      ((repeat' (first | exact trivial | exact rfl | refine And.intro ?_ ?_)) <;> (try (conv => whnf)) <;> (try simp only [SV.real, SV.r2, SV.r1]))
    · ((repeat' (first | exact trivial | exact rfl | refine And.intro ?_ ?_)) <;> (try (conv => whnf)) <;> (try simp only [SV.real, SV.r2, SV.r1]))
  · obtain rfl : k = l.length := by omega
    repeat' ((conv => whnf); first | refine walk (Tryz.ok ..) ?_ | (refine Cnd.mk (fun h => ?_) (fun h => ?_) <;> (first | exact cndT h (by (try dsimp only); omega) | exact cndF h (by (try dsimp only); omega) | (exfalso; simp at h; omega) | simp at h | skip)) | refine kp ?_ ?_ | refine tw ?_ ?_ | exact trivial | refine side ?_ | refine sideL ?_ | refine Or.inr ?_ | refine sat_drawH (Tryz.ok ..) (by kernel_rfl) ?_ | refine xi _ (And.intro rfl rfl) ?_ | refine xi _ (fun _ => And.intro rfl rfl) ?_ | refine xi _ rfl ?_)
    obtain ⟨h1, h2⟩ := bt_yes hb
    exact done_pure rfl rfl (real_ii h1 h2)
set_option maxRecDepth 100000 in
set_option maxHeartbeats 8000000 in
theorem count_any (l : List Sp) (A : Option (Nat × Nat)) (cap : Nat) (a b : Int) (w : World) (hro : Ro w A l.length 2 (sps l)) (hok : okTo l l.length = true) (hn : l.length ≤ 1000) (ha : 0 ≤ a ∧ a ≤ 100000000) (hb : 0 ≤ b ∧ b ≤ 100000000) :
    Calls Tryz.prog 57 #[.slice (adr A) l.length cap, .int .i64 a, .int .i64 b] w fun e w' => e = .returned (.int .i64 (cnt l a b)) ∧ Below w.heap.size w w' := by
  refine calls_sat (cx := Tryz.cx 40 [] [] [] w) (Tryz.ok ..) Tryz.func57 rfl [.o 100 A l.length cap, .v (.int .i64 a), .v (.int .i64 b)] rfl (by show 3 ≤ 40; omega) [(100, .ro A l.length 2 (sps l))] (holds_ros rfl rfl ⟨hro, trivial⟩) ?_
  repeat' ((conv => whnf); first | refine walk (Tryz.ok ..) ?_ | (refine Cnd.mk (fun h => ?_) (fun h => ?_) <;> (first | exact cndT h (by (try dsimp only); omega) | exact cndF h (by (try dsimp only); omega) | (exfalso; simp at h; omega) | simp at h | skip)) | refine kp ?_ ?_ | refine tw ?_ ?_ | exact trivial | refine side ?_ | refine sideL ?_ | refine Or.inr ?_ | refine sat_drawH (Tryz.ok ..) (by kernel_rfl) ?_ | refine xi _ (And.intro rfl rfl) ?_ | refine xi _ (fun _ => And.intro rfl rfl) ?_ | refine xi _ rfl ?_)
  refine sat_loop (Tryz.ok ..) (α := Nat) (fun k => ([(0, .yes, .o 100 A l.length cap), (1, .yes, .v (.int .i64 a)), (2, .yes, .v (.int .i64 b)), (7, .yes, .v (.int .i64 (cntTo l a b k))), (8, .yes, .v (.int .i64 k))], [(100, .ro A l.length 2 (sps l))])) (fun k => k ≤ l.length) (fun k => l.length - k) (fun _ => rfl) ?_ ?_
  · refine ⟨0, Nat.zero_le _, ?_, ?_, rfl⟩
    all_goals ((repeat' (first | exact trivial | exact rfl | refine And.intro ?_ ?_)) <;> (try (conv => whnf)) <;> (try simp only [SV.real, SV.r2, SV.r1]))
  intro k hk
  by_cases hk1 : k < l.length
  · obtain ⟨s, hs⟩ : ∃ s, l[k]? = some s := ⟨l[k], List.getElem?_eq_getElem hk1⟩
    obtain ⟨o1, o2, o3⟩ := ok_own hok hs
    have hc0 := cntTo_pos l a b k
    have hc1 := cntTo_bd hok a b k
    obtain ⟨lo, hlo⟩ : ∃ lo, lo = max s.f a := ⟨_, rfl⟩
    obtain ⟨hi, hhi⟩ : ∃ hi, hi = min s.t b := ⟨_, rfl⟩
    have hlo1 : 0 ≤ max s.f a ∧ max s.f a ≤ 100000000 := by omega
    have hhi1 : 0 ≤ min s.t b ∧ min s.t b ≤ 100000000 := by omega
    have e1 : cntTo l a b (k + 1) = cntTo l a b k + cnt1 s a b := cntTo_at hs
    unfold cnt1 at e1
    repeat' ((conv => whnf); first | refine walk (Tryz.ok ..) ?_ | (refine Cnd.mk (fun h => ?_) (fun h => ?_) <;> (first | exact cndT h (by (try dsimp only); omega) | exact cndF h (by (try dsimp only); omega) | (exfalso; simp at h; omega) | simp at h | skip)) | refine kp ?_ ?_ | refine tw ?_ ?_ | exact trivial | refine side ?_ | refine sideL ?_ | refine Or.inr ?_ | refine sat_drawH (Tryz.ok ..) (by kernel_rfl) ?_ | refine xi _ (And.intro rfl rfl) ?_ | refine xi _ (fun _ => And.intro rfl rfl) ?_ | refine xi _ rfl ?_ | refine xi _ (fun _ => (at_f hs rfl)) ?_ | refine xi _ (at_f hs rfl) ?_ | refine xi _ (fun _ => (at_t hs rfl)) ?_ | refine xi _ (at_t hs rfl) ?_)
    · refine ⟨k + 1, ⟨by omega, by omega⟩, ?_, ?_, rfl⟩
      · dsimp only
        rw [show cntTo l a b (k + 1) = cntTo l a b k + min s.t b - max s.f a by omega]
        ((repeat' (first | exact trivial | exact rfl | refine And.intro ?_ ?_)) <;> (try (conv => whnf)) <;> (try simp only [SV.real, SV.r2, SV.r1]))
      · ((repeat' (first | exact trivial | exact rfl | refine And.intro ?_ ?_)) <;> (try (conv => whnf)) <;> (try simp only [SV.real, SV.r2, SV.r1]))
    · refine ⟨k + 1, ⟨by omega, by omega⟩, ?_, ?_, rfl⟩
      · dsimp only
        rw [show cntTo l a b (k + 1) = cntTo l a b k by omega]
        ((repeat' (first | exact trivial | exact rfl | refine And.intro ?_ ?_)) <;> (try (conv => whnf)) <;> (try simp only [SV.real, SV.r2, SV.r1]))
      · ((repeat' (first | exact trivial | exact rfl | refine And.intro ?_ ?_)) <;> (try (conv => whnf)) <;> (try simp only [SV.real, SV.r2, SV.r1]))
  · obtain rfl : k = l.length := by omega
    repeat' ((conv => whnf); first | refine walk (Tryz.ok ..) ?_ | (refine Cnd.mk (fun h => ?_) (fun h => ?_) <;> (first | exact cndT h (by (try dsimp only); omega) | exact cndF h (by (try dsimp only); omega) | (exfalso; simp at h; omega) | simp at h | skip)) | refine kp ?_ ?_ | refine tw ?_ ?_ | exact trivial | refine side ?_ | refine sideL ?_ | refine Or.inr ?_ | refine sat_drawH (Tryz.ok ..) (by kernel_rfl) ?_ | refine xi _ (And.intro rfl rfl) ?_ | refine xi _ (fun _ => And.intro rfl rfl) ?_ | refine xi _ rfl ?_)
    exact done_pure rfl rfl rfl
set_option maxRecDepth 100000 in
set_option maxHeartbeats 8000000 in
theorem rbetween_any (l : List Sp) (A : Option (Nat × Nat)) (cap : Nat) (a b : Int) (w : World) (hro : Ro w A l.length 2 (sps l)) (hl : l.length ≤ 4611686018427387903) :
    Calls Tryz.prog 29 #[.slice (adr A) l.length cap, .int .i64 a, .int .i64 b] w fun e w' => e = .returned (.tuple #[.int .i64 (btV l a b), .int .i64 (btE l a b)]) ∧ Below w.heap.size w w' := by
  refine calls_sat (cx := Tryz.cx 30 [] [] [] w) (Tryz.ok ..) Tryz.func29 rfl [.o 100 A l.length cap, .v (.int .i64 a), .v (.int .i64 b)] rfl (by show 3 ≤ 30; omega) [(100, .ro A l.length 2 (sps l))] (holds_ros rfl rfl ⟨hro, trivial⟩) ?_
  repeat' ((conv => whnf); first | refine walk (Tryz.ok ..) ?_ | (refine Cnd.mk (fun h => ?_) (fun h => ?_) <;> (first | exact cndT h (by (try dsimp only); omega) | exact cndF h (by (try dsimp only); omega) | (exfalso; simp at h; omega) | simp at h | skip)) | refine kp ?_ ?_ | refine tw ?_ ?_ | exact trivial | refine side ?_ | refine sideL ?_ | refine Or.inr ?_ | refine sat_drawH (Tryz.ok ..) (by kernel_rfl) ?_ | refine xi _ (And.intro rfl rfl) ?_ | refine xi _ (fun _ => And.intro rfl rfl) ?_ | refine xi _ rfl ?_)
  obtain ⟨p, hp⟩ : ∃ p, p = apart l := ⟨_, rfl⟩
  obtain ⟨q, hq⟩ : ∃ q, q = timedB a := ⟨_, rfl⟩
  obtain ⟨r, hr⟩ : ∃ q, q = timedB b := ⟨_, rfl⟩
  refine called_at (.v (.bool p)) rfl (fun w' hh => by rw [hp]; exact rapart_any l A cap w' (ro_of_ro hh (id := 100) rfl) (by omega)) ?_
  repeat' ((conv => whnf); first | refine walk (Tryz.ok ..) ?_ | (refine Cnd.mk (fun h => ?_) (fun h => ?_) <;> (first | exact cndT h (by (try dsimp only); omega) | exact cndF h (by (try dsimp only); omega) | (exfalso; simp at h; omega) | simp at h | skip)) | refine kp ?_ ?_ | refine tw ?_ ?_ | exact trivial | refine side ?_ | refine sideL ?_ | refine Or.inr ?_ | refine sat_drawH (Tryz.ok ..) (by kernel_rfl) ?_ | refine xi _ (And.intro rfl rfl) ?_ | refine xi _ (fun _ => And.intro rfl rfl) ?_ | refine xi _ rfl ?_)
  refine calledQ_pure (.v (.bool q)) rfl (fun _ w' => by rw [hq]; exact rtime_any a w') ?_
  repeat' ((conv => whnf); first | refine walk (Tryz.ok ..) ?_ | (refine Cnd.mk (fun h => ?_) (fun h => ?_) <;> (first | exact cndT h (by (try dsimp only); omega) | exact cndF h (by (try dsimp only); omega) | (exfalso; simp at h; omega) | simp at h | skip)) | refine kp ?_ ?_ | refine tw ?_ ?_ | exact trivial | refine side ?_ | refine sideL ?_ | refine Or.inr ?_ | refine sat_drawH (Tryz.ok ..) (by kernel_rfl) ?_ | refine xi _ (And.intro rfl rfl) ?_ | refine xi _ (fun _ => And.intro rfl rfl) ?_ | refine xi _ rfl ?_)
  refine calledQ_pure (.v (.bool r)) rfl (fun _ w' => by rw [hr]; exact rtime_any b w') ?_
  repeat' ((conv => whnf); first | refine walk (Tryz.ok ..) ?_ | (refine Cnd.mk (fun h => ?_) (fun h => ?_) <;> (first | exact cndT h (by (try dsimp only); omega) | exact cndF h (by (try dsimp only); omega) | (exfalso; simp at h; omega) | simp at h | skip)) | refine kp ?_ ?_ | refine tw ?_ ?_ | exact trivial | refine side ?_ | refine sideL ?_ | refine Or.inr ?_ | refine sat_drawH (Tryz.ok ..) (by kernel_rfl) ?_ | refine xi _ (And.intro rfl rfl) ?_ | refine xi _ (fun _ => And.intro rfl rfl) ?_ | refine xi _ rfl ?_)
  · obtain ⟨h1, h2⟩ := bt_no (l := l) (a := a) (b := b) (by
      unfold btOk orderedB
      rw [← hp, ← hq, ← hr]
      rcases h with ((h | h) | h) | h
      · rw [h]; rfl
      · rw [h]; simp
      · rw [h]; simp
      · rw [decide_eq_false (show ¬ a ≤ b by omega)]; simp)
    exact done_pure rfl rfl (real_ii h1 h2)
  have hb : btOk l a b = true := by
    unfold btOk orderedB
    rw [← hp, ← hq, ← hr, h.1.1.1, h.1.1.2, h.1.2, decide_eq_true (show a ≤ b by omega)]
    rfl
  obtain ⟨hok, hn⟩ := apart_ok (hp ▸ h.1.1.1)
  have ha1 := timed_iff.1 (hq ▸ h.1.1.2)
  have hb1 := timed_iff.1 (hr ▸ h.1.2)
  refine called_at (.v (.int .i64 (cnt l a b))) rfl (fun w' hh => count_any l A cap a b w' (ro_of_ro hh (id := 100) rfl) hok hn ha1 hb1) ?_
  repeat' ((conv => whnf); first | refine walk (Tryz.ok ..) ?_ | (refine Cnd.mk (fun h => ?_) (fun h => ?_) <;> (first | exact cndT h (by (try dsimp only); omega) | exact cndF h (by (try dsimp only); omega) | (exfalso; simp at h; omega) | simp at h | skip)) | refine kp ?_ ?_ | refine tw ?_ ?_ | exact trivial | refine side ?_ | refine sideL ?_ | refine Or.inr ?_ | refine sat_drawH (Tryz.ok ..) (by kernel_rfl) ?_ | refine xi _ (And.intro rfl rfl) ?_ | refine xi _ (fun _ => And.intro rfl rfl) ?_ | refine xi _ rfl ?_)
  obtain ⟨h1, h2⟩ := bt_yes hb
  exact done_pure rfl rfl (real_ii h1 h2)
def wkOk (l : List Sp) (a m : Int) : Bool := apart l && timedB a && decide (1 ≤ m) && decide (m ≤ 100000000)
theorem wk_of {l : List Sp} {a m : Int} (h : wkOk l a m = true) : (okTo l l.length = true ∧ l.length ≤ 1000) ∧ (0 ≤ a ∧ a ≤ 100000000) ∧ 1 ≤ m ∧ m ≤ 100000000 := by
  unfold wkOk at h
  simp only [Bool.and_eq_true, decide_eq_true_eq, timed_iff] at h
  exact ⟨apart_ok h.1.1.1, h.1.1.2, h.1.2, h.2⟩
set_option maxRecDepth 100000 in
set_option maxHeartbeats 8000000 in
theorem worked_any (l : List Sp) (A : Option (Nat × Nat)) (cap : Nat) (a m : Int) (w : World) (hro : Ro w A l.length 2 (sps l)) (hl : l.length ≤ 4611686018427387903) :
    Calls Tryz.prog 56 #[.slice (adr A) l.length cap, .int .i64 a, .int .i64 m] w fun e w' => e = .returned (.bool (wkOk l a m)) ∧ Below w.heap.size w w' := by
  refine calls_sat (cx := Tryz.cx 21 [] [] [] w) (Tryz.ok ..) Tryz.func56 rfl [.o 100 A l.length cap, .v (.int .i64 a), .v (.int .i64 m)] rfl (by show 3 ≤ 21; omega) [(100, .ro A l.length 2 (sps l))] (holds_ros rfl rfl ⟨hro, trivial⟩) ?_
  repeat' ((conv => whnf); first | refine walk (Tryz.ok ..) ?_ | (refine Cnd.mk (fun h => ?_) (fun h => ?_) <;> (first | exact cndT h (by (try dsimp only); omega) | exact cndF h (by (try dsimp only); omega) | (exfalso; simp at h; omega) | simp at h | skip)) | refine kp ?_ ?_ | refine tw ?_ ?_ | exact trivial | refine side ?_ | refine sideL ?_ | refine Or.inr ?_ | refine sat_drawH (Tryz.ok ..) (by kernel_rfl) ?_ | refine xi _ (And.intro rfl rfl) ?_ | refine xi _ (fun _ => And.intro rfl rfl) ?_ | refine xi _ rfl ?_)
  refine called_at (.v (.bool (apart l))) rfl (fun w' hh => apart_any l A cap w' (ro_of_ro hh (id := 100) rfl) (by omega)) ?_
  repeat' ((conv => whnf); first | refine walk (Tryz.ok ..) ?_ | (refine Cnd.mk (fun h => ?_) (fun h => ?_) <;> (first | exact cndT h (by (try dsimp only); omega) | exact cndF h (by (try dsimp only); omega) | (exfalso; simp at h; omega) | simp at h | skip)) | refine kp ?_ ?_ | refine tw ?_ ?_ | exact trivial | refine side ?_ | refine sideL ?_ | refine Or.inr ?_ | refine sat_drawH (Tryz.ok ..) (by kernel_rfl) ?_ | refine xi _ (And.intro rfl rfl) ?_ | refine xi _ (fun _ => And.intro rfl rfl) ?_ | refine xi _ rfl ?_)
  refine calledQ_pure (.v (.bool (timedB a))) rfl (fun _ w' => timed_any a w') ?_
  repeat' ((conv => whnf); first | refine walk (Tryz.ok ..) ?_ | (refine Cnd.mk (fun h => ?_) (fun h => ?_) <;> (first | exact cndT h (by (try dsimp only); omega) | exact cndF h (by (try dsimp only); omega) | (exfalso; simp at h; omega) | simp at h | skip)) | refine kp ?_ ?_ | refine tw ?_ ?_ | exact trivial | refine side ?_ | refine sideL ?_ | refine Or.inr ?_ | refine sat_drawH (Tryz.ok ..) (by kernel_rfl) ?_ | refine xi _ (And.intro rfl rfl) ?_ | refine xi _ (fun _ => And.intro rfl rfl) ?_ | refine xi _ rfl ?_)
  exact done_pure rfl rfl rfl
def ftV (l : List Sp) (a m : Int) : Int := if wkOk l a m then (fitL l a m).getD 0 else 0
def ftE (l : List Sp) (a m : Int) : Int := if wkOk l a m then (if (fitL l a m).isSome then 0 else 6) else 2
theorem ft_no {l : List Sp} {a m : Int} (h : wkOk l a m = false) : 0 = ftV l a m ∧ 2 = ftE l a m := by unfold ftV ftE; rw [h]; exact ⟨rfl, rfl⟩
theorem ft_none {l : List Sp} {a m : Int} (h : wkOk l a m = true) (h2 : fitL l a m = none) : 0 = ftV l a m ∧ 6 = ftE l a m := by unfold ftV ftE; rw [h, h2]; exact ⟨rfl, rfl⟩
theorem ft_some {l : List Sp} {a m x : Int} (h : wkOk l a m = true) (h2 : fitL l a m = some x) : x = ftV l a m ∧ 0 = ftE l a m := by unfold ftV ftE; rw [h, h2]; exact ⟨rfl, rfl⟩
theorem fitTo_up {l : List Sp} {a m x : Int} {n : Nat} (h : fitTo l a m n = some x) : ∀ d, fitTo l a m (n + d) = some x := by
  intro d
  induction d with
  | zero => exact h
  | succ d ih => rw [← Nat.add_assoc, fitTo, ih]
set_option maxRecDepth 100000 in
set_option maxHeartbeats 8000000 in
theorem fit_any (l : List Sp) (A : Option (Nat × Nat)) (cap : Nat) (a m : Int) (w : World) (hro : Ro w A l.length 2 (sps l)) (hl : l.length ≤ 4611686018427387903) :
    Calls Tryz.prog 26 #[.slice (adr A) l.length cap, .int .i64 a, .int .i64 m] w fun e w' => e = .returned (.tuple #[.int .i64 (ftV l a m), .int .i64 (ftE l a m)]) ∧ Below w.heap.size w w' := by
  refine calls_sat (cx := Tryz.cx 34 [] [] [] w) (Tryz.ok ..) Tryz.func26 rfl [.o 100 A l.length cap, .v (.int .i64 a), .v (.int .i64 m)] rfl (by show 3 ≤ 34; omega) [(100, .ro A l.length 2 (sps l))] (holds_ros rfl rfl ⟨hro, trivial⟩) ?_
  repeat' ((conv => whnf); first | refine walk (Tryz.ok ..) ?_ | (refine Cnd.mk (fun h => ?_) (fun h => ?_) <;> (first | exact cndT h (by (try dsimp only); omega) | exact cndF h (by (try dsimp only); omega) | (exfalso; simp at h; omega) | simp at h | skip)) | refine kp ?_ ?_ | refine tw ?_ ?_ | exact trivial | refine side ?_ | refine sideL ?_ | refine Or.inr ?_ | refine sat_drawH (Tryz.ok ..) (by kernel_rfl) ?_ | refine xi _ (And.intro rfl rfl) ?_ | refine xi _ (fun _ => And.intro rfl rfl) ?_ | refine xi _ rfl ?_)
  obtain ⟨p, hp⟩ : ∃ p, p = wkOk l a m := ⟨_, rfl⟩
  refine called_at (.v (.bool p)) rfl (fun w' hh => by rw [hp]; exact worked_any l A cap a m w' (ro_of_ro hh (id := 100) rfl) hl) ?_
  repeat' ((conv => whnf); first | refine walk (Tryz.ok ..) ?_ | (refine Cnd.mk (fun h => ?_) (fun h => ?_) <;> (first | exact cndT h (by (try dsimp only); omega) | exact cndF h (by (try dsimp only); omega) | (exfalso; simp at h; omega) | simp at h | skip)) | refine kp ?_ ?_ | refine tw ?_ ?_ | exact trivial | refine side ?_ | refine sideL ?_ | refine Or.inr ?_ | refine sat_drawH (Tryz.ok ..) (by kernel_rfl) ?_ | refine xi _ (And.intro rfl rfl) ?_ | refine xi _ (fun _ => And.intro rfl rfl) ?_ | refine xi _ rfl ?_)
  · obtain ⟨h1, h2⟩ := ft_no (hp ▸ h)
    exact done_pure rfl rfl (real_ii h1 h2)
  have hwk : wkOk l a m = true := hp ▸ h
  obtain ⟨⟨hok, hn⟩, ha, hm⟩ := wk_of hwk
  refine sat_loop (Tryz.ok ..) (α := Nat) (fun k => ([(1, .yes, .v (.int .i64 a)), (2, .yes, .v (.int .i64 m)), (16, .yes, .o 100 A l.length cap), (17, .yes, .v (.int .i64 l.length)), (18, .yes, .v (.int .i64 k))], [(100, .ro A l.length 2 (sps l))])) (fun k => k ≤ l.length ∧ fitTo l a m k = none) (fun k => l.length - k) (fun _ => rfl) ?_ ?_
  · refine ⟨0, ⟨Nat.zero_le _, rfl⟩, ?_, ?_, rfl⟩
    all_goals ((repeat' (first | exact trivial | exact rfl | refine And.intro ?_ ?_)) <;> (try (conv => whnf)) <;> (try simp only [SV.real, SV.r2, SV.r1]))
  rintro k ⟨hk, hf⟩
  by_cases hk1 : k < l.length
  · obtain ⟨s, hs⟩ : ∃ s, l[k]? = some s := ⟨l[k], List.getElem?_eq_getElem hk1⟩
    obtain ⟨o1, o2, o3⟩ := ok_own hok hs
    have hin : InR .i64 (s.t - max s.f a) := by simp only [InR]; omega
    have hnx : fitTo l a m (k + 1) = if m ≤ s.t - max s.f a then some (max s.f a) else none := by rw [fitTo, hf, hs]
    repeat' ((conv => whnf); first | refine walk (Tryz.ok ..) ?_ | (refine Cnd.mk (fun h => ?_) (fun h => ?_) <;> (first | exact cndT h (by (try dsimp only); omega) | exact cndF h (by (try dsimp only); omega) | (exfalso; simp at h; omega) | simp at h | skip)) | refine kp ?_ ?_ | refine tw ?_ ?_ | exact trivial | refine side ?_ | refine sideL ?_ | refine Or.inr ?_ | refine sat_drawH (Tryz.ok ..) (by kernel_rfl) ?_ | refine xi _ (And.intro rfl rfl) ?_ | refine xi _ (fun _ => And.intro rfl rfl) ?_ | refine xi _ rfl ?_ | refine xi _ (fun _ => (at_s hs rfl)) ?_ | refine xi _ (at_s hs rfl) ?_ | intro g hg)
    · rw [if_pos h] at hnx
      have := fitTo_up hnx (l.length - (k + 1))
      rw [show k + 1 + (l.length - (k + 1)) = l.length by omega] at this
      obtain ⟨h1, h2⟩ := ft_some hwk this
      exact done_pure rfl rfl (real_ii h1 h2)
    · rw [if_neg (by omega)] at hnx
      refine ⟨k + 1, ⟨⟨by omega, hnx⟩, by omega⟩, ?_, ?_, rfl⟩
      all_goals ((repeat' (first | exact trivial | exact rfl | refine And.intro ?_ ?_)) <;> (try (conv => whnf)) <;> (try simp only [SV.real, SV.r2, SV.r1]))
  · obtain rfl : k = l.length := by omega
    repeat' ((conv => whnf); first | refine walk (Tryz.ok ..) ?_ | (refine Cnd.mk (fun h => ?_) (fun h => ?_) <;> (first | exact cndT h (by (try dsimp only); omega) | exact cndF h (by (try dsimp only); omega) | (exfalso; simp at h; omega) | simp at h | skip)) | refine kp ?_ ?_ | refine tw ?_ ?_ | exact trivial | refine side ?_ | refine sideL ?_ | refine Or.inr ?_ | refine sat_drawH (Tryz.ok ..) (by kernel_rfl) ?_ | refine xi _ (And.intro rfl rfl) ?_ | refine xi _ (fun _ => And.intro rfl rfl) ?_ | refine xi _ rfl ?_)
    obtain ⟨h1, h2⟩ := ft_none hwk hf
    exact done_pure rfl rfl (real_ii h1 h2)
def fnV (l : List Sp) (a m : Int) : Int := if wkOk l a m then (finL l a m).getD 0 else 0
def fnE (l : List Sp) (a m : Int) : Int := if wkOk l a m then (if (finL l a m).isSome then 0 else 6) else 2
theorem fn_no {l : List Sp} {a m : Int} (h : wkOk l a m = false) : 0 = fnV l a m ∧ 2 = fnE l a m := by unfold fnV fnE; rw [h]; exact ⟨rfl, rfl⟩
theorem fn_none {l : List Sp} {a m : Int} (h : wkOk l a m = true) (h2 : finL l a m = none) : 0 = fnV l a m ∧ 6 = fnE l a m := by unfold fnV fnE; rw [h, h2]; exact ⟨rfl, rfl⟩
theorem fn_some {l : List Sp} {a m x : Int} (h : wkOk l a m = true) (h2 : finL l a m = some x) : x = fnV l a m ∧ 0 = fnE l a m := by unfold fnV fnE; rw [h, h2]; exact ⟨rfl, rfl⟩
theorem finTo_up {l : List Sp} {a m x : Int} {n : Nat} (h : finTo l a m n = some x) : ∀ d, finTo l a m (n + d) = some x := by
  intro d
  induction d with
  | zero => exact h
  | succ d ih => rw [← Nat.add_assoc, finTo, ih]
set_option maxRecDepth 100000 in
set_option maxHeartbeats 8000000 in
theorem finish_any (l : List Sp) (A : Option (Nat × Nat)) (cap : Nat) (a m : Int) (w : World) (hro : Ro w A l.length 2 (sps l)) (hl : l.length ≤ 4611686018427387903) :
    Calls Tryz.prog 27 #[.slice (adr A) l.length cap, .int .i64 a, .int .i64 m] w fun e w' => e = .returned (.tuple #[.int .i64 (fnV l a m), .int .i64 (fnE l a m)]) ∧ Below w.heap.size w w' := by
  refine calls_sat (cx := Tryz.cx 42 [] [] [] w) (Tryz.ok ..) Tryz.func27 rfl [.o 100 A l.length cap, .v (.int .i64 a), .v (.int .i64 m)] rfl (by show 3 ≤ 42; omega) [(100, .ro A l.length 2 (sps l))] (holds_ros rfl rfl ⟨hro, trivial⟩) ?_
  repeat' ((conv => whnf); first | refine walk (Tryz.ok ..) ?_ | (refine Cnd.mk (fun h => ?_) (fun h => ?_) <;> (first | exact cndT h (by (try dsimp only); omega) | exact cndF h (by (try dsimp only); omega) | (exfalso; simp at h; omega) | simp at h | skip)) | refine kp ?_ ?_ | refine tw ?_ ?_ | exact trivial | refine side ?_ | refine sideL ?_ | refine Or.inr ?_ | refine sat_drawH (Tryz.ok ..) (by kernel_rfl) ?_ | refine xi _ (And.intro rfl rfl) ?_ | refine xi _ (fun _ => And.intro rfl rfl) ?_ | refine xi _ rfl ?_)
  obtain ⟨p, hp⟩ : ∃ p, p = wkOk l a m := ⟨_, rfl⟩
  refine called_at (.v (.bool p)) rfl (fun w' hh => by rw [hp]; exact worked_any l A cap a m w' (ro_of_ro hh (id := 100) rfl) hl) ?_
  repeat' ((conv => whnf); first | refine walk (Tryz.ok ..) ?_ | (refine Cnd.mk (fun h => ?_) (fun h => ?_) <;> (first | exact cndT h (by (try dsimp only); omega) | exact cndF h (by (try dsimp only); omega) | (exfalso; simp at h; omega) | simp at h | skip)) | refine kp ?_ ?_ | refine tw ?_ ?_ | exact trivial | refine side ?_ | refine sideL ?_ | refine Or.inr ?_ | refine sat_drawH (Tryz.ok ..) (by kernel_rfl) ?_ | refine xi _ (And.intro rfl rfl) ?_ | refine xi _ (fun _ => And.intro rfl rfl) ?_ | refine xi _ rfl ?_)
  · obtain ⟨h1, h2⟩ := fn_no (hp ▸ h)
    exact done_pure rfl rfl (real_ii h1 h2)
  have hwk : wkOk l a m = true := hp ▸ h
  obtain ⟨⟨hok, hn⟩, ha, hm⟩ := wk_of hwk
  refine sat_loop (Tryz.ok ..) (α := Nat) (fun k => ([(1, .yes, .v (.int .i64 a)), (2, .yes, .v (.int .i64 (m - cntTo l a 100000000 k))), (17, .yes, .o 100 A l.length cap), (18, .yes, .v (.int .i64 l.length)), (19, .yes, .v (.int .i64 k))], [(100, .ro A l.length 2 (sps l))])) (fun k => k ≤ l.length ∧ finTo l a m k = none) (fun k => l.length - k) (fun _ => rfl) ?_ ?_
  · refine ⟨0, ⟨Nat.zero_le _, rfl⟩, ?_, ?_, rfl⟩
    · dsimp only
      rw [show m - cntTo l a 100000000 0 = m by rw [cntTo]; omega]
      ((repeat' (first | exact trivial | exact rfl | refine And.intro ?_ ?_)) <;> (try (conv => whnf)) <;> (try simp only [SV.real, SV.r2, SV.r1]))
    · ((repeat' (first | exact trivial | exact rfl | refine And.intro ?_ ?_)) <;> (try (conv => whnf)) <;> (try simp only [SV.real, SV.r2, SV.r1]))
  rintro k ⟨hk, hf⟩
  by_cases hk1 : k < l.length
  · obtain ⟨s, hs⟩ : ∃ s, l[k]? = some s := ⟨l[k], List.getElem?_eq_getElem hk1⟩
    obtain ⟨o1, o2, o3⟩ := ok_own hok hs
    have hc0 := cntTo_pos l a 100000000 k
    have hc2 := finTo_none hok hm.1 hf
    have hc3 : cntTo l a 100000000 (k + 1) = cntTo l a 100000000 k + max (s.t - max s.f a) 0 := by
      rw [cntTo_at hs]
      unfold cnt1
      omega
    obtain ⟨c, hc⟩ : ∃ c, c = cntTo l a 100000000 k := ⟨_, rfl⟩
    have hnx : finTo l a m (k + 1) = if c + max (s.t - max s.f a) 0 < m then none else some (max s.f a + (m - c)) := by rw [finTo, hf, hs, hc]
    rw [← hc] at hc0 hc2 hc3 ⊢
    repeat' ((conv => whnf); first | refine walk (Tryz.ok ..) ?_ | (refine Cnd.mk (fun h => ?_) (fun h => ?_) <;> (first | exact cndT h (by (try dsimp only); omega) | exact cndF h (by (try dsimp only); omega) | (exfalso; simp at h; omega) | simp at h | skip)) | refine kp ?_ ?_ | refine tw ?_ ?_ | exact trivial | refine side ?_ | refine sideL ?_ | refine Or.inr ?_ | refine sat_drawH (Tryz.ok ..) (by kernel_rfl) ?_ | refine xi _ (And.intro rfl rfl) ?_ | refine xi _ (fun _ => And.intro rfl rfl) ?_ | refine xi _ rfl ?_ | refine xi _ (fun _ => (at_s hs rfl)) ?_ | refine xi _ (at_s hs rfl) ?_ | intro g hg)
    · rw [if_pos (by omega)] at hnx
      refine ⟨k + 1, ⟨⟨by omega, hnx⟩, by omega⟩, ?_, ?_, rfl⟩
      · dsimp only
        rw [show m - cntTo l a 100000000 (k + 1) = m - c - max (s.t - max s.f a) 0 by omega]
        ((repeat' (first | exact trivial | exact rfl | refine And.intro ?_ ?_)) <;> (try (conv => whnf)) <;> (try simp only [SV.real, SV.r2, SV.r1]))
      · ((repeat' (first | exact trivial | exact rfl | refine And.intro ?_ ?_)) <;> (try (conv => whnf)) <;> (try simp only [SV.real, SV.r2, SV.r1]))
    · rw [if_neg (by omega)] at hnx
      have := finTo_up hnx (l.length - (k + 1))
      rw [show k + 1 + (l.length - (k + 1)) = l.length by omega] at this
      obtain ⟨h1, h2⟩ := fn_some hwk this
      exact done_pure rfl rfl (real_ii h1 h2)
  · obtain rfl : k = l.length := by omega
    repeat' ((conv => whnf); first | refine walk (Tryz.ok ..) ?_ | (refine Cnd.mk (fun h => ?_) (fun h => ?_) <;> (first | exact cndT h (by (try dsimp only); omega) | exact cndF h (by (try dsimp only); omega) | (exfalso; simp at h; omega) | simp at h | skip)) | refine kp ?_ ?_ | refine tw ?_ ?_ | exact trivial | refine side ?_ | refine sideL ?_ | refine Or.inr ?_ | refine sat_drawH (Tryz.ok ..) (by kernel_rfl) ?_ | refine xi _ (And.intro rfl rfl) ?_ | refine xi _ (fun _ => And.intro rfl rfl) ?_ | refine xi _ rfl ?_)
    obtain ⟨h1, h2⟩ := fn_none hwk hf
    exact done_pure rfl rfl (real_ii h1 h2)
end Go.Proofs.YtmhfkmnpeponiaaGreatDoor
