/-
  The walks of the reference of the clock package: times, spans that are apart, calendars that are right, whether they are open.
-/
import Derived.Test.YtmhfkmnpeponiaaGreatDoorC3
namespace Go.Proofs.YtmhfkmnpeponiaaGreatDoor
open Go Sat Go.RowKit Go.PlainAid
set_option linter.unusedSimpArgs false
set_option linter.unusedVariables false
set_option maxRecDepth 100000 in
set_option maxHeartbeats 8000000 in
theorem rtime_any (n : Int) (w : World) : Calls Tryz.prog 48 #[.int .i64 n] w fun e w' => e = .returned (.bool (timedB n)) ∧ Below w.heap.size w w' := by
  refine calls_sat (cx := Tryz.cx 9 [] [] [] w) (Tryz.ok ..) Tryz.func48 rfl [.v (.int .i64 n)] rfl (by show 1 ≤ 9; omega) [] (holds_nil (Nat.le_refl _)) ?_
  repeat' ((conv => whnf); first | refine walk (Tryz.ok ..) ?_ | (refine Cnd.mk (fun h => ?_) (fun h => ?_) <;> (first | exact cndT h (by (try dsimp only); omega) | exact cndF h (by (try dsimp only); omega) | (exfalso; simp at h; omega) | simp at h | skip)) | refine kp ?_ ?_ | refine tw ?_ ?_ | exact trivial | refine side ?_ | refine sideL ?_ | refine Or.inr ?_ | refine sat_drawH (Tryz.ok ..) (by kernel_rfl) ?_ | refine xi _ (And.intro rfl rfl) ?_ | refine xi _ (fun _ => And.intro rfl rfl) ?_ | refine xi _ rfl ?_)
  refine done_pure rfl rfl (congrArg Value.bool ?_)
  unfold timedB
  rfl
theorem okAt_ref {l : List Sp} {k : Nat} {s : Sp} (hs : l[k]? = some s) (h : okTo l k = true) : okAt l k = true ↔ ¬ (s.f < 0) ∧ ¬ (s.t ≤ s.f) ∧ timedB s.t = true ∧ ¬ (0 < k ∧ s.f ≤ lastF l k) := by
  rw [okAt_iff hs h]
  unfold timedB
  simp only [Bool.and_eq_true, decide_eq_true_eq]
  cases k with
  | zero => simp [lastF]; omega
  | succ k =>
    obtain ⟨r, hr⟩ : ∃ r, l[k]? = some r := ⟨l[k]'(by have := (List.getElem?_eq_some_iff.1 hs).1; omega), List.getElem?_eq_getElem _⟩
    have h1 := okTo_at h (Nat.lt_succ_self k)
    rw [lastF_at hr]
    unfold okAt at h1
    rw [hr] at h1
    simp only [Bool.and_eq_true, decide_eq_true_eq] at h1
    omega
set_option maxRecDepth 100000 in
set_option maxHeartbeats 8000000 in
theorem rapart_any (l : List Sp) (A : Option (Nat × Nat)) (cap : Nat) (w : World) (hro : Ro w A l.length 2 (sps l)) (hl : l.length ≤ 9223372036854775806) : Calls Tryz.prog 33 #[.slice (adr A) l.length cap] w fun e w' => e = .returned (.bool (apart l)) ∧ Below w.heap.size w w' := by
  refine calls_sat (cx := Tryz.cx 59 [] [] [] w) (Tryz.ok ..) Tryz.func33 rfl [.o 100 A l.length cap] rfl (by show 1 ≤ 59; omega) [(100, .ro A l.length 2 (sps l))] (holds_ros rfl rfl ⟨hro, trivial⟩) ?_
  repeat' ((conv => whnf); first | refine walk (Tryz.ok ..) ?_ | (refine Cnd.mk (fun h => ?_) (fun h => ?_) <;> (first | exact cndT h (by (try dsimp only); omega) | exact cndF h (by (try dsimp only); omega) | (exfalso; simp at h; omega) | simp at h | skip)) | refine kp ?_ ?_ | refine tw ?_ ?_ | exact trivial | refine side ?_ | refine sideL ?_ | refine Or.inr ?_ | refine sat_drawH (Tryz.ok ..) (by kernel_rfl) ?_ | refine xi _ (And.intro rfl rfl) ?_ | refine xi _ (fun _ => And.intro rfl rfl) ?_ | refine xi _ rfl ?_)
  refine sat_loop (Tryz.ok ..) (α := Nat) (fun k => ([(0, .yes, .o 100 A l.length cap), (3, .yes, .v (.int .i64 k))], [(100, .ro A l.length 2 (sps l))])) (fun k => k ≤ l.length ∧ okTo l k = true) (fun k => l.length - k) (fun _ => rfl) ?_ ?_
  · refine ⟨0, ⟨by omega, rfl⟩, ?_, ?_, rfl⟩
    all_goals ((repeat' (first | exact trivial | exact rfl | refine And.intro ?_ ?_)) <;> (try (conv => whnf)) <;> (try simp only [SV.real, SV.r2, SV.r1]))
  rintro k ⟨hk, hok⟩
  by_cases hk1 : k < l.length
  · obtain ⟨s, hs⟩ : ∃ s, l[k]? = some s := ⟨l[k], List.getElem?_eq_getElem hk1⟩
    have hiff := okAt_ref hs hok
    obtain ⟨b, hb⟩ : ∃ b, b = timedB s.t := ⟨_, rfl⟩
    rw [← hb] at hiff
    have hgo : ∀ K : Prop, okAt l k = false → (false = apart l → K) → K := fun K h hk => hk (by
      unfold apart
      rw [okTo_no h hk1]
      rfl)
    rcases Nat.eq_zero_or_pos k with h0 | h0
    · subst h0
      repeat' ((conv => whnf); first | refine walk (Tryz.ok ..) ?_ | (refine Cnd.mk (fun h => ?_) (fun h => ?_) <;> (first | exact cndT h (by (try dsimp only); omega) | exact cndF h (by (try dsimp only); omega) | (exfalso; simp at h; omega) | simp at h | skip)) | refine kp ?_ ?_ | refine tw ?_ ?_ | exact trivial | refine side ?_ | refine sideL ?_ | refine Or.inr ?_ | refine sat_drawH (Tryz.ok ..) (by kernel_rfl) ?_ | refine xi _ (And.intro rfl rfl) ?_ | refine xi _ (fun _ => And.intro rfl rfl) ?_ | refine xi _ rfl ?_ | refine xi _ (fun _ => (at_f hs rfl)) ?_ | refine xi _ (at_f hs rfl) ?_ | refine xi _ (fun _ => (at_t hs rfl)) ?_ | refine xi _ (at_t hs rfl) ?_)
      refine calledQ_pure (.v (.bool b)) rfl (fun _ w' => by rw [hb]; exact rtime_any s.t w') ?_
      repeat' ((conv => whnf); first | refine walk (Tryz.ok ..) ?_ | (refine Cnd.mk (fun h => ?_) (fun h => ?_) <;> (first | exact cndT h (by (try dsimp only); omega) | exact cndF h (by (try dsimp only); omega) | (exfalso; simp at h; omega) | simp at h | skip)) | refine kp ?_ ?_ | refine tw ?_ ?_ | exact trivial | refine side ?_ | refine sideL ?_ | refine Or.inr ?_ | refine sat_drawH (Tryz.ok ..) (by kernel_rfl) ?_ | refine xi _ (And.intro rfl rfl) ?_ | refine xi _ (fun _ => And.intro rfl rfl) ?_ | refine xi _ rfl ?_ | refine xi _ (fun _ => (no_ld rfl)) ?_ | refine xi _ (no_ld rfl) ?_ | refine xi _ (fun _ => (no_ld (by simp))) ?_ | refine xi _ (no_ld (by simp)) ?_ | refine xi _ (fun _ => (no_ld (by cases b <;> simp))) ?_ | refine xi _ (no_ld (by cases b <;> simp)) ?_)
      · refine done_pure rfl rfl (congrArg Value.bool (hgo _ ?_ id))
        rw [← Bool.not_eq_true, hiff]
        cases b <;> simp at h ⊢ <;> omega
      · refine ⟨0 + 1, ⟨⟨hk1, ?_⟩, by omega⟩, ?_, ?_, rfl⟩
        · rw [okTo_succ, hok, hiff.2 (by cases b <;> simp at h ⊢ <;> omega)]
          rfl
        all_goals ((repeat' (first | exact trivial | exact rfl | refine And.intro ?_ ?_)) <;> (try (conv => whnf)) <;> (try simp only [SV.real, SV.r2, SV.r1]))
    · obtain ⟨r, hr⟩ : ∃ s, l[k - 1]? = some s := ⟨l[k - 1]'(by omega), List.getElem?_eq_getElem _⟩
      have hlast : lastF l k = r.t := by
        have := lastF_at hr
        rw [show k - 1 + 1 = k by omega] at this
        exact this
      rw [hlast] at hiff
      repeat' ((conv => whnf); first | refine walk (Tryz.ok ..) ?_ | (refine Cnd.mk (fun h => ?_) (fun h => ?_) <;> (first | exact cndT h (by (try dsimp only); omega) | exact cndF h (by (try dsimp only); omega) | (exfalso; simp at h; omega) | simp at h | skip)) | refine kp ?_ ?_ | refine tw ?_ ?_ | exact trivial | refine side ?_ | refine sideL ?_ | refine Or.inr ?_ | refine sat_drawH (Tryz.ok ..) (by kernel_rfl) ?_ | refine xi _ (And.intro rfl rfl) ?_ | refine xi _ (fun _ => And.intro rfl rfl) ?_ | refine xi _ rfl ?_ | refine xi _ (fun _ => (at_f hs rfl)) ?_ | refine xi _ (at_f hs rfl) ?_ | refine xi _ (fun _ => (at_t hs rfl)) ?_ | refine xi _ (at_t hs rfl) ?_)
      refine calledQ_pure (.v (.bool b)) rfl (fun _ w' => by rw [hb]; exact rtime_any s.t w') ?_
      repeat' ((conv => whnf); first | refine walk (Tryz.ok ..) ?_ | (refine Cnd.mk (fun h => ?_) (fun h => ?_) <;> (first | exact cndT h (by (try dsimp only); omega) | exact cndF h (by (try dsimp only); omega) | (exfalso; simp at h; omega) | simp at h | skip)) | refine kp ?_ ?_ | refine tw ?_ ?_ | exact trivial | refine side ?_ | refine sideL ?_ | refine Or.inr ?_ | refine sat_drawH (Tryz.ok ..) (by kernel_rfl) ?_ | refine xi _ (And.intro rfl rfl) ?_ | refine xi _ (fun _ => And.intro rfl rfl) ?_ | refine xi _ rfl ?_ | refine xi _ (fun _ => (at_t hr (by omega))) ?_ | refine xi _ (at_t hr (by omega)) ?_ | refine xi _ (fun _ => (at_f hs rfl)) ?_ | refine xi _ (at_f hs rfl) ?_)
      · refine done_pure rfl rfl (congrArg Value.bool (hgo _ ?_ id))
        rw [← Bool.not_eq_true, hiff]
        cases b <;> simp at h ⊢ <;> omega
      · refine ⟨k + 1, ⟨⟨hk1, ?_⟩, by omega⟩, ?_, ?_, rfl⟩
        · rw [okTo_succ, hok, hiff.2 (by cases b <;> simp at h ⊢ <;> omega)]
          rfl
        all_goals ((repeat' (first | exact trivial | exact rfl | refine And.intro ?_ ?_)) <;> (try (conv => whnf)) <;> (try simp only [SV.real, SV.r2, SV.r1]))
  · obtain rfl : k = l.length := by omega
    repeat' ((conv => whnf); first | refine walk (Tryz.ok ..) ?_ | (refine Cnd.mk (fun h => ?_) (fun h => ?_) <;> (first | exact cndT h (by (try dsimp only); omega) | exact cndF h (by (try dsimp only); omega) | (exfalso; simp at h; omega) | simp at h | skip)) | refine kp ?_ ?_ | refine tw ?_ ?_ | exact trivial | refine side ?_ | refine sideL ?_ | refine Or.inr ?_ | refine sat_drawH (Tryz.ok ..) (by kernel_rfl) ?_ | refine xi _ (And.intro rfl rfl) ?_ | refine xi _ (fun _ => And.intro rfl rfl) ?_ | refine xi _ rfl ?_)
    refine done_pure rfl rfl (congrArg Value.bool ?_)
    unfold apart
    rw [hok]
    simp
    omega
theorem calOk_ref (l c : List Sp) : calOk l c = (l.all (fun s => decide (s.t ≤ 10080)) && (apart l && apart c && decide (l.length ≤ 50) && decide (c.length ≤ 200))) := by
  unfold calOk
  cases h : apart l
  · simp
  have hok : okTo l l.length = true := by
    unfold apart at h
    rw [Bool.and_eq_true] at h
    exact h.1
  rw [Bool.eq_iff_iff]
  simp only [Bool.and_eq_true, decide_eq_true_eq, Bool.true_and, List.all_eq_true]
  constructor
  · rintro ⟨⟨⟨h1, h2⟩, h3⟩, h4⟩
    refine ⟨fun s hm => ?_, ⟨h1, h2⟩, h3⟩
    obtain ⟨j, hs⟩ := List.getElem?_of_mem hm
    have hj := (List.getElem?_eq_some_iff.1 hs).1
    have hl := List.getElem?_eq_getElem (show l.length - 1 < l.length by omega)
    rw [hl] at h4
    simp only [decide_eq_true_eq] at h4
    have := ok_rise hok hs hl (by omega)
    omega
  · rintro ⟨h0, ⟨h1, h2⟩, h3⟩
    refine ⟨⟨⟨h1, h2⟩, h3⟩, ?_⟩
    cases hl : l[l.length - 1]? with
    | none => rfl
    | some s => simpa using h0 s (List.mem_of_getElem? hl)
set_option maxRecDepth 100000 in
set_option maxHeartbeats 8000000 in
theorem rright_any (l c : List Sp) (A B : Option (Nat × Nat)) (cA cB : Nat) (w : World) (hA : Ro w A l.length 2 (sps l)) (hB : Ro w B c.length 2 (sps c)) (hl : l.length ≤ 9223372036854775806) (hc : c.length ≤ 9223372036854775806) :
    Calls Tryz.prog 19 #[.agg #[.slice (adr A) l.length cA, .slice (adr B) c.length cB]] w fun e w' => e = .returned (.bool (calOk l c)) ∧ Below w.heap.size w w' := by
  refine calls_sat (cx := Tryz.cx 38 [] [] [] w) (Tryz.ok ..) Tryz.func19 rfl [.a [.o 100 A l.length cA, .o 101 B c.length cB]] rfl (by show 1 ≤ 38; omega) [(100, .ro A l.length 2 (sps l)), (101, .ro B c.length 2 (sps c))] (holds_ros rfl rfl ⟨hA, hB, trivial⟩) ?_
  repeat' ((conv => whnf); first | refine walk (Tryz.ok ..) ?_ | (refine Cnd.mk (fun h => ?_) (fun h => ?_) <;> (first | exact cndT h (by (try dsimp only); omega) | exact cndF h (by (try dsimp only); omega) | (exfalso; simp at h; omega) | simp at h | skip)) | refine kp ?_ ?_ | refine tw ?_ ?_ | exact trivial | refine side ?_ | refine sideL ?_ | refine Or.inr ?_ | refine sat_drawH (Tryz.ok ..) (by kernel_rfl) ?_ | refine xi _ (And.intro rfl rfl) ?_ | refine xi _ (fun _ => And.intro rfl rfl) ?_ | refine xi _ rfl ?_)
  intro g hg
  repeat' ((conv => whnf); first | refine walk (Tryz.ok ..) ?_ | (refine Cnd.mk (fun h => ?_) (fun h => ?_) <;> (first | exact cndT h (by (try dsimp only); omega) | exact cndF h (by (try dsimp only); omega) | (exfalso; simp at h; omega) | simp at h | skip)) | refine kp ?_ ?_ | refine tw ?_ ?_ | exact trivial | refine side ?_ | refine sideL ?_ | refine Or.inr ?_ | refine sat_drawH (Tryz.ok ..) (by kernel_rfl) ?_ | refine xi _ (And.intro rfl rfl) ?_ | refine xi _ (fun _ => And.intro rfl rfl) ?_ | refine xi _ rfl ?_)
  rw [calOk_ref]
  refine sat_loop (Tryz.ok ..) (α := Nat) (fun k => ([(1, .yes, .p 1 g 0 0), (3, .yes, .v (.int .i64 k))], [(1, .blk g 41 [.o 100 A l.length cA, .o 101 B c.length cB]), (100, .ro A l.length 2 (sps l)), (101, .ro B c.length 2 (sps c))])) (fun k => k ≤ l.length ∧ ∀ (j : Nat) (s : Sp), j < k → l[j]? = some s → s.t ≤ 10080) (fun k => l.length - k) (fun _ => rfl) ?_ ?_
  · refine ⟨0, ⟨by omega, fun j s h => absurd h (by omega)⟩, ?_, ?_, rfl⟩
    all_goals ((repeat' (first | exact trivial | exact rfl | refine And.intro ?_ ?_)) <;> (try (conv => whnf)) <;> (try simp only [SV.real, SV.r2, SV.r1]))
  rintro k ⟨hk, hok⟩
  by_cases hk1 : k < l.length
  · obtain ⟨s, hs⟩ : ∃ s, l[k]? = some s := ⟨l[k], List.getElem?_eq_getElem hk1⟩
    repeat' ((conv => whnf); first | refine walk (Tryz.ok ..) ?_ | (refine Cnd.mk (fun h => ?_) (fun h => ?_) <;> (first | exact cndT h (by (try dsimp only); omega) | exact cndF h (by (try dsimp only); omega) | (exfalso; simp at h; omega) | simp at h | skip)) | refine kp ?_ ?_ | refine tw ?_ ?_ | exact trivial | refine side ?_ | refine sideL ?_ | refine Or.inr ?_ | refine sat_drawH (Tryz.ok ..) (by kernel_rfl) ?_ | refine xi _ (And.intro rfl rfl) ?_ | refine xi _ (fun _ => And.intro rfl rfl) ?_ | refine xi _ rfl ?_ | refine xi _ (fun _ => (at_t hs rfl)) ?_ | refine xi _ (at_t hs rfl) ?_)
    · refine done_pure rfl rfl (congrArg Value.bool ?_)
      have hn : l.all (fun s => decide (s.t ≤ 10080)) = false := by
        rw [← Bool.not_eq_true, List.all_eq_true]
        intro hc
        have := of_decide_eq_true (hc s (List.mem_of_getElem? hs))
        omega
      rw [hn]
      rfl
    · refine ⟨k + 1, ⟨⟨hk1, fun j r hj hr => ?_⟩, by omega⟩, ?_, ?_, rfl⟩
      · rcases Nat.lt_or_ge j k with h1 | h1
        · exact hok j r h1 hr
        · obtain rfl : j = k := by omega
          rw [hs] at hr
          cases hr
          omega
      all_goals ((repeat' (first | exact trivial | exact rfl | refine And.intro ?_ ?_)) <;> (try (conv => whnf)) <;> (try simp only [SV.real, SV.r2, SV.r1]))
  · obtain rfl : k = l.length := by omega
    have hy : l.all (fun s => decide (s.t ≤ 10080)) = true := by
      rw [List.all_eq_true]
      intro s hm
      obtain ⟨j, hs⟩ := List.getElem?_of_mem hm
      exact decide_eq_true (hok j s (List.getElem?_eq_some_iff.1 hs).1 hs)
    rw [hy]
    repeat' ((conv => whnf); first | refine walk (Tryz.ok ..) ?_ | (refine Cnd.mk (fun h => ?_) (fun h => ?_) <;> (first | exact cndT h (by (try dsimp only); omega) | exact cndF h (by (try dsimp only); omega) | (exfalso; simp at h; omega) | simp at h | skip)) | refine kp ?_ ?_ | refine tw ?_ ?_ | exact trivial | refine side ?_ | refine sideL ?_ | refine Or.inr ?_ | refine sat_drawH (Tryz.ok ..) (by kernel_rfl) ?_ | refine xi _ (And.intro rfl rfl) ?_ | refine xi _ (fun _ => And.intro rfl rfl) ?_ | refine xi _ rfl ?_)
    refine called_at (.v (.bool (apart l))) rfl (fun w' hh => rapart_any l A cA w' (ro_of_ro hh (id := 100) rfl) hl) ?_
    repeat' ((conv => whnf); first | refine walk (Tryz.ok ..) ?_ | (refine Cnd.mk (fun h => ?_) (fun h => ?_) <;> (first | exact cndT h (by (try dsimp only); omega) | exact cndF h (by (try dsimp only); omega) | (exfalso; simp at h; omega) | simp at h | skip)) | refine kp ?_ ?_ | refine tw ?_ ?_ | exact trivial | refine side ?_ | refine sideL ?_ | refine Or.inr ?_ | refine sat_drawH (Tryz.ok ..) (by kernel_rfl) ?_ | refine xi _ (And.intro rfl rfl) ?_ | refine xi _ (fun _ => And.intro rfl rfl) ?_ | refine xi _ rfl ?_)
    refine calledQ_at (.v (.bool (apart c))) rfl (fun _ w' hh => rapart_any c B cB w' (ro_of_ro hh (id := 101) rfl) hc) ?_
    repeat' ((conv => whnf); first | refine walk (Tryz.ok ..) ?_ | (refine Cnd.mk (fun h => ?_) (fun h => ?_) <;> (first | exact cndT h (by (try dsimp only); omega) | exact cndF h (by (try dsimp only); omega) | (exfalso; simp at h; omega) | simp at h | skip)) | refine kp ?_ ?_ | refine tw ?_ ?_ | exact trivial | refine side ?_ | refine sideL ?_ | refine Or.inr ?_ | refine sat_drawH (Tryz.ok ..) (by kernel_rfl) ?_ | refine xi _ (And.intro rfl rfl) ?_ | refine xi _ (fun _ => And.intro rfl rfl) ?_ | refine xi _ rfl ?_)
    refine done_pure rfl rfl (congrArg Value.bool ?_)
    have e1 : decide ((l.length : Int) ≤ 50) = decide (l.length ≤ 50) := by rw [decide_eq_decide]; omega
    have e2 : decide ((c.length : Int) ≤ 200) = decide (c.length ≤ 200) := by rw [decide_eq_decide]; omega
    rw [e1, e2]
    simp
set_option maxRecDepth 100000 in
set_option maxHeartbeats 8000000 in
theorem rin_any (l : List Sp) (A : Option (Nat × Nat)) (cap : Nat) (x : Int) (w : World) (hro : Ro w A l.length 2 (sps l)) (hl : l.length ≤ 9223372036854775806) : Calls Tryz.prog 49 #[.slice (adr A) l.length cap, .int .i64 x] w fun e w' => e = .returned (.bool (inB l x)) ∧ Below w.heap.size w w' := by
  refine calls_sat (cx := Tryz.cx 28 [] [] [] w) (Tryz.ok ..) Tryz.func49 rfl [.o 100 A l.length cap, .v (.int .i64 x)] rfl (by show 2 ≤ 28; omega) [(100, .ro A l.length 2 (sps l))] (holds_ros rfl rfl ⟨hro, trivial⟩) ?_
  repeat' ((conv => whnf); first | refine walk (Tryz.ok ..) ?_ | (refine Cnd.mk (fun h => ?_) (fun h => ?_) <;> (first | exact cndT h (by (try dsimp only); omega) | exact cndF h (by (try dsimp only); omega) | (exfalso; simp at h; omega) | simp at h | skip)) | refine kp ?_ ?_ | refine tw ?_ ?_ | exact trivial | refine side ?_ | refine sideL ?_ | refine Or.inr ?_ | refine sat_drawH (Tryz.ok ..) (by kernel_rfl) ?_ | refine xi _ (And.intro rfl rfl) ?_ | refine xi _ (fun _ => And.intro rfl rfl) ?_ | refine xi _ rfl ?_)
  refine sat_loop (Tryz.ok ..) (α := Nat) (fun k => ([(0, .yes, .o 100 A l.length cap), (1, .yes, .v (.int .i64 x)), (5, .yes, .v (.int .i64 k))], [(100, .ro A l.length 2 (sps l))])) (fun k => k ≤ l.length ∧ inTo l x k = false) (fun k => l.length - k) (fun _ => rfl) ?_ ?_
  · refine ⟨0, ⟨by omega, rfl⟩, ?_, ?_, rfl⟩
    all_goals ((repeat' (first | exact trivial | exact rfl | refine And.intro ?_ ?_)) <;> (try (conv => whnf)) <;> (try simp only [SV.real, SV.r2, SV.r1]))
  rintro k ⟨hk, hok⟩
  by_cases hk1 : k < l.length
  · obtain ⟨s, hs⟩ : ∃ s, l[k]? = some s := ⟨l[k], List.getElem?_eq_getElem hk1⟩
    repeat' ((conv => whnf); first | refine walk (Tryz.ok ..) ?_ | (refine Cnd.mk (fun h => ?_) (fun h => ?_) <;> (first | exact cndT h (by (try dsimp only); omega) | exact cndF h (by (try dsimp only); omega) | (exfalso; simp at h; omega) | simp at h | skip)) | refine kp ?_ ?_ | refine tw ?_ ?_ | exact trivial | refine side ?_ | refine sideL ?_ | refine Or.inr ?_ | refine sat_drawH (Tryz.ok ..) (by kernel_rfl) ?_ | refine xi _ (And.intro rfl rfl) ?_ | refine xi _ (fun _ => And.intro rfl rfl) ?_ | refine xi _ rfl ?_ | refine xi _ (fun _ => (at_f hs rfl)) ?_ | refine xi _ (at_f hs rfl) ?_ | refine xi _ (fun _ => (fun _ => at_t hs rfl)) ?_ | refine xi _ (fun _ => at_t hs rfl) ?_)
    · refine done_pure rfl rfl (congrArg Value.bool ?_)
      exact (inB_some.2 ⟨k, s, hs, h.1, h.2⟩).symm
    · refine ⟨k + 1, ⟨⟨hk1, ?_⟩, by omega⟩, ?_, ?_, rfl⟩
      · rw [inTo_succ, hok, hs]
        simp
        omega
      all_goals ((repeat' (first | exact trivial | exact rfl | refine And.intro ?_ ?_)) <;> (try (conv => whnf)) <;> (try simp only [SV.real, SV.r2, SV.r1]))
  · obtain rfl : k = l.length := by omega
    repeat' ((conv => whnf); first | refine walk (Tryz.ok ..) ?_ | (refine Cnd.mk (fun h => ?_) (fun h => ?_) <;> (first | exact cndT h (by (try dsimp only); omega) | exact cndF h (by (try dsimp only); omega) | (exfalso; simp at h; omega) | simp at h | skip)) | refine kp ?_ ?_ | refine tw ?_ ?_ | exact trivial | refine side ?_ | refine sideL ?_ | refine Or.inr ?_ | refine sat_drawH (Tryz.ok ..) (by kernel_rfl) ?_ | refine xi _ (And.intro rfl rfl) ?_ | refine xi _ (fun _ => And.intro rfl rfl) ?_ | refine xi _ rfl ?_)
    refine done_pure rfl rfl (congrArg Value.bool ?_)
    exact hok.symm
set_option maxRecDepth 100000 in
set_option maxHeartbeats 8000000 in
theorem ropen_any (l c : List Sp) (A B : Option (Nat × Nat)) (cA cB : Nat) (t : Int) (w : World) (hA : Ro w A l.length 2 (sps l)) (hB : Ro w B c.length 2 (sps c)) (hl : l.length ≤ 4611686018427387903) (hc : c.length ≤ 4611686018427387903) :
    Calls Tryz.prog 15 #[.agg #[.slice (adr A) l.length cA, .slice (adr B) c.length cB], .int .i64 t] w fun e w' => e = .returned (.tuple #[.bool (opV l c t), .int .i64 (opE l c t)]) ∧ Below w.heap.size w w' := by
  refine calls_sat (cx := Tryz.cx 26 [] [] [] w) (Tryz.ok ..) Tryz.func15 rfl [.a [.o 100 A l.length cA, .o 101 B c.length cB], .v (.int .i64 t)] rfl (by show 2 ≤ 26; omega) [(100, .ro A l.length 2 (sps l)), (101, .ro B c.length 2 (sps c))] (holds_ros rfl rfl ⟨hA, hB, trivial⟩) ?_
  repeat' ((conv => whnf); first | refine walk (Tryz.ok ..) ?_ | (refine Cnd.mk (fun h => ?_) (fun h => ?_) <;> (first | exact cndT h (by (try dsimp only); omega) | exact cndF h (by (try dsimp only); omega) | (exfalso; simp at h; omega) | simp at h | skip)) | refine kp ?_ ?_ | refine tw ?_ ?_ | exact trivial | refine side ?_ | refine sideL ?_ | refine Or.inr ?_ | refine sat_drawH (Tryz.ok ..) (by kernel_rfl) ?_ | refine xi _ (And.intro rfl rfl) ?_ | refine xi _ (fun _ => And.intro rfl rfl) ?_ | refine xi _ rfl ?_ | intro g hg)
  all_goals (try (conv => whnf))
  refine called_at (.v (.bool (calOk l c))) rfl (fun w' hh => rright_any l c A B cA cB w' (ro_of_ro hh (id := 100) rfl) (ro_of_ro hh (id := 101) rfl) (by omega) (by omega)) ?_
  repeat' ((conv => whnf); first | refine walk (Tryz.ok ..) ?_ | (refine Cnd.mk (fun h => ?_) (fun h => ?_) <;> (first | exact cndT h (by (try dsimp only); omega) | exact cndF h (by (try dsimp only); omega) | (exfalso; simp at h; omega) | simp at h | skip)) | refine kp ?_ ?_ | refine tw ?_ ?_ | exact trivial | refine side ?_ | refine sideL ?_ | refine Or.inr ?_ | refine sat_drawH (Tryz.ok ..) (by kernel_rfl) ?_ | refine xi _ (And.intro rfl rfl) ?_ | refine xi _ (fun _ => And.intro rfl rfl) ?_ | refine xi _ rfl ?_)
  by_cases htb : timedB t = true
  · have ht := htb
    unfold timedB at ht
    simp only [Bool.and_eq_true, decide_eq_true_eq] at ht
    refine calledQ_pure (.v (.bool true)) rfl (fun _ w' => by rw [← htb]; exact rtime_any t w') ?_
    repeat' ((conv => whnf); first | refine walk (Tryz.ok ..) ?_ | (refine Cnd.mk (fun h => ?_) (fun h => ?_) <;> (first | exact cndT h (by (try dsimp only); omega) | exact cndF h (by (try dsimp only); omega) | (exfalso; simp at h; omega) | simp at h | skip)) | refine kp ?_ ?_ | refine tw ?_ ?_ | exact trivial | refine side ?_ | refine sideL ?_ | refine Or.inr ?_ | refine sat_drawH (Tryz.ok ..) (by kernel_rfl) ?_ | refine xi _ (And.intro rfl rfl) ?_ | refine xi _ (fun _ => And.intro rfl rfl) ?_ | refine xi _ rfl ?_)
    · have hn : (calOk l c && timedB t) = false := by rw [h]; rfl
      refine done_pure rfl rfl ?_
      unfold opV opE
      rw [hn]
      rfl
    obtain ⟨h1, h2, h3, h4, _⟩ := cal_ok h
    have hy : (calOk l c && timedB t) = true := by rw [h, htb]; rfl
    refine called_at (.v (.bool (inB l (t % 10080)))) rfl (fun w' hh => rin_any l A cA (t % 10080) w' (ro_of_ro hh (id := 100) rfl) (by omega)) ?_
    repeat' ((conv => whnf); first | refine walk (Tryz.ok ..) ?_ | (refine Cnd.mk (fun h => ?_) (fun h => ?_) <;> (first | exact cndT h (by (try dsimp only); omega) | exact cndF h (by (try dsimp only); omega) | (exfalso; simp at h; omega) | simp at h | skip)) | refine kp ?_ ?_ | refine tw ?_ ?_ | exact trivial | refine side ?_ | refine sideL ?_ | refine Or.inr ?_ | refine sat_drawH (Tryz.ok ..) (by kernel_rfl) ?_ | refine xi _ (And.intro rfl rfl) ?_ | refine xi _ (fun _ => And.intro rfl rfl) ?_ | refine xi _ rfl ?_)
    refine calledQ_at (.v (.bool (inB c t))) rfl (fun _ w' hh => rin_any c B cB t w' (ro_of_ro hh (id := 101) rfl) (by omega)) ?_
    repeat' ((conv => whnf); first | refine walk (Tryz.ok ..) ?_ | (refine Cnd.mk (fun h => ?_) (fun h => ?_) <;> (first | exact cndT h (by (try dsimp only); omega) | exact cndF h (by (try dsimp only); omega) | (exfalso; simp at h; omega) | simp at h | skip)) | refine kp ?_ ?_ | refine tw ?_ ?_ | exact trivial | refine side ?_ | refine sideL ?_ | refine Or.inr ?_ | refine sat_drawH (Tryz.ok ..) (by kernel_rfl) ?_ | refine xi _ (And.intro rfl rfl) ?_ | refine xi _ (fun _ => And.intro rfl rfl) ?_ | refine xi _ rfl ?_)
    refine done_pure rfl rfl ?_
    unfold opV opE
    rw [hy]
    rfl
  · rw [Bool.not_eq_true] at htb
    refine calledQ_pure (.v (.bool false)) rfl (fun _ w' => by rw [← htb]; exact rtime_any t w') ?_
    repeat' ((conv => whnf); first | refine walk (Tryz.ok ..) ?_ | (refine Cnd.mk (fun h => ?_) (fun h => ?_) <;> (first | exact cndT h (by (try dsimp only); omega) | exact cndF h (by (try dsimp only); omega) | (exfalso; simp at h; omega) | simp at h | skip)) | refine kp ?_ ?_ | refine tw ?_ ?_ | exact trivial | refine side ?_ | refine sideL ?_ | refine Or.inr ?_ | refine sat_drawH (Tryz.ok ..) (by kernel_rfl) ?_ | refine xi _ (And.intro rfl rfl) ?_ | refine xi _ (fun _ => And.intro rfl rfl) ?_ | refine xi _ rfl ?_)
    · have hn : (calOk l c && timedB t) = false := by rw [htb]; simp
      refine done_pure rfl rfl ?_
      unfold opV opE
      rw [hn]
      rfl
end Go.Proofs.YtmhfkmnpeponiaaGreatDoor
