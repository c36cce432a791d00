/-
  The walks of the clock package: where a time lies in spans, whether a calendar is open.
-/
import Derived.Test.YtmhfkmnpeponiaaGreatDoorC2
namespace Go.Proofs.YtmhfkmnpeponiaaGreatDoor
open Go Sat Go.RowKit Go.PlainAid
set_option linter.unusedSimpArgs false
set_option linter.unusedVariables false
set_option maxRecDepth 100000 in
set_option maxHeartbeats 8000000 in
theorem behind_any (l : List Sp) (A : Option (Nat × Nat)) (cap : Nat) (x : Int) (w : World) (hro : Ro w A l.length 2 (sps l)) (hl : l.length ≤ 4611686018427387903) (hok : okTo l l.length = true) :
    Calls Tryz.prog 51 #[.slice (adr A) l.length cap, .int .i64 x] w fun e w' => e = .returned (.int .i64 (bhN l x)) ∧ Below w.heap.size w w' := by
  refine calls_sat (cx := Tryz.cx 14 [] [] [] w) (Tryz.ok ..) Tryz.func51 rfl [.o 100 A l.length cap, .v (.int .i64 x)] rfl (by show 2 ≤ 14; omega) [(100, .ro A l.length 2 (sps l))] (holds_ros rfl rfl ⟨hro, trivial⟩) ?_
  repeat' ((conv => whnf); first | refine walk (Tryz.ok ..) ?_ | (refine Cnd.mk (fun h => ?_) (fun h => ?_) <;> (first | exact cndT h (by (try dsimp only); omega) | exact cndF h (by (try dsimp only); omega) | (exfalso; simp at h; omega) | simp at h | skip)) | refine kp ?_ ?_ | refine tw ?_ ?_ | exact trivial | refine side ?_ | refine sideL ?_ | refine Or.inr ?_ | refine sat_drawH (Tryz.ok ..) (by kernel_rfl) ?_ | refine xi _ (And.intro rfl rfl) ?_ | refine xi _ (fun _ => And.intro rfl rfl) ?_ | refine xi _ rfl ?_)
  refine called_at (.t [.v (.int .i64 (bhN l x)), .v (.bool false)]) rfl (fun w' hh => search_any l A cap x w' (ro_of_ro hh (id := 100) rfl) hl hok) ?_
  repeat' ((conv => whnf); first | refine walk (Tryz.ok ..) ?_ | (refine Cnd.mk (fun h => ?_) (fun h => ?_) <;> (first | exact cndT h (by (try dsimp only); omega) | exact cndF h (by (try dsimp only); omega) | (exfalso; simp at h; omega) | simp at h | skip)) | refine kp ?_ ?_ | refine tw ?_ ?_ | exact trivial | refine side ?_ | refine sideL ?_ | refine Or.inr ?_ | refine sat_drawH (Tryz.ok ..) (by kernel_rfl) ?_ | refine xi _ (And.intro rfl rfl) ?_ | refine xi _ (fun _ => And.intro rfl rfl) ?_ | refine xi _ rfl ?_)
  exact done_pure rfl rfl rfl
theorem bhN_in {l : List Sp} (h : okTo l l.length = true) (x : Int) : inB l x = (match l[bhN l x]? with
  | none => false
  | some s => decide (s.f ≤ x)) := in_bh h (bhN_is h x)
set_option maxRecDepth 100000 in
set_option maxHeartbeats 8000000 in
theorem in_any (l : List Sp) (A : Option (Nat × Nat)) (cap : Nat) (x : Int) (w : World) (hro : Ro w A l.length 2 (sps l)) (hl : l.length ≤ 4611686018427387903) (hok : okTo l l.length = true) :
    Calls Tryz.prog 47 #[.slice (adr A) l.length cap, .int .i64 x] w fun e w' => e = .returned (.bool (inB l x)) ∧ Below w.heap.size w w' := by
  refine calls_sat (cx := Tryz.cx 22 [] [] [] w) (Tryz.ok ..) Tryz.func47 rfl [.o 100 A l.length cap, .v (.int .i64 x)] rfl (by show 2 ≤ 22; omega) [(100, .ro A l.length 2 (sps l))] (holds_ros rfl rfl ⟨hro, trivial⟩) ?_
  obtain ⟨b, hb⟩ : ∃ b, b = bhN l x := ⟨_, rfl⟩
  have hin := bhN_in hok x
  have hle := (bhN_is hok x).le
  rw [← hb] at hin hle
  rw [hin]
  repeat' ((conv => whnf); first | refine walk (Tryz.ok ..) ?_ | (refine Cnd.mk (fun h => ?_) (fun h => ?_) <;> (first | exact cndT h (by (try dsimp only); omega) | exact cndF h (by (try dsimp only); omega) | (exfalso; simp at h; omega) | simp at h | skip)) | refine kp ?_ ?_ | refine tw ?_ ?_ | exact trivial | refine side ?_ | refine sideL ?_ | refine Or.inr ?_ | refine sat_drawH (Tryz.ok ..) (by kernel_rfl) ?_ | refine xi _ (And.intro rfl rfl) ?_ | refine xi _ (fun _ => And.intro rfl rfl) ?_ | refine xi _ rfl ?_)
  refine called_at (.v (.int .i64 b)) rfl (fun w' hh => by rw [hb]; exact behind_any l A cap x w' (ro_of_ro hh (id := 100) rfl) hl hok) ?_
  by_cases hlt : b < l.length
  · obtain ⟨s, hs⟩ : ∃ s, l[b]? = some s := ⟨l[b]'(by omega), List.getElem?_eq_getElem (by omega)⟩
    rw [hs]
    repeat' ((conv => whnf); first | refine walk (Tryz.ok ..) ?_ | (refine Cnd.mk (fun h => ?_) (fun h => ?_) <;> (first | exact cndT h (by (try dsimp only); omega) | exact cndF h (by (try dsimp only); omega) | (exfalso; simp at h; omega) | simp at h | skip)) | refine kp ?_ ?_ | refine tw ?_ ?_ | exact trivial | refine side ?_ | refine sideL ?_ | refine Or.inr ?_ | refine sat_drawH (Tryz.ok ..) (by kernel_rfl) ?_ | refine xi _ (And.intro rfl rfl) ?_ | refine xi _ (fun _ => And.intro rfl rfl) ?_ | refine xi _ rfl ?_ | refine xi _ (fun _ => (fun _ => at_f hs rfl)) ?_ | refine xi _ (fun _ => at_f hs rfl) ?_)
    refine done_pure rfl rfl (congrArg Value.bool ?_)
    simp [hlt]
  · obtain rfl : b = l.length := by omega
    rw [List.getElem?_eq_none (Nat.le_refl _)]
    repeat' ((conv => whnf); first | refine walk (Tryz.ok ..) ?_ | (refine Cnd.mk (fun h => ?_) (fun h => ?_) <;> (first | exact cndT h (by (try dsimp only); omega) | exact cndF h (by (try dsimp only); omega) | (exfalso; simp at h; omega) | simp at h | skip)) | refine kp ?_ ?_ | refine tw ?_ ?_ | exact trivial | refine side ?_ | refine sideL ?_ | refine Or.inr ?_ | refine sat_drawH (Tryz.ok ..) (by kernel_rfl) ?_ | refine xi _ (And.intro rfl rfl) ?_ | refine xi _ (fun _ => And.intro rfl rfl) ?_ | refine xi _ rfl ?_ | refine xi _ (fun _ => (no_ld (by simp))) ?_ | refine xi _ (no_ld (by simp)) ?_)
    refine done_pure rfl rfl (congrArg Value.bool ?_)
    simp
def opV (l c : List Sp) (t : Int) : Bool := (calOk l c && timedB t) && (inB l (t % 10080) && !inB c t)
def opE (l c : List Sp) (t : Int) : Int := if (calOk l c && timedB t) = true then 0 else 2
theorem cal_ok {l c : List Sp} (h : calOk l c = true) : okTo l l.length = true ∧ okTo c c.length = true ∧ l.length ≤ 50 ∧ c.length ≤ 200 ∧ apart l = true ∧ apart c = true := by
  unfold calOk at h
  simp only [Bool.and_eq_true, decide_eq_true_eq] at h
  have h1 := h.1.1.1.1
  have h2 := h.1.1.1.2
  refine ⟨?_, ?_, h.1.1.2, h.1.2, h1, h2⟩
  · unfold apart at h1; rw [Bool.and_eq_true] at h1; exact h1.1
  · unfold apart at h2; rw [Bool.and_eq_true] at h2; exact h2.1
set_option maxRecDepth 100000 in
set_option maxHeartbeats 8000000 in
theorem open_any (l c : List Sp) (A B : Option (Nat × Nat)) (cA cB : Nat) (t : Int) (w : World) (hA : Ro w A l.length 2 (sps l)) (hB : Ro w B c.length 2 (sps c)) (hl : l.length ≤ 4611686018427387903) (hc : c.length ≤ 4611686018427387903) :
    Calls Tryz.prog 14 #[.agg #[.slice (adr A) l.length cA, .slice (adr B) c.length cB], .int .i64 t] w fun e w' => e = .returned (.tuple #[.bool (opV l c t), .int .i64 (opE l c t)]) ∧ Below w.heap.size w w' := by
  refine calls_sat (cx := Tryz.cx 26 [] [] [] w) (Tryz.ok ..) Tryz.func14 rfl [.a [.o 100 A l.length cA, .o 101 B c.length cB], .v (.int .i64 t)] rfl (by show 2 ≤ 26; omega) [(100, .ro A l.length 2 (sps l)), (101, .ro B c.length 2 (sps c))] (holds_ros rfl rfl ⟨hA, hB, trivial⟩) ?_
  repeat' ((conv => whnf); first | refine walk (Tryz.ok ..) ?_ | (refine Cnd.mk (fun h => ?_) (fun h => ?_) <;> (first | exact cndT h (by (try dsimp only); omega) | exact cndF h (by (try dsimp only); omega) | (exfalso; simp at h; omega) | simp at h | skip)) | refine kp ?_ ?_ | refine tw ?_ ?_ | exact trivial | refine side ?_ | refine sideL ?_ | refine Or.inr ?_ | refine sat_drawH (Tryz.ok ..) (by kernel_rfl) ?_ | refine xi _ (And.intro rfl rfl) ?_ | refine xi _ (fun _ => And.intro rfl rfl) ?_ | refine xi _ rfl ?_ | intro g hg)
  all_goals (try (conv => whnf))
  refine called_at (.v (.bool (calOk l c))) rfl (fun w' hh => right_any l c A B cA cB w' (ro_of_ro hh (id := 100) rfl) (ro_of_ro hh (id := 101) rfl) (by omega) (by omega)) ?_
  repeat' ((conv => whnf); first | refine walk (Tryz.ok ..) ?_ | (refine Cnd.mk (fun h => ?_) (fun h => ?_) <;> (first | exact cndT h (by (try dsimp only); omega) | exact cndF h (by (try dsimp only); omega) | (exfalso; simp at h; omega) | simp at h | skip)) | refine kp ?_ ?_ | refine tw ?_ ?_ | exact trivial | refine side ?_ | refine sideL ?_ | refine Or.inr ?_ | refine sat_drawH (Tryz.ok ..) (by kernel_rfl) ?_ | refine xi _ (And.intro rfl rfl) ?_ | refine xi _ (fun _ => And.intro rfl rfl) ?_ | refine xi _ rfl ?_)
  by_cases htb : timedB t = true
  · have ht := htb
    unfold timedB at ht
    simp only [Bool.and_eq_true, decide_eq_true_eq] at ht
    refine calledQ_pure (.v (.bool true)) rfl (fun _ w' => by rw [← htb]; exact timed_any t w') ?_
    repeat' ((conv => whnf); first | refine walk (Tryz.ok ..) ?_ | (refine Cnd.mk (fun h => ?_) (fun h => ?_) <;> (first | exact cndT h (by (try dsimp only); omega) | exact cndF h (by (try dsimp only); omega) | (exfalso; simp at h; omega) | simp at h | skip)) | refine kp ?_ ?_ | refine tw ?_ ?_ | exact trivial | refine side ?_ | refine sideL ?_ | refine Or.inr ?_ | refine sat_drawH (Tryz.ok ..) (by kernel_rfl) ?_ | refine xi _ (And.intro rfl rfl) ?_ | refine xi _ (fun _ => And.intro rfl rfl) ?_ | refine xi _ rfl ?_)
    · have hn : (calOk l c && timedB t) = false := by rw [h]; rfl
      refine done_pure rfl rfl ?_
      unfold opV opE
      rw [hn]
      rfl
    obtain ⟨h1, h2, h3, h4, _⟩ := cal_ok h
    have hy : (calOk l c && timedB t) = true := by rw [h, htb]; rfl
    refine called_at (.v (.bool (inB l (t % 10080)))) rfl (fun w' hh => in_any l A cA (t % 10080) w' (ro_of_ro hh (id := 100) rfl) hl h1) ?_
    repeat' ((conv => whnf); first | refine walk (Tryz.ok ..) ?_ | (refine Cnd.mk (fun h => ?_) (fun h => ?_) <;> (first | exact cndT h (by (try dsimp only); omega) | exact cndF h (by (try dsimp only); omega) | (exfalso; simp at h; omega) | simp at h | skip)) | refine kp ?_ ?_ | refine tw ?_ ?_ | exact trivial | refine side ?_ | refine sideL ?_ | refine Or.inr ?_ | refine sat_drawH (Tryz.ok ..) (by kernel_rfl) ?_ | refine xi _ (And.intro rfl rfl) ?_ | refine xi _ (fun _ => And.intro rfl rfl) ?_ | refine xi _ rfl ?_)
    refine calledQ_at (.v (.bool (inB c t))) rfl (fun _ w' hh => in_any c B cB t w' (ro_of_ro hh (id := 101) rfl) hc h2) ?_
    repeat' ((conv => whnf); first | refine walk (Tryz.ok ..) ?_ | (refine Cnd.mk (fun h => ?_) (fun h => ?_) <;> (first | exact cndT h (by (try dsimp only); omega) | exact cndF h (by (try dsimp only); omega) | (exfalso; simp at h; omega) | simp at h | skip)) | refine kp ?_ ?_ | refine tw ?_ ?_ | exact trivial | refine side ?_ | refine sideL ?_ | refine Or.inr ?_ | refine sat_drawH (Tryz.ok ..) (by kernel_rfl) ?_ | refine xi _ (And.intro rfl rfl) ?_ | refine xi _ (fun _ => And.intro rfl rfl) ?_ | refine xi _ rfl ?_)
    refine done_pure rfl rfl ?_
    unfold opV opE
    rw [hy]
    rfl
  · rw [Bool.not_eq_true] at htb
    refine calledQ_pure (.v (.bool false)) rfl (fun _ w' => by rw [← htb]; exact timed_any t w') ?_
    repeat' ((conv => whnf); first | refine walk (Tryz.ok ..) ?_ | (refine Cnd.mk (fun h => ?_) (fun h => ?_) <;> (first | exact cndT h (by (try dsimp only); omega) | exact cndF h (by (try dsimp only); omega) | (exfalso; simp at h; omega) | simp at h | skip)) | refine kp ?_ ?_ | refine tw ?_ ?_ | exact trivial | refine side ?_ | refine sideL ?_ | refine Or.inr ?_ | refine sat_drawH (Tryz.ok ..) (by kernel_rfl) ?_ | refine xi _ (And.intro rfl rfl) ?_ | refine xi _ (fun _ => And.intro rfl rfl) ?_ | refine xi _ rfl ?_)
    · have hn : (calOk l c && timedB t) = false := by rw [htb]; simp
      refine done_pure rfl rfl ?_
      unfold opV opE
      rw [hn]
      rfl
end Go.Proofs.YtmhfkmnpeponiaaGreatDoor
