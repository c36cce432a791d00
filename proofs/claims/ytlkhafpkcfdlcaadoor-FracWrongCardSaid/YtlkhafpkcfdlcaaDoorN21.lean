/-
  The walks of the laws' own helpers: a fraction that is right; one of two numbers.
-/
import Derived.Test.YtlkhafpkcfdlcaaDoorN20
namespace Go.Proofs.YtlkhafpkcfdlcaaDoor
open Go Sat Go.RowKit Go.PlainAid
set_option linter.unusedSimpArgs false
set_option linter.unusedVariables false
set_option maxRecDepth 100000 in
set_option maxHeartbeats 8000000 in
theorem rat_any (a b : Int) (w : World) (ha : I64 a) (hb : I64 b) :
    Calls Tryd.prog 33 #[.int .i64 a, .int .i64 b] w fun e w' => e = .returned (frV (ratioE a b).1) ∧ Below w.heap.size w w' := by
  obtain ⟨r, er⟩ : ∃ r, r = (ratioE a b).1 := ⟨_, rfl⟩
  obtain ⟨e0, ee⟩ : ∃ r, r = (ratioE a b).2 := ⟨_, rfl⟩
  have h17 := frC_len r
  rw [← er]
  refine calls_sat (cx := Tryd.cx 14 [] [] [] w) (Tryd.ok ..) Tryd.func33 rfl [.v (.int .i64 a), .v (.int .i64 b)] rfl (by show 2 ≤ 14; omega) [] (holds_nil (Nat.le_refl _)) ?_
  repeat' ((conv => whnf); first | refine walk (Tryd.ok ..) ?_ | (refine Cnd.mk (fun h => ?_) (fun h => ?_) <;> (first | exact cndT h (by omega) | exact cndF h (by omega) | (exfalso; simp only [decide_eq_true_eq, decide_eq_false_iff_not] at h; omega) | (exfalso; simp at h; omega) | simp at h | skip)) | refine And.intro (Kept.mk ?_) ?_ | refine Two.mk (And.intro ?_ ?_) | exact trivial | refine side2 ?_ | refine sideL2 ?_ | refine Or.inr ?_ | refine sat_drawH (Tryd.ok ..) (by kernel_rfl) ?_ | refine Exists.intro [_] (And.intro (one_byte rfl) ?_) | refine Exists.intro [_] (And.intro (fun _ => one_byte rfl) ?_) | refine Exists.intro _ (And.intro (And.intro rfl rfl) ?_) | refine Exists.intro _ (And.intro (fun _ => And.intro rfl rfl) ?_) | refine Exists.intro _ (And.intro rfl ?_))
  intro g4 hg4
  repeat' ((conv => whnf); first | refine walk (Tryd.ok ..) ?_ | (refine Cnd.mk (fun h => ?_) (fun h => ?_) <;> (first | exact cndT h (by omega) | exact cndF h (by omega) | (exfalso; simp only [decide_eq_true_eq, decide_eq_false_iff_not] at h; omega) | (exfalso; simp at h; omega) | simp at h | skip)) | refine And.intro (Kept.mk ?_) ?_ | refine Two.mk (And.intro ?_ ?_) | exact trivial | refine side2 ?_ | refine sideL2 ?_ | refine Or.inr ?_ | refine sat_drawH (Tryd.ok ..) (by kernel_rfl) ?_ | refine Exists.intro [_] (And.intro (one_byte rfl) ?_) | refine Exists.intro [_] (And.intro (fun _ => one_byte rfl) ?_) | refine Exists.intro _ (And.intro (And.intro rfl rfl) ?_) | refine Exists.intro _ (And.intro (fun _ => And.intro rfl rfl) ?_) | refine Exists.intro _ (And.intro rfl ?_))
  refine called_pure (.t [.a (frC r), .v (.int .i64 e0)]) rfl (fun w' => by rw [er, ee]; exact ratio_any a b w' ha hb) ?_
  repeat' ((conv => whnf); first | refine walk (Tryd.ok ..) ?_ | (refine Cnd.mk (fun h => ?_) (fun h => ?_) <;> (first | exact cndT h (by omega) | exact cndF h (by omega) | (exfalso; simp only [decide_eq_true_eq, decide_eq_false_iff_not] at h; omega) | (exfalso; simp at h; omega) | simp at h | skip)) | refine And.intro (Kept.mk ?_) ?_ | refine Two.mk (And.intro ?_ ?_) | exact trivial | refine side2 ?_ | refine sideL2 ?_ | refine Or.inr ?_ | refine sat_drawH (Tryd.ok ..) (by kernel_rfl) ?_ | refine Exists.intro [_] (And.intro (one_byte rfl) ?_) | refine Exists.intro [_] (And.intro (fun _ => one_byte rfl) ?_) | refine Exists.intro _ (And.intro (And.intro rfl rfl) ?_) | refine Exists.intro _ (And.intro (fun _ => And.intro rfl rfl) ?_) | refine Exists.intro _ (And.intro rfl ?_))
  intro g5 hg5
  repeat' ((conv => whnf); first | refine walk (Tryd.ok ..) ?_ | (refine Cnd.mk (fun h => ?_) (fun h => ?_) <;> (first | exact cndT h (by omega) | exact cndF h (by omega) | (exfalso; simp only [decide_eq_true_eq, decide_eq_false_iff_not] at h; omega) | (exfalso; simp at h; omega) | simp at h | skip)) | refine And.intro (Kept.mk ?_) ?_ | refine Two.mk (And.intro ?_ ?_) | exact trivial | refine side2 ?_ | refine sideL2 ?_ | refine Or.inr ?_ | refine sat_drawH (Tryd.ok ..) (by kernel_rfl) ?_ | refine Exists.intro [_] (And.intro (one_byte rfl) ?_) | refine Exists.intro [_] (And.intro (fun _ => one_byte rfl) ?_) | refine Exists.intro _ (And.intro (And.intro rfl rfl) ?_) | refine Exists.intro _ (And.intro (fun _ => And.intro rfl rfl) ?_) | refine Exists.intro _ (And.intro rfl ?_))
  exact done_pure rfl rfl (congrArg (fun l => (SV.a l).real) (tk2 r))
def made (a b : Int) : Fr := (ratioE a (b + 1)).1
set_option maxRecDepth 100000 in
set_option maxHeartbeats 8000000 in
theorem made_any (a b : Int) (w : World) (ha : I64 a) (hb : 0 ≤ b ∧ b ≤ 4294967295) :
    Calls Tryd.prog 13 #[.int .i64 a, .int .u32 b] w fun e w' => e = .returned (frV (made a b)) ∧ Below w.heap.size w w' := by
  unfold made
  have hb1 : I64 (b + 1) := ⟨by omega, by omega⟩
  obtain ⟨r, er⟩ : ∃ r, r = (ratioE a (b + 1)).1 := ⟨_, rfl⟩
  obtain ⟨e0, ee⟩ : ∃ r, r = (ratioE a (b + 1)).2 := ⟨_, rfl⟩
  have h17 := frC_len r
  rw [← er]
  refine calls_sat (cx := Tryd.cx 16 [] [] [] w) (Tryd.ok ..) Tryd.func13 rfl [.v (.int .i64 a), .v (.int .u32 b)] rfl (by show 2 ≤ 16; omega) [] (holds_nil (Nat.le_refl _)) ?_
  repeat' ((conv => whnf); first | refine walk (Tryd.ok ..) ?_ | (refine Cnd.mk (fun h => ?_) (fun h => ?_) <;> (first | exact cndT h (by omega) | exact cndF h (by omega) | (exfalso; simp only [decide_eq_true_eq, decide_eq_false_iff_not] at h; omega) | (exfalso; simp at h; omega) | simp at h | skip)) | refine And.intro (Kept.mk ?_) ?_ | refine Two.mk (And.intro ?_ ?_) | exact trivial | refine side2 ?_ | refine sideL2 ?_ | refine Or.inr ?_ | refine sat_drawH (Tryd.ok ..) (by kernel_rfl) ?_ | refine Exists.intro [_] (And.intro (one_byte rfl) ?_) | refine Exists.intro [_] (And.intro (fun _ => one_byte rfl) ?_) | refine Exists.intro _ (And.intro (And.intro rfl rfl) ?_) | refine Exists.intro _ (And.intro (fun _ => And.intro rfl rfl) ?_) | refine Exists.intro _ (And.intro rfl ?_))
  intro g4 hg4
  repeat' ((conv => whnf); first | refine walk (Tryd.ok ..) ?_ | (refine Cnd.mk (fun h => ?_) (fun h => ?_) <;> (first | exact cndT h (by omega) | exact cndF h (by omega) | (exfalso; simp only [decide_eq_true_eq, decide_eq_false_iff_not] at h; omega) | (exfalso; simp at h; omega) | simp at h | skip)) | refine And.intro (Kept.mk ?_) ?_ | refine Two.mk (And.intro ?_ ?_) | exact trivial | refine side2 ?_ | refine sideL2 ?_ | refine Or.inr ?_ | refine sat_drawH (Tryd.ok ..) (by kernel_rfl) ?_ | refine Exists.intro [_] (And.intro (one_byte rfl) ?_) | refine Exists.intro [_] (And.intro (fun _ => one_byte rfl) ?_) | refine Exists.intro _ (And.intro (And.intro rfl rfl) ?_) | refine Exists.intro _ (And.intro (fun _ => And.intro rfl rfl) ?_) | refine Exists.intro _ (And.intro rfl ?_))
  refine called_pure (.t [.a (frC r), .v (.int .i64 e0)]) rfl (fun w' => by rw [er, ee]; exact ratio_any a (b + 1) w' ha hb1) ?_
  repeat' ((conv => whnf); first | refine walk (Tryd.ok ..) ?_ | (refine Cnd.mk (fun h => ?_) (fun h => ?_) <;> (first | exact cndT h (by omega) | exact cndF h (by omega) | (exfalso; simp only [decide_eq_true_eq, decide_eq_false_iff_not] at h; omega) | (exfalso; simp at h; omega) | simp at h | skip)) | refine And.intro (Kept.mk ?_) ?_ | refine Two.mk (And.intro ?_ ?_) | exact trivial | refine side2 ?_ | refine sideL2 ?_ | refine Or.inr ?_ | refine sat_drawH (Tryd.ok ..) (by kernel_rfl) ?_ | refine Exists.intro [_] (And.intro (one_byte rfl) ?_) | refine Exists.intro [_] (And.intro (fun _ => one_byte rfl) ?_) | refine Exists.intro _ (And.intro (And.intro rfl rfl) ?_) | refine Exists.intro _ (And.intro (fun _ => And.intro rfl rfl) ?_) | refine Exists.intro _ (And.intro rfl ?_))
  intro g5 hg5
  repeat' ((conv => whnf); first | refine walk (Tryd.ok ..) ?_ | (refine Cnd.mk (fun h => ?_) (fun h => ?_) <;> (first | exact cndT h (by omega) | exact cndF h (by omega) | (exfalso; simp only [decide_eq_true_eq, decide_eq_false_iff_not] at h; omega) | (exfalso; simp at h; omega) | simp at h | skip)) | refine And.intro (Kept.mk ?_) ?_ | refine Two.mk (And.intro ?_ ?_) | exact trivial | refine side2 ?_ | refine sideL2 ?_ | refine Or.inr ?_ | refine sat_drawH (Tryd.ok ..) (by kernel_rfl) ?_ | refine Exists.intro [_] (And.intro (one_byte rfl) ?_) | refine Exists.intro [_] (And.intro (fun _ => one_byte rfl) ?_) | refine Exists.intro _ (And.intro (And.intro rfl rfl) ?_) | refine Exists.intro _ (And.intro (fun _ => And.intro rfl rfl) ?_) | refine Exists.intro _ (And.intro rfl ?_))
  exact done_pure rfl rfl (congrArg (fun l => (SV.a l).real) (tk2 r))
def e64 (l : List Int) : List Value := l.map (Value.int .i64)
theorem e64_at {l : List Int} {k : Nat} {a : Int} (h : l[k]? = some a) : (e64 l)[mulS (k : Int).toNat 1]? = some (.int .i64 a) := by
  rw [mulS_eq, Int.toNat_natCast, Nat.mul_one]
  simp [e64, h]
set_option maxRecDepth 100000 in
set_option maxHeartbeats 8000000 in
theorem all_any (l : List Int) (A : Option (Nat × Nat)) (cap : Nat) (w : World) (hA : Ro w A l.length 1 (e64 l)) (hl : l.length ≤ 1000000) :
    Calls Tryd.prog 16 #[.slice (adr A) l.length cap] w fun e w' => e = .returned (.bool (l.all (· == 0))) ∧ Below w.heap.size w w' := by
  refine calls_sat (cx := Tryd.cx 14 [] [] [] w) (Tryd.ok ..) Tryd.func16 rfl [.o 300 A l.length cap] rfl (by show 1 ≤ 14; omega) [(300, .ro A l.length 1 (e64 l))] (holds_ros rfl rfl ⟨hA, trivial⟩) ?_
  repeat' ((conv => whnf); first | refine walk (Tryd.ok ..) ?_ | (refine Cnd.mk (fun h => ?_) (fun h => ?_) <;> (first | exact cndT h (by omega) | exact cndF h (by omega) | (exfalso; simp only [decide_eq_true_eq, decide_eq_false_iff_not] at h; omega) | (exfalso; simp at h; omega) | simp at h | skip)) | refine And.intro (Kept.mk ?_) ?_ | refine Two.mk (And.intro ?_ ?_) | exact trivial | refine side2 ?_ | refine sideL2 ?_ | refine Or.inr ?_ | refine sat_drawH (Tryd.ok ..) (by kernel_rfl) ?_ | refine Exists.intro [_] (And.intro (one_byte rfl) ?_) | refine Exists.intro [_] (And.intro (fun _ => one_byte rfl) ?_) | refine Exists.intro _ (And.intro (And.intro rfl rfl) ?_) | refine Exists.intro _ (And.intro (fun _ => And.intro rfl rfl) ?_) | refine Exists.intro _ (And.intro rfl ?_))
  refine sat_loop (Tryd.ok ..) (α := Nat) (fun k => ([(5, .yes, .o 300 A l.length cap), (6, .yes, .v (.int .i64 l.length)), (7, .yes, .v (.int .i64 k))], [(300, .ro A l.length 1 (e64 l))]))
    (fun k => k ≤ l.length ∧ (l.take k).all (· == 0) = true) (fun k => l.length - k) (fun _ => rfl) ?_ ?_
  · refine ⟨0, ⟨Nat.zero_le _, rfl⟩, ?_, ?_, rfl⟩
    all_goals ((repeat' (first | exact trivial | exact rfl | refine And.intro ?_ ?_)) <;> (try (conv => whnf)) <;> (try simp only [SV.real, SV.r2, SV.r1]))
  rintro k ⟨hk, hall⟩
  by_cases hk1 : k < l.length
  · obtain ⟨a, ha⟩ : ∃ a, l[k]? = some a := ⟨l[k], List.getElem?_eq_getElem hk1⟩
    repeat' ((conv => whnf); first | refine walk (Tryd.ok ..) ?_ | (refine Cnd.mk (fun h => ?_) (fun h => ?_) <;> (first | exact cndT h (by omega) | exact cndF h (by omega) | (exfalso; simp only [decide_eq_true_eq, decide_eq_false_iff_not] at h; omega) | (exfalso; simp at h; omega) | simp at h | skip)) | refine And.intro (Kept.mk ?_) ?_ | refine Two.mk (And.intro ?_ ?_) | exact trivial | refine side2 ?_ | refine sideL2 ?_ | refine Or.inr ?_ | refine sat_drawH (Tryd.ok ..) (by kernel_rfl) ?_ | refine Exists.intro [_] (And.intro (one_byte rfl) ?_) | refine Exists.intro [_] (And.intro (fun _ => one_byte rfl) ?_) | refine Exists.intro _ (And.intro (And.intro rfl rfl) ?_) | refine Exists.intro _ (And.intro (fun _ => And.intro rfl rfl) ?_) | refine Exists.intro _ (And.intro rfl ?_) | refine Exists.intro _ (And.intro (fun _ => (e64_at ha)) ?_) | refine Exists.intro _ (And.intro (e64_at ha) ?_))
    · have hno : l.all (· == 0) = false := by
        rw [Bool.eq_false_iff]
        intro h2
        have := List.all_eq_true.1 h2 a (List.mem_of_getElem? ha)
        simp at this
        omega
      rw [hno]
      exact done_pure rfl rfl rfl
    · have ha0 : a = 0 := by omega
      repeat' ((conv => whnf); first | refine walk (Tryd.ok ..) ?_ | (refine Cnd.mk (fun h => ?_) (fun h => ?_) <;> (first | exact cndT h (by omega) | exact cndF h (by omega) | (exfalso; simp only [decide_eq_true_eq, decide_eq_false_iff_not] at h; omega) | (exfalso; simp at h; omega) | simp at h | skip)) | refine And.intro (Kept.mk ?_) ?_ | refine Two.mk (And.intro ?_ ?_) | exact trivial | refine side2 ?_ | refine sideL2 ?_ | refine Or.inr ?_ | refine sat_drawH (Tryd.ok ..) (by kernel_rfl) ?_ | refine Exists.intro [_] (And.intro (one_byte rfl) ?_) | refine Exists.intro [_] (And.intro (fun _ => one_byte rfl) ?_) | refine Exists.intro _ (And.intro (And.intro rfl rfl) ?_) | refine Exists.intro _ (And.intro (fun _ => And.intro rfl rfl) ?_) | refine Exists.intro _ (And.intro rfl ?_))
      refine ⟨k + 1, ⟨⟨hk1, ?_⟩, by omega⟩, ?_, ?_, rfl⟩
      · rw [List.take_add_one, ha, List.all_append, hall, ha0]
        rfl
      all_goals ((repeat' (first | exact trivial | exact rfl | refine And.intro ?_ ?_)) <;> (try (conv => whnf)) <;> (try simp only [SV.real, SV.r2, SV.r1]))
  · obtain rfl : k = l.length := by omega
    rw [List.take_length] at hall
    repeat' ((conv => whnf); first | refine walk (Tryd.ok ..) ?_ | (refine Cnd.mk (fun h => ?_) (fun h => ?_) <;> (first | exact cndT h (by omega) | exact cndF h (by omega) | (exfalso; simp only [decide_eq_true_eq, decide_eq_false_iff_not] at h; omega) | (exfalso; simp at h; omega) | simp at h | skip)) | refine And.intro (Kept.mk ?_) ?_ | refine Two.mk (And.intro ?_ ?_) | exact trivial | refine side2 ?_ | refine sideL2 ?_ | refine Or.inr ?_ | refine sat_drawH (Tryd.ok ..) (by kernel_rfl) ?_ | refine Exists.intro [_] (And.intro (one_byte rfl) ?_) | refine Exists.intro [_] (And.intro (fun _ => one_byte rfl) ?_) | refine Exists.intro _ (And.intro (And.intro rfl rfl) ?_) | refine Exists.intro _ (And.intro (fun _ => And.intro rfl rfl) ?_) | refine Exists.intro _ (And.intro rfl ?_))
    rw [hall]
    exact done_pure rfl rfl rfl
end Go.Proofs.YtlkhafpkcfdlcaaDoor
