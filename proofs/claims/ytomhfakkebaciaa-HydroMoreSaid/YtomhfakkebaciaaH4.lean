/-
  The walks of the reference: which tables are right; the ranges of both.
-/
import Derived.Test.YtomhfakkebaciaaH3
set_option linter.unusedSimpArgs false
set_option linter.unusedVariables false
namespace Go.Proofs.Ytomhfakkebaciaa
open Go Sat Go.RowKit Go.PlainAid
theorem right_short {l : List HRow} (h : ¬ (2 ≤ l.length ∧ l.length ≤ 100)) : rightH l = false := by
  unfold rightH
  rw [Bool.and_eq_false_iff]
  refine .inr ?_
  rw [← Bool.decide_and]
  exact decide_eq_false h
set_option maxRecDepth 100000 in
set_option maxHeartbeats 8000000 in
theorem rRight_any (l : List HRow) (A : Option (Nat × Nat)) (cap : Nat) (w : World) (hA : Ro w A l.length 5 (rwL l)) (hl : l.length ≤ 9223372036854775807) :
    Calls Try.prog 29 #[.slice (adr A) l.length cap] w fun e w' => e = .returned (.bool (rightH l)) ∧ Below w.heap.size w w' := by
  refine calls_sat (cx := Try.cx 95 [] [] [] w) (Try.ok ..) Try.func29 rfl [.o 300 A l.length cap] rfl (by show 1 ≤ 95; omega) [(300, .ro A l.length 5 (rwL l))] (holds_ros rfl rfl ⟨hA, trivial⟩) ?_
  by_cases hlen : 2 ≤ l.length ∧ l.length ≤ 100
  case neg =>
    repeat' ((conv => whnf); first | refine walk (Try.ok ..) ?_ | (refine Cnd.mk (fun h => ?_) (fun h => ?_) <;> (first | exact cndT h (by (try dsimp only); omega) | exact cndF h (by (try dsimp only); omega) | (exfalso; simp at h; omega) | simp at h | skip)) | refine kp ?_ ?_ | refine tw ?_ ?_ | exact trivial | refine side2 ?_ | refine sideL2 ?_ | refine Or.inr ?_ | refine sat_drawH (Try.ok ..) (by kernel_rfl) ?_ | refine xi _ (And.intro rfl rfl) ?_ | refine xi _ (fun _ => And.intro rfl rfl) ?_ | refine xi _ rfl ?_)
    all_goals (exact done_pure rfl rfl (congrArg Value.bool (right_short hlen).symm))
  repeat' ((conv => whnf); first | refine walk (Try.ok ..) ?_ | (refine Cnd.mk (fun h => ?_) (fun h => ?_) <;> (first | exact cndT h (by (try dsimp only); omega) | exact cndF h (by (try dsimp only); omega) | (exfalso; simp at h; omega) | simp at h | skip)) | refine kp ?_ ?_ | refine tw ?_ ?_ | exact trivial | refine side2 ?_ | refine sideL2 ?_ | refine Or.inr ?_ | refine sat_drawH (Try.ok ..) (by kernel_rfl) ?_ | refine xi _ (And.intro rfl rfl) ?_ | refine xi _ (fun _ => And.intro rfl rfl) ?_ | refine xi _ rfl ?_)
  refine sat_loop (Try.ok ..) (α := Nat) (fun k => ([(0, .yes, .o 300 A l.length cap), (3, .yes, .v (.int .i64 k))], [(300, .ro A l.length 5 (rwL l))]))
    (fun k => k ≤ l.length ∧ ∀ j, j < k → okAt l j = true) (fun k => l.length - k) (fun _ => rfl) ?_ ?_
  · refine ⟨0, ⟨Nat.zero_le _, fun j hj => (by omega)⟩, ?_, ?_, rfl⟩
    all_goals ((repeat' (first | exact trivial | exact rfl | refine And.intro ?_ ?_)) <;> (try (conv => whnf)) <;> (try simp only [SV.real, SV.r2, SV.r1]))
  rintro k ⟨hk, hok⟩
  by_cases hk1 : k < l.length
  · obtain ⟨r, hr⟩ : ∃ a, l[k]? = some a := ⟨l[k], List.getElem?_eq_getElem hk1⟩
    repeat' ((conv => whnf); first | refine walk (Try.ok ..) ?_ | (refine Cnd.mk (fun h => ?_) (fun h => ?_) <;> (first | exact cndT h (by (try dsimp only); omega) | exact cndF h (by (try dsimp only); omega) | (exfalso; simp at h; omega) | simp at h | skip)) | refine kp ?_ ?_ | refine tw ?_ ?_ | exact trivial | refine side2 ?_ | refine sideL2 ?_ | refine Or.inr ?_ | refine sat_drawH (Try.ok ..) (by kernel_rfl) ?_ | refine xi _ (And.intro rfl rfl) ?_ | refine xi _ (fun _ => And.intro rfl rfl) ?_ | refine xi _ rfl ?_ | refine xi _ (fun _ => (rw_cells hr rfl)) ?_ | refine xi _ (rw_cells hr rfl) ?_)
    (conv => whnf)
    intro g4 hg4
    repeat' ((conv => whnf); first | refine walk (Try.ok ..) ?_ | (refine Cnd.mk (fun h => ?_) (fun h => ?_) <;> (first | exact cndT h (by (try dsimp only); omega) | exact cndF h (by (try dsimp only); omega) | (exfalso; simp at h; omega) | simp at h | skip)) | refine kp ?_ ?_ | refine tw ?_ ?_ | exact trivial | refine side2 ?_ | refine sideL2 ?_ | refine Or.inr ?_ | refine sat_drawH (Try.ok ..) (by kernel_rfl) ?_ | refine xi _ (And.intro rfl rfl) ?_ | refine xi _ (fun _ => And.intro rfl rfl) ?_ | refine xi _ rfl ?_)
    · rename_i h
      have hno : okR r = false := by
        cases hb : okR r with
        | false => rfl
        | true =>
          obtain ⟨h1, h2, h3, h4, h5⟩ := ok_row hb
          try simp at h
          omega
      repeat' ((conv => whnf); first | refine walk (Try.ok ..) ?_ | (refine Cnd.mk (fun h => ?_) (fun h => ?_) <;> (first | exact cndT h (by (try dsimp only); omega) | exact cndF h (by (try dsimp only); omega) | (exfalso; simp at h; omega) | simp at h | skip)) | refine kp ?_ ?_ | refine tw ?_ ?_ | exact trivial | refine side2 ?_ | refine sideL2 ?_ | refine Or.inr ?_ | refine sat_drawH (Try.ok ..) (by kernel_rfl) ?_ | refine xi _ (And.intro rfl rfl) ?_ | refine xi _ (fun _ => And.intro rfl rfl) ?_ | refine xi _ rfl ?_)
      exact done_pure rfl rfl (congrArg Value.bool (right_not hr (okAt_at hr hno)).symm)
    · rename_i h
      have hyes : okR r = true := by
        unfold okR inB
        simp at h ⊢
        omega
      clear h
      rcases Nat.eq_zero_or_pos k with h0 | h0
      · subst h0
        repeat' ((conv => whnf); first | refine walk (Try.ok ..) ?_ | (refine Cnd.mk (fun h => ?_) (fun h => ?_) <;> (first | exact cndT h (by (try dsimp only); omega) | exact cndF h (by (try dsimp only); omega) | (exfalso; simp at h; omega) | simp at h | skip)) | refine kp ?_ ?_ | refine tw ?_ ?_ | exact trivial | refine side2 ?_ | refine sideL2 ?_ | refine Or.inr ?_ | refine sat_drawH (Try.ok ..) (by kernel_rfl) ?_ | refine xi _ (And.intro rfl rfl) ?_ | refine xi _ (fun _ => And.intro rfl rfl) ?_ | refine xi _ rfl ?_ | (refine @Exists.intro Value _ (.int .i64 0) (And.intro (fun h => nomatch (show false = true from h)) ?_)))
        refine ⟨1, ⟨⟨hk1, fun j hj => by rw [show j = 0 from by omega]; exact okAt_zero hr hyes⟩, by omega⟩, ?_, ?_, rfl⟩
        all_goals ((repeat' (first | exact trivial | exact rfl | refine And.intro ?_ ?_)) <;> (try (conv => whnf)) <;> (try simp only [SV.real, SV.r2, SV.r1]))
      · obtain ⟨a, ha⟩ : ∃ a, l[k - 1]? = some a := ⟨l[k - 1], List.getElem?_eq_getElem (by omega)⟩
        have had : (rwL l)[mulS ((k : Int) - 1).toNat 5 + 0]? = some (.int .i64 a.d) := (rw_cells ha (by omega)).2 0 (by omega)
        have hak : (rwL l)[mulS ((k : Int) - 1).toNat 5 + 1]? = some (.int .i64 a.k) := (rw_cells ha (by omega)).2 1 (by omega)
        repeat' ((conv => whnf); first | refine walk (Try.ok ..) ?_ | (refine Cnd.mk (fun h => ?_) (fun h => ?_) <;> (first | exact cndT h (by (try dsimp only); omega) | exact cndF h (by (try dsimp only); omega) | (exfalso; simp at h; omega) | simp at h | skip)) | refine kp ?_ ?_ | refine tw ?_ ?_ | exact trivial | refine side2 ?_ | refine sideL2 ?_ | refine Or.inr ?_ | refine sat_drawH (Try.ok ..) (by kernel_rfl) ?_ | refine xi _ (And.intro rfl rfl) ?_ | refine xi _ (fun _ => And.intro rfl rfl) ?_ | refine xi _ rfl ?_ | refine xi _ (fun _ => had) ?_ | refine xi _ had ?_ | refine xi _ (fun _ => hak) ?_ | refine xi _ hak ?_)
        · rename_i h
          repeat' ((conv => whnf); first | refine walk (Try.ok ..) ?_ | (refine Cnd.mk (fun h => ?_) (fun h => ?_) <;> (first | exact cndT h (by (try dsimp only); omega) | exact cndF h (by (try dsimp only); omega) | (exfalso; simp at h; omega) | simp at h | skip)) | refine kp ?_ ?_ | refine tw ?_ ?_ | exact trivial | refine side2 ?_ | refine sideL2 ?_ | refine Or.inr ?_ | refine sat_drawH (Try.ok ..) (by kernel_rfl) ?_ | refine xi _ (And.intro rfl rfl) ?_ | refine xi _ (fun _ => And.intro rfl rfl) ?_ | refine xi _ rfl ?_)
          exact done_pure rfl rfl (congrArg Value.bool (right_not hr (by rw [okAt_step hr ha h0, hyes]; unfold ltR; simp; omega)).symm)
        · rename_i h
          refine ⟨k + 1, ⟨⟨hk1, fun j hj => ?_⟩, by omega⟩, ?_, ?_, rfl⟩
          · rcases Nat.lt_or_eq_of_le (Nat.le_of_lt_succ hj) with h2 | h2
            · exact hok j h2
            · subst h2
              rw [okAt_step hr ha h0, hyes]
              unfold ltR
              simp
              omega
          all_goals ((repeat' (first | exact trivial | exact rfl | refine And.intro ?_ ?_)) <;> (try (conv => whnf)) <;> (try simp only [SV.real, SV.r2, SV.r1]))
  obtain rfl : k = l.length := by omega
  repeat' ((conv => whnf); first | refine walk (Try.ok ..) ?_ | (refine Cnd.mk (fun h => ?_) (fun h => ?_) <;> (first | exact cndT h (by (try dsimp only); omega) | exact cndF h (by (try dsimp only); omega) | (exfalso; simp at h; omega) | simp at h | skip)) | refine kp ?_ ?_ | refine tw ?_ ?_ | exact trivial | refine side2 ?_ | refine sideL2 ?_ | refine Or.inr ?_ | refine sat_drawH (Try.ok ..) (by kernel_rfl) ?_ | refine xi _ (And.intro rfl rfl) ?_ | refine xi _ (fun _ => And.intro rfl rfl) ?_ | refine xi _ rfl ?_)
  refine done_pure rfl rfl (congrArg Value.bool ?_)
  rw [right_all hok]
  unfold inB
  simp
  omega
theorem range_no {l : List HRow} (h : rightH l = false) : rangeH l = ((0, 0), 2) := by unfold rangeH; rw [h]; rfl
theorem range_yes {l : List HRow} {a b : HRow} (h : rightH l = true) (ha : l[0]? = some a) (hb : l[l.length - 1]? = some b) : rangeH l = ((a.k, b.k), 0) := by unfold rangeH; rw [h, ha, hb]; rfl
set_option maxRecDepth 100000 in
theorem hRange_any (l : List HRow) (A : Option (Nat × Nat)) (cap : Nat) (w : World) (hA : Ro w A l.length 5 (rwL l)) (hl : l.length ≤ 9223372036854775807) :
    Calls Try.prog 23 #[.slice (adr A) l.length cap] w fun e w' => e = .returned (.tuple #[.int .i64 (rangeH l).1.1, .int .i64 (rangeH l).1.2, .int .i64 (rangeH l).2]) ∧ Below w.heap.size w w' := by
  refine calls_sat (cx := Try.cx 19 [] [] [] w) (Try.ok ..) Try.func23 rfl [.o 300 A l.length cap] rfl (by show 1 ≤ 19; omega) [(300, .ro A l.length 5 (rwL l))] (holds_ros rfl rfl ⟨hA, trivial⟩) ?_
  repeat' ((conv => whnf); first | refine walk (Try.ok ..) ?_ | (refine Cnd.mk (fun h => ?_) (fun h => ?_) <;> (first | exact cndT h (by (try dsimp only); omega) | exact cndF h (by (try dsimp only); omega) | (exfalso; simp at h; omega) | simp at h | skip)) | refine kp ?_ ?_ | refine tw ?_ ?_ | exact trivial | refine side2 ?_ | refine sideL2 ?_ | refine Or.inr ?_ | refine sat_drawH (Try.ok ..) (by kernel_rfl) ?_ | refine xi _ (And.intro rfl rfl) ?_ | refine xi _ (fun _ => And.intro rfl rfl) ?_ | refine xi _ rfl ?_)
  (conv => whnf)
  refine called_at (.v (.bool (rightH l))) rfl (fun w' hh => by exact hRight_any l A cap w' (ro_of_ro hh (id := 300) rfl) hl) ?_
  cases hr : rightH l with
  | false =>
    rw [range_no hr]
    repeat' ((conv => whnf); first | refine walk (Try.ok ..) ?_ | (refine Cnd.mk (fun h => ?_) (fun h => ?_) <;> (first | exact cndT h (by (try dsimp only); omega) | exact cndF h (by (try dsimp only); omega) | (exfalso; simp at h; omega) | simp at h | skip)) | refine kp ?_ ?_ | refine tw ?_ ?_ | exact trivial | refine side2 ?_ | refine sideL2 ?_ | refine Or.inr ?_ | refine sat_drawH (Try.ok ..) (by kernel_rfl) ?_ | refine xi _ (And.intro rfl rfl) ?_ | refine xi _ (fun _ => And.intro rfl rfl) ?_ | refine xi _ rfl ?_)
    exact done_pure rfl rfl rfl
  | true =>
    have h2 := (right_is hr).two
    obtain ⟨a, ha⟩ : ∃ a, l[0]? = some a := ⟨_, List.getElem?_eq_getElem (by omega)⟩
    obtain ⟨b, hb⟩ : ∃ b, l[l.length - 1]? = some b := ⟨_, List.getElem?_eq_getElem (by omega)⟩
    rw [range_yes hr ha hb]
    have hak : (rwL l)[mulS (0 : Int).toNat 5 + 1]? = some (.int .i64 a.k) := (rw_cells ha rfl).2 1 (by omega)
    have hbk : (rwL l)[mulS ((l.length : Int) - 1).toNat 5 + 1]? = some (.int .i64 b.k) := (rw_cells hb (by omega)).2 1 (by omega)
    repeat' ((conv => whnf); first | refine walk (Try.ok ..) ?_ | (refine Cnd.mk (fun h => ?_) (fun h => ?_) <;> (first | exact cndT h (by (try dsimp only); omega) | exact cndF h (by (try dsimp only); omega) | (exfalso; simp at h; omega) | simp at h | skip)) | refine kp ?_ ?_ | refine tw ?_ ?_ | exact trivial | refine side2 ?_ | refine sideL2 ?_ | refine Or.inr ?_ | refine sat_drawH (Try.ok ..) (by kernel_rfl) ?_ | refine xi _ (And.intro rfl rfl) ?_ | refine xi _ (fun _ => And.intro rfl rfl) ?_ | refine xi _ rfl ?_ | refine xi _ (fun _ => hak) ?_ | refine xi _ hak ?_ | refine xi _ (fun _ => hbk) ?_ | refine xi _ hbk ?_)
    exact done_pure rfl rfl rfl
set_option maxRecDepth 100000 in
theorem rRange_any (l : List HRow) (A : Option (Nat × Nat)) (cap : Nat) (w : World) (hA : Ro w A l.length 5 (rwL l)) (hl : l.length ≤ 9223372036854775807) :
    Calls Try.prog 28 #[.slice (adr A) l.length cap] w fun e w' => e = .returned (.tuple #[.int .i64 (rangeH l).1.1, .int .i64 (rangeH l).1.2, .int .i64 (rangeH l).2]) ∧ Below w.heap.size w w' := by
  refine calls_sat (cx := Try.cx 19 [] [] [] w) (Try.ok ..) Try.func28 rfl [.o 300 A l.length cap] rfl (by show 1 ≤ 19; omega) [(300, .ro A l.length 5 (rwL l))] (holds_ros rfl rfl ⟨hA, trivial⟩) ?_
  repeat' ((conv => whnf); first | refine walk (Try.ok ..) ?_ | (refine Cnd.mk (fun h => ?_) (fun h => ?_) <;> (first | exact cndT h (by (try dsimp only); omega) | exact cndF h (by (try dsimp only); omega) | (exfalso; simp at h; omega) | simp at h | skip)) | refine kp ?_ ?_ | refine tw ?_ ?_ | exact trivial | refine side2 ?_ | refine sideL2 ?_ | refine Or.inr ?_ | refine sat_drawH (Try.ok ..) (by kernel_rfl) ?_ | refine xi _ (And.intro rfl rfl) ?_ | refine xi _ (fun _ => And.intro rfl rfl) ?_ | refine xi _ rfl ?_)
  (conv => whnf)
  refine called_at (.v (.bool (rightH l))) rfl (fun w' hh => by exact rRight_any l A cap w' (ro_of_ro hh (id := 300) rfl) hl) ?_
  cases hr : rightH l with
  | false =>
    rw [range_no hr]
    repeat' ((conv => whnf); first | refine walk (Try.ok ..) ?_ | (refine Cnd.mk (fun h => ?_) (fun h => ?_) <;> (first | exact cndT h (by (try dsimp only); omega) | exact cndF h (by (try dsimp only); omega) | (exfalso; simp at h; omega) | simp at h | skip)) | refine kp ?_ ?_ | refine tw ?_ ?_ | exact trivial | refine side2 ?_ | refine sideL2 ?_ | refine Or.inr ?_ | refine sat_drawH (Try.ok ..) (by kernel_rfl) ?_ | refine xi _ (And.intro rfl rfl) ?_ | refine xi _ (fun _ => And.intro rfl rfl) ?_ | refine xi _ rfl ?_)
    exact done_pure rfl rfl rfl
  | true =>
    have h2 := (right_is hr).two
    obtain ⟨a, ha⟩ : ∃ a, l[0]? = some a := ⟨_, List.getElem?_eq_getElem (by omega)⟩
    obtain ⟨b, hb⟩ : ∃ b, l[l.length - 1]? = some b := ⟨_, List.getElem?_eq_getElem (by omega)⟩
    rw [range_yes hr ha hb]
    have hak : (rwL l)[mulS (0 : Int).toNat 5 + 1]? = some (.int .i64 a.k) := (rw_cells ha rfl).2 1 (by omega)
    have hbk : (rwL l)[mulS ((l.length : Int) - 1).toNat 5 + 1]? = some (.int .i64 b.k) := (rw_cells hb (by omega)).2 1 (by omega)
    repeat' ((conv => whnf); first | refine walk (Try.ok ..) ?_ | (refine Cnd.mk (fun h => ?_) (fun h => ?_) <;> (first | exact cndT h (by (try dsimp only); omega) | exact cndF h (by (try dsimp only); omega) | (exfalso; simp at h; omega) | simp at h | skip)) | refine kp ?_ ?_ | refine tw ?_ ?_ | exact trivial | refine side2 ?_ | refine sideL2 ?_ | refine Or.inr ?_ | refine sat_drawH (Try.ok ..) (by kernel_rfl) ?_ | refine xi _ (And.intro rfl rfl) ?_ | refine xi _ (fun _ => And.intro rfl rfl) ?_ | refine xi _ rfl ?_ | refine xi _ (fun _ => hak) ?_ | refine xi _ hak ?_ | refine xi _ (fun _ => hbk) ?_ | refine xi _ hbk ?_)
    exact done_pure rfl rfl rfl
end Go.Proofs.Ytomhfakkebaciaa
