/-
  The walks of the hydro package: which tables are right.
-/
import Derived.Test.YtomhfakkebaciaaN14
import Derived.Test.YtomhfakkebaciaaNS
import Derived.Test.YtomhfakkebaciaaHP
set_option linter.unusedSimpArgs false
set_option linter.unusedVariables false
namespace Go.Proofs.Ytomhfakkebaciaa
open Go Sat Go.RowKit Go.PlainAid
def rwC (r : HRow) : List SV := [.v (.int .i64 r.d), .v (.int .i64 r.k), .v (.int .i64 r.b), .v (.int .i64 r.m), .v (.int .i64 r.t)]
def rwW (r : HRow) : List Value := [.int .i64 r.d, .int .i64 r.k, .int .i64 r.b, .int .i64 r.m, .int .i64 r.t]
def rwL (l : List HRow) : List Value := l.flatMap rwW
theorem rwL_len (l : List HRow) : (rwL l).length = l.length * 5 := by
  induction l with
  | nil => rfl
  | cons r l ih => simp only [rwL, List.flatMap_cons, List.length_append, List.length_cons] at ih ⊢; rw [ih]; show 5 + _ = _; omega
theorem rwL_at {l : List HRow} {k : Nat} {r : HRow} (h : l[k]? = some r) : ((rwL l).drop (k * 5)).take 5 = rwW r := by
  induction l generalizing k with
  | nil => simp at h
  | cons x l ih =>
    cases k with
    | zero => simp at h; subst h; simp [rwL, rwW]
    | succ k =>
      simp only [List.getElem?_cons_succ] at h
      have := ih h
      rw [show (k + 1) * 5 = 5 + k * 5 from by omega, ← List.drop_drop]
      exact this
theorem rw_cells {l : List HRow} {i : Int} {k : Nat} {r : HRow} (h : l[k]? = some r) (hi : i = k) : (rwW r).length = 5 ∧ ∀ j, j < 5 → (rwL l)[mulS i.toNat 5 + j]? = (rwW r)[j]? := by
  refine ⟨rfl, fun j hj => ?_⟩
  rw [← rwL_at h, List.getElem?_take, if_pos hj, List.getElem?_drop, mulS_eq, hi, Int.toNat_natCast]
theorem rwW_v (r : HRow) : List.map SV.v (rwW r) = rwC r := rfl
theorem within_any (n lo hi : Int) (w : World) : Calls Try.prog 37 #[.int .i64 n, .int .i64 lo, .int .i64 hi] w fun e w' => e = .returned (.bool (inB n lo hi)) ∧ Below w.heap.size w w' := by
  refine calls_sat (cx := Try.cx 15 [] [] [] w) (Try.ok ..) Try.func37 rfl [.v (.int .i64 n), .v (.int .i64 lo), .v (.int .i64 hi)] rfl (by show 3 ≤ 15; omega) [] (holds_nil (Nat.le_refl _)) ?_
  repeat' ((conv => whnf); first | refine walk (Try.ok ..) ?_ | (refine Cnd.mk (fun h => ?_) (fun h => ?_) <;> (first | exact cndT h (by (try dsimp only); omega) | exact cndF h (by (try dsimp only); omega) | (exfalso; simp at h; omega) | simp at h | skip)) | refine kp ?_ ?_ | refine tw ?_ ?_ | exact trivial | refine side2 ?_ | refine sideL2 ?_ | refine Or.inr ?_ | refine sat_drawH (Try.ok ..) (by kernel_rfl) ?_ | refine xi _ (And.intro rfl rfl) ?_ | refine xi _ (fun _ => And.intro rfl rfl) ?_ | refine xi _ rfl ?_)
  exact done_pure rfl rfl rfl
theorem okAt_at {l : List HRow} {k : Nat} {r : HRow} (hr : l[k]? = some r) (h : okR r = false) : okAt l k = false := by
  unfold okAt
  rw [hr]
  dsimp only
  rw [h]
  rfl
theorem okAt_zero {l : List HRow} {r : HRow} (hr : l[0]? = some r) (h : okR r = true) : okAt l 0 = true := by
  unfold okAt
  rw [hr]
  dsimp only
  rw [h]
  rfl
theorem okAt_step {l : List HRow} {k : Nat} {a r : HRow} (hr : l[k]? = some r) (ha : l[k - 1]? = some a) (h0 : 0 < k) : okAt l k = (okR r && ltR a r) := by
  unfold okAt
  rw [hr, ha]
  dsimp only
  rw [show (k == 0) = false from by simp; omega, Bool.false_or]
theorem right_all {l : List HRow} (h : ∀ j, j < l.length → okAt l j = true) : rightH l = inB l.length 2 100 := by
  unfold rightH inB
  rw [List.all_eq_true.2 (fun j hj => h j (List.mem_range.1 hj)), Bool.true_and]
  congr 1 <;> exact decide_eq_decide.2 (by omega)
theorem right_not {l : List HRow} {k : Nat} {r : HRow} (hr : l[k]? = some r) (h : okAt l k = false) : rightH l = false := by
  unfold rightH
  rw [Bool.and_eq_false_iff]
  refine .inl ?_
  rw [List.all_eq_false]
  exact ⟨k, List.mem_range.2 (List.getElem?_eq_some_iff.1 hr).1, by rw [h]; simp⟩
set_option maxRecDepth 100000 in
set_option maxHeartbeats 8000000 in
theorem hRight_any (l : List HRow) (A : Option (Nat × Nat)) (cap : Nat) (w : World) (hA : Ro w A l.length 5 (rwL l)) (hl : l.length ≤ 9223372036854775807) :
    Calls Try.prog 15 #[.slice (adr A) l.length cap] w fun e w' => e = .returned (.bool (rightH l)) ∧ Below w.heap.size w w' := by
  refine calls_sat (cx := Try.cx 68 [] [] [] w) (Try.ok ..) Try.func15 rfl [.o 300 A l.length cap] rfl (by show 1 ≤ 68; omega) [(300, .ro A l.length 5 (rwL l))] (holds_ros rfl rfl ⟨hA, trivial⟩) ?_
  repeat' ((conv => whnf); first | refine walk (Try.ok ..) ?_ | (refine Cnd.mk (fun h => ?_) (fun h => ?_) <;> (first | exact cndT h (by (try dsimp only); omega) | exact cndF h (by (try dsimp only); omega) | (exfalso; simp at h; omega) | simp at h | skip)) | refine kp ?_ ?_ | refine tw ?_ ?_ | exact trivial | refine side2 ?_ | refine sideL2 ?_ | refine Or.inr ?_ | refine sat_drawH (Try.ok ..) (by kernel_rfl) ?_ | refine xi _ (And.intro rfl rfl) ?_ | refine xi _ (fun _ => And.intro rfl rfl) ?_ | refine xi _ rfl ?_)
  refine sat_loop (Try.ok ..) (α := Nat) (fun k => ([(0, .yes, .o 300 A l.length cap), (5, .yes, .o 300 A l.length cap), (6, .yes, .v (.int .i64 l.length)), (7, .yes, .v (.int .i64 k))], [(300, .ro A l.length 5 (rwL l))]))
    (fun k => k ≤ l.length ∧ ∀ j, j < k → okAt l j = true) (fun k => l.length - k) (fun _ => rfl) ?_ ?_
  · refine ⟨0, ⟨Nat.zero_le _, fun j hj => (by omega)⟩, ?_, ?_, rfl⟩
    all_goals ((repeat' (first | exact trivial | exact rfl | refine And.intro ?_ ?_)) <;> (try (conv => whnf)) <;> (try simp only [SV.real, SV.r2, SV.r1]))
  rintro k ⟨hk, hok⟩
  by_cases hk1 : k < l.length
  · obtain ⟨r, hr⟩ : ∃ a, l[k]? = some a := ⟨l[k], List.getElem?_eq_getElem hk1⟩
    repeat' ((conv => whnf); first | refine walk (Try.ok ..) ?_ | (refine Cnd.mk (fun h => ?_) (fun h => ?_) <;> (first | exact cndT h (by (try dsimp only); omega) | exact cndF h (by (try dsimp only); omega) | (exfalso; simp at h; omega) | simp at h | skip)) | refine kp ?_ ?_ | refine tw ?_ ?_ | exact trivial | refine side2 ?_ | refine sideL2 ?_ | refine Or.inr ?_ | refine sat_drawH (Try.ok ..) (by kernel_rfl) ?_ | refine xi _ (And.intro rfl rfl) ?_ | refine xi _ (fun _ => And.intro rfl rfl) ?_ | refine xi _ rfl ?_ | refine xi _ (fun _ => (rw_cells hr rfl)) ?_ | refine xi _ (rw_cells hr rfl) ?_)
    (conv => whnf)
    intro g4 hg4
    repeat' ((conv => whnf); first | refine walk (Try.ok ..) ?_ | (refine Cnd.mk (fun h => ?_) (fun h => ?_) <;> (first | exact cndT h (by (try dsimp only); omega) | exact cndF h (by (try dsimp only); omega) | (exfalso; simp at h; omega) | simp at h | skip)) | refine kp ?_ ?_ | refine tw ?_ ?_ | exact trivial | refine side2 ?_ | refine sideL2 ?_ | refine Or.inr ?_ | refine sat_drawH (Try.ok ..) (by kernel_rfl) ?_ | refine xi _ (And.intro rfl rfl) ?_ | refine xi _ (fun _ => And.intro rfl rfl) ?_ | refine xi _ rfl ?_)
    refine called_pure (.v (.bool (inB r.d 0 50000))) rfl (fun w' => within_any _ _ _ w') ?_
    repeat' ((conv => whnf); first | refine walk (Try.ok ..) ?_ | (refine Cnd.mk (fun h => ?_) (fun h => ?_) <;> (first | exact cndT h (by (try dsimp only); omega) | exact cndF h (by (try dsimp only); omega) | (exfalso; simp at h; omega) | simp at h | skip)) | refine kp ?_ ?_ | refine tw ?_ ?_ | exact trivial | refine side2 ?_ | refine sideL2 ?_ | refine Or.inr ?_ | refine sat_drawH (Try.ok ..) (by kernel_rfl) ?_ | refine xi _ (And.intro rfl rfl) ?_ | refine xi _ (fun _ => And.intro rfl rfl) ?_ | refine xi _ rfl ?_)
    (conv => whnf)
    refine calledQ_pure (.v (.bool (inB r.k 1 500000000))) rfl (fun _ w' => within_any _ _ _ w') ?_
    repeat' ((conv => whnf); first | refine walk (Try.ok ..) ?_ | (refine Cnd.mk (fun h => ?_) (fun h => ?_) <;> (first | exact cndT h (by (try dsimp only); omega) | exact cndF h (by (try dsimp only); omega) | (exfalso; simp at h; omega) | simp at h | skip)) | refine kp ?_ ?_ | refine tw ?_ ?_ | exact trivial | refine side2 ?_ | refine sideL2 ?_ | refine Or.inr ?_ | refine sat_drawH (Try.ok ..) (by kernel_rfl) ?_ | refine xi _ (And.intro rfl rfl) ?_ | refine xi _ (fun _ => And.intro rfl rfl) ?_ | refine xi _ rfl ?_)
    (conv => whnf)
    refine calledQ_pure (.v (.bool (inB r.b (-500000) 500000))) rfl (fun _ w' => within_any _ _ _ w') ?_
    repeat' ((conv => whnf); first | refine walk (Try.ok ..) ?_ | (refine Cnd.mk (fun h => ?_) (fun h => ?_) <;> (first | exact cndT h (by (try dsimp only); omega) | exact cndF h (by (try dsimp only); omega) | (exfalso; simp at h; omega) | simp at h | skip)) | refine kp ?_ ?_ | refine tw ?_ ?_ | exact trivial | refine side2 ?_ | refine sideL2 ?_ | refine Or.inr ?_ | refine sat_drawH (Try.ok ..) (by kernel_rfl) ?_ | refine xi _ (And.intro rfl rfl) ?_ | refine xi _ (fun _ => And.intro rfl rfl) ?_ | refine xi _ rfl ?_)
    (conv => whnf)
    refine calledQ_pure (.v (.bool (inB r.m 0 500000))) rfl (fun _ w' => within_any _ _ _ w') ?_
    repeat' ((conv => whnf); first | refine walk (Try.ok ..) ?_ | (refine Cnd.mk (fun h => ?_) (fun h => ?_) <;> (first | exact cndT h (by (try dsimp only); omega) | exact cndF h (by (try dsimp only); omega) | (exfalso; simp at h; omega) | simp at h | skip)) | refine kp ?_ ?_ | refine tw ?_ ?_ | exact trivial | refine side2 ?_ | refine sideL2 ?_ | refine Or.inr ?_ | refine sat_drawH (Try.ok ..) (by kernel_rfl) ?_ | refine xi _ (And.intro rfl rfl) ?_ | refine xi _ (fun _ => And.intro rfl rfl) ?_ | refine xi _ rfl ?_)
    (conv => whnf)
    refine calledQ_pure (.v (.bool (inB r.t 1 10000000000))) rfl (fun _ w' => within_any _ _ _ w') ?_
    repeat' ((conv => whnf); first | refine walk (Try.ok ..) ?_ | (refine Cnd.mk (fun h => ?_) (fun h => ?_) <;> (first | exact cndT h (by (try dsimp only); omega) | exact cndF h (by (try dsimp only); omega) | (exfalso; simp at h; omega) | simp at h | skip)) | refine kp ?_ ?_ | refine tw ?_ ?_ | exact trivial | refine side2 ?_ | refine sideL2 ?_ | refine Or.inr ?_ | refine sat_drawH (Try.ok ..) (by kernel_rfl) ?_ | refine xi _ (And.intro rfl rfl) ?_ | refine xi _ (fun _ => And.intro rfl rfl) ?_ | refine xi _ rfl ?_)
    · rename_i h
      have hno : okR r = false := by
        unfold okR
        cases h1 : inB r.d 0 50000 <;> cases h2 : inB r.k 1 500000000 <;> cases h3 : inB r.b (-500000) 500000 <;> cases h4 : inB r.m 0 500000 <;> cases h5 : inB r.t 1 10000000000 <;> first | rfl | (rw [h1, h2, h3, h4, h5] at h; simp at h)
      repeat' ((conv => whnf); first | refine walk (Try.ok ..) ?_ | (refine Cnd.mk (fun h => ?_) (fun h => ?_) <;> (first | exact cndT h (by (try dsimp only); omega) | exact cndF h (by (try dsimp only); omega) | (exfalso; simp at h; omega) | simp at h | skip)) | refine kp ?_ ?_ | refine tw ?_ ?_ | exact trivial | refine side2 ?_ | refine sideL2 ?_ | refine Or.inr ?_ | refine sat_drawH (Try.ok ..) (by kernel_rfl) ?_ | refine xi _ (And.intro rfl rfl) ?_ | refine xi _ (fun _ => And.intro rfl rfl) ?_ | refine xi _ rfl ?_)
      exact done_pure rfl rfl (congrArg Value.bool (right_not hr (okAt_at hr hno)).symm)
    · rename_i h
      have hyes : okR r = true := by
        unfold okR
        simp only [Bool.and_eq_true]
        obtain ⟨⟨⟨⟨h1, h2⟩, h3⟩, h4⟩, h5⟩ := h
        exact ⟨h1, h2, h3, h4, h5⟩
      clear h
      rcases Nat.eq_zero_or_pos k with h0 | h0
      · subst h0
        repeat' ((conv => whnf); first | refine walk (Try.ok ..) ?_ | (refine Cnd.mk (fun h => ?_) (fun h => ?_) <;> (first | exact cndT h (by (try dsimp only); omega) | exact cndF h (by (try dsimp only); omega) | (exfalso; simp at h; omega) | simp at h | skip)) | refine kp ?_ ?_ | refine tw ?_ ?_ | exact trivial | refine side2 ?_ | refine sideL2 ?_ | refine Or.inr ?_ | refine sat_drawH (Try.ok ..) (by kernel_rfl) ?_ | refine xi _ (And.intro rfl rfl) ?_ | refine xi _ (fun _ => And.intro rfl rfl) ?_ | refine xi _ rfl ?_ | (refine @Exists.intro Value _ (.int .i64 0) (And.intro (fun h => nomatch (show false = true from h)) ?_)))
        refine ⟨1, ⟨⟨hk1, fun j hj => by rw [show j = 0 from by omega]; exact okAt_zero hr hyes⟩, by omega⟩, ?_, ?_, rfl⟩
        all_goals ((repeat' (first | exact trivial | exact rfl | refine And.intro ?_ ?_)) <;> (try (conv => whnf)) <;> (try simp only [SV.real, SV.r2, SV.r1]))
      · obtain ⟨a, ha⟩ : ∃ a, l[k - 1]? = some a := ⟨l[k - 1], List.getElem?_eq_getElem (by omega)⟩
        have had : (rwL l)[mulS ((k : Int) - 1).toNat 5 + 0]? = some (.int .i64 a.d) := (rw_cells ha (by omega)).2 0 (by omega)
        have hak : (rwL l)[mulS ((k : Int) - 1).toNat 5 + 1]? = some (.int .i64 a.k) := (rw_cells ha (by omega)).2 1 (by omega)
        repeat' ((conv => whnf); first | refine walk (Try.ok ..) ?_ | (refine Cnd.mk (fun h => ?_) (fun h => ?_) <;> (first | exact cndT h (by (try dsimp only); omega) | exact cndF h (by (try dsimp only); omega) | (exfalso; simp at h; omega) | simp at h | skip)) | refine kp ?_ ?_ | refine tw ?_ ?_ | exact trivial | refine side2 ?_ | refine sideL2 ?_ | refine Or.inr ?_ | refine sat_drawH (Try.ok ..) (by kernel_rfl) ?_ | refine xi _ (And.intro rfl rfl) ?_ | refine xi _ (fun _ => And.intro rfl rfl) ?_ | refine xi _ rfl ?_ | refine xi _ (fun _ => had) ?_ | refine xi _ had ?_ | refine xi _ (fun _ => hak) ?_ | refine xi _ hak ?_)
        · rename_i h
          repeat' ((conv => whnf); first | refine walk (Try.ok ..) ?_ | (refine Cnd.mk (fun h => ?_) (fun h => ?_) <;> (first | exact cndT h (by (try dsimp only); omega) | exact cndF h (by (try dsimp only); omega) | (exfalso; simp at h; omega) | simp at h | skip)) | refine kp ?_ ?_ | refine tw ?_ ?_ | exact trivial | refine side2 ?_ | refine sideL2 ?_ | refine Or.inr ?_ | refine sat_drawH (Try.ok ..) (by kernel_rfl) ?_ | refine xi _ (And.intro rfl rfl) ?_ | refine xi _ (fun _ => And.intro rfl rfl) ?_ | refine xi _ rfl ?_)
          exact done_pure rfl rfl (congrArg Value.bool (right_not hr (by rw [okAt_step hr ha h0, hyes]; unfold ltR; simp; omega)).symm)
        · rename_i h
          refine ⟨k + 1, ⟨⟨hk1, fun j hj => ?_⟩, by omega⟩, ?_, ?_, rfl⟩
          · rcases Nat.lt_or_eq_of_le (Nat.le_of_lt_succ hj) with h2 | h2
            · exact hok j h2
            · subst h2
              rw [okAt_step hr ha h0, hyes]
              unfold ltR
              simp
              omega
          all_goals ((repeat' (first | exact trivial | exact rfl | refine And.intro ?_ ?_)) <;> (try (conv => whnf)) <;> (try simp only [SV.real, SV.r2, SV.r1]))
  obtain rfl : k = l.length := by omega
  repeat' ((conv => whnf); first | refine walk (Try.ok ..) ?_ | (refine Cnd.mk (fun h => ?_) (fun h => ?_) <;> (first | exact cndT h (by (try dsimp only); omega) | exact cndF h (by (try dsimp only); omega) | (exfalso; simp at h; omega) | simp at h | skip)) | refine kp ?_ ?_ | refine tw ?_ ?_ | exact trivial | refine side2 ?_ | refine sideL2 ?_ | refine Or.inr ?_ | refine sat_drawH (Try.ok ..) (by kernel_rfl) ?_ | refine xi _ (And.intro rfl rfl) ?_ | refine xi _ (fun _ => And.intro rfl rfl) ?_ | refine xi _ rfl ?_)
  refine called_pure (.v (.bool (inB l.length 2 100))) rfl (fun w' => within_any _ _ _ w') ?_
  repeat' ((conv => whnf); first | refine walk (Try.ok ..) ?_ | (refine Cnd.mk (fun h => ?_) (fun h => ?_) <;> (first | exact cndT h (by (try dsimp only); omega) | exact cndF h (by (try dsimp only); omega) | (exfalso; simp at h; omega) | simp at h | skip)) | refine kp ?_ ?_ | refine tw ?_ ?_ | exact trivial | refine side2 ?_ | refine sideL2 ?_ | refine Or.inr ?_ | refine sat_drawH (Try.ok ..) (by kernel_rfl) ?_ | refine xi _ (And.intro rfl rfl) ?_ | refine xi _ (fun _ => And.intro rfl rfl) ?_ | refine xi _ rfl ?_)
  exact done_pure rfl rfl (congrArg Value.bool (right_all hok).symm)
end Go.Proofs.Ytomhfakkebaciaa
