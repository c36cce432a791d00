/-
  The law HydroWrong, walked.
-/
import Derived.Test.YtomhfakkebaciaaH19
import Derived.Test.YtomhfakkebaciaaH22
set_option linter.unusedSimpArgs false
set_option linter.unusedVariables false
namespace Go.Proofs.Ytomhfakkebaciaa
open Go Sat Go.RowKit Go.PlainAid
theorem sat_blk {cx : Cx} {id : Nat} {c : Code} {K : Exit → Env → Heap → Prop} {f : Env} {H : Heap} (h : Walk cx c (fun e f H => match e with
    | .exit i => bif Nat.beq i id then K .normal f H else K (.exit i) f H
    | e => K e f H) f H) : Sat cx (.block id c) K f H := by
  have h1 := Walk.out h
  refine ⟨fun a w hf hw => wpIn_block (wpIn_mono (h1.out a w hf hw) ?_)⟩
  rintro e a' w' ⟨f', H', hf', hw', hk⟩
  cases e with
  | exit i =>
    simp only [Exit.inBlock]
    dsimp only at hk
    cases hb : Nat.beq i id
    · rw [hb] at hk
      have hne : i ≠ id := fun e' => by rw [e', show Nat.beq id id = true from by simp] at hb; cases hb
      rw [if_neg hne]
      exact ⟨f', H', hf', hw', hk⟩
    · rw [hb] at hk
      rw [if_pos (Nat.eq_of_beq_eq_true hb)]
      exact ⟨f', H', hf', hw', hk⟩
  | _ => exact ⟨f', H', hf', hw', hk⟩
def setC (r : HRow) (j : Nat) (v : Int) : HRow := match j with
  | 0 => ⟨v, r.k, r.b, r.m, r.t⟩
  | 1 => ⟨r.d, v, r.b, r.m, r.t⟩
  | 2 => ⟨r.d, r.k, v, r.m, r.t⟩
  | 3 => ⟨r.d, r.k, r.b, v, r.t⟩
  | _ => ⟨r.d, r.k, r.b, r.m, v⟩
theorem rwL_set_at {v : Int} : ∀ {l : List HRow} {i : Nat} {r : HRow}, l[i]? = some r → ∀ (j : Nat), j < 5 → (rwL l).set (i * 5 + j) (.int .i64 v) = rwL (l.set i (setC r j v)) := by
  intro l
  induction l with
  | nil => intro i r h; simp at h
  | cons x l ih =>
    intro i r h j hj
    cases i with
    | zero =>
      simp at h
      subst h
      rcases (by omega : j = 0 ∨ j = 1 ∨ j = 2 ∨ j = 3 ∨ j = 4) with rfl | rfl | rfl | rfl | rfl <;> rfl
    | succ i =>
      have := ih (i := i) (by simpa using h) j hj
      show (rwW x ++ rwL l).set ((i + 1) * 5 + j) _ = rwW x ++ rwL (l.set i (setC r j v))
      rw [← this, List.set_append_right _ _ (by show 5 ≤ _; omega), show (i + 1) * 5 + j - (rwW x).length = i * 5 + j from by show _ - 5 = _; omega]
theorem rwL_take (l : List HRow) (n : Nat) : (rwL l).take (n * 5) = rwL (l.take n) := by
  induction l generalizing n with
  | nil => simp [rwL]
  | cons x l ih =>
    cases n with
    | zero => simp [rwL]
    | succ n =>
      have := ih n
      unfold rwL at this ⊢
      rw [List.take_succ_cons, List.flatMap_cons, List.flatMap_cons, ← this, show (n + 1) * 5 = (rwW x).length + n * 5 from by show _ = 5 + _; omega, List.take_length_add_append]
set_option maxRecDepth 100000 in
set_option maxHeartbeats 16000000 in
theorem hydroWrong_any (l0 : List St) (row way : Int) (A : Option (Nat × Nat)) (cap : Nat) (w : World) (hA : Ro w A l0.length 5 (stL l0)) (hok : ∀ x ∈ l0, StOk x) (hl : l0.length ≤ 9223372036854775807) (hc : l0.length ≤ cap) (hrow : 0 ≤ row ∧ row ≤ 255) (hway : 0 ≤ way ∧ way ≤ 255) :
    Calls Try.prog 7 #[.slice (adr A) l0.length cap, .int .u8 row, .int .u8 way] w fun e w' => e = .returned (.bool true) ∧ Below w.heap.size w w' := by
  refine calls_sat (cx := Try.cx 183 [4, 12] [0] [] w) (Try.ok ..) Try.func7 rfl [.o 300 A l0.length cap, .v (.int .u8 row), .v (.int .u8 way)] rfl (by show 3 ≤ 183; omega) [(300, .ro A l0.length 5 (stL l0))] (holds_ros rfl rfl ⟨hA, trivial⟩) ?_
  repeat' ((conv => whnf); first | refine walk (Try.ok ..) ?_ | (refine Cnd.mk (fun h => ?_) (fun h => ?_) <;> (first | exact cndT h (by (try dsimp only); omega) | exact cndF h (by (try dsimp only); omega) | (exfalso; simp at h; omega) | simp at h | skip)) | refine kp ?_ ?_ | refine tw ?_ ?_ | exact trivial | refine side2 ?_ | refine sideL2 ?_ | refine Or.inr ?_ | refine sat_drawH (Try.ok ..) (by kernel_rfl) ?_ | refine xi _ (And.intro rfl rfl) ?_ | refine xi _ (fun _ => And.intro rfl rfl) ?_ | refine xi _ rfl ?_)
  (conv => whnf)
  refine called_pure (.v (.bool true)) rfl (fun w' => by exact hawake_any w') ?_
  repeat' ((conv => whnf); first | refine walk (Try.ok ..) ?_ | (refine Cnd.mk (fun h => ?_) (fun h => ?_) <;> (first | exact cndT h (by (try dsimp only); omega) | exact cndF h (by (try dsimp only); omega) | (exfalso; simp at h; omega) | simp at h | skip)) | refine kp ?_ ?_ | refine tw ?_ ?_ | exact trivial | refine side2 ?_ | refine sideL2 ?_ | refine Or.inr ?_ | refine sat_drawH (Try.ok ..) (by kernel_rfl) ?_ | refine xi _ (And.intro rfl rfl) ?_ | refine xi _ (fun _ => And.intro rfl rfl) ?_ | refine xi _ rfl ?_)
  (conv => whnf)
  have hM := fun w' (h : Ro w' A l0.length 5 (stL l0)) => made_any l0 A cap w' h hok hl hc
  have hMr := made_right hok
  have hMl := madeH_len l0
  obtain ⟨M, eM⟩ : ∃ M, M = madeH l0 := ⟨_, rfl⟩
  rw [← eM] at hM hMr hMl
  refine called_row 25 (xs := rwL M) (m := M.length) (fun v => v) (fun A cap => .o 25 A M.length cap) (fun _ _ => rfl) (fun w' hh => by exact hM w' (ro_of_ro hh (id := 300) rfl)) ?_
  intro A9 c9
  obtain ⟨a, ha⟩ : ∃ a, M[0]? = some a := ⟨_, List.getElem?_eq_getElem (by omega)⟩
  obtain ⟨b, hb⟩ : ∃ b, M[M.length - 1]? = some b := ⟨_, List.getElem?_eq_getElem (by omega)⟩
  obtain ⟨⟨_, _⟩, ⟨_, _⟩, _, _, _⟩ := ok_row ((right_is hMr).row _ a ha)
  obtain ⟨⟨_, _⟩, ⟨_, _⟩, _, _, _⟩ := ok_row ((right_is hMr).row _ b hb)
  have ca := rw_cells ha (i := 0) rfl
  have cb := rw_cells hb (i := (M.length : Int) - 1) (by omega)
  have hM9 : M.length ≤ 9223372036854775807 := by omega
  have h1 := fun A cap w' hA => at_any M (a.k - 1) A cap w' hA hM9 (by refine ⟨?_, ?_⟩ <;> omega)
  rw [at_under hMr ha] at h1
  have h2 := fun A cap w' hA => at_any M (b.k + 1) A cap w' hA hM9 (by refine ⟨?_, ?_⟩ <;> omega)
  rw [at_over hMr hb] at h2
  have h3 := fun A cap w' hA => weight_any M (ratioE (2 * a.d - 1) 2).1 A cap w' hA hM9 (ratio_big' _ _)
  rw [weight_under hMr ha] at h3
  have h4 := fun A cap w' hA => weight_any M (ratioE (2 * b.d + 1) 2).1 A cap w' hA hM9 (ratio_big' _ _)
  rw [weight_over hMr hb] at h4
  have h5 := fun A cap w' hA => weight_any M zeroF A cap w' hA hM9 zero_bg
  rw [weight_zf] at h5
  repeat' ((conv => whnf); first | refine walk (Try.ok ..) ?_ | (refine Cnd.mk (fun h => ?_) (fun h => ?_) <;> (first | exact cndT h (by (try dsimp only); omega) | exact cndF h (by (try dsimp only); omega) | (exfalso; simp at h; omega) | simp at h | skip)) | refine kp ?_ ?_ | refine tw ?_ ?_ | exact trivial | refine side2 ?_ | refine sideL2 ?_ | refine Or.inr ?_ | refine xi _ (And.intro rfl rfl) ?_ | refine xi _ (fun _ => And.intro rfl rfl) ?_ | refine xi _ rfl ?_)
  (conv => whnf)
  refine sat_join0 (fun (s : Nat × Nat) => ([(1, .yes, .v (.int .u8 row)), (2, .yes, .v (.int .u8 way)), (6, .yes, .v (.bool false)), (7, .yes, .o 25 A9 M.length c9), (8, .yes, .p 8 s.1 0 0), (9, .yes, .p 9 s.2 0 0)], [(8, .blk s.1 31 (rwC a)), (9, .blk s.2 31 (rwC b)), (25, .row A9 31 5 M.length c9 (rwL M))])) (fun _ => True) (fun _ => rfl) ?_ ?_
  · refine sat_drawH (Try.ok ..) (by kernel_rfl) ?_
    repeat' ((conv => whnf); first | refine walk (Try.ok ..) ?_ | (refine Cnd.mk (fun h => ?_) (fun h => ?_) <;> (first | exact cndT h (by (try dsimp only); omega) | exact cndF h (by (try dsimp only); omega) | (exfalso; simp at h; omega) | simp at h | skip)) | refine kp ?_ ?_ | refine tw ?_ ?_ | exact trivial | refine side2 ?_ | refine sideL2 ?_ | refine Or.inr ?_ | refine sat_drawH (Try.ok ..) (by kernel_rfl) ?_ | refine xi _ (And.intro rfl rfl) ?_ | refine xi _ (fun _ => And.intro rfl rfl) ?_ | refine xi _ rfl ?_ | refine xi _ (fun _ => ca) ?_ | refine xi _ ca ?_ | refine xi _ (fun _ => cb) ?_ | refine xi _ cb ?_ | intro g hg | (exact ⟨(_, _), trivial, by ((repeat' (first | exact trivial | exact rfl | refine And.intro ?_ ?_)) <;> (try (conv => whnf)) <;> (try simp only [SV.real, SV.r2, SV.r1])), by ((repeat' (first | exact trivial | exact rfl | refine And.intro ?_ ?_)) <;> (try (conv => whnf)) <;> (try simp only [SV.real, SV.r2, SV.r1])), rfl⟩))
  rintro ⟨g8, g9⟩ -
  obtain ⟨Z, hZ⟩ : ∃ C, C = v4C zero4 := ⟨_, rfl⟩
  have lZ : Z.length = 68 := by rw [hZ]; rfl
  have aZ : allV (Z.map SV.r1) = true := by rw [hZ]; exact v4_all _
  unfold v4V at h1 h2
  dsimp only at h1 h2
  rw [← hZ] at h1 h2
  have lz := frC_len zeroF
  repeat' ((conv => whnf); first | refine walk (Try.ok ..) ?_ | (refine Cnd.mk (fun h => ?_) (fun h => ?_) <;> (first | exact cndT h (by (try dsimp only); omega) | exact cndF h (by (try dsimp only); omega) | (exfalso; simp at h; omega) | simp at h | skip)) | refine kp ?_ ?_ | refine tw ?_ ?_ | exact trivial | refine side2 ?_ | refine sideL2 ?_ | refine Or.inr ?_ | refine sat_drawH (Try.ok ..) (by kernel_rfl) ?_ | refine xi _ (And.intro rfl rfl) ?_ | refine xi _ (fun _ => And.intro rfl rfl) ?_ | refine xi _ rfl ?_)
  (conv => whnf)
  refine called_at (.t [.a Z, .v (.int .i64 6)]) rfl (fun w' hh => by exact h1 A9 c9 w' (ro_of_row hh (id := 25) rfl)) ?_
  repeat' ((conv => whnf); first | refine walk (Try.ok ..) ?_ | (refine Cnd.mk (fun h => ?_) (fun h => ?_) <;> (first | exact cndT h (by (try dsimp only); omega) | exact cndF h (by (try dsimp only); omega) | (exfalso; simp at h; omega) | simp at h | skip)) | refine kp ?_ ?_ | refine tw ?_ ?_ | exact trivial | refine side2 ?_ | refine sideL2 ?_ | refine Or.inr ?_ | refine sat_drawH (Try.ok ..) (by kernel_rfl) ?_ | refine xi _ (And.intro rfl rfl) ?_ | refine xi _ (fun _ => And.intro rfl rfl) ?_ | refine xi _ rfl ?_)
  (conv => whnf)
  intro g10 hg10
  repeat' ((conv => whnf); first | refine walk (Try.ok ..) ?_ | (refine Cnd.mk (fun h => ?_) (fun h => ?_) <;> (first | exact cndT h (by (try dsimp only); omega) | exact cndF h (by (try dsimp only); omega) | (exfalso; simp at h; omega) | simp at h | skip)) | refine kp ?_ ?_ | refine tw ?_ ?_ | exact trivial | refine side2 ?_ | refine sideL2 ?_ | refine Or.inr ?_ | refine sat_drawH (Try.ok ..) (by kernel_rfl) ?_ | refine xi _ (And.intro rfl rfl) ?_ | refine xi _ (fun _ => And.intro rfl rfl) ?_ | refine xi _ rfl ?_ | (refine And.intro ⟨rfl, lZ, lZ, aZ⟩ ?_))
  (conv => whnf)
  refine called_at (.t [.a Z, .v (.int .i64 6)]) rfl (fun w' hh => by exact h2 A9 c9 w' (ro_of_row hh (id := 25) rfl)) ?_
  repeat' ((conv => whnf); first | refine walk (Try.ok ..) ?_ | (refine Cnd.mk (fun h => ?_) (fun h => ?_) <;> (first | exact cndT h (by (try dsimp only); omega) | exact cndF h (by (try dsimp only); omega) | (exfalso; simp at h; omega) | simp at h | skip)) | refine kp ?_ ?_ | refine tw ?_ ?_ | exact trivial | refine side2 ?_ | refine sideL2 ?_ | refine Or.inr ?_ | refine sat_drawH (Try.ok ..) (by kernel_rfl) ?_ | refine xi _ (And.intro rfl rfl) ?_ | refine xi _ (fun _ => And.intro rfl rfl) ?_ | refine xi _ rfl ?_)
  (conv => whnf)
  intro g12 hg12
  repeat' ((conv => whnf); first | refine walk (Try.ok ..) ?_ | (refine Cnd.mk (fun h => ?_) (fun h => ?_) <;> (first | exact cndT h (by (try dsimp only); omega) | exact cndF h (by (try dsimp only); omega) | (exfalso; simp at h; omega) | simp at h | skip)) | refine kp ?_ ?_ | refine tw ?_ ?_ | exact trivial | refine side2 ?_ | refine sideL2 ?_ | refine Or.inr ?_ | refine sat_drawH (Try.ok ..) (by kernel_rfl) ?_ | refine xi _ (And.intro rfl rfl) ?_ | refine xi _ (fun _ => And.intro rfl rfl) ?_ | refine xi _ rfl ?_ | (refine And.intro ⟨rfl, lZ, lZ, aZ⟩ ?_))
  (conv => whnf)
  refine called_pure (.a (frC (ratioE (2 * a.d - 1) 2).1)) rfl (fun w' => by exact hratio_any _ _ w' (by refine ⟨?_, ?_⟩ <;> omega) i64) ?_
  repeat' ((conv => whnf); first | refine walk (Try.ok ..) ?_ | (refine Cnd.mk (fun h => ?_) (fun h => ?_) <;> (first | exact cndT h (by (try dsimp only); omega) | exact cndF h (by (try dsimp only); omega) | (exfalso; simp at h; omega) | simp at h | skip)) | refine kp ?_ ?_ | refine tw ?_ ?_ | exact trivial | refine side2 ?_ | refine sideL2 ?_ | refine Or.inr ?_ | refine sat_drawH (Try.ok ..) (by kernel_rfl) ?_ | refine xi _ (And.intro rfl rfl) ?_ | refine xi _ (fun _ => And.intro rfl rfl) ?_ | refine xi _ rfl ?_)
  (conv => whnf)
  refine called_at (.t [.a (frC zeroF), .v (.int .i64 6)]) rfl (fun w' hh => by exact h3 A9 c9 w' (ro_of_row hh (id := 25) rfl)) ?_
  repeat' ((conv => whnf); first | refine walk (Try.ok ..) ?_ | (refine Cnd.mk (fun h => ?_) (fun h => ?_) <;> (first | exact cndT h (by (try dsimp only); omega) | exact cndF h (by (try dsimp only); omega) | (exfalso; simp at h; omega) | simp at h | skip)) | refine kp ?_ ?_ | refine tw ?_ ?_ | exact trivial | refine side2 ?_ | refine sideL2 ?_ | refine Or.inr ?_ | refine sat_drawH (Try.ok ..) (by kernel_rfl) ?_ | refine xi _ (And.intro rfl rfl) ?_ | refine xi _ (fun _ => And.intro rfl rfl) ?_ | refine xi _ rfl ?_)
  (conv => whnf)
  intro g14 hg14
  repeat' ((conv => whnf); first | refine walk (Try.ok ..) ?_ | (refine Cnd.mk (fun h => ?_) (fun h => ?_) <;> (first | exact cndT h (by (try dsimp only); omega) | exact cndF h (by (try dsimp only); omega) | (exfalso; simp at h; omega) | simp at h | skip)) | refine kp ?_ ?_ | refine tw ?_ ?_ | exact trivial | refine side2 ?_ | refine sideL2 ?_ | refine Or.inr ?_ | refine sat_drawH (Try.ok ..) (by kernel_rfl) ?_ | refine xi _ (And.intro rfl rfl) ?_ | refine xi _ (fun _ => And.intro rfl rfl) ?_ | refine xi _ rfl ?_)
  (conv => whnf)
  refine called_pure (.a (frC (ratioE (2 * b.d + 1) 2).1)) rfl (fun w' => by exact hratio_any _ _ w' (by refine ⟨?_, ?_⟩ <;> omega) i64) ?_
  repeat' ((conv => whnf); first | refine walk (Try.ok ..) ?_ | (refine Cnd.mk (fun h => ?_) (fun h => ?_) <;> (first | exact cndT h (by (try dsimp only); omega) | exact cndF h (by (try dsimp only); omega) | (exfalso; simp at h; omega) | simp at h | skip)) | refine kp ?_ ?_ | refine tw ?_ ?_ | exact trivial | refine side2 ?_ | refine sideL2 ?_ | refine Or.inr ?_ | refine sat_drawH (Try.ok ..) (by kernel_rfl) ?_ | refine xi _ (And.intro rfl rfl) ?_ | refine xi _ (fun _ => And.intro rfl rfl) ?_ | refine xi _ rfl ?_)
  (conv => whnf)
  refine called_at (.t [.a (frC zeroF), .v (.int .i64 6)]) rfl (fun w' hh => by exact h4 A9 c9 w' (ro_of_row hh (id := 25) rfl)) ?_
  repeat' ((conv => whnf); first | refine walk (Try.ok ..) ?_ | (refine Cnd.mk (fun h => ?_) (fun h => ?_) <;> (first | exact cndT h (by (try dsimp only); omega) | exact cndF h (by (try dsimp only); omega) | (exfalso; simp at h; omega) | simp at h | skip)) | refine kp ?_ ?_ | refine tw ?_ ?_ | exact trivial | refine side2 ?_ | refine sideL2 ?_ | refine Or.inr ?_ | refine sat_drawH (Try.ok ..) (by kernel_rfl) ?_ | refine xi _ (And.intro rfl rfl) ?_ | refine xi _ (fun _ => And.intro rfl rfl) ?_ | refine xi _ rfl ?_)
  (conv => whnf)
  intro g16 hg16
  repeat' ((conv => whnf); first | refine walk (Try.ok ..) ?_ | (refine Cnd.mk (fun h => ?_) (fun h => ?_) <;> (first | exact cndT h (by (try dsimp only); omega) | exact cndF h (by (try dsimp only); omega) | (exfalso; simp at h; omega) | simp at h | skip)) | refine kp ?_ ?_ | refine tw ?_ ?_ | exact trivial | refine side2 ?_ | refine sideL2 ?_ | refine Or.inr ?_ | refine sat_drawH (Try.ok ..) (by kernel_rfl) ?_ | refine xi _ (And.intro rfl rfl) ?_ | refine xi _ (fun _ => And.intro rfl rfl) ?_ | refine xi _ rfl ?_)
  (conv => whnf)
  refine called_at (.t [.a (frC zeroF), .v (.int .i64 2)]) rfl (fun w' hh => by exact h5 A9 c9 w' (ro_of_row hh (id := 25) rfl)) ?_
  repeat' ((conv => whnf); first | refine walk (Try.ok ..) ?_ | (refine Cnd.mk (fun h => ?_) (fun h => ?_) <;> (first | exact cndT h (by (try dsimp only); omega) | exact cndF h (by (try dsimp only); omega) | (exfalso; simp at h; omega) | simp at h | skip)) | refine kp ?_ ?_ | refine tw ?_ ?_ | exact trivial | refine side2 ?_ | refine sideL2 ?_ | refine Or.inr ?_ | refine sat_drawH (Try.ok ..) (by kernel_rfl) ?_ | refine xi _ (And.intro rfl rfl) ?_ | refine xi _ (fun _ => And.intro rfl rfl) ?_ | refine xi _ rfl ?_)
  (conv => whnf)
  intro g18 hg18
  repeat' ((conv => whnf); first | refine walk (Try.ok ..) ?_ | (refine Cnd.mk (fun h => ?_) (fun h => ?_) <;> (first | exact cndT h (by (try dsimp only); omega) | exact cndF h (by (try dsimp only); omega) | (exfalso; simp at h; omega) | simp at h | skip)) | refine kp ?_ ?_ | refine tw ?_ ?_ | exact trivial | refine side2 ?_ | refine sideL2 ?_ | refine Or.inr ?_ | refine xi _ (And.intro rfl rfl) ?_ | refine xi _ (fun _ => And.intro rfl rfl) ?_ | refine xi _ rfl ?_)
  obtain ⟨i, hi, hi1⟩ : ∃ i : Nat, row % (M.length : Int) = i ∧ i < M.length := by
    have e1 := Int.emod_nonneg row (show (M.length : Int) ≠ 0 by omega)
    have e2 := Int.emod_lt_of_pos row (show 0 < (M.length : Int) by omega)
    exact ⟨(row % (M.length : Int)).toNat, by omega, by omega⟩
  obtain ⟨m, hm, hm9⟩ : ∃ m : Int, way % 9 = m ∧ (0 ≤ m ∧ m ≤ 8) := ⟨_, rfl, by omega⟩
  obtain ⟨r, hr⟩ : ∃ a, M[i]? = some a := ⟨_, List.getElem?_eq_getElem hi1⟩
  (conv => whnf)
  refine sat_to ([(1, .yes, .v (.int .u8 row)), (2, .yes, .v (.int .u8 way)), (6, .yes, .v (.bool false)), (7, .yes, .o 25 A9 M.length c9)], [(25, .row A9 31 5 M.length c9 (rwL M))]) rfl ?_ ?_ rfl ?_
  · ((repeat' (first | exact trivial | exact rfl | refine And.intro ?_ ?_)) <;> (try (conv => whnf)) <;> (try simp only [SV.real, SV.r2, SV.r1]))
  · ((repeat' (first | exact trivial | exact rfl | refine And.intro ?_ ?_)) <;> (try (conv => whnf)) <;> (try simp only [SV.real, SV.r2, SV.r1]))
  refine sat_row 25 rfl (fun hcap _ => ?_)
  refine sat_ops (Try.ok ..) ?_
  repeat' ((conv => whnf); first | refine walk (Try.ok ..) ?_ | (refine Cnd.mk (fun h => ?_) (fun h => ?_) <;> (first | exact cndT h (by (try dsimp only); omega) | exact cndF h (by (try dsimp only); omega) | (exfalso; simp at h; omega) | simp at h | skip)) | refine kp ?_ ?_ | refine tw ?_ ?_ | exact trivial | refine side2 ?_ | refine sideL2 ?_ | refine Or.inr ?_ | refine sat_drawH (Try.ok ..) (by kernel_rfl) ?_ | refine xi _ (And.intro rfl rfl) ?_ | refine xi _ (fun _ => And.intro rfl rfl) ?_ | refine xi _ rfl ?_)
  (conv => whnf)
  refine sat_to ([(6, .yes, .v (.bool false)), (7, .yes, .o 25 A9 M.length c9), (20, .yes, .v (.int .i64 (i : Nat))), (21, .yes, .p 25 (A9.getD (0, 0)).1 (A9.getD (0, 0)).2 (i * 5)), (104, .yes, .v (.int .u8 m))], [(25, .row A9 31 5 M.length c9 (rwL M))]) rfl ?_ ?_ rfl ?_
  · ((repeat' (first | exact trivial | exact rfl | refine And.intro ?_ ?_)) <;> (try (conv => whnf)) <;> (try simp only [SV.real, SV.r2, SV.r1]))
    · rw [hi]
    · have e : mulS (row % (M.length : Int)).toNat 5 = i * 5 := by rw [mulS_eq, hi, Int.toNat_natCast]
      exact congrArg (fun x => Value.pointer (some ⟨(A9.getD (0, 0)).1, x + (A9.getD (0, 0)).2, none⟩)) e
    · rw [hm]
  · ((repeat' (first | exact trivial | exact rfl | refine And.intro ?_ ?_)) <;> (try (conv => whnf)) <;> (try simp only [SV.real, SV.r2, SV.r1]))
  have hst : ∀ j, j < 5 → i * 5 + j < (rwL M).length := fun j hj => by rw [rwL_len]; omega
  refine sat_join0 (fun (s : Option (Nat × Nat) × Nat × Nat × List HRow) => ([(6, .yes, .v (.bool false)), (7, .yes, .o 25 s.1 s.2.2.1 s.2.1)], [(25, .row s.1 31 5 s.2.2.2.length s.2.1 (rwL s.2.2.2))])) (fun s => rightH (s.2.2.2.take s.2.2.1) = false ∧ s.2.2.1 ≤ s.2.2.2.length ∧ s.2.2.2.length ≤ 13) (fun _ => rfl) ?_ ?_
  · rcases (by omega : m = 0 ∨ m = 1 ∨ m = 2 ∨ m = 3 ∨ m = 4 ∨ m = 5 ∨ m = 6 ∨ m = 7 ∨ m = 8) with rfl | rfl | rfl | rfl | rfl | rfl | rfl | rfl | rfl
    · -- 0
      refine sat_blk ?_
      repeat' ((conv => whnf); first | refine walk (Try.ok ..) ?_ | (refine Cnd.mk (fun h => ?_) (fun h => ?_) <;> (first | exact cndT h (by (try dsimp only); omega) | exact cndF h (by (try dsimp only); omega) | (exfalso; simp at h; omega) | simp at h | skip)) | refine kp ?_ ?_ | refine tw ?_ ?_ | exact trivial | refine side2 ?_ | refine sideL2 ?_ | refine Or.inr ?_ | refine sat_drawH (Try.ok ..) (by kernel_rfl) ?_ | refine xi _ (And.intro rfl rfl) ?_ | refine xi _ (fun _ => And.intro rfl rfl) ?_ | refine xi _ rfl ?_ | (refine And.intro (hst 1 (by decide)) ?_))
      refine ⟨(A9, c9, M.length, M.set i (setC r 1 (0))), ⟨?_, by dsimp only; rw [List.length_set]; exact Nat.le_refl _, by dsimp only; rw [List.length_set]; omega⟩, ?_, ?_, rfl⟩
      · dsimp only
        rw [List.take_of_length_le (by rw [List.length_set]; exact Nat.le_refl _)]
        exact wrong_row (i := i) (by rw [List.getElem?_set_self (by omega)]) (by unfold okR inB setC; simp)
      · ((repeat' (first | exact trivial | exact rfl | refine And.intro ?_ ?_)) <;> (try (conv => whnf)) <;> (try simp only [SV.real, SV.r2, SV.r1]))
      · dsimp only
        rw [← rwL_set_at hr 1 (by decide), List.length_set]
        ((repeat' (first | exact trivial | exact rfl | refine And.intro ?_ ?_)) <;> (try (conv => whnf)) <;> (try simp only [SV.real, SV.r2, SV.r1]))
    · -- 1
      refine sat_blk ?_
      repeat' ((conv => whnf); first | refine walk (Try.ok ..) ?_ | (refine Cnd.mk (fun h => ?_) (fun h => ?_) <;> (first | exact cndT h (by (try dsimp only); omega) | exact cndF h (by (try dsimp only); omega) | (exfalso; simp at h; omega) | simp at h | skip)) | refine kp ?_ ?_ | refine tw ?_ ?_ | exact trivial | refine side2 ?_ | refine sideL2 ?_ | refine Or.inr ?_ | refine sat_drawH (Try.ok ..) (by kernel_rfl) ?_ | refine xi _ (And.intro rfl rfl) ?_ | refine xi _ (fun _ => And.intro rfl rfl) ?_ | refine xi _ rfl ?_ | (refine And.intro (hst 1 (by decide)) ?_))
      refine ⟨(A9, c9, M.length, M.set i (setC r 1 (500000001))), ⟨?_, by dsimp only; rw [List.length_set]; exact Nat.le_refl _, by dsimp only; rw [List.length_set]; omega⟩, ?_, ?_, rfl⟩
      · dsimp only
        rw [List.take_of_length_le (by rw [List.length_set]; exact Nat.le_refl _)]
        exact wrong_row (i := i) (by rw [List.getElem?_set_self (by omega)]) (by unfold okR inB setC; simp)
      · ((repeat' (first | exact trivial | exact rfl | refine And.intro ?_ ?_)) <;> (try (conv => whnf)) <;> (try simp only [SV.real, SV.r2, SV.r1]))
      · dsimp only
        rw [← rwL_set_at hr 1 (by decide), List.length_set]
        ((repeat' (first | exact trivial | exact rfl | refine And.intro ?_ ?_)) <;> (try (conv => whnf)) <;> (try simp only [SV.real, SV.r2, SV.r1]))
    · -- 2
      refine sat_blk ?_
      repeat' ((conv => whnf); first | refine walk (Try.ok ..) ?_ | (refine Cnd.mk (fun h => ?_) (fun h => ?_) <;> (first | exact cndT h (by (try dsimp only); omega) | exact cndF h (by (try dsimp only); omega) | (exfalso; simp at h; omega) | simp at h | skip)) | refine kp ?_ ?_ | refine tw ?_ ?_ | exact trivial | refine side2 ?_ | refine sideL2 ?_ | refine Or.inr ?_ | refine sat_drawH (Try.ok ..) (by kernel_rfl) ?_ | refine xi _ (And.intro rfl rfl) ?_ | refine xi _ (fun _ => And.intro rfl rfl) ?_ | refine xi _ rfl ?_ | (refine And.intro (hst 0 (by decide)) ?_))
      refine ⟨(A9, c9, M.length, M.set i (setC r 0 (-1))), ⟨?_, by dsimp only; rw [List.length_set]; exact Nat.le_refl _, by dsimp only; rw [List.length_set]; omega⟩, ?_, ?_, rfl⟩
      · dsimp only
        rw [List.take_of_length_le (by rw [List.length_set]; exact Nat.le_refl _)]
        exact wrong_row (i := i) (by rw [List.getElem?_set_self (by omega)]) (by unfold okR inB setC; simp)
      · ((repeat' (first | exact trivial | exact rfl | refine And.intro ?_ ?_)) <;> (try (conv => whnf)) <;> (try simp only [SV.real, SV.r2, SV.r1]))
      · dsimp only
        rw [← rwL_set_at hr 0 (by decide), List.length_set]
        ((repeat' (first | exact trivial | exact rfl | refine And.intro ?_ ?_)) <;> (try (conv => whnf)) <;> (try simp only [SV.real, SV.r2, SV.r1]))
    · -- 3
      refine sat_blk ?_
      repeat' ((conv => whnf); first | refine walk (Try.ok ..) ?_ | (refine Cnd.mk (fun h => ?_) (fun h => ?_) <;> (first | exact cndT h (by (try dsimp only); omega) | exact cndF h (by (try dsimp only); omega) | (exfalso; simp at h; omega) | simp at h | skip)) | refine kp ?_ ?_ | refine tw ?_ ?_ | exact trivial | refine side2 ?_ | refine sideL2 ?_ | refine Or.inr ?_ | refine sat_drawH (Try.ok ..) (by kernel_rfl) ?_ | refine xi _ (And.intro rfl rfl) ?_ | refine xi _ (fun _ => And.intro rfl rfl) ?_ | refine xi _ rfl ?_ | (refine And.intro (hst 0 (by decide)) ?_))
      refine ⟨(A9, c9, M.length, M.set i (setC r 0 (50001))), ⟨?_, by dsimp only; rw [List.length_set]; exact Nat.le_refl _, by dsimp only; rw [List.length_set]; omega⟩, ?_, ?_, rfl⟩
      · dsimp only
        rw [List.take_of_length_le (by rw [List.length_set]; exact Nat.le_refl _)]
        exact wrong_row (i := i) (by rw [List.getElem?_set_self (by omega)]) (by unfold okR inB setC; simp)
      · ((repeat' (first | exact trivial | exact rfl | refine And.intro ?_ ?_)) <;> (try (conv => whnf)) <;> (try simp only [SV.real, SV.r2, SV.r1]))
      · dsimp only
        rw [← rwL_set_at hr 0 (by decide), List.length_set]
        ((repeat' (first | exact trivial | exact rfl | refine And.intro ?_ ?_)) <;> (try (conv => whnf)) <;> (try simp only [SV.real, SV.r2, SV.r1]))
    · -- 4
      refine sat_blk ?_
      repeat' ((conv => whnf); first | refine walk (Try.ok ..) ?_ | (refine Cnd.mk (fun h => ?_) (fun h => ?_) <;> (first | exact cndT h (by (try dsimp only); omega) | exact cndF h (by (try dsimp only); omega) | (exfalso; simp at h; omega) | simp at h | skip)) | refine kp ?_ ?_ | refine tw ?_ ?_ | exact trivial | refine side2 ?_ | refine sideL2 ?_ | refine Or.inr ?_ | refine sat_drawH (Try.ok ..) (by kernel_rfl) ?_ | refine xi _ (And.intro rfl rfl) ?_ | refine xi _ (fun _ => And.intro rfl rfl) ?_ | refine xi _ rfl ?_ | (refine And.intro (hst 4 (by decide)) ?_))
      refine ⟨(A9, c9, M.length, M.set i (setC r 4 (0))), ⟨?_, by dsimp only; rw [List.length_set]; exact Nat.le_refl _, by dsimp only; rw [List.length_set]; omega⟩, ?_, ?_, rfl⟩
      · dsimp only
        rw [List.take_of_length_le (by rw [List.length_set]; exact Nat.le_refl _)]
        exact wrong_row (i := i) (by rw [List.getElem?_set_self (by omega)]) (by unfold okR inB setC; simp)
      · ((repeat' (first | exact trivial | exact rfl | refine And.intro ?_ ?_)) <;> (try (conv => whnf)) <;> (try simp only [SV.real, SV.r2, SV.r1]))
      · dsimp only
        rw [← rwL_set_at hr 4 (by decide), List.length_set]
        ((repeat' (first | exact trivial | exact rfl | refine And.intro ?_ ?_)) <;> (try (conv => whnf)) <;> (try simp only [SV.real, SV.r2, SV.r1]))
    · -- 5
      refine sat_blk ?_
      repeat' ((conv => whnf); first | refine walk (Try.ok ..) ?_ | (refine Cnd.mk (fun h => ?_) (fun h => ?_) <;> (first | exact cndT h (by (try dsimp only); omega) | exact cndF h (by (try dsimp only); omega) | (exfalso; simp at h; omega) | simp at h | skip)) | refine kp ?_ ?_ | refine tw ?_ ?_ | exact trivial | refine side2 ?_ | refine sideL2 ?_ | refine Or.inr ?_ | refine sat_drawH (Try.ok ..) (by kernel_rfl) ?_ | refine xi _ (And.intro rfl rfl) ?_ | refine xi _ (fun _ => And.intro rfl rfl) ?_ | refine xi _ rfl ?_ | (refine And.intro (hst 3 (by decide)) ?_))
      refine ⟨(A9, c9, M.length, M.set i (setC r 3 (-1))), ⟨?_, by dsimp only; rw [List.length_set]; exact Nat.le_refl _, by dsimp only; rw [List.length_set]; omega⟩, ?_, ?_, rfl⟩
      · dsimp only
        rw [List.take_of_length_le (by rw [List.length_set]; exact Nat.le_refl _)]
        exact wrong_row (i := i) (by rw [List.getElem?_set_self (by omega)]) (by unfold okR inB setC; simp)
      · ((repeat' (first | exact trivial | exact rfl | refine And.intro ?_ ?_)) <;> (try (conv => whnf)) <;> (try simp only [SV.real, SV.r2, SV.r1]))
      · dsimp only
        rw [← rwL_set_at hr 3 (by decide), List.length_set]
        ((repeat' (first | exact trivial | exact rfl | refine And.intro ?_ ?_)) <;> (try (conv => whnf)) <;> (try simp only [SV.real, SV.r2, SV.r1]))
    · -- 6
      refine sat_blk ?_
      repeat' ((conv => whnf); first | refine walk (Try.ok ..) ?_ | (refine Cnd.mk (fun h => ?_) (fun h => ?_) <;> (first | exact cndT h (by (try dsimp only); omega) | exact cndF h (by (try dsimp only); omega) | (exfalso; simp at h; omega) | simp at h | skip)) | refine kp ?_ ?_ | refine tw ?_ ?_ | exact trivial | refine side2 ?_ | refine sideL2 ?_ | refine Or.inr ?_ | refine sat_drawH (Try.ok ..) (by kernel_rfl) ?_ | refine xi _ (And.intro rfl rfl) ?_ | refine xi _ (fun _ => And.intro rfl rfl) ?_ | refine xi _ rfl ?_ | (refine And.intro (hst 2 (by decide)) ?_))
      refine ⟨(A9, c9, M.length, M.set i (setC r 2 (500001))), ⟨?_, by dsimp only; rw [List.length_set]; exact Nat.le_refl _, by dsimp only; rw [List.length_set]; omega⟩, ?_, ?_, rfl⟩
      · dsimp only
        rw [List.take_of_length_le (by rw [List.length_set]; exact Nat.le_refl _)]
        exact wrong_row (i := i) (by rw [List.getElem?_set_self (by omega)]) (by unfold okR inB setC; simp)
      · ((repeat' (first | exact trivial | exact rfl | refine And.intro ?_ ?_)) <;> (try (conv => whnf)) <;> (try simp only [SV.real, SV.r2, SV.r1]))
      · dsimp only
        rw [← rwL_set_at hr 2 (by decide), List.length_set]
        ((repeat' (first | exact trivial | exact rfl | refine And.intro ?_ ?_)) <;> (try (conv => whnf)) <;> (try simp only [SV.real, SV.r2, SV.r1]))
    · -- 7
      refine sat_blk ?_
      repeat' ((conv => whnf); first | refine walk (Try.ok ..) ?_ | (refine Cnd.mk (fun h => ?_) (fun h => ?_) <;> (first | exact cndT h (by (try dsimp only); omega) | exact cndF h (by (try dsimp only); omega) | (exfalso; simp at h; omega) | simp at h | skip)) | refine kp ?_ ?_ | refine tw ?_ ?_ | exact trivial | refine side2 ?_ | refine sideL2 ?_ | refine Or.inr ?_ | refine sat_drawH (Try.ok ..) (by kernel_rfl) ?_ | refine xi _ (And.intro rfl rfl) ?_ | refine xi _ (fun _ => And.intro rfl rfl) ?_ | refine xi _ rfl ?_)
      refine ⟨(A9, c9, 1, M), ⟨wrong_one, by dsimp only; omega, by dsimp only; omega⟩, ?_, ?_, rfl⟩
      · ((repeat' (first | exact trivial | exact rfl | refine And.intro ?_ ?_)) <;> (try (conv => whnf)) <;> (try simp only [SV.real, SV.r2, SV.r1]))
      · ((repeat' (first | exact trivial | exact rfl | refine And.intro ?_ ?_)) <;> (try (conv => whnf)) <;> (try simp only [SV.real, SV.r2, SV.r1]))
    · -- 8
      refine sat_blk ?_
      repeat' ((conv => whnf); first | refine walk (Try.ok ..) ?_ | (refine Cnd.mk (fun h => ?_) (fun h => ?_) <;> (first | exact cndT h (by (try dsimp only); omega) | exact cndF h (by (try dsimp only); omega) | (exfalso; simp at h; omega) | simp at h | skip)) | refine kp ?_ ?_ | refine tw ?_ ?_ | exact trivial | refine side2 ?_ | refine sideL2 ?_ | refine Or.inr ?_ | refine sat_drawH (Try.ok ..) (by kernel_rfl) ?_ | refine xi _ (And.intro rfl rfl) ?_ | refine xi _ (fun _ => And.intro rfl rfl) ?_ | refine xi _ rfl ?_ | refine xi _ (fun _ => (rw_cells hr rfl)) ?_ | refine xi _ (rw_cells hr rfl) ?_)
      (conv => whnf)
      intro g110 hg110
      repeat' ((conv => whnf); first | refine walk (Try.ok ..) ?_ | (refine Cnd.mk (fun h => ?_) (fun h => ?_) <;> (first | exact cndT h (by (try dsimp only); omega) | exact cndF h (by (try dsimp only); omega) | (exfalso; simp at h; omega) | simp at h | skip)) | refine kp ?_ ?_ | refine tw ?_ ?_ | exact trivial | refine side2 ?_ | refine sideL2 ?_ | refine Or.inr ?_ | refine sat_drawH (Try.ok ..) (by kernel_rfl) ?_ | refine xi _ (And.intro rfl rfl) ?_ | refine xi _ (fun _ => And.intro rfl rfl) ?_ | refine xi _ rfl ?_)
      (conv => whnf)
      intro B2 c2
      repeat' ((conv => whnf); first | refine walk (Try.ok ..) ?_ | (refine Cnd.mk (fun h => ?_) (fun h => ?_) <;> (first | exact cndT h (by (try dsimp only); omega) | exact cndF h (by (try dsimp only); omega) | (exfalso; simp at h; omega) | simp at h | skip)) | refine kp ?_ ?_ | refine tw ?_ ?_ | exact trivial | refine side2 ?_ | refine sideL2 ?_ | refine Or.inr ?_ | refine sat_drawH (Try.ok ..) (by kernel_rfl) ?_ | refine xi _ (And.intro rfl rfl) ?_ | refine xi _ (fun _ => And.intro rfl rfl) ?_ | refine xi _ rfl ?_)
      refine ⟨(B2, c2, (M ++ [r]).length, M ++ [r]), ⟨?_, by dsimp only; exact Nat.le_refl _, by dsimp only; rw [List.length_append, List.length_singleton]; omega⟩, ?_, ?_, rfl⟩
      · dsimp only
        rw [List.take_of_length_le (Nat.le_refl _)]
        exact wrong_twice (right_is hMr) hr
      · dsimp only
        rw [List.length_append]
        ((repeat' (first | exact trivial | exact rfl | refine And.intro ?_ ?_)) <;> (try (conv => whnf)) <;> (try simp only [SV.real, SV.r2, SV.r1]))
      · dsimp only
        rw [List.length_append, show rwL (M ++ [r]) = rwL M ++ rwW r from by unfold rwL; rw [List.flatMap_append]; simp]
        ((repeat' (first | exact trivial | exact rfl | refine And.intro ?_ ?_)) <;> (try (conv => whnf)) <;> (try simp only [SV.real, SV.r2, SV.r1]))

  rintro ⟨B, c, n, L⟩ ⟨hL, hn, h13⟩
  dsimp only at hL hn h13
  have hro : ∀ {cx : Cx} {H : Heap} {w : World}, Holds cx H w → hfind H 25 = some (.row B 31 5 L.length c (rwL L)) → Ro w B (L.take n).length 5 (rwL (L.take n)) := fun hh h => by
    have h1 := (ro_of_row hh h).take_ (m := n) hn
    rw [List.length_take, Nat.min_eq_left hn]
    have e : (rwL L).take (n * 5) = rwL (L.take n) := rwL_take L n
    rw [← e]
    exact h1
  obtain ⟨T, eT⟩ : ∃ T, T = L.take n := ⟨_, rfl⟩
  have hTl : T.length = n := by rw [eT, List.length_take, Nat.min_eq_left hn]
  rw [← eT] at hro hL
  have q1 := fun w' (h : Ro w' B T.length 5 (rwL T)) => at_any T 500000 B c w' h (by omega) i64
  rw [at_no hL, hTl] at q1
  have q2 := fun w' (h : Ro w' B T.length 5 (rwL T)) => weight_any T (ofF 1000) B c w' h (by omega) (ofF_big _)
  rw [weight_no (by rw [hL]; rfl), hTl] at q2
  have q3 := fun w' (h : Ro w' B T.length 5 (rwL T)) => hRange_any T B c w' h (by omega)
  rw [range_no hL, hTl] at q3
  have q4 := fun w' (h : Ro w' B T.length 5 (rwL T)) => hRight_any T B c w' h (by omega)
  rw [hL, hTl] at q4
  unfold v4V at q1
  dsimp only at q1
  rw [← hZ] at q1
  rw [hTl] at hro
  repeat' ((conv => whnf); first | refine walk (Try.ok ..) ?_ | (refine Cnd.mk (fun h => ?_) (fun h => ?_) <;> (first | exact cndT h (by (try dsimp only); omega) | exact cndF h (by (try dsimp only); omega) | (exfalso; simp at h; omega) | simp at h | skip)) | refine kp ?_ ?_ | refine tw ?_ ?_ | exact trivial | refine side2 ?_ | refine sideL2 ?_ | refine Or.inr ?_ | refine sat_drawH (Try.ok ..) (by kernel_rfl) ?_ | refine xi _ (And.intro rfl rfl) ?_ | refine xi _ (fun _ => And.intro rfl rfl) ?_ | refine xi _ rfl ?_)
  (conv => whnf)
  refine called_at (.t [.a Z, .v (.int .i64 2)]) rfl (fun w' hh => by exact q1 w' (hro hh rfl)) ?_
  repeat' ((conv => whnf); first | refine walk (Try.ok ..) ?_ | (refine Cnd.mk (fun h => ?_) (fun h => ?_) <;> (first | exact cndT h (by (try dsimp only); omega) | exact cndF h (by (try dsimp only); omega) | (exfalso; simp at h; omega) | simp at h | skip)) | refine kp ?_ ?_ | refine tw ?_ ?_ | exact trivial | refine side2 ?_ | refine sideL2 ?_ | refine Or.inr ?_ | refine sat_drawH (Try.ok ..) (by kernel_rfl) ?_ | refine xi _ (And.intro rfl rfl) ?_ | refine xi _ (fun _ => And.intro rfl rfl) ?_ | refine xi _ rfl ?_)
  (conv => whnf)
  refine called_pure (.a (frC (ofF 1000))) rfl (fun w' => by exact of_frac 1000 w' i64) ?_
  repeat' ((conv => whnf); first | refine walk (Try.ok ..) ?_ | (refine Cnd.mk (fun h => ?_) (fun h => ?_) <;> (first | exact cndT h (by (try dsimp only); omega) | exact cndF h (by (try dsimp only); omega) | (exfalso; simp at h; omega) | simp at h | skip)) | refine kp ?_ ?_ | refine tw ?_ ?_ | exact trivial | refine side2 ?_ | refine sideL2 ?_ | refine Or.inr ?_ | refine sat_drawH (Try.ok ..) (by kernel_rfl) ?_ | refine xi _ (And.intro rfl rfl) ?_ | refine xi _ (fun _ => And.intro rfl rfl) ?_ | refine xi _ rfl ?_)
  (conv => whnf)
  refine called_at (.t [.a (frC zeroF), .v (.int .i64 2)]) rfl (fun w' hh => by exact q2 w' (hro hh rfl)) ?_
  repeat' ((conv => whnf); first | refine walk (Try.ok ..) ?_ | (refine Cnd.mk (fun h => ?_) (fun h => ?_) <;> (first | exact cndT h (by (try dsimp only); omega) | exact cndF h (by (try dsimp only); omega) | (exfalso; simp at h; omega) | simp at h | skip)) | refine kp ?_ ?_ | refine tw ?_ ?_ | exact trivial | refine side2 ?_ | refine sideL2 ?_ | refine Or.inr ?_ | refine sat_drawH (Try.ok ..) (by kernel_rfl) ?_ | refine xi _ (And.intro rfl rfl) ?_ | refine xi _ (fun _ => And.intro rfl rfl) ?_ | refine xi _ rfl ?_)
  (conv => whnf)
  refine called_at (.t [.v (.int .i64 0), .v (.int .i64 0), .v (.int .i64 2)]) rfl (fun w' hh => by exact q3 w' (hro hh rfl)) ?_
  repeat' ((conv => whnf); first | refine walk (Try.ok ..) ?_ | (refine Cnd.mk (fun h => ?_) (fun h => ?_) <;> (first | exact cndT h (by (try dsimp only); omega) | exact cndF h (by (try dsimp only); omega) | (exfalso; simp at h; omega) | simp at h | skip)) | refine kp ?_ ?_ | refine tw ?_ ?_ | exact trivial | refine side2 ?_ | refine sideL2 ?_ | refine Or.inr ?_ | refine sat_drawH (Try.ok ..) (by kernel_rfl) ?_ | refine xi _ (And.intro rfl rfl) ?_ | refine xi _ (fun _ => And.intro rfl rfl) ?_ | refine xi _ rfl ?_)
  all_goals (conv => whnf)
  refine calledQ_at (.v (.bool false)) rfl (fun _ w' hh => by exact q4 w' (hro hh rfl)) ?_
  repeat' ((conv => whnf); first | refine walk (Try.ok ..) ?_ | (refine Cnd.mk (fun h => ?_) (fun h => ?_) <;> (first | exact cndT h (by (try dsimp only); omega) | exact cndF h (by (try dsimp only); omega) | (exfalso; simp at h; omega) | simp at h | skip)) | refine kp ?_ ?_ | refine tw ?_ ?_ | exact trivial | refine side2 ?_ | refine sideL2 ?_ | refine Or.inr ?_ | refine sat_drawH (Try.ok ..) (by kernel_rfl) ?_ | refine xi _ (And.intro rfl rfl) ?_ | refine xi _ (fun _ => And.intro rfl rfl) ?_ | refine xi _ rfl ?_)
  exact done_pure rfl rfl rfl
end Go.Proofs.Ytomhfakkebaciaa
