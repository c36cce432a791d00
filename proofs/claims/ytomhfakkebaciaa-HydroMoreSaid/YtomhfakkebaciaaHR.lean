/-
  The law HydroMore, walked.
-/
import Derived.Test.YtomhfakkebaciaaH19
import Derived.Test.YtomhfakkebaciaaHE
set_option linter.unusedSimpArgs false
set_option linter.unusedVariables false
namespace Go.Proofs.Ytomhfakkebaciaa
open Go Sat Go.RowKit Go.PlainAid
theorem rwL_app (l m : List HRow) : rwL (l ++ m) = rwL l ++ rwL m := List.flatMap_append ..
theorem rwL_tk (l : List HRow) (n : Nat) : (rwL l).take (n * 5) = rwL (l.take n) := by
  induction l generalizing n with
  | nil => simp [rwL]
  | cons x l ih =>
    cases n with
    | zero => simp [rwL]
    | succ n =>
      have := ih n
      unfold rwL at this ⊢
      rw [List.take_succ_cons, List.flatMap_cons, List.flatMap_cons, ← this, show (n + 1) * 5 = (rwW x).length + n * 5 from by show _ = 5 + _; omega, List.take_length_add_append]
theorem rwL_dr (l : List HRow) (n : Nat) : (rwL l).drop (n * 5) = rwL (l.drop n) := by
  induction l generalizing n with
  | nil => simp [rwL]
  | cons x l ih =>
    cases n with
    | zero => simp [rwL]
    | succ n =>
      have := ih n
      unfold rwL at this ⊢
      rw [List.drop_succ_cons, List.flatMap_cons, ← this, show (n + 1) * 5 = (rwW x).length + n * 5 from by show _ = 5 + _; omega, List.drop_length_add_append]
theorem rwL_allV (l : List HRow) : allV (rwL l) = true := allV_of fun u hu => by
  obtain ⟨r, _, hr⟩ := List.mem_flatMap.1 hu
  simp only [rwW, List.mem_cons, List.not_mem_nil, or_false] at hr
  rcases hr with rfl | rfl | rfl | rfl | rfl <;> rfl
structure Vals4 (C : List SV) (X : Fr) : Prop where
  len : C.length = 68
  all : allV (C.map SV.r1) = true
  fst : List.take 17 (List.drop 0 C) = frC X
  same : ∀ w, (Op.equal 45 (SV.a (List.take 68 (List.drop 0 C))).real (SV.a (List.take 68 (List.drop 0 C))).real).run Try.prog w = .ok true w
set_option maxRecDepth 100000 in
set_option maxHeartbeats 16000000 in
theorem hydroMore_any (l0 : List St) (row one : Int) (A : Option (Nat × Nat)) (cap : Nat) (w : World) (hA : Ro w A l0.length 5 (stL l0)) (hok : ∀ x ∈ l0, StOk x) (hl : l0.length ≤ 9223372036854775807) (hc : l0.length ≤ cap) (hrow : 0 ≤ row ∧ row ≤ 255) (h1 : 0 ≤ one ∧ one ≤ 4294967295) :
    Calls Try.prog 6 #[.slice (adr A) l0.length cap, .int .u8 row, .int .u32 one] w fun e w' => e = .returned (.bool true) ∧ Below w.heap.size w w' := by
  refine calls_sat (cx := Try.cx 170 [9, 11, 12, 13, 15] [] [] w) (Try.ok ..) Try.func6 rfl [.o 300 A l0.length cap, .v (.int .u8 row), .v (.int .u32 one)] rfl (by show 3 ≤ 170; omega) [(300, .ro A l0.length 5 (stL l0))] (holds_ros rfl rfl ⟨hA, trivial⟩) ?_
  repeat' ((conv => whnf); first | refine walk (Try.ok ..) ?_ | (refine Cnd.mk (fun h => ?_) (fun h => ?_) <;> (first | exact cndT h (by (try dsimp only); omega) | exact cndF h (by (try dsimp only); omega) | (exfalso; simp at h; omega) | simp at h | skip)) | refine kp ?_ ?_ | refine tw ?_ ?_ | exact trivial | refine side2 ?_ | refine sideL2 ?_ | refine Or.inr ?_ | refine sat_drawH (Try.ok ..) (by kernel_rfl) ?_ | refine xi _ (And.intro rfl rfl) ?_ | refine xi _ (fun _ => And.intro rfl rfl) ?_ | refine xi _ rfl ?_)
  (conv => whnf)
  refine called_pure (.v (.bool true)) rfl (fun w' => by exact hawake_any w') ?_
  repeat' ((conv => whnf); first | refine walk (Try.ok ..) ?_ | (refine Cnd.mk (fun h => ?_) (fun h => ?_) <;> (first | exact cndT h (by (try dsimp only); omega) | exact cndF h (by (try dsimp only); omega) | (exfalso; simp at h; omega) | simp at h | skip)) | refine kp ?_ ?_ | refine tw ?_ ?_ | exact trivial | refine side2 ?_ | refine sideL2 ?_ | refine Or.inr ?_ | refine sat_drawH (Try.ok ..) (by kernel_rfl) ?_ | refine xi _ (And.intro rfl rfl) ?_ | refine xi _ (fun _ => And.intro rfl rfl) ?_ | refine xi _ rfl ?_)
  (conv => whnf)
  have hM := fun w' (h : Ro w' A l0.length 5 (stL l0)) => made_any l0 A cap w' h hok hl hc
  have hMl := madeH_len l0
  have hMa : ∀ (k : Nat) (a : HRow), (madeH l0)[k]? = some a → At k a := fun k a ha => made_at hok ha
  obtain ⟨M, eM⟩ : ∃ M, M = madeH l0 := ⟨_, rfl⟩
  rw [← eM] at hM hMl hMa
  refine called_row 26 (xs := rwL M) (m := M.length) (fun v => v) (fun A cap => .o 26 A M.length cap) (fun _ _ => rfl) (fun w' hh => by exact hM w' (ro_of_ro hh (id := 300) rfl)) ?_
  intro A9 c9
  repeat' ((conv => whnf); first | refine walk (Try.ok ..) ?_ | (refine Cnd.mk (fun h => ?_) (fun h => ?_) <;> (first | exact cndT h (by (try dsimp only); omega) | exact cndF h (by (try dsimp only); omega) | (exfalso; simp at h; omega) | simp at h | skip)) | refine kp ?_ ?_ | refine tw ?_ ?_ | exact trivial | refine side2 ?_ | refine sideL2 ?_ | refine Or.inr ?_ | refine sat_drawH (Try.ok ..) (by kernel_rfl) ?_ | refine xi _ (And.intro rfl rfl) ?_ | refine xi _ (fun _ => And.intro rfl rfl) ?_ | refine xi _ rfl ?_)
  refine sat_loop (Try.ok ..) (α := Nat × Option (Nat × Nat) × Nat) (fun s => ([(1, .yes, .v (.int .u8 row)), (2, .yes, .v (.int .u32 one)), (6, .yes, .v (.bool false)), (7, .yes, .o 52 s.2.1 s.1 s.2.2), (26, .yes, .o 26 A9 M.length c9), (27, .yes, .v (.int .i64 M.length)), (28, .yes, .v (.int .i64 (s.1 : Nat)))], [(26, .row A9 31 5 M.length c9 (rwL M)), (52, .row s.2.1 31 5 s.1 s.2.2 (rwL ((M.take s.1).map dblH)))]))
    (fun s => s.1 ≤ M.length) (fun s => M.length - s.1) (fun _ => rfl) ?_ ?_
  · refine ⟨(0, none, 0), by omega, ?_, ?_, rfl⟩
    all_goals ((repeat' (first | exact trivial | exact rfl | refine And.intro ?_ ?_)) <;> (try (conv => whnf)) <;> (try simp only [SV.real, SV.r2, SV.r1]))
  rintro ⟨k, Ak, ck⟩ hk
  dsimp only at hk
  by_cases hk1 : k < M.length
  · obtain ⟨a, ha⟩ : ∃ a, M[k]? = some a := ⟨_, List.getElem?_eq_getElem hk1⟩
    obtain ⟨⟨_, _⟩, ⟨_, _⟩, ⟨_, _⟩, ⟨_, _⟩, _, _⟩ := hMa k a ha
    repeat' ((conv => whnf); first | refine walk (Try.ok ..) ?_ | (refine Cnd.mk (fun h => ?_) (fun h => ?_) <;> (first | exact cndT h (by (try dsimp only); omega) | exact cndF h (by (try dsimp only); omega) | (exfalso; simp at h; omega) | simp at h | skip)) | refine kp ?_ ?_ | refine tw ?_ ?_ | exact trivial | refine side2 ?_ | refine sideL2 ?_ | refine Or.inr ?_ | refine sat_drawH (Try.ok ..) (by kernel_rfl) ?_ | refine xi _ (And.intro rfl rfl) ?_ | refine xi _ (fun _ => And.intro rfl rfl) ?_ | refine xi _ rfl ?_ | refine xi _ (fun _ => (rw_cells ha rfl)) ?_ | refine xi _ (rw_cells ha rfl) ?_)
    (conv => whnf)
    intro g9 hg9
    repeat' ((conv => whnf); first | refine walk (Try.ok ..) ?_ | (refine Cnd.mk (fun h => ?_) (fun h => ?_) <;> (first | exact cndT h (by (try dsimp only); omega) | exact cndF h (by (try dsimp only); omega) | (exfalso; simp at h; omega) | simp at h | skip)) | refine kp ?_ ?_ | refine tw ?_ ?_ | exact trivial | refine side2 ?_ | refine sideL2 ?_ | refine Or.inr ?_ | refine sat_drawH (Try.ok ..) (by kernel_rfl) ?_ | refine xi _ (And.intro rfl rfl) ?_ | refine xi _ (fun _ => And.intro rfl rfl) ?_ | refine xi _ rfl ?_)
    (conv => whnf)
    intro g51 hg51
    repeat' ((conv => whnf); first | refine walk (Try.ok ..) ?_ | (refine Cnd.mk (fun h => ?_) (fun h => ?_) <;> (first | exact cndT h (by (try dsimp only); omega) | exact cndF h (by (try dsimp only); omega) | (exfalso; simp at h; omega) | simp at h | skip)) | refine kp ?_ ?_ | refine tw ?_ ?_ | exact trivial | refine side2 ?_ | refine sideL2 ?_ | refine Or.inr ?_ | refine sat_drawH (Try.ok ..) (by kernel_rfl) ?_ | refine xi _ (And.intro rfl rfl) ?_ | refine xi _ (fun _ => And.intro rfl rfl) ?_ | refine xi _ rfl ?_)
    (conv => whnf)
    intro A2 c2
    repeat' ((conv => whnf); first | refine walk (Try.ok ..) ?_ | (refine Cnd.mk (fun h => ?_) (fun h => ?_) <;> (first | exact cndT h (by (try dsimp only); omega) | exact cndF h (by (try dsimp only); omega) | (exfalso; simp at h; omega) | simp at h | skip)) | refine kp ?_ ?_ | refine tw ?_ ?_ | exact trivial | refine side2 ?_ | refine sideL2 ?_ | refine Or.inr ?_ | refine sat_drawH (Try.ok ..) (by kernel_rfl) ?_ | refine xi _ (And.intro rfl rfl) ?_ | refine xi _ (fun _ => And.intro rfl rfl) ?_ | refine xi _ rfl ?_)
    have hMs : (M.take (k + 1)).map dblH = (M.take k).map dblH ++ [dblH a] := by rw [List.take_add_one, ha, List.map_append]; rfl
    refine ⟨(k + 1, A2, c2), ⟨by dsimp only; omega, by dsimp only; omega⟩, ?_, ?_, rfl⟩
    · ((repeat' (first | exact trivial | exact rfl | refine And.intro ?_ ?_)) <;> (try (conv => whnf)) <;> (try simp only [SV.real, SV.r2, SV.r1]))
    · dsimp only
      rw [hMs, rwL_app]
      ((repeat' (first | exact trivial | exact rfl | refine And.intro ?_ ?_)) <;> (try (conv => whnf)) <;> (try simp only [SV.real, SV.r2, SV.r1]))
  obtain rfl : k = M.length := by omega
  have hLl : (M.map dblH).length = M.length := List.length_map ..
  have hLe : ∀ (j : Nat) (r : HRow), (M.map dblH)[j]? = some r → Even r := by
    intro j r hr
    rw [List.getElem?_map, Option.map_eq_some_iff] at hr
    obtain ⟨a, _, rfl⟩ := hr
    exact dbl_even a
  rw [List.take_of_length_le (Nat.le_refl M.length)]
  obtain ⟨L, eL⟩ : ∃ L, L = M.map dblH := ⟨_, rfl⟩
  rw [← eL] at hLl hLe ⊢
  repeat' ((conv => whnf); first | refine walk (Try.ok ..) ?_ | (refine Cnd.mk (fun h => ?_) (fun h => ?_) <;> (first | exact cndT h (by (try dsimp only); omega) | exact cndF h (by (try dsimp only); omega) | (exfalso; simp at h; omega) | simp at h | skip)) | refine kp ?_ ?_ | refine tw ?_ ?_ | exact trivial | refine side2 ?_ | refine sideL2 ?_ | refine Or.inr ?_ | refine xi _ (And.intro rfl rfl) ?_ | refine xi _ (fun _ => And.intro rfl rfl) ?_ | refine xi _ rfl ?_)
  (conv => whnf)
  refine sat_to ([(1, .yes, .v (.int .u8 row)), (2, .yes, .v (.int .u32 one)), (6, .yes, .v (.bool false)), (7, .yes, .o 52 Ak L.length ck)], [(52, .row Ak 31 5 L.length ck (rwL L))]) rfl ?_ ?_ rfl ?_
  · dsimp only
    rw [hLl]
    ((repeat' (first | exact trivial | exact rfl | refine And.intro ?_ ?_)) <;> (try (conv => whnf)) <;> (try simp only [SV.real, SV.r2, SV.r1]))
  · dsimp only
    rw [hLl]
    ((repeat' (first | exact trivial | exact rfl | refine And.intro ?_ ?_)) <;> (try (conv => whnf)) <;> (try simp only [SV.real, SV.r2, SV.r1]))
  refine sat_row 52 rfl (fun hcap hsome => ?_)
  obtain ⟨pA, rfl⟩ := hsome (by omega)
  have hL9 : L.length ≤ 9223372036854775807 := by omega
  have hRt := fun A cap w' hA => hRight_any L A cap w' hA hL9
  refine sat_ops (Try.ok ..) ?_
  (conv => whnf)
  cases hR : rightH L with
  | false =>
    rw [hR] at hRt
    refine called_at (.v (.bool false)) rfl (fun w' hh => by exact hRt (some pA) ck w' (ro_of_row hh (id := 52) rfl)) ?_
    repeat' ((conv => whnf); first | refine walk (Try.ok ..) ?_ | (refine Cnd.mk (fun h => ?_) (fun h => ?_) <;> (first | exact cndT h (by (try dsimp only); omega) | exact cndF h (by (try dsimp only); omega) | (exfalso; simp at h; omega) | simp at h | skip)) | refine kp ?_ ?_ | refine tw ?_ ?_ | exact trivial | refine side2 ?_ | refine sideL2 ?_ | refine Or.inr ?_ | refine sat_drawH (Try.ok ..) (by kernel_rfl) ?_ | refine xi _ (And.intro rfl rfl) ?_ | refine xi _ (fun _ => And.intro rfl rfl) ?_ | refine xi _ rfl ?_)
    exact done_pure rfl rfl rfl
  | true =>
  rw [hR] at hRt
  refine called_at (.v (.bool true)) rfl (fun w' hh => by exact hRt (some pA) ck w' (ro_of_row hh (id := 52) rfl)) ?_
  have hnz : (L.length : Int) - 1 ≠ 0 := by omega
  obtain ⟨i, hi, hi1⟩ : ∃ i : Nat, row % ((L.length : Int) - 1) = i ∧ i + 1 < L.length := by
    have e1 := Int.emod_nonneg row hnz
    have e2 := Int.emod_lt_of_pos row (show 0 < (L.length : Int) - 1 by omega)
    exact ⟨(row % ((L.length : Int) - 1)).toNat, by omega, by omega⟩
  repeat' ((conv => whnf); first | refine walk (Try.ok ..) ?_ | (refine Cnd.mk (fun h => ?_) (fun h => ?_) <;> (first | exact cndT h (by (try dsimp only); omega) | exact cndF h (by (try dsimp only); omega) | (exfalso; simp at h; omega) | simp at h | skip)) | refine kp ?_ ?_ | refine tw ?_ ?_ | exact trivial | refine side2 ?_ | refine sideL2 ?_ | refine Or.inr ?_ | refine xi _ (And.intro rfl rfl) ?_ | refine xi _ (fun _ => And.intro rfl rfl) ?_ | refine xi _ rfl ?_)
  (conv => whnf)
  refine sat_to ([(1, .yes, .v (.int .u8 row)), (2, .yes, .v (.int .u32 one)), (6, .yes, .v (.bool false)), (7, .yes, .o 52 (some pA) L.length ck)], [(52, .row (some pA) 31 5 L.length ck (rwL L))]) rfl ?_ ?_ rfl ?_
  · ((repeat' (first | exact trivial | exact rfl | refine And.intro ?_ ?_)) <;> (try (conv => whnf)) <;> (try simp only [SV.real, SV.r2, SV.r1]))
  · ((repeat' (first | exact trivial | exact rfl | refine And.intro ?_ ?_)) <;> (try (conv => whnf)) <;> (try simp only [SV.real, SV.r2, SV.r1]))
  refine sat_ops (Try.ok ..) ?_
  repeat' ((conv => whnf); first | refine walk (Try.ok ..) ?_ | (refine Cnd.mk (fun h => ?_) (fun h => ?_) <;> (first | exact cndT h (by (try dsimp only); omega) | exact cndF h (by (try dsimp only); omega) | (exfalso; simp at h; omega) | simp at h | skip)) | refine kp ?_ ?_ | refine tw ?_ ?_ | exact trivial | refine side2 ?_ | refine sideL2 ?_ | refine Or.inr ?_ | refine xi _ (And.intro rfl rfl) ?_ | refine xi _ (fun _ => And.intro rfl rfl) ?_ | refine xi _ rfl ?_)
  (conv => whnf)
  refine sat_to ([(2, .yes, .v (.int .u32 one)), (6, .yes, .v (.bool false)), (7, .yes, .o 52 (some pA) L.length ck), (10, .yes, .v (.int .i64 (i : Nat)))], [(52, .row (some pA) 31 5 L.length ck (rwL L))]) rfl ?_ ?_ rfl ?_
  · ((repeat' (first | exact trivial | exact rfl | refine And.intro ?_ ?_)) <;> (try (conv => whnf)) <;> (try simp only [SV.real, SV.r2, SV.r1]))
    exact congrArg (Value.int .i64) hi
  · ((repeat' (first | exact trivial | exact rfl | refine And.intro ?_ ?_)) <;> (try (conv => whnf)) <;> (try simp only [SV.real, SV.r2, SV.r1]))
  obtain ⟨a, ha⟩ : ∃ a, L[i]? = some a := ⟨_, List.getElem?_eq_getElem (by omega)⟩
  obtain ⟨b, hb⟩ : ∃ b, L[i + 1]? = some b := ⟨_, List.getElem?_eq_getElem hi1⟩
  have hP : Pair L i a b := ⟨hR, ha, hb⟩
  have hm := mid_is (hLe i a ha) (hLe (i + 1) b hb)
  obtain ⟨⟨_, _⟩, ⟨_, _⟩, ⟨_, _⟩, ⟨_, _⟩, _, _⟩ := ok_row ((right_is hR).row _ a ha)
  obtain ⟨⟨_, _⟩, ⟨_, _⟩, ⟨_, _⟩, ⟨_, _⟩, _, _⟩ := ok_row ((right_is hR).row _ b hb)
  refine sat_join0 (fun (s : Nat × Nat) => ([(2, .yes, .v (.int .u32 one)), (6, .yes, .v (.bool false)), (7, .yes, .o 52 (some pA) L.length ck), (10, .yes, .v (.int .i64 (i : Nat))), (11, .yes, .p 11 s.1 0 0), (12, .yes, .p 12 s.2 0 0)], [(11, .blk s.1 31 (rwC a)), (12, .blk s.2 31 (rwC b)), (52, .row (some pA) 31 5 L.length ck (rwL L))])) (fun _ => True) (fun _ => rfl) ?_ ?_
  · refine sat_drawH (Try.ok ..) (by kernel_rfl) ?_
    repeat' ((conv => whnf); first | refine walk (Try.ok ..) ?_ | (refine Cnd.mk (fun h => ?_) (fun h => ?_) <;> (first | exact cndT h (by (try dsimp only); omega) | exact cndF h (by (try dsimp only); omega) | (exfalso; simp at h; omega) | simp at h | skip)) | refine kp ?_ ?_ | refine tw ?_ ?_ | exact trivial | refine side2 ?_ | refine sideL2 ?_ | refine Or.inr ?_ | refine sat_drawH (Try.ok ..) (by kernel_rfl) ?_ | refine xi _ (And.intro rfl rfl) ?_ | refine xi _ (fun _ => And.intro rfl rfl) ?_ | refine xi _ rfl ?_ | refine xi _ (fun _ => (rw_cells ha rfl)) ?_ | refine xi _ (rw_cells ha rfl) ?_ | refine xi _ (fun _ => (rw_cells hb (by omega))) ?_ | refine xi _ (rw_cells hb (by omega)) ?_ | intro g hg | (exact ⟨(_, _), trivial, by ((repeat' (first | exact trivial | exact rfl | refine And.intro ?_ ?_)) <;> (try (conv => whnf)) <;> (try simp only [SV.real, SV.r2, SV.r1])), by ((repeat' (first | exact trivial | exact rfl | refine And.intro ?_ ?_)) <;> (try (conv => whnf)) <;> (try simp only [SV.real, SV.r2, SV.r1])), rfl⟩))
  rintro ⟨g11, g12⟩ -
  have w2 : IntKind.i64.wrap ((a.b + b.b).tdiv 2) = (a.b + b.b).tdiv 2 := wrap_in (by have := hm.b; unfold midH at this; dsimp only at this; simp only [InR]; omega)
  have hLn := rwL_len L
  have e13 : 0 + ((i : Int) + 1).toNat + 1 = i + 2 := by omega
  have hin : ((i : Int) + 1).toNat * 5 ≤ (rwL L).length := by omega
  have htk : List.take (((i : Int) + 1).toNat * 5) (rwL L) = rwL (L.take (i + 1)) := by rw [show ((i : Int) + 1).toNat = i + 1 from by omega, rwL_tk]
  have hall : allV (List.take (((i : Int) + 1).toNat * 5) (rwL L)) = true := by rw [htk]; exact rwL_allV _
  repeat' ((conv => whnf); first | refine walk (Try.ok ..) ?_ | (refine Cnd.mk (fun h => ?_) (fun h => ?_) <;> (first | exact cndT h (by (try dsimp only); omega) | exact cndF h (by (try dsimp only); omega) | (exfalso; simp at h; omega) | simp at h | skip)) | refine kp ?_ ?_ | refine tw ?_ ?_ | exact trivial | refine side2 ?_ | refine sideL2 ?_ | refine Or.inr ?_ | refine xi _ (And.intro rfl rfl) ?_ | refine xi _ (fun _ => And.intro rfl rfl) ?_ | refine xi _ rfl ?_)
  (conv => whnf)
  refine sat_join0 (fun (s : Option (Nat × Nat) × Nat) => ([(2, .yes, .v (.int .u32 one)), (6, .yes, .v (.bool false)), (7, .yes, .o 52 (some pA) L.length ck), (10, .yes, .v (.int .i64 (i : Nat))), (13, .yes, .o 72 s.1 (i + 2) s.2)], [(52, .row (some pA) 31 5 L.length ck (rwL L)), (72, .row s.1 31 5 (i + 2) s.2 (rwL (L.take (i + 1) ++ [midH a b])))])) (fun _ => True) (fun _ => rfl) ?_ ?_
  · refine sat_drawH (Try.ok ..) (by kernel_rfl) ?_
    repeat' ((conv => whnf); first | refine walk (Try.ok ..) ?_ | (refine Cnd.mk (fun h => ?_) (fun h => ?_) <;> (first | exact cndT h (by (try dsimp only); omega) | exact cndF h (by (try dsimp only); omega) | (exfalso; simp at h; omega) | simp at h | skip)) | refine kp ?_ ?_ | refine tw ?_ ?_ | exact trivial | refine side2 ?_ | refine sideL2 ?_ | refine Or.inr ?_ | refine sat_drawH (Try.ok ..) (by kernel_rfl) ?_ | refine xi _ (And.intro rfl rfl) ?_ | refine xi _ (fun _ => And.intro rfl rfl) ?_ | refine xi _ rfl ?_ | intro g hg | (refine And.intro hin ?_) | (refine And.intro hall ?_))
    all_goals (refine ⟨(g, hg), trivial, ?_, ?_, rfl⟩)
    all_goals ((repeat' (first | exact trivial | exact rfl | refine And.intro ?_ ?_)) <;> (try (conv => whnf)) <;> (try simp only [SV.real, SV.r2, SV.r1]))
    all_goals (first | omega | (rw [e13]) | (rw [htk, rwL_app]; refine congrArg (rwL (L.take (i + 1)) ++ ·) ?_; show [Value.int .i64 ((a.d + b.d) / 2), .int .i64 ((a.k + b.k) / 2), .int .i64 (IntKind.i64.wrap ((a.b + b.b).tdiv 2)), .int .i64 ((a.m + b.m) / 2), .int .i64 ((a.t + b.t) / 2)] = _; rw [w2]; rfl))
  rintro ⟨Am, cm⟩ -
  have hsrc : mulS ((i : Int) + 1).toNat 5 + ((L.length : Int) - ((i : Int) + 1)).toNat * 5 ≤ (rwL L).length := by rw [mulS_eq]; omega
  have hnews : List.take (((L.length : Int) - ((i : Int) + 1)).toNat * 5) (List.drop (mulS ((i : Int) + 1).toNat 5) (rwL L)) = rwL (L.drop (i + 1)) := by
    rw [mulS_eq, show ((i : Int) + 1).toNat = i + 1 from by omega, rwL_dr, List.take_of_length_le]
    rw [rwL_len, List.length_drop]
    omega
  have hall2 : allV (List.take (((L.length : Int) - ((i : Int) + 1)).toNat * 5) (List.drop (mulS ((i : Int) + 1).toNat 5) (rwL L))) = true := by rw [hnews]; exact rwL_allV _
  have hPl := more_len (m := midH a b) hi1
  have hPr := more_right hP (hLe i a ha) (hLe (i + 1) b hb) hm (by omega)
  have hPd : rwL (L.take (i + 1) ++ [midH a b]) ++ rwL (L.drop (i + 1)) = rwL (moreH L i (midH a b)) := by unfold moreH; rw [rwL_app (L.take (i + 1) ++ [midH a b])]
  obtain ⟨f, hf⟩ : ∃ a, L[0]? = some a := ⟨_, List.getElem?_eq_getElem (by omega)⟩
  obtain ⟨g, hg⟩ : ∃ b, L[L.length - 1]? = some b := ⟨_, List.getElem?_eq_getElem (by omega)⟩
  obtain ⟨_, ⟨_, _⟩, _, _, _⟩ := ok_row ((right_is hR).row _ f hf)
  obtain ⟨_, ⟨_, _⟩, _, _, _⟩ := ok_row ((right_is hR).row _ g hg)
  have hfgk := ((right_is hR).lt_of (by omega) hf hg).2
  have hwin : f.k ≤ withinH L one ∧ withinH L one ≤ g.k := by
    unfold withinH
    rw [range_yes hR hf hg]
    dsimp only
    have e1 := Int.emod_nonneg one (show g.k - f.k + 1 ≠ 0 by omega)
    have e2 := Int.emod_lt_of_pos one (show 0 < g.k - f.k + 1 by omega)
    omega
  have hW1 := fun A cap w' hA => hwithin_any L A cap one w' hA hR h1
  obtain ⟨x, ex⟩ : ∃ x, x = withinH L one := ⟨_, rfl⟩
  rw [← ex] at hW1 hwin
  obtain ⟨X, y, z, tt, hmo⟩ := more_ok hP (hLe i a ha) (hLe (i + 1) b hb) hm (by omega) (x := x) (fun a ha => by rw [hf] at ha; cases ha; exact hwin.1) (fun b hb => by rw [hg] at hb; cases hb; exact hwin.2)
  obtain ⟨P, eP⟩ : ∃ P, P = moreH L i (midH a b) := ⟨_, rfl⟩
  rw [← eP] at hPl hPr hPd hmo
  have hP9 : P.length ≤ 9223372036854775807 := by omega
  have hA1 := fun A cap w' hA => at_any L x A cap w' hA hL9 (by refine ⟨?_, ?_⟩ <;> omega)
  rw [hmo.one] at hA1
  have hA2 := fun A cap w' hA => at_any P x A cap w' hA hP9 (by refine ⟨?_, ?_⟩ <;> omega)
  rw [hmo.two] at hA2
  have b4 : ∀ v ∈ [X, y, z, tt], Big v := by
    obtain ⟨q0, q1, q2, q3, e4, hb4⟩ := at_four L x
    rw [hmo.one] at e4
    dsimp only at e4
    rw [e4]
    exact hb4
  have bX : Big X := b4 X (by simp)
  have hw1 := fun A cap w' hA => weight_any L X A cap w' hA hL9 bX
  rw [hmo.back] at hw1
  have hw2 := fun A cap w' hA => weight_any P X A cap w' hA hP9 bX
  rw [hmo.back2] at hw2
  have lC : (v4C [X, y, z, tt]).length = 68 := by rw [v4_len]; rfl
  have aC := v4_all [X, y, z, tt]
  have fC : List.take 17 (List.drop 0 (v4C [X, y, z, tt])) = frC X := v4_at (i := 0) rfl
  have sC : ∀ w, (Op.equal 45 (SV.a (List.take 68 (List.drop 0 (v4C [X, y, z, tt])))).real (SV.a (List.take 68 (List.drop 0 (v4C [X, y, z, tt])))).real).run Try.prog w = .ok true w := fun w => by rw [tk68 _ rfl]; exact eqV4_same b4 w
  unfold v4V at hA1 hA2
  dsimp only at hA1 hA2
  obtain ⟨C, eC⟩ : ∃ C, C = v4C [X, y, z, tt] := ⟨_, rfl⟩
  rw [← eC] at lC aC fC sC hA1 hA2
  have lo := frC_len (ofF x)
  clear b4 hmo eC eP ex
  repeat' ((conv => whnf); first | refine walk (Try.ok ..) ?_ | (refine Cnd.mk (fun h => ?_) (fun h => ?_) <;> (first | exact cndT h (by (try dsimp only); omega) | exact cndF h (by (try dsimp only); omega) | (exfalso; simp at h; omega) | simp at h | skip)) | refine kp ?_ ?_ | refine tw ?_ ?_ | exact trivial | refine side2 ?_ | refine sideL2 ?_ | refine Or.inr ?_ | refine sat_drawH (Try.ok ..) (by kernel_rfl) ?_ | refine xi _ (And.intro rfl rfl) ?_ | refine xi _ (fun _ => And.intro rfl rfl) ?_ | refine xi _ rfl ?_ | (refine And.intro hsrc ?_) | (refine And.intro hall2 ?_))
  (conv => whnf)
  intro A3 c3
  repeat' ((conv => whnf); first | refine walk (Try.ok ..) ?_ | (refine Cnd.mk (fun h => ?_) (fun h => ?_) <;> (first | exact cndT h (by (try dsimp only); omega) | exact cndF h (by (try dsimp only); omega) | (exfalso; simp at h; omega) | simp at h | skip)) | refine kp ?_ ?_ | refine tw ?_ ?_ | exact trivial | refine side2 ?_ | refine sideL2 ?_ | refine Or.inr ?_ | refine xi _ (And.intro rfl rfl) ?_ | refine xi _ (fun _ => And.intro rfl rfl) ?_ | refine xi _ rfl ?_)
  (conv => whnf)
  refine sat_to ([(2, .yes, .v (.int .u32 one)), (6, .yes, .v (.bool false)), (7, .yes, .o 52 (some pA) L.length ck), (13, .yes, .o 72 A3 P.length c3)], [(52, .row (some pA) 31 5 L.length ck (rwL L)), (72, .row A3 31 5 P.length c3 (rwL P))]) rfl ?_ ?_ rfl ?_
  · ((repeat' (first | exact trivial | exact rfl | refine And.intro ?_ ?_)) <;> (try (conv => whnf)) <;> (try simp only [SV.real, SV.r2, SV.r1]))
    rw [show i + 2 + ((L.length : Int) - ((i : Int) + 1)).toNat = P.length from by omega]
  · ((repeat' (first | exact trivial | exact rfl | refine And.intro ?_ ?_)) <;> (try (conv => whnf)) <;> (try simp only [SV.real, SV.r2, SV.r1]))
    · show i + 2 + ((L.length : Int) - ((i : Int) + 1)).toNat = P.length
      omega
    · rw [hnews, hPd]
  refine sat_ops (Try.ok ..) ?_
  (conv => whnf)
  refine called_at (.v (.int .i64 x)) rfl (fun w' hh => by exact hW1 _ ck w' (ro_of_row hh (id := 52) rfl)) ?_
  repeat' ((conv => whnf); first | refine walk (Try.ok ..) ?_ | (refine Cnd.mk (fun h => ?_) (fun h => ?_) <;> (first | exact cndT h (by (try dsimp only); omega) | exact cndF h (by (try dsimp only); omega) | (exfalso; simp at h; omega) | simp at h | skip)) | refine kp ?_ ?_ | refine tw ?_ ?_ | exact trivial | refine side2 ?_ | refine sideL2 ?_ | refine Or.inr ?_ | refine sat_drawH (Try.ok ..) (by kernel_rfl) ?_ | refine xi _ (And.intro rfl rfl) ?_ | refine xi _ (fun _ => And.intro rfl rfl) ?_ | refine xi _ rfl ?_)
  (conv => whnf)
  refine called_at (.t [.a C, .v (.int .i64 0)]) rfl (fun w' hh => by exact hA1 _ ck w' (ro_of_row hh (id := 52) rfl)) ?_
  repeat' ((conv => whnf); first | refine walk (Try.ok ..) ?_ | (refine Cnd.mk (fun h => ?_) (fun h => ?_) <;> (first | exact cndT h (by (try dsimp only); omega) | exact cndF h (by (try dsimp only); omega) | (exfalso; simp at h; omega) | simp at h | skip)) | refine kp ?_ ?_ | refine tw ?_ ?_ | exact trivial | refine side2 ?_ | refine sideL2 ?_ | refine Or.inr ?_ | refine sat_drawH (Try.ok ..) (by kernel_rfl) ?_ | refine xi _ (And.intro rfl rfl) ?_ | refine xi _ (fun _ => And.intro rfl rfl) ?_ | refine xi _ rfl ?_)
  (conv => whnf)
  intro g15 hg15
  repeat' ((conv => whnf); first | refine walk (Try.ok ..) ?_ | (refine Cnd.mk (fun h => ?_) (fun h => ?_) <;> (first | exact cndT h (by (try dsimp only); omega) | exact cndF h (by (try dsimp only); omega) | (exfalso; simp at h; omega) | simp at h | skip)) | refine kp ?_ ?_ | refine tw ?_ ?_ | exact trivial | refine side2 ?_ | refine sideL2 ?_ | refine Or.inr ?_ | refine sat_drawH (Try.ok ..) (by kernel_rfl) ?_ | refine xi _ (And.intro rfl rfl) ?_ | refine xi _ (fun _ => And.intro rfl rfl) ?_ | refine xi _ rfl ?_ | (refine And.intro ⟨rfl, lC, lC, aC⟩ ?_))
  (conv => whnf)
  refine called_at (.t [.a C, .v (.int .i64 0)]) rfl (fun w' hh => by exact hA2 A3 c3 w' (ro_of_row hh (id := 72) rfl)) ?_
  repeat' ((conv => whnf); first | refine walk (Try.ok ..) ?_ | (refine Cnd.mk (fun h => ?_) (fun h => ?_) <;> (first | exact cndT h (by (try dsimp only); omega) | exact cndF h (by (try dsimp only); omega) | (exfalso; simp at h; omega) | simp at h | skip)) | refine kp ?_ ?_ | refine tw ?_ ?_ | exact trivial | refine side2 ?_ | refine sideL2 ?_ | refine Or.inr ?_ | refine sat_drawH (Try.ok ..) (by kernel_rfl) ?_ | refine xi _ (And.intro rfl rfl) ?_ | refine xi _ (fun _ => And.intro rfl rfl) ?_ | refine xi _ rfl ?_)
  (conv => whnf)
  intro g17 hg17
  repeat' ((conv => whnf); first | refine walk (Try.ok ..) ?_ | (refine Cnd.mk (fun h => ?_) (fun h => ?_) <;> (first | exact cndT h (by (try dsimp only); omega) | exact cndF h (by (try dsimp only); omega) | (exfalso; simp at h; omega) | simp at h | skip)) | refine kp ?_ ?_ | refine tw ?_ ?_ | exact trivial | refine side2 ?_ | refine sideL2 ?_ | refine Or.inr ?_ | refine sat_drawH (Try.ok ..) (by kernel_rfl) ?_ | refine xi _ (And.intro rfl rfl) ?_ | refine xi _ (fun _ => And.intro rfl rfl) ?_ | refine xi _ rfl ?_ | (refine And.intro ⟨rfl, lC, lC, aC⟩ ?_))
  (conv => whnf)
  refine called_at (.t [.a (frC (ofF x)), .v (.int .i64 0)]) rfl (fun w' hh => by rw [fC]; exact hw1 _ ck w' (ro_of_row hh (id := 52) rfl)) ?_
  repeat' ((conv => whnf); first | refine walk (Try.ok ..) ?_ | (refine Cnd.mk (fun h => ?_) (fun h => ?_) <;> (first | exact cndT h (by (try dsimp only); omega) | exact cndF h (by (try dsimp only); omega) | (exfalso; simp at h; omega) | simp at h | skip)) | refine kp ?_ ?_ | refine tw ?_ ?_ | exact trivial | refine side2 ?_ | refine sideL2 ?_ | refine Or.inr ?_ | refine sat_drawH (Try.ok ..) (by kernel_rfl) ?_ | refine xi _ (And.intro rfl rfl) ?_ | refine xi _ (fun _ => And.intro rfl rfl) ?_ | refine xi _ rfl ?_)
  (conv => whnf)
  intro g19 hg19
  repeat' ((conv => whnf); first | refine walk (Try.ok ..) ?_ | (refine Cnd.mk (fun h => ?_) (fun h => ?_) <;> (first | exact cndT h (by (try dsimp only); omega) | exact cndF h (by (try dsimp only); omega) | (exfalso; simp at h; omega) | simp at h | skip)) | refine kp ?_ ?_ | refine tw ?_ ?_ | exact trivial | refine side2 ?_ | refine sideL2 ?_ | refine Or.inr ?_ | refine sat_drawH (Try.ok ..) (by kernel_rfl) ?_ | refine xi _ (And.intro rfl rfl) ?_ | refine xi _ (fun _ => And.intro rfl rfl) ?_ | refine xi _ rfl ?_)
  (conv => whnf)
  refine called_at (.t [.a (frC (ofF x)), .v (.int .i64 0)]) rfl (fun w' hh => by rw [fC]; exact hw2 A3 c3 w' (ro_of_row hh (id := 72) rfl)) ?_
  repeat' ((conv => whnf); first | refine walk (Try.ok ..) ?_ | (refine Cnd.mk (fun h => ?_) (fun h => ?_) <;> (first | exact cndT h (by (try dsimp only); omega) | exact cndF h (by (try dsimp only); omega) | (exfalso; simp at h; omega) | simp at h | skip)) | refine kp ?_ ?_ | refine tw ?_ ?_ | exact trivial | refine side2 ?_ | refine sideL2 ?_ | refine Or.inr ?_ | refine sat_drawH (Try.ok ..) (by kernel_rfl) ?_ | refine xi _ (And.intro rfl rfl) ?_ | refine xi _ (fun _ => And.intro rfl rfl) ?_ | refine xi _ rfl ?_)
  (conv => whnf)
  intro g21 hg21
  repeat' ((conv => whnf); first | refine walk (Try.ok ..) ?_ | (refine Cnd.mk (fun h => ?_) (fun h => ?_) <;> (first | exact cndT h (by (try dsimp only); omega) | exact cndF h (by (try dsimp only); omega) | (exfalso; simp at h; omega) | simp at h | skip)) | refine kp ?_ ?_ | refine tw ?_ ?_ | exact trivial | refine side2 ?_ | refine sideL2 ?_ | refine Or.inr ?_ | refine sat_drawH (Try.ok ..) (by kernel_rfl) ?_ | refine xi _ (And.intro rfl rfl) ?_ | refine xi _ (fun _ => And.intro rfl rfl) ?_ | refine xi _ rfl ?_)
  refine eqAgg_eql true eqV4_g (fun w => by exact sC w) ?_
  repeat' ((conv => whnf); first | refine walk (Try.ok ..) ?_ | (refine Cnd.mk (fun h => ?_) (fun h => ?_) <;> (first | exact cndT h (by (try dsimp only); omega) | exact cndF h (by (try dsimp only); omega) | (exfalso; simp at h; omega) | simp at h | skip)) | refine kp ?_ ?_ | refine tw ?_ ?_ | exact trivial | refine side2 ?_ | refine sideL2 ?_ | refine Or.inr ?_ | refine sat_drawH (Try.ok ..) (by kernel_rfl) ?_ | refine xi _ (And.intro rfl rfl) ?_ | refine xi _ (fun _ => And.intro rfl rfl) ?_ | refine xi _ rfl ?_)
  refine eqAgg_eql true eqgFr1 (fun w => by exact fr_same2 (ofF_big _) w) ?_
  repeat' ((conv => whnf); first | refine walk (Try.ok ..) ?_ | (refine Cnd.mk (fun h => ?_) (fun h => ?_) <;> (first | exact cndT h (by (try dsimp only); omega) | exact cndF h (by (try dsimp only); omega) | (exfalso; simp at h; omega) | simp at h | skip)) | refine kp ?_ ?_ | refine tw ?_ ?_ | exact trivial | refine side2 ?_ | refine sideL2 ?_ | refine Or.inr ?_ | refine sat_drawH (Try.ok ..) (by kernel_rfl) ?_ | refine xi _ (And.intro rfl rfl) ?_ | refine xi _ (fun _ => And.intro rfl rfl) ?_ | refine xi _ rfl ?_)
  refine calledQ_pure (.a (frC (ofF x))) rfl (fun _ w' => by exact of_frac x w' (by refine ⟨?_, ?_⟩ <;> omega)) ?_
  repeat' ((conv => whnf); first | refine walk (Try.ok ..) ?_ | (refine Cnd.mk (fun h => ?_) (fun h => ?_) <;> (first | exact cndT h (by (try dsimp only); omega) | exact cndF h (by (try dsimp only); omega) | (exfalso; simp at h; omega) | simp at h | skip)) | refine kp ?_ ?_ | refine tw ?_ ?_ | exact trivial | refine side2 ?_ | refine sideL2 ?_ | refine Or.inr ?_ | refine sat_drawH (Try.ok ..) (by kernel_rfl) ?_ | refine xi _ (And.intro rfl rfl) ?_ | refine xi _ (fun _ => And.intro rfl rfl) ?_ | refine xi _ rfl ?_)
  refine eqAgg_eql true eqgFr1 (fun w => by exact fr_same (ofF_big _) w) ?_
  repeat' ((conv => whnf); first | refine walk (Try.ok ..) ?_ | (refine Cnd.mk (fun h => ?_) (fun h => ?_) <;> (first | exact cndT h (by (try dsimp only); omega) | exact cndF h (by (try dsimp only); omega) | (exfalso; simp at h; omega) | simp at h | skip)) | refine kp ?_ ?_ | refine tw ?_ ?_ | exact trivial | refine side2 ?_ | refine sideL2 ?_ | refine Or.inr ?_ | refine sat_drawH (Try.ok ..) (by kernel_rfl) ?_ | refine xi _ (And.intro rfl rfl) ?_ | refine xi _ (fun _ => And.intro rfl rfl) ?_ | refine xi _ rfl ?_)
  exact done_pure rfl rfl rfl
end Go.Proofs.Ytomhfakkebaciaa
