/-
  The walks of the laws' own tables.
-/
import Derived.Test.YtomhfakkebaciaaH16
import Derived.Test.YtomhfakkebaciaaHD
set_option linter.unusedSimpArgs false
set_option linter.unusedVariables false
namespace Go.Proofs.Ytomhfakkebaciaa
open Go Sat Go.RowKit Go.PlainAid
def stW (x : St) : List Value := [.int .u16 x.d, .int .u16 x.k, .int .i16 x.b, .int .i16 x.m, .int .i16 x.t]
def stC (x : St) : List SV := [.v (.int .u16 x.d), .v (.int .u16 x.k), .v (.int .i16 x.b), .v (.int .i16 x.m), .v (.int .i16 x.t)]
def stL (l : List St) : List Value := l.flatMap stW
theorem stL_len (l : List St) : (stL l).length = l.length * 5 := by
  induction l with
  | nil => rfl
  | cons r l ih => simp only [stL, List.flatMap_cons, List.length_append, List.length_cons] at ih ⊢; rw [ih]; show 5 + _ = _; omega
theorem stL_at {l : List St} {k : Nat} {r : St} (h : l[k]? = some r) : ((stL l).drop (k * 5)).take 5 = stW r := by
  induction l generalizing k with
  | nil => simp at h
  | cons x l ih =>
    cases k with
    | zero => simp at h; subst h; simp [stL, stW]
    | succ k =>
      simp only [List.getElem?_cons_succ] at h
      have := ih h
      rw [show (k + 1) * 5 = 5 + k * 5 from by omega, ← List.drop_drop]
      exact this
theorem st_cells {l : List St} {i : Int} {k : Nat} {r : St} (h : l[k]? = some r) (hi : i = k) : (stW r).length = 5 ∧ ∀ j, j < 5 → (stL l)[mulS i.toNat 5 + j]? = (stW r)[j]? := by
  refine ⟨rfl, fun j hj => ?_⟩
  rw [← stL_at h, List.getElem?_take, if_pos hj, List.getElem?_drop, mulS_eq, hi, Int.toNat_natCast]
theorem stL_all (l : List St) : allV (stL l) = true := allV_of fun u hu => by
  obtain ⟨r, _, hr⟩ := List.mem_flatMap.1 hu
  simp only [stW, List.mem_cons, List.not_mem_nil, or_false] at hr
  rcases hr with rfl | rfl | rfl | rfl | rfl <;> rfl
theorem stL_take (l : List St) (n : Nat) : (stL l).take (n * 5) = stL (l.take n) := by
  induction l generalizing n with
  | nil => simp [stL]
  | cons x l ih =>
    cases n with
    | zero => simp [stL]
    | succ n =>
      have := ih n
      unfold stL at this ⊢
      rw [List.take_succ_cons, List.flatMap_cons, List.flatMap_cons, ← this, show (n + 1) * 5 = (stW x).length + n * 5 from by show _ = 5 + _; omega, List.take_length_add_append]
theorem stW_v (r : St) : List.map SV.v (stW r) = stC r := rfl
set_option maxRecDepth 100000 in
set_option maxHeartbeats 16000000 in
theorem made_any (l : List St) (A : Option (Nat × Nat)) (cap : Nat) (w : World) (hA : Ro w A l.length 5 (stL l)) (hb : ∀ x ∈ l, StOk x) (hl : l.length ≤ 9223372036854775807) (hc : l.length ≤ cap) :
    Calls Try.prog 16 #[.slice (adr A) l.length cap] w fun e w' => ∃ v, e = .returned v ∧ w'.ownsRow w.heap.size 31 5 v (madeH l).length (rwL (madeH l)) ∧ Below w.heap.size w w' := by
  refine calls_sat (cx := Try.cx 79 [2] [] [] w) (Try.ok ..) Try.func16 rfl [.o 300 A l.length cap] rfl (by show 1 ≤ 79; omega) [(300, .ro A l.length 5 (stL l))] (holds_ros rfl rfl ⟨hA, trivial⟩) ?_
  repeat' ((conv => whnf); first | refine walk (Try.ok ..) ?_ | (refine Cnd.mk (fun h => ?_) (fun h => ?_) <;> (first | exact cndT h (by (try dsimp only); omega) | exact cndF h (by (try dsimp only); omega) | (exfalso; simp at h; omega) | simp at h | skip)) | refine kp ?_ ?_ | refine tw ?_ ?_ | exact trivial | refine side2 ?_ | refine sideL2 ?_ | refine Or.inr ?_ | refine sat_drawH (Try.ok ..) (by kernel_rfl) ?_ | refine xi _ (And.intro rfl rfl) ?_ | refine xi _ (fun _ => And.intro rfl rfl) ?_ | refine xi _ rfl ?_)
  (conv => whnf)
  intro g8 hg8
  repeat' ((conv => whnf); first | refine walk (Try.ok ..) ?_ | (refine Cnd.mk (fun h => ?_) (fun h => ?_) <;> (first | exact cndT h (by (try dsimp only); omega) | exact cndF h (by (try dsimp only); omega) | (exfalso; simp at h; omega) | simp at h | skip)) | refine kp ?_ ?_ | refine tw ?_ ?_ | exact trivial | refine side2 ?_ | refine sideL2 ?_ | refine Or.inr ?_ | refine sat_drawH (Try.ok ..) (by kernel_rfl) ?_ | refine xi _ (And.intro rfl rfl) ?_ | refine xi _ (fun _ => And.intro rfl rfl) ?_ | refine xi _ rfl ?_)
  (conv => whnf)
  refine sat_own 8 (e := 31) (size := 5) (n := 1) rfl rfl rfl (by decide) ?_
  refine sat_ops (Try.ok ..) ?_
  (conv => whnf)
  intro g9 hg9
  have hLn := stL_len l
  have htk : List.take ((min (l.length : Int) 10).toNat * 5) (stL l) = stL (l.take 10) := by
    rw [show (min (l.length : Int) 10).toNat = min l.length 10 from by omega, stL_take]
    congr 1
    rcases Nat.le_total l.length 10 with h | h
    · rw [Nat.min_eq_left h, List.take_of_length_le (Nat.le_refl _), List.take_of_length_le h]
    · rw [Nat.min_eq_right h]
  have hmn : (min (l.length : Int) 10).toNat * 5 ≤ (stL l).length := by omega
  have hall : allV (List.take ((min (l.length : Int) 10).toNat * 5) (stL l)) = true := by rw [htk]; exact stL_all _
  repeat' ((conv => whnf); first | refine walk (Try.ok ..) ?_ | (refine Cnd.mk (fun h => ?_) (fun h => ?_) <;> (first | exact cndT h (by (try dsimp only); omega) | exact cndF h (by (try dsimp only); omega) | (exfalso; simp at h; omega) | simp at h | skip)) | refine kp ?_ ?_ | refine tw ?_ ?_ | exact trivial | refine side2 ?_ | refine sideL2 ?_ | refine Or.inr ?_ | refine sat_drawH (Try.ok ..) (by kernel_rfl) ?_ | refine xi _ (And.intro rfl rfl) ?_ | refine xi _ (fun _ => And.intro rfl rfl) ?_ | refine xi _ rfl ?_ | (refine And.intro hmn ?_) | (refine And.intro hall ?_))
  (conv => whnf)
  intro A9 c9
  repeat' ((conv => whnf); first | refine walk (Try.ok ..) ?_ | (refine Cnd.mk (fun h => ?_) (fun h => ?_) <;> (first | exact cndT h (by (try dsimp only); omega) | exact cndF h (by (try dsimp only); omega) | (exfalso; simp at h; omega) | simp at h | skip)) | refine kp ?_ ?_ | refine tw ?_ ?_ | exact trivial | refine side2 ?_ | refine sideL2 ?_ | refine Or.inr ?_ | refine sat_drawH (Try.ok ..) (by kernel_rfl) ?_ | refine xi _ (And.intro rfl rfl) ?_ | refine xi _ (fun _ => And.intro rfl rfl) ?_ | refine xi _ rfl ?_)
  (conv => whnf)
  intro g17 hg17
  repeat' ((conv => whnf); first | refine walk (Try.ok ..) ?_ | (refine Cnd.mk (fun h => ?_) (fun h => ?_) <;> (first | exact cndT h (by (try dsimp only); omega) | exact cndF h (by (try dsimp only); omega) | (exfalso; simp at h; omega) | simp at h | skip)) | refine kp ?_ ?_ | refine tw ?_ ?_ | exact trivial | refine side2 ?_ | refine sideL2 ?_ | refine Or.inr ?_ | refine sat_drawH (Try.ok ..) (by kernel_rfl) ?_ | refine xi _ (And.intro rfl rfl) ?_ | refine xi _ (fun _ => And.intro rfl rfl) ?_ | refine xi _ rfl ?_)
  (conv => whnf)
  intro B9 d9
  repeat' ((conv => whnf); first | refine walk (Try.ok ..) ?_ | (refine Cnd.mk (fun h => ?_) (fun h => ?_) <;> (first | exact cndT h (by (try dsimp only); omega) | exact cndF h (by (try dsimp only); omega) | (exfalso; simp at h; omega) | simp at h | skip)) | refine kp ?_ ?_ | refine tw ?_ ?_ | exact trivial | refine side2 ?_ | refine sideL2 ?_ | refine Or.inr ?_ | refine sat_drawH (Try.ok ..) (by kernel_rfl) ?_ | refine xi _ (And.intro rfl rfl) ?_ | refine xi _ (fun _ => And.intro rfl rfl) ?_ | refine xi _ rfl ?_)
  have hSl : (0 + (min (l.length : Int) 10).toNat + 1) = (stepsM l).length := by rw [stepsM_len]; omega
  have hSx : List.map SV.r1 [] ++ List.take ((min (l.length : Int) 10).toNat * 5) (stL l) ++ stW ⟨999, 4999, 0, 0, 77⟩ = stL (stepsM l) := by
    rw [htk]
    unfold stepsM stL
    rw [List.flatMap_append]
    rfl
  have hSok := steps_ok hb
  have hSn := stepsM_len l
  have hMn := madeH_len l
  have hM : ∀ (k : Nat) (x : St), (stepsM l)[k]? = some x → ∃ a, (madeH l)[k]? = some a ∧ (madeH l)[k + 1]? = some (stepE a x) ∧ At k a := by
    intro k x hx
    have hk := (List.getElem?_eq_some_iff.1 hx).1
    obtain ⟨a, ha⟩ : ∃ a, (madeH l)[k]? = some a := ⟨_, List.getElem?_eq_getElem (by omega)⟩
    exact ⟨a, ha, runM_succ _ _ _ _ _ ha hx, made_at hb ha⟩
  have hM0 : (madeH l).take 1 = [row0] := by
    have h0 : (madeH l)[0]? = some row0 := runM_zero _ _
    rw [List.take_one, List.head?_eq_getElem?, h0]
    rfl
  obtain ⟨S, eS⟩ : ∃ S, S = stepsM l := ⟨_, rfl⟩
  obtain ⟨M, eM⟩ : ∃ M, M = madeH l := ⟨_, rfl⟩
  rw [← eS] at hSl hSx hSok hSn hM
  rw [← eM] at hMn hM hM0 ⊢
  clear eS eM htk hall hmn
  refine sat_loop (Try.ok ..) (α := Nat × Option (Nat × Nat) × Nat) (fun s => ([(3, .yes, .o 8 s.2.1 (s.1 + 1) s.2.2), (18, .yes, .o 9 B9 S.length d9), (19, .yes, .v (.int .i64 S.length)), (20, .yes, .v (.int .i64 (s.1 : Nat)))], [(8, .row s.2.1 31 5 (s.1 + 1) s.2.2 (rwL (M.take (s.1 + 1)))), (9, .row B9 84 5 S.length d9 (stL S))]))
    (fun s => s.1 ≤ S.length) (fun s => S.length - s.1) (fun _ => rfl) ?_ ?_
  · refine ⟨(0, some (g8, 0), 1), by omega, ?_, ?_, rfl⟩
    · ((repeat' (first | exact trivial | exact rfl | refine And.intro ?_ ?_)) <;> (try (conv => whnf)) <;> (try simp only [SV.real, SV.r2, SV.r1]))
      · rw [hSl]
      · rw [hSl]
    · dsimp only
      rw [hM0, ← hSl, ← hSx]
      ((repeat' (first | exact trivial | exact rfl | refine And.intro ?_ ?_)) <;> (try (conv => whnf)) <;> (try simp only [SV.real, SV.r2, SV.r1]))
  rintro ⟨k, A8, c8⟩ hk
  dsimp only at hk
  by_cases hk1 : k < S.length
  · obtain ⟨x, hx⟩ : ∃ x, S[k]? = some x := ⟨_, List.getElem?_eq_getElem hk1⟩
    obtain ⟨a, ha, ha1, hat⟩ := hM k x hx
    obtain ⟨⟨_, _⟩, ⟨_, _⟩, ⟨_, _⟩, ⟨_, _⟩, _, _⟩ := hSok x (List.mem_of_getElem? hx)
    obtain ⟨⟨_, _⟩, ⟨_, _⟩, ⟨_, _⟩, ⟨_, _⟩, _, _⟩ := hat
    have t10 := tdiv10 (x := x.b) (by omega)
    have t20 := tdiv20 (x := x.m) (by omega)
    have w10 : IntKind.i64.wrap (x.b.tdiv 10) = x.b.tdiv 10 := wrap_in (by simp only [InR]; omega)
    have w20 : IntKind.i64.wrap (x.m.tdiv 20) = x.m.tdiv 20 := wrap_in (by simp only [InR]; omega)
    have ha' : (M.take (k + 1))[k]? = some a := by rw [List.getElem?_take_of_lt (by omega)]; exact ha
    repeat' ((conv => whnf); first | refine walk (Try.ok ..) ?_ | (refine Cnd.mk (fun h => ?_) (fun h => ?_) <;> (first | exact cndT h (by (try dsimp only); omega) | exact cndF h (by (try dsimp only); omega) | (exfalso; simp at h; omega) | simp at h | skip)) | refine kp ?_ ?_ | refine tw ?_ ?_ | exact trivial | refine side2 ?_ | refine sideL2 ?_ | refine Or.inr ?_ | refine sat_drawH (Try.ok ..) (by kernel_rfl) ?_ | refine xi _ (And.intro rfl rfl) ?_ | refine xi _ (fun _ => And.intro rfl rfl) ?_ | refine xi _ rfl ?_ | refine xi _ (fun _ => (st_cells hx rfl)) ?_ | refine xi _ (st_cells hx rfl) ?_)
    (conv => whnf)
    intro g5 hg5
    repeat' ((conv => whnf); first | refine walk (Try.ok ..) ?_ | (refine Cnd.mk (fun h => ?_) (fun h => ?_) <;> (first | exact cndT h (by (try dsimp only); omega) | exact cndF h (by (try dsimp only); omega) | (exfalso; simp at h; omega) | simp at h | skip)) | refine kp ?_ ?_ | refine tw ?_ ?_ | exact trivial | refine side2 ?_ | refine sideL2 ?_ | refine Or.inr ?_ | refine sat_drawH (Try.ok ..) (by kernel_rfl) ?_ | refine xi _ (And.intro rfl rfl) ?_ | refine xi _ (fun _ => And.intro rfl rfl) ?_ | refine xi _ rfl ?_ | refine xi _ (fun _ => (rw_cells ha' (by omega))) ?_ | refine xi _ (rw_cells ha' (by omega)) ?_)
    (conv => whnf)
    intro g6 hg6
    repeat' ((conv => whnf); first | refine walk (Try.ok ..) ?_ | (refine Cnd.mk (fun h => ?_) (fun h => ?_) <;> (first | exact cndT h (by (try dsimp only); omega) | exact cndF h (by (try dsimp only); omega) | (exfalso; simp at h; omega) | simp at h | skip)) | refine kp ?_ ?_ | refine tw ?_ ?_ | exact trivial | refine side2 ?_ | refine sideL2 ?_ | refine Or.inr ?_ | refine sat_drawH (Try.ok ..) (by kernel_rfl) ?_ | refine xi _ (And.intro rfl rfl) ?_ | refine xi _ (fun _ => And.intro rfl rfl) ?_ | refine xi _ rfl ?_)
    (conv => whnf)
    intro g75 hg75
    repeat' ((conv => whnf); first | refine walk (Try.ok ..) ?_ | (refine Cnd.mk (fun h => ?_) (fun h => ?_) <;> (first | exact cndT h (by (try dsimp only); omega) | exact cndF h (by (try dsimp only); omega) | (exfalso; simp at h; omega) | simp at h | skip)) | refine kp ?_ ?_ | refine tw ?_ ?_ | exact trivial | refine side2 ?_ | refine sideL2 ?_ | refine Or.inr ?_ | refine sat_drawH (Try.ok ..) (by kernel_rfl) ?_ | refine xi _ (And.intro rfl rfl) ?_ | refine xi _ (fun _ => And.intro rfl rfl) ?_ | refine xi _ rfl ?_)
    (conv => whnf)
    intro A2 c2
    repeat' ((conv => whnf); first | refine walk (Try.ok ..) ?_ | (refine Cnd.mk (fun h => ?_) (fun h => ?_) <;> (first | exact cndT h (by (try dsimp only); omega) | exact cndF h (by (try dsimp only); omega) | (exfalso; simp at h; omega) | simp at h | skip)) | refine kp ?_ ?_ | refine tw ?_ ?_ | exact trivial | refine side2 ?_ | refine sideL2 ?_ | refine Or.inr ?_ | refine sat_drawH (Try.ok ..) (by kernel_rfl) ?_ | refine xi _ (And.intro rfl rfl) ?_ | refine xi _ (fun _ => And.intro rfl rfl) ?_ | refine xi _ rfl ?_)
    have hMs : M.take (k + 1 + 1) = M.take (k + 1) ++ [stepE a x] := by rw [List.take_add_one, ha1]; rfl
    refine ⟨(k + 1, A2, c2), ⟨by dsimp only; omega, by dsimp only; omega⟩, ?_, ?_, rfl⟩
    · ((repeat' (first | exact trivial | exact rfl | refine And.intro ?_ ?_)) <;> (try (conv => whnf)) <;> (try simp only [SV.real, SV.r2, SV.r1]))
    · dsimp only
      rw [hMs, show rwL (M.take (k + 1) ++ [stepE a x]) = rwL (M.take (k + 1)) ++ rwW (stepE a x) from by unfold rwL; rw [List.flatMap_append]; simp]
      ((repeat' (first | exact trivial | exact rfl | refine And.intro ?_ ?_)) <;> (try (conv => whnf)) <;> (try simp only [SV.real, SV.r2, SV.r1]))
      refine congrArg (rwL (List.take (k + 1) M) ++ ·) ?_
      show [Value.int .i64 (a.d + (1 + x.d % 3000)), .int .i64 (a.k + (1 + 10 * x.k)), .int .i64 (a.b + IntKind.i64.wrap (x.b.tdiv 10)), .int .i64 (max (a.m + IntKind.i64.wrap (x.m.tdiv 20)) 0), .int .i64 (max (a.t + x.t) 1)] = rwW (stepE a x)
      rw [w10, w20]
      rfl
  obtain rfl : k = S.length := by omega
  repeat' ((conv => whnf); first | refine walk (Try.ok ..) ?_ | (refine Cnd.mk (fun h => ?_) (fun h => ?_) <;> (first | exact cndT h (by (try dsimp only); omega) | exact cndF h (by (try dsimp only); omega) | (exfalso; simp at h; omega) | simp at h | skip)) | refine kp ?_ ?_ | refine tw ?_ ?_ | exact trivial | refine side2 ?_ | refine sideL2 ?_ | refine Or.inr ?_ | refine sat_drawH (Try.ok ..) (by kernel_rfl) ?_ | refine xi _ (And.intro rfl rfl) ?_ | refine xi _ (fun _ => And.intro rfl rfl) ?_ | refine xi _ rfl ?_)
  have hMx : M.take (S.length + 1) = M := List.take_of_length_le (by omega)
  exact done_row2 (mk := fun v => v) rfl rfl 8 A8 c8 rfl (show S.length + 1 = M.length by omega) (congrArg rwL hMx) rfl
/-- a weight of a table -/
def withinH (l : List HRow) (n : Int) : Int := (rangeH l).1.1 + n % ((rangeH l).1.2 - (rangeH l).1.1 + 1)
theorem hwithin_any (l : List HRow) (A : Option (Nat × Nat)) (cap : Nat) (n : Int) (w : World) (hA : Ro w A l.length 5 (rwL l)) (hr : rightH l = true) (hn : 0 ≤ n ∧ n ≤ 4294967295) :
    Calls Try.prog 21 #[.slice (adr A) l.length cap, .int .u32 n] w fun e w' => e = .returned (.int .i64 (withinH l n)) ∧ Below w.heap.size w w' := by
  have h2 := (right_is hr).two
  have h100 := (right_is hr).most
  obtain ⟨a, ha⟩ : ∃ a, l[0]? = some a := ⟨_, List.getElem?_eq_getElem (by omega)⟩
  obtain ⟨b, hb⟩ : ∃ b, l[l.length - 1]? = some b := ⟨_, List.getElem?_eq_getElem (by omega)⟩
  have hak : (rwL l)[mulS (0 : Int).toNat 5 + 1]? = some (.int .i64 a.k) := (rw_cells ha rfl).2 1 (by omega)
  have hbk : (rwL l)[mulS ((l.length : Int) - 1).toNat 5 + 1]? = some (.int .i64 b.k) := (rw_cells hb (by omega)).2 1 (by omega)
  obtain ⟨_, ⟨_, _⟩, _, _, _⟩ := ok_row ((right_is hr).row _ a ha)
  obtain ⟨_, ⟨_, _⟩, _, _, _⟩ := ok_row ((right_is hr).row _ b hb)
  have hab := ((right_is hr).lt_of (by omega) ha hb).2
  have hm := Int.emod_nonneg n (show b.k - a.k + 1 ≠ 0 by omega)
  have hm2 := Int.emod_lt_of_pos n (show 0 < b.k - a.k + 1 by omega)
  unfold withinH
  rw [range_yes hr ha hb]
  refine calls_sat (cx := Try.cx 27 [] [] [] w) (Try.ok ..) Try.func21 rfl [.o 300 A l.length cap, .v (.int .u32 n)] rfl (by show 2 ≤ 27; omega) [(300, .ro A l.length 5 (rwL l))] (holds_ros rfl rfl ⟨hA, trivial⟩) ?_
  repeat' ((conv => whnf); first | refine walk (Try.ok ..) ?_ | (refine Cnd.mk (fun h => ?_) (fun h => ?_) <;> (first | exact cndT h (by (try dsimp only); omega) | exact cndF h (by (try dsimp only); omega) | (exfalso; simp at h; omega) | simp at h | skip)) | refine kp ?_ ?_ | refine tw ?_ ?_ | exact trivial | refine side2 ?_ | refine sideL2 ?_ | refine Or.inr ?_ | refine sat_drawH (Try.ok ..) (by kernel_rfl) ?_ | refine xi _ (And.intro rfl rfl) ?_ | refine xi _ (fun _ => And.intro rfl rfl) ?_ | refine xi _ rfl ?_ | refine xi _ (fun _ => hak) ?_ | refine xi _ hak ?_ | refine xi _ (fun _ => hbk) ?_ | refine xi _ hbk ?_)
  exact done_pure rfl rfl rfl
set_option maxRecDepth 100000 in
set_option maxHeartbeats 8000000 in
theorem list_any (a b c d : Fr) (w : World) : Calls Try.prog 18 #[v4V [a, b, c, d]] w fun e w' => e = .returned (v4V [a, b, c, d]) ∧ Below w.heap.size w w' := by
  have l4 : (v4C [a, b, c, d]).length = 68 := v4_len _
  have hall := v4_all [a, b, c, d]
  have hbl := bl4 a b c d
  have htk := tk68 [a, b, c, d] rfl
  show Calls _ _ #[(SV.a (v4C [a, b, c, d])).real] w fun e w' => e = .returned (SV.a (v4C [a, b, c, d])).real ∧ _
  obtain ⟨C, hC⟩ : ∃ C, C = v4C [a, b, c, d] := ⟨_, rfl⟩
  rw [← hC] at l4 hall hbl htk ⊢
  refine calls_sat (cx := Try.cx 12 [] [] [] w) (Try.ok ..) Try.func18 rfl [.a C] rfl (by show 1 ≤ 12; omega) [] (holds_nil (Nat.le_refl _)) ?_
  repeat' ((conv => whnf); first | refine walk (Try.ok ..) ?_ | (refine Cnd.mk (fun h => ?_) (fun h => ?_) <;> (first | exact cndT h (by (try dsimp only); omega) | exact cndF h (by (try dsimp only); omega) | (exfalso; simp at h; omega) | simp at h | skip)) | refine kp ?_ ?_ | refine tw ?_ ?_ | exact trivial | refine side2 ?_ | refine sideL2 ?_ | refine Or.inr ?_ | refine sat_drawH (Try.ok ..) (by kernel_rfl) ?_ | refine xi _ (And.intro rfl rfl) ?_ | refine xi _ (fun _ => And.intro rfl rfl) ?_ | refine xi _ rfl ?_)
  (conv => whnf)
  intro g1 hg1
  repeat' ((conv => whnf); first | refine walk (Try.ok ..) ?_ | (refine Cnd.mk (fun h => ?_) (fun h => ?_) <;> (first | exact cndT h (by (try dsimp only); omega) | exact cndF h (by (try dsimp only); omega) | (exfalso; simp at h; omega) | simp at h | skip)) | refine kp ?_ ?_ | refine tw ?_ ?_ | exact trivial | refine side2 ?_ | refine sideL2 ?_ | refine Or.inr ?_ | refine sat_drawH (Try.ok ..) (by kernel_rfl) ?_ | refine xi _ (And.intro rfl rfl) ?_ | refine xi _ (fun _ => And.intro rfl rfl) ?_ | refine xi _ rfl ?_)
  (conv => whnf)
  intro g2 hg2
  have L0 : (List.take 17 (List.drop 0 C)).length = 17 := by rw [List.length_take, List.length_drop, l4]; rfl
  have L1 : (List.take 17 (List.drop 17 C)).length = 17 := by rw [List.length_take, List.length_drop, l4]; rfl
  have L2 : (List.take 17 (List.drop 34 C)).length = 17 := by rw [List.length_take, List.length_drop, l4]; rfl
  have L3 : (List.take 17 (List.drop 51 C)).length = 17 := by rw [List.length_take, List.length_drop, l4]; rfl
  repeat' ((conv => whnf); first | (refine And.intro L0 ?_) | (refine And.intro L1 ?_) | (refine And.intro L2 ?_) | (refine And.intro L3 ?_) | refine walk (Try.ok ..) ?_ | (refine Cnd.mk (fun h => ?_) (fun h => ?_) <;> (first | exact cndT h (by (try dsimp only); omega) | exact cndF h (by (try dsimp only); omega) | (exfalso; simp at h; omega) | simp at h | skip)) | refine kp ?_ ?_ | refine tw ?_ ?_ | exact trivial | refine side2 ?_ | refine sideL2 ?_ | refine Or.inr ?_ | refine sat_drawH (Try.ok ..) (by kernel_rfl) ?_ | refine xi _ (And.intro rfl rfl) ?_ | refine xi _ (fun _ => And.intro rfl rfl) ?_ | refine xi _ rfl ?_)
  generalize hL : (List.take _ (_ ++ _) ++ List.take _ (List.drop _ _) ++ List.drop _ _ : List SV) = L
  have hL4 : L = C := hL.symm.trans hbl
  clear hL
  subst hL4
  (conv => whnf)
  refine And.intro ⟨rfl, l4, l4, hall⟩ ?_
  repeat' ((conv => whnf); first | refine walk (Try.ok ..) ?_ | (refine Cnd.mk (fun h => ?_) (fun h => ?_) <;> (first | exact cndT h (by (try dsimp only); omega) | exact cndF h (by (try dsimp only); omega) | (exfalso; simp at h; omega) | simp at h | skip)) | refine kp ?_ ?_ | refine tw ?_ ?_ | exact trivial | refine side2 ?_ | refine sideL2 ?_ | refine Or.inr ?_ | refine sat_drawH (Try.ok ..) (by kernel_rfl) ?_ | refine xi _ (And.intro rfl rfl) ?_ | refine xi _ (fun _ => And.intro rfl rfl) ?_ | refine xi _ rfl ?_)
  exact done_pure rfl rfl (congrArg (fun l => (SV.a l).real) htk)
end Go.Proofs.Ytomhfakkebaciaa
