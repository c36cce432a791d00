/-
  The law HydroSmall, walked.
-/
import Derived.Test.YtomhfakkebaciaaH17
set_option linter.unusedSimpArgs false
set_option linter.unusedVariables false
namespace Go.Proofs.Ytomhfakkebaciaa
open Go Sat Go.RowKit Go.PlainAid
/-- one number of a table anew -/
theorem rwL_set (n : Int) : ∀ (l : List HRow) (off : Nat), off < l.length * 5 → ∃ m : List HRow, m.length = l.length ∧ (rwL l).set off (.int .i64 n) = rwL m := by
  intro l
  induction l with
  | nil => intro off h; simp at h
  | cons r l ih =>
    intro off h
    rw [List.length_cons] at h
    rcases Nat.lt_or_ge off 5 with h1 | h1
    · rcases (by omega : off = 0 ∨ off = 1 ∨ off = 2 ∨ off = 3 ∨ off = 4) with rfl | rfl | rfl | rfl | rfl
      · exact ⟨⟨n, r.k, r.b, r.m, r.t⟩ :: l, rfl, rfl⟩
      · exact ⟨⟨r.d, n, r.b, r.m, r.t⟩ :: l, rfl, rfl⟩
      · exact ⟨⟨r.d, r.k, n, r.m, r.t⟩ :: l, rfl, rfl⟩
      · exact ⟨⟨r.d, r.k, r.b, n, r.t⟩ :: l, rfl, rfl⟩
      · exact ⟨⟨r.d, r.k, r.b, r.m, n⟩ :: l, rfl, rfl⟩
    · obtain ⟨m, hm, he⟩ := ih (off - 5) (by omega)
      refine ⟨r :: m, by simp [hm], ?_⟩
      obtain ⟨k, rfl⟩ : ∃ k, off = 5 + k := ⟨off - 5, by omega⟩
      rw [Nat.add_sub_cancel_left] at he
      show (rwW r ++ rwL l).set (5 + k) _ = rwW r ++ rwL m
      rw [List.set_append_right _ _ (by show 5 ≤ _; omega), show 5 + k - (rwW r).length = k from by show 5 + k - 5 = k; omega, he]
theorem ex_row {k : Nat} {r : HRow} (h : exH[k]? = some r) : 0 ≤ r.d ∧ r.d ≤ 9000 ∧ 0 ≤ r.k ∧ r.k ≤ 4000000 := by
  have hm := List.mem_of_getElem? h
  have : ∀ r ∈ exH, 0 ≤ r.d ∧ r.d ≤ 9000 ∧ 0 ≤ r.k ∧ r.k ≤ 4000000 := by decide
  exact this r hm
theorem ptr5 (id g b o : Nat) (i : Int) (h : 0 ≤ i) : (0 ≤ i % 5 ∧ i % 5 < (5 : Nat) ∧ ([SV.p id g b (o + 0), .p id g b (o + 1), .p id g b (o + 2), .p id g b (o + 3), .p id g b (o + 4)])[(i % 5).toNat * 1]? = some (SV.p id g b (o + (i % 5).toNat)) ∧ (SV.p id g b (o + (i % 5).toNat)).scal = true) := by
  refine ⟨by omega, by omega, ?_, rfl⟩
  obtain ⟨j, hj⟩ : ∃ j : Nat, (i % 5).toNat = j := ⟨_, rfl⟩
  rw [hj]
  rcases (by omega : j = 0 ∨ j = 1 ∨ j = 2 ∨ j = 3 ∨ j = 4) with rfl | rfl | rfl | rfl | rfl <;> rfl
def numsL : List Int := [-9223372036854775808, -500001, -500000, -1, 0, 1, 4000, 6000, 50000, 50001, 500000, 500001, 1000000, 2000000, 500000000, 500000001, 10000000000, 10000000001, 9223372036854775807]
theorem num_i64 {k : Nat} {n : Int} (h : numsL[k]? = some n) : -9223372036854775808 ≤ n ∧ n ≤ 9223372036854775807 := by
  have hm := List.mem_of_getElem? h
  have : ∀ n ∈ numsL, -9223372036854775808 ≤ n ∧ n ≤ 9223372036854775807 := by decide
  exact this n hm
def mkF (u v : List Nat) : Fr := ⟨false, nv bb u, nv bb v⟩
def Lm (u : List Nat) : Prop := u.length = 8 ∧ ∀ x ∈ u, x < bb
theorem mkF_big {u v : List Nat} (hu : Lm u) (hv : Lm v) : Big (mkF u v) := ⟨(lim_nv hu.1 hu.2).2, (lim_nv hv.1 hv.2).2⟩
theorem mkF_C {u v : List Nat} (hu : Lm u) (hv : Lm v) : frC (mkF u v) = .v (.bool false) :: ((us u).map .v ++ (us v).map .v) := by
  unfold frC mkF
  dsimp only
  rw [(lim_nv hu.1 hu.2).1, (lim_nv hv.1 hv.2).1]
theorem wrap_bd (x : Int) : 0 ≤ IntKind.u32.wrap x ∧ IntKind.u32.wrap x < 4294967296 := by
  simp only [IntKind.wrap, IntKind.signed, IntKind.bits]
  simp
  omega
theorem den_set {j : Nat} {n : Int} (hj : j < 8) (hn : 0 ≤ n ∧ n < 4294967296) : ∃ X, Big X ∧ (frC ⟨false, 1, 0⟩).set (9 + j) (.v (.int .u32 n)) = frC X := by
  have hu : Lm [1, 0, 0, 0, 0, 0, 0, 0] := ⟨rfl, by decide⟩
  have hv : Lm ((List.replicate 8 0).set j n.toNat) := by
    refine ⟨by rw [List.length_set]; rfl, fun x hx => ?_⟩
    rcases List.mem_or_eq_of_mem_set hx with h | h
    · rw [List.eq_of_mem_replicate h]; decide
    · subst h; unfold bb; omega
  refine ⟨_, mkF_big hu hv, ?_⟩
  rw [mkF_C hu hv]
  have e : n = ((n.toNat : Nat) : Int) := by omega
  conv => lhs; rw [e]
  rcases (by omega : j = 0 ∨ j = 1 ∨ j = 2 ∨ j = 3 ∨ j = 4 ∨ j = 5 ∨ j = 6 ∨ j = 7) with rfl | rfl | rfl | rfl | rfl | rfl | rfl | rfl <;> rfl
theorem sq_bd {i : Nat} (h : i ≤ 101) : 0 ≤ (i : Int) * i ∧ (i : Int) * i ≤ 10201 := by
  have h1 : i * i ≤ 101 * 101 := Nat.mul_le_mul h h
  have e : (i : Int) * i = ((i * i : Nat) : Int) := by rw [Int.natCast_mul]
  rw [e]
  omega
def sizesL : List Nat := [0, 1, 2, 100, 101]
def mkT (n : Nat) : List HRow := (List.range n).map fun (i : Nat) => ⟨10 * i, 1 + (i : Int) * i * 999, 0, 0, 1 + i⟩
theorem mkT_len (n : Nat) : (mkT n).length = n := by unfold mkT; rw [List.length_map, List.length_range]
theorem mkT_succ (n : Nat) : rwL (mkT (n + 1)) = rwL (mkT n) ++ rwW ⟨10 * n, 1 + (n : Int) * n * 999, 0, 0, 1 + n⟩ := by
  unfold mkT rwL
  rw [List.range_succ, List.map_append, List.flatMap_append]
  rfl
theorem size_right {k n : Nat} (h : sizesL[k]? = some n) : n ≤ 101 ∧ rightH (mkT n) = (decide ((n : Int) ≥ 2) && decide ((n : Int) ≤ 100)) := by
  rcases k with _ | _ | _ | _ | _ | k
  · cases h; exact ⟨by decide, by kernel_rfl⟩
  · cases h; exact ⟨by decide, by kernel_rfl⟩
  · cases h; exact ⟨by decide, by kernel_rfl⟩
  · cases h; exact ⟨by decide, by kernel_rfl⟩
  · cases h; exact ⟨by decide, by kernel_rfl⟩
  · simp [sizesL] at h
set_option maxRecDepth 100000 in
set_option maxHeartbeats 16000000 in
theorem hydroSmall_any (w : World) : Calls Try.prog 4 #[] w fun e w' => e = .returned (.bool true) ∧ Below w.heap.size w w' := by
  refine calls_sat (cx := Try.cx 190 [10, 13, 21, 25, 29, 30, 35, 39] [] [] w) (Try.ok ..) Try.func4 rfl [] rfl (by show 0 ≤ 190; omega) [] (holds_nil (Nat.le_refl _)) ?_
  repeat' ((conv => whnf); first | refine walk (Try.ok ..) ?_ | (refine Cnd.mk (fun h => ?_) (fun h => ?_) <;> (first | exact cndT h (by (try dsimp only); omega) | exact cndF h (by (try dsimp only); omega) | (exfalso; simp at h; omega) | simp at h | skip)) | refine kp ?_ ?_ | refine tw ?_ ?_ | exact trivial | refine side2 ?_ | refine sideL2 ?_ | refine Or.inr ?_ | refine sat_drawH (Try.ok ..) (by kernel_rfl) ?_ | refine xi _ (And.intro rfl rfl) ?_ | refine xi _ (fun _ => And.intro rfl rfl) ?_ | refine xi _ rfl ?_)
  (conv => whnf)
  refine called_row 21 (xs := rwL exH) (m := 3) (fun v => v) (fun A cap => .o 21 A 3 cap) (fun _ _ => rfl) (fun w' hh => by exact example_any w') ?_
  intro A21 c21
  repeat' ((conv => whnf); first | refine walk (Try.ok ..) ?_ | (refine Cnd.mk (fun h => ?_) (fun h => ?_) <;> (first | exact cndT h (by (try dsimp only); omega) | exact cndF h (by (try dsimp only); omega) | (exfalso; simp at h; omega) | simp at h | skip)) | refine kp ?_ ?_ | refine tw ?_ ?_ | exact trivial | refine side2 ?_ | refine sideL2 ?_ | refine Or.inr ?_ | refine sat_drawH (Try.ok ..) (by kernel_rfl) ?_ | refine xi _ (And.intro rfl rfl) ?_ | refine xi _ (fun _ => And.intro rfl rfl) ?_ | refine xi _ rfl ?_)
  refine sat_loop (Try.ok ..) (α := Nat) (fun k => ([(0, .yes, .v (.bool false)), (21, .yes, .o 21 A21 3 c21), (22, .yes, .v (.int .i64 3)), (23, .yes, .v (.int .i64 (k : Nat)))], [(21, .row A21 31 5 3 c21 (rwL exH))]))
    (fun k => k ≤ 3) (fun k => 3 - k) (fun _ => rfl) ?_ ?_
  · refine ⟨0, by omega, ?_, ?_, rfl⟩
    all_goals ((repeat' (first | exact trivial | exact rfl | refine And.intro ?_ ?_)) <;> (try (conv => whnf)) <;> (try simp only [SV.real, SV.r2, SV.r1]))
  · intro k hk
    by_cases hk3 : k < 3
    case neg =>
      obtain rfl : k = 3 := by omega
      repeat' ((conv => whnf); first | refine walk (Try.ok ..) ?_ | (refine Cnd.mk (fun h => ?_) (fun h => ?_) <;> (first | exact cndT h (by (try dsimp only); omega) | exact cndF h (by (try dsimp only); omega) | (exfalso; simp at h; omega) | simp at h | skip)) | refine kp ?_ ?_ | refine tw ?_ ?_ | exact trivial | refine side2 ?_ | refine sideL2 ?_ | refine Or.inr ?_ | refine sat_drawH (Try.ok ..) (by kernel_rfl) ?_ | refine xi _ (And.intro rfl rfl) ?_ | refine xi _ (fun _ => And.intro rfl rfl) ?_ | refine xi _ rfl ?_)
      refine sat_to ([(0, .yes, .v (.bool false))], []) rfl ?_ ?_ rfl ?_
      · ((repeat' (first | exact trivial | exact rfl | refine And.intro ?_ ?_)) <;> (try (conv => whnf)) <;> (try simp only [SV.real, SV.r2, SV.r1]))
      · ((repeat' (first | exact trivial | exact rfl | refine And.intro ?_ ?_)) <;> (try (conv => whnf)) <;> (try simp only [SV.real, SV.r2, SV.r1]))
      refine sat_ops (Try.ok ..) ?_
      repeat' ((conv => whnf); first | refine walk (Try.ok ..) ?_ | (refine Cnd.mk (fun h => ?_) (fun h => ?_) <;> (first | exact cndT h (by (try dsimp only); omega) | exact cndF h (by (try dsimp only); omega) | (exfalso; simp at h; omega) | simp at h | skip)) | refine kp ?_ ?_ | refine tw ?_ ?_ | exact trivial | refine side2 ?_ | refine sideL2 ?_ | refine Or.inr ?_ | refine sat_drawH (Try.ok ..) (by kernel_rfl) ?_ | refine xi _ (And.intro rfl rfl) ?_ | refine xi _ (fun _ => And.intro rfl rfl) ?_ | refine xi _ rfl ?_)
      (conv => whnf)
      intro g55 hg55
      repeat' ((conv => whnf); first | refine walk (Try.ok ..) ?_ | (refine Cnd.mk (fun h => ?_) (fun h => ?_) <;> (first | exact cndT h (by (try dsimp only); omega) | exact cndF h (by (try dsimp only); omega) | (exfalso; simp at h; omega) | simp at h | skip)) | refine kp ?_ ?_ | refine tw ?_ ?_ | exact trivial | refine side2 ?_ | refine sideL2 ?_ | refine Or.inr ?_ | refine sat_drawH (Try.ok ..) (by kernel_rfl) ?_ | refine xi _ (And.intro rfl rfl) ?_ | refine xi _ (fun _ => And.intro rfl rfl) ?_ | refine xi _ rfl ?_)
      refine sat_loop (Try.ok ..) (α := Nat) (fun k => ([(0, .yes, .v (.bool false)), (55, .yes, .s 55 g55 0 0 19 19), (56, .yes, .v (.int .i64 19)), (57, .yes, .v (.int .i64 (k : Nat)))], [(55, .blk g55 3 (numsL.map fun n => SV.v (.int .i64 n)))]))
        (fun k => k ≤ 19) (fun k => 19 - k) (fun _ => rfl) ?_ ?_
      · refine ⟨0, by omega, ?_, ?_, rfl⟩
        all_goals ((repeat' (first | exact trivial | exact rfl | refine And.intro ?_ ?_)) <;> (try (conv => whnf)) <;> (try simp only [SV.real, SV.r2, SV.r1]))
      intro k hk
      by_cases hk3 : k < 19
      case neg =>
        obtain rfl : k = 19 := by omega
        repeat' ((conv => whnf); first | refine walk (Try.ok ..) ?_ | (refine Cnd.mk (fun h => ?_) (fun h => ?_) <;> (first | exact cndT h (by (try dsimp only); omega) | exact cndF h (by (try dsimp only); omega) | (exfalso; simp at h; omega) | simp at h | skip)) | refine kp ?_ ?_ | refine tw ?_ ?_ | exact trivial | refine side2 ?_ | refine sideL2 ?_ | refine Or.inr ?_ | refine sat_drawH (Try.ok ..) (by kernel_rfl) ?_ | refine xi _ (And.intro rfl rfl) ?_ | refine xi _ (fun _ => And.intro rfl rfl) ?_ | refine xi _ rfl ?_)
        refine sat_to ([(0, .yes, .v (.bool false))], []) rfl ?_ ?_ rfl ?_
        · ((repeat' (first | exact trivial | exact rfl | refine And.intro ?_ ?_)) <;> (try (conv => whnf)) <;> (try simp only [SV.real, SV.r2, SV.r1]))
        · ((repeat' (first | exact trivial | exact rfl | refine And.intro ?_ ?_)) <;> (try (conv => whnf)) <;> (try simp only [SV.real, SV.r2, SV.r1]))
        refine sat_ops (Try.ok ..) ?_
        repeat' ((conv => whnf); first | refine walk (Try.ok ..) ?_ | (refine Cnd.mk (fun h => ?_) (fun h => ?_) <;> (first | exact cndT h (by (try dsimp only); omega) | exact cndF h (by (try dsimp only); omega) | (exfalso; simp at h; omega) | simp at h | skip)) | refine kp ?_ ?_ | refine tw ?_ ?_ | exact trivial | refine side2 ?_ | refine sideL2 ?_ | refine Or.inr ?_ | refine sat_drawH (Try.ok ..) (by kernel_rfl) ?_ | refine xi _ (And.intro rfl rfl) ?_ | refine xi _ (fun _ => And.intro rfl rfl) ?_ | refine xi _ rfl ?_)
        refine sat_loop (Try.ok ..) (α := Int) (fun b => ([(0, .yes, .v (.bool false)), (10, .yes, .v (.int .i64 b))], []))
          (fun b => 200 ≤ b ∧ b ≤ 260) (fun b => (260 - b).toNat) (fun _ => rfl) ?_ ?_
        · refine ⟨200, by omega, ?_, ?_, rfl⟩
          all_goals ((repeat' (first | exact trivial | exact rfl | refine And.intro ?_ ?_)) <;> (try (conv => whnf)) <;> (try simp only [SV.real, SV.r2, SV.r1]))
        rintro b ⟨hb0, hb1⟩
        by_cases hb2 : b < 256
        case neg =>
          repeat' ((conv => whnf); first | refine walk (Try.ok ..) ?_ | (refine Cnd.mk (fun h => ?_) (fun h => ?_) <;> (first | exact cndT h (by (try dsimp only); omega) | exact cndF h (by (try dsimp only); omega) | (exfalso; simp at h; omega) | simp at h | skip)) | refine kp ?_ ?_ | refine tw ?_ ?_ | exact trivial | refine side2 ?_ | refine sideL2 ?_ | refine Or.inr ?_ | refine sat_drawH (Try.ok ..) (by kernel_rfl) ?_ | refine xi _ (And.intro rfl rfl) ?_ | refine xi _ (fun _ => And.intro rfl rfl) ?_ | refine xi _ rfl ?_)
          refine sat_to ([(0, .yes, .v (.bool false))], []) rfl ?_ ?_ rfl ?_
          · ((repeat' (first | exact trivial | exact rfl | refine And.intro ?_ ?_)) <;> (try (conv => whnf)) <;> (try simp only [SV.real, SV.r2, SV.r1]))
          · ((repeat' (first | exact trivial | exact rfl | refine And.intro ?_ ?_)) <;> (try (conv => whnf)) <;> (try simp only [SV.real, SV.r2, SV.r1]))
          refine sat_ops (Try.ok ..) ?_
          (conv => whnf)
          intro g149 hg149
          repeat' ((conv => whnf); first | refine walk (Try.ok ..) ?_ | (refine Cnd.mk (fun h => ?_) (fun h => ?_) <;> (first | exact cndT h (by (try dsimp only); omega) | exact cndF h (by (try dsimp only); omega) | (exfalso; simp at h; omega) | simp at h | skip)) | refine kp ?_ ?_ | refine tw ?_ ?_ | exact trivial | refine side2 ?_ | refine sideL2 ?_ | refine Or.inr ?_ | refine sat_drawH (Try.ok ..) (by kernel_rfl) ?_ | refine xi _ (And.intro rfl rfl) ?_ | refine xi _ (fun _ => And.intro rfl rfl) ?_ | refine xi _ rfl ?_)
          refine sat_loop (Try.ok ..) (α := Nat) (fun k => ([(0, .yes, .v (.bool false)), (149, .yes, .s 149 g149 0 0 5 5), (150, .yes, .v (.int .i64 5)), (151, .yes, .v (.int .i64 (k : Nat)))], [(149, .blk g149 3 (sizesL.map fun (n : Nat) => SV.v (.int .i64 n)))]))
            (fun k => k ≤ 5) (fun k => 5 - k) (fun _ => rfl) ?_ ?_
          · refine ⟨0, by omega, ?_, ?_, rfl⟩
            all_goals ((repeat' (first | exact trivial | exact rfl | refine And.intro ?_ ?_)) <;> (try (conv => whnf)) <;> (try simp only [SV.real, SV.r2, SV.r1]))
          intro k hk
          by_cases hk2 : k < 5
          case neg =>
            repeat' ((conv => whnf); first | refine walk (Try.ok ..) ?_ | (refine Cnd.mk (fun h => ?_) (fun h => ?_) <;> (first | exact cndT h (by (try dsimp only); omega) | exact cndF h (by (try dsimp only); omega) | (exfalso; simp at h; omega) | simp at h | skip)) | refine kp ?_ ?_ | refine tw ?_ ?_ | exact trivial | refine side2 ?_ | refine sideL2 ?_ | refine Or.inr ?_ | refine sat_drawH (Try.ok ..) (by kernel_rfl) ?_ | refine xi _ (And.intro rfl rfl) ?_ | refine xi _ (fun _ => And.intro rfl rfl) ?_ | refine xi _ rfl ?_)
            (conv => whnf)
            refine called_pure (.v (.bool true)) rfl (fun w' => by exact hawake_any w') ?_
            repeat' ((conv => whnf); first | refine walk (Try.ok ..) ?_ | (refine Cnd.mk (fun h => ?_) (fun h => ?_) <;> (first | exact cndT h (by (try dsimp only); omega) | exact cndF h (by (try dsimp only); omega) | (exfalso; simp at h; omega) | simp at h | skip)) | refine kp ?_ ?_ | refine tw ?_ ?_ | exact trivial | refine side2 ?_ | refine sideL2 ?_ | refine Or.inr ?_ | refine sat_drawH (Try.ok ..) (by kernel_rfl) ?_ | refine xi _ (And.intro rfl rfl) ?_ | refine xi _ (fun _ => And.intro rfl rfl) ?_ | refine xi _ rfl ?_)
            exact done_pure rfl rfl rfl
          obtain ⟨n, hn⟩ : ∃ a, sizesL[k]? = some a := ⟨_, List.getElem?_eq_getElem hk2⟩
          have hcell : (sizesL.map fun (n : Nat) => SV.v (.int .i64 n))[0 + mulS (k : Int).toNat 1]? = some (.v (.int .i64 n)) ∧ (SV.v (.int .i64 (n : Nat))).scal = true := by
            rw [Nat.zero_add, mulS_eq, Int.toNat_natCast, Nat.mul_one, List.getElem?_map, hn]
            exact ⟨rfl, rfl⟩
          obtain ⟨hn1, hR⟩ := size_right hn
          repeat' ((conv => whnf); first | refine walk (Try.ok ..) ?_ | (refine Cnd.mk (fun h => ?_) (fun h => ?_) <;> (first | exact cndT h (by (try dsimp only); omega) | exact cndF h (by (try dsimp only); omega) | (exfalso; simp at h; omega) | simp at h | skip)) | refine kp ?_ ?_ | refine tw ?_ ?_ | exact trivial | refine side2 ?_ | refine sideL2 ?_ | refine Or.inr ?_ | refine sat_drawH (Try.ok ..) (by kernel_rfl) ?_ | refine xi _ (And.intro rfl rfl) ?_ | refine xi _ (fun _ => And.intro rfl rfl) ?_ | refine xi _ rfl ?_ | refine xi _ (fun _ => hcell) ?_ | refine xi _ hcell ?_)
          refine sat_loop (Try.ok ..) (α := Nat × Option (Nat × Nat) × Nat) (fun s => ([(0, .yes, .v (.bool false)), (18, .yes, .v (.int .i64 n)), (19, .yes, .o 19 s.2.1 s.1 s.2.2), (20, .yes, .v (.int .i64 (s.1 : Nat))), (149, .yes, .s 149 g149 0 0 5 5), (150, .yes, .v (.int .i64 5)), (151, .yes, .v (.int .i64 (k : Nat)))], [(19, .row s.2.1 31 5 s.1 s.2.2 (rwL (mkT s.1))), (149, .blk g149 3 (sizesL.map fun (n : Nat) => SV.v (.int .i64 n)))]))
            (fun s => s.1 ≤ n) (fun s => n - s.1) (fun _ => rfl) ?_ ?_
          · refine ⟨(0, none, 0), by omega, ?_, ?_, rfl⟩
            all_goals ((repeat' (first | exact trivial | exact rfl | refine And.intro ?_ ?_)) <;> (try (conv => whnf)) <;> (try simp only [SV.real, SV.r2, SV.r1]))
          rintro ⟨i, A19, c19⟩ hi
          dsimp only at hi
          by_cases hi2 : i < n
          · have hii := sq_bd (i := i) (by omega)
            repeat' ((conv => whnf); first | refine walk (Try.ok ..) ?_ | (refine Cnd.mk (fun h => ?_) (fun h => ?_) <;> (first | exact cndT h (by (try dsimp only); omega) | exact cndF h (by (try dsimp only); omega) | (exfalso; simp at h; omega) | simp at h | skip)) | refine kp ?_ ?_ | refine tw ?_ ?_ | exact trivial | refine side2 ?_ | refine sideL2 ?_ | refine Or.inr ?_ | refine sat_drawH (Try.ok ..) (by kernel_rfl) ?_ | refine xi _ (And.intro rfl rfl) ?_ | refine xi _ (fun _ => And.intro rfl rfl) ?_ | refine xi _ rfl ?_)
            (conv => whnf)
            intro g171 hg171
            repeat' ((conv => whnf); first | refine walk (Try.ok ..) ?_ | (refine Cnd.mk (fun h => ?_) (fun h => ?_) <;> (first | exact cndT h (by (try dsimp only); omega) | exact cndF h (by (try dsimp only); omega) | (exfalso; simp at h; omega) | simp at h | skip)) | refine kp ?_ ?_ | refine tw ?_ ?_ | exact trivial | refine side2 ?_ | refine sideL2 ?_ | refine Or.inr ?_ | refine sat_drawH (Try.ok ..) (by kernel_rfl) ?_ | refine xi _ (And.intro rfl rfl) ?_ | refine xi _ (fun _ => And.intro rfl rfl) ?_ | refine xi _ rfl ?_)
            (conv => whnf)
            intro A2 c2
            repeat' ((conv => whnf); first | refine walk (Try.ok ..) ?_ | (refine Cnd.mk (fun h => ?_) (fun h => ?_) <;> (first | exact cndT h (by (try dsimp only); omega) | exact cndF h (by (try dsimp only); omega) | (exfalso; simp at h; omega) | simp at h | skip)) | refine kp ?_ ?_ | refine tw ?_ ?_ | exact trivial | refine side2 ?_ | refine sideL2 ?_ | refine Or.inr ?_ | refine sat_drawH (Try.ok ..) (by kernel_rfl) ?_ | refine xi _ (And.intro rfl rfl) ?_ | refine xi _ (fun _ => And.intro rfl rfl) ?_ | refine xi _ rfl ?_)
            refine ⟨(i + 1, A2, c2), ⟨by dsimp only; omega, by dsimp only; omega⟩, ?_, ?_, rfl⟩
            · ((repeat' (first | exact trivial | exact rfl | refine And.intro ?_ ?_)) <;> (try (conv => whnf)) <;> (try simp only [SV.real, SV.r2, SV.r1]))
            · ((repeat' (first | exact trivial | exact rfl | refine And.intro ?_ ?_)) <;> (try (conv => whnf)) <;> (try simp only [SV.real, SV.r2, SV.r1]))
              rw [mkT_succ]
              rfl
          obtain rfl : i = n := by omega
          have ht := fun (x : Fr) (w' : World) (h2 : Big x) (h3 : Ro w' A19 (mkT i).length 5 (rwL (mkT i))) => htells_any (mkT i) 100000 x A19 c19 w' h3 (by rw [mkT_len]; omega) i64 h2
          have hr := fun (w' : World) (h3 : Ro w' A19 (mkT i).length 5 (rwL (mkT i))) => hRight_any (mkT i) A19 c19 w' h3 (by rw [mkT_len]; omega)
          rw [hR] at hr
          rw [mkT_len] at hr ht
          repeat' ((conv => whnf); first | refine walk (Try.ok ..) ?_ | (refine Cnd.mk (fun h => ?_) (fun h => ?_) <;> (first | exact cndT h (by (try dsimp only); omega) | exact cndF h (by (try dsimp only); omega) | (exfalso; simp at h; omega) | simp at h | skip)) | refine kp ?_ ?_ | refine tw ?_ ?_ | exact trivial | refine side2 ?_ | refine sideL2 ?_ | refine Or.inr ?_ | refine sat_drawH (Try.ok ..) (by kernel_rfl) ?_ | refine xi _ (And.intro rfl rfl) ?_ | refine xi _ (fun _ => And.intro rfl rfl) ?_ | refine xi _ rfl ?_)
          (conv => whnf)
          refine called_at (.v (.bool (decide ((i : Int) ≥ 2) && decide ((i : Int) ≤ 100)))) rfl (fun w' hh => by exact hr w' (ro_of_row hh (id := 19) rfl)) ?_
          repeat' ((conv => whnf); first | refine walk (Try.ok ..) ?_ | (refine Cnd.mk (fun h => ?_) (fun h => ?_) <;> (first | exact cndT h (by (try dsimp only); omega) | exact cndF h (by (try dsimp only); omega) | (exfalso; simp at h; omega) | simp at h | skip)) | refine kp ?_ ?_ | refine tw ?_ ?_ | exact trivial | refine side2 ?_ | refine sideL2 ?_ | refine Or.inr ?_ | refine sat_drawH (Try.ok ..) (by kernel_rfl) ?_ | refine xi _ (And.intro rfl rfl) ?_ | refine xi _ (fun _ => And.intro rfl rfl) ?_ | refine xi _ rfl ?_)
          (conv => whnf)
          refine called_pure (.a (frC (ratioE 1999 2).1)) rfl (fun w' => by exact hratio_any 1999 2 w' i64 i64) ?_
          repeat' ((conv => whnf); first | refine walk (Try.ok ..) ?_ | (refine Cnd.mk (fun h => ?_) (fun h => ?_) <;> (first | exact cndT h (by (try dsimp only); omega) | exact cndF h (by (try dsimp only); omega) | (exfalso; simp at h; omega) | simp at h | skip)) | refine kp ?_ ?_ | refine tw ?_ ?_ | exact trivial | refine side2 ?_ | refine sideL2 ?_ | refine Or.inr ?_ | refine sat_drawH (Try.ok ..) (by kernel_rfl) ?_ | refine xi _ (And.intro rfl rfl) ?_ | refine xi _ (fun _ => And.intro rfl rfl) ?_ | refine xi _ rfl ?_)
          (conv => whnf)
          refine calledQ_at (.v (.bool true)) rfl (fun _ w' hh => by exact ht _ w' (ratio_big' _ _) (ro_of_row hh (id := 19) rfl)) ?_
          repeat' ((conv => whnf); first | refine walk (Try.ok ..) ?_ | (refine Cnd.mk (fun h => ?_) (fun h => ?_) <;> (first | exact cndT h (by (try dsimp only); omega) | exact cndF h (by (try dsimp only); omega) | (exfalso; simp at h; omega) | simp at h | skip)) | refine kp ?_ ?_ | refine tw ?_ ?_ | exact trivial | refine side2 ?_ | refine sideL2 ?_ | refine Or.inr ?_ | refine sat_drawH (Try.ok ..) (by kernel_rfl) ?_ | refine xi _ (And.intro rfl rfl) ?_ | refine xi _ (fun _ => And.intro rfl rfl) ?_ | refine xi _ rfl ?_)
          refine ⟨k + 1, ⟨by omega, by omega⟩, ?_, ?_, rfl⟩
          all_goals ((repeat' (first | exact trivial | exact rfl | refine And.intro ?_ ?_)) <;> (try (conv => whnf)) <;> (try simp only [SV.real, SV.r2, SV.r1]))
        repeat' ((conv => whnf); first | refine walk (Try.ok ..) ?_ | (refine Cnd.mk (fun h => ?_) (fun h => ?_) <;> (first | exact cndT h (by (try dsimp only); omega) | exact cndF h (by (try dsimp only); omega) | (exfalso; simp at h; omega) | simp at h | skip)) | refine kp ?_ ?_ | refine tw ?_ ?_ | exact trivial | refine side2 ?_ | refine sideL2 ?_ | refine Or.inr ?_ | refine sat_drawH (Try.ok ..) (by kernel_rfl) ?_ | refine xi _ (And.intro rfl rfl) ?_ | refine xi _ (fun _ => And.intro rfl rfl) ?_ | refine xi _ rfl ?_)
        (conv => whnf)
        intro g11 hg11
        repeat' ((conv => whnf); first | refine walk (Try.ok ..) ?_ | (refine Cnd.mk (fun h => ?_) (fun h => ?_) <;> (first | exact cndT h (by (try dsimp only); omega) | exact cndF h (by (try dsimp only); omega) | (exfalso; simp at h; omega) | simp at h | skip)) | refine kp ?_ ?_ | refine tw ?_ ?_ | exact trivial | refine side2 ?_ | refine sideL2 ?_ | refine Or.inr ?_ | refine sat_drawH (Try.ok ..) (by kernel_rfl) ?_ | refine xi _ (And.intro rfl rfl) ?_ | refine xi _ (fun _ => And.intro rfl rfl) ?_ | refine xi _ rfl ?_)
        refine sat_to ([(0, .yes, .v (.bool false)), (10, .yes, .v (.int .i64 b)), (11, .yes, .p 11 g11 0 0)], [(11, .blk g11 26 (frC ⟨false, 1, 0⟩))]) rfl ?_ ?_ rfl ?_
        · ((repeat' (first | exact trivial | exact rfl | refine And.intro ?_ ?_)) <;> (try (conv => whnf)) <;> (try simp only [SV.real, SV.r2, SV.r1]))
        · ((repeat' (first | exact trivial | exact rfl | refine And.intro ?_ ?_)) <;> (try (conv => whnf)) <;> (try simp only [SV.real, SV.r2, SV.r1]))
        have hoff : 0 + 9 + mulS (b / 32).toNat 1 < (frC ⟨false, 1, 0⟩).length := by
          rw [frC_len, mulS_eq]
          omega
        obtain ⟨X, hX, eX⟩ := den_set (j := (b / 32).toNat) (n := IntKind.u32.wrap (1 * 2 ^ (b % 32).toNat)) (by omega) (wrap_bd _)
        refine sat_ops (Try.ok ..) ?_
        repeat' ((conv => whnf); first | refine walk (Try.ok ..) ?_ | (refine Cnd.mk (fun h => ?_) (fun h => ?_) <;> (first | exact cndT h (by (try dsimp only); omega) | exact cndF h (by (try dsimp only); omega) | (exfalso; simp at h; omega) | simp at h | skip)) | refine kp ?_ ?_ | refine tw ?_ ?_ | exact trivial | refine side2 ?_ | refine sideL2 ?_ | refine Or.inr ?_ | refine sat_drawH (Try.ok ..) (by kernel_rfl) ?_ | refine xi _ (And.intro rfl rfl) ?_ | refine xi _ (fun _ => And.intro rfl rfl) ?_ | refine xi _ rfl ?_)
        refine sat_to ([(0, .yes, .v (.bool false)), (10, .yes, .v (.int .i64 b)), (11, .yes, .p 11 g11 0 0)], [(11, .blk g11 26 (frC X))]) rfl ?_ ?_ rfl ?_
        · ((repeat' (first | exact trivial | exact rfl | refine And.intro ?_ ?_)) <;> (try (conv => whnf)) <;> (try simp only [SV.real, SV.r2, SV.r1]))
        · ((repeat' (first | exact trivial | exact rfl | refine And.intro ?_ ?_)) <;> (try (conv => whnf)) <;> (try simp only [SV.real, SV.r2, SV.r1]))
          rw [← eX, mulS_eq, Nat.zero_add, Nat.mul_one]
        have lX := frC_len X
        refine sat_ops (Try.ok ..) ?_
        repeat' ((conv => whnf); first | refine walk (Try.ok ..) ?_ | (refine Cnd.mk (fun h => ?_) (fun h => ?_) <;> (first | exact cndT h (by (try dsimp only); omega) | exact cndF h (by (try dsimp only); omega) | (exfalso; simp at h; omega) | simp at h | skip)) | refine kp ?_ ?_ | refine tw ?_ ?_ | exact trivial | refine side2 ?_ | refine sideL2 ?_ | refine Or.inr ?_ | refine sat_drawH (Try.ok ..) (by kernel_rfl) ?_ | refine xi _ (And.intro rfl rfl) ?_ | refine xi _ (fun _ => And.intro rfl rfl) ?_ | refine xi _ rfl ?_)
        (conv => whnf)
        intro g117 hg117
        repeat' ((conv => whnf); first | refine walk (Try.ok ..) ?_ | (refine Cnd.mk (fun h => ?_) (fun h => ?_) <;> (first | exact cndT h (by (try dsimp only); omega) | exact cndF h (by (try dsimp only); omega) | (exfalso; simp at h; omega) | simp at h | skip)) | refine kp ?_ ?_ | refine tw ?_ ?_ | exact trivial | refine side2 ?_ | refine sideL2 ?_ | refine Or.inr ?_ | refine sat_drawH (Try.ok ..) (by kernel_rfl) ?_ | refine xi _ (And.intro rfl rfl) ?_ | refine xi _ (fun _ => And.intro rfl rfl) ?_ | refine xi _ rfl ?_)
        refine sat_loop (Try.ok ..) (α := Nat) (fun k => ([(0, .yes, .v (.bool false)), (10, .yes, .v (.int .i64 b)), (11, .yes, .p 11 g11 0 0), (117, .yes, .s 117 g117 0 0 2 2), (118, .yes, .v (.int .i64 2)), (119, .yes, .v (.int .i64 (k : Nat)))], [(11, .blk g11 26 (frC X)), (117, .blk g117 3 ([0, 4000].map fun (n : Int) => SV.v (.int .i64 n)))]))
          (fun k => k ≤ 2) (fun k => 2 - k) (fun _ => rfl) ?_ ?_
        · refine ⟨0, by omega, ?_, ?_, rfl⟩
          all_goals ((repeat' (first | exact trivial | exact rfl | refine And.intro ?_ ?_)) <;> (try (conv => whnf)) <;> (try simp only [SV.real, SV.r2, SV.r1]))
        intro k hk
        by_cases hk2 : k < 2
        case neg =>
          repeat' ((conv => whnf); first | refine walk (Try.ok ..) ?_ | (refine Cnd.mk (fun h => ?_) (fun h => ?_) <;> (first | exact cndT h (by (try dsimp only); omega) | exact cndF h (by (try dsimp only); omega) | (exfalso; simp at h; omega) | simp at h | skip)) | refine kp ?_ ?_ | refine tw ?_ ?_ | exact trivial | refine side2 ?_ | refine sideL2 ?_ | refine Or.inr ?_ | refine sat_drawH (Try.ok ..) (by kernel_rfl) ?_ | refine xi _ (And.intro rfl rfl) ?_ | refine xi _ (fun _ => And.intro rfl rfl) ?_ | refine xi _ rfl ?_)
          refine ⟨b + 5, ⟨by omega, by omega⟩, ?_, ?_, rfl⟩
          all_goals ((repeat' (first | exact trivial | exact rfl | refine And.intro ?_ ?_)) <;> (try (conv => whnf)) <;> (try simp only [SV.real, SV.r2, SV.r1]))
        obtain ⟨n, hn⟩ : ∃ a, ([0, 4000] : List Int)[k]? = some a := ⟨_, List.getElem?_eq_getElem hk2⟩
        have hcell : (([0, 4000] : List Int).map fun (n : Int) => SV.v (.int .i64 n))[0 + mulS (k : Int).toNat 1]? = some (.v (.int .i64 n)) ∧ (SV.v (.int .i64 n)).scal = true := by
          rw [Nat.zero_add, mulS_eq, Int.toNat_natCast, Nat.mul_one, List.getElem?_map, hn]
          exact ⟨rfl, rfl⟩
        have hm : (rwL exH).set (mulS (0 : Int).toNat 5 + 0) (.int .i64 n) = rwL (⟨n, 1000000, -500, 9000, 200000⟩ :: exH.tail) := rfl
        obtain ⟨m, em⟩ : ∃ m, m = (⟨n, 1000000, -500, 9000, 200000⟩ : HRow) :: exH.tail := ⟨_, rfl⟩
        have hml : m.length = 3 := by rw [em]; rfl
        rw [← em] at hm
        repeat' ((conv => whnf); first | refine walk (Try.ok ..) ?_ | (refine Cnd.mk (fun h => ?_) (fun h => ?_) <;> (first | exact cndT h (by (try dsimp only); omega) | exact cndF h (by (try dsimp only); omega) | (exfalso; simp at h; omega) | simp at h | skip)) | refine kp ?_ ?_ | refine tw ?_ ?_ | exact trivial | refine side2 ?_ | refine sideL2 ?_ | refine Or.inr ?_ | refine sat_drawH (Try.ok ..) (by kernel_rfl) ?_ | refine xi _ (And.intro rfl rfl) ?_ | refine xi _ (fun _ => And.intro rfl rfl) ?_ | refine xi _ rfl ?_ | refine xi _ (fun _ => hcell) ?_ | refine xi _ hcell ?_)
        (conv => whnf)
        refine called_row 123 (xs := rwL exH) (m := 3) (fun v => v) (fun A cap => .o 123 A 3 cap) (fun _ _ => rfl) (fun w' hh => by exact example_any w') ?_
        intro A123 c123
        repeat' ((conv => whnf); first | refine walk (Try.ok ..) ?_ | (refine Cnd.mk (fun h => ?_) (fun h => ?_) <;> (first | exact cndT h (by (try dsimp only); omega) | exact cndF h (by (try dsimp only); omega) | (exfalso; simp at h; omega) | simp at h | skip)) | refine kp ?_ ?_ | refine tw ?_ ?_ | exact trivial | refine side2 ?_ | refine sideL2 ?_ | refine Or.inr ?_ | refine xi _ (And.intro rfl rfl) ?_ | refine xi _ (fun _ => And.intro rfl rfl) ?_ | refine xi _ rfl ?_)
        refine sat_to ([(0, .yes, .v (.bool false)), (10, .yes, .v (.int .i64 b)), (11, .yes, .p 11 g11 0 0), (14, .yes, .o 123 A123 3 c123), (117, .yes, .s 117 g117 0 0 2 2), (118, .yes, .v (.int .i64 2)), (119, .yes, .v (.int .i64 (k : Nat)))], [(11, .blk g11 26 (frC X)), (117, .blk g117 3 ([0, 4000].map fun (n : Int) => SV.v (.int .i64 n))), (123, .row A123 31 5 3 c123 (rwL m))]) rfl ?_ ?_ rfl ?_
        · ((repeat' (first | exact trivial | exact rfl | refine And.intro ?_ ?_)) <;> (try (conv => whnf)) <;> (try simp only [SV.real, SV.r2, SV.r1]))
        · ((repeat' (first | exact trivial | exact rfl | refine And.intro ?_ ?_)) <;> (try (conv => whnf)) <;> (try simp only [SV.real, SV.r2, SV.r1]))
          exact hm
        have hA := fun w => addE_any X (ofF 5000) w hX (ofF_big _)
        have bA : Big (addE X (ofF 5000)).1 := addE_big _ _
        obtain ⟨Y, eY⟩ : ∃ r, r = addE X (ofF 5000) := ⟨_, rfl⟩
        rw [← eY] at hA bA
        have lY := frC_len Y.1
        have lO := frC_len (ofF 5000)
        refine sat_join0 (fun (g : Nat) => ([(0, .yes, .v (.bool false)), (10, .yes, .v (.int .i64 b)), (11, .yes, .p 11 g11 0 0), (14, .yes, .o 123 A123 3 c123), (15, .yes, .p 15 g 0 0), (117, .yes, .s 117 g117 0 0 2 2), (118, .yes, .v (.int .i64 2)), (119, .yes, .v (.int .i64 (k : Nat)))], [(11, .blk g11 26 (frC X)), (15, .blk g 26 (frC Y.1)), (117, .blk g117 3 ([0, 4000].map fun (n : Int) => SV.v (.int .i64 n))), (123, .row A123 31 5 3 c123 (rwL m))])) (fun _ => True) (fun _ => rfl) ?_ ?_
        · refine sat_drawH (Try.ok ..) (by kernel_rfl) ?_
          repeat' ((conv => whnf); first | refine walk (Try.ok ..) ?_ | (refine Cnd.mk (fun h => ?_) (fun h => ?_) <;> (first | exact cndT h (by (try dsimp only); omega) | exact cndF h (by (try dsimp only); omega) | (exfalso; simp at h; omega) | simp at h | skip)) | refine kp ?_ ?_ | refine tw ?_ ?_ | exact trivial | refine side2 ?_ | refine sideL2 ?_ | refine Or.inr ?_ | refine sat_drawH (Try.ok ..) (by kernel_rfl) ?_ | refine xi _ (And.intro rfl rfl) ?_ | refine xi _ (fun _ => And.intro rfl rfl) ?_ | refine xi _ rfl ?_ | intro g hg | (refine called_pure (.t [.a (frC Y.1), .v (.int .i64 Y.2)]) rfl (fun w' => by rw [tk1]; exact hA w') ?_) | (refine called_pure (.a (frC (ofF 5000))) rfl (fun w' => by exact of_frac 5000 w' i64) ?_) | (exact ⟨g, trivial, by ((repeat' (first | exact trivial | exact rfl | refine And.intro ?_ ?_)) <;> (try (conv => whnf)) <;> (try simp only [SV.real, SV.r2, SV.r1])), by ((repeat' (first | exact trivial | exact rfl | refine And.intro ?_ ?_)) <;> (try (conv => whnf)) <;> (try simp only [SV.real, SV.r2, SV.r1])), rfl⟩))
        rintro g15 -
        have hro : ∀ {cx : Cx} {H : Heap} {w : World}, Holds cx H w → hfind H 123 = some (.row A123 31 5 3 c123 (rwL m)) → Ro w A123 m.length 5 (rwL m) := fun hh h => by
          have := ro_of_row hh (id := 123) h
          rw [← hml] at this
          exact this
        have ht : ∀ (k : Int) (x : Fr) (w' : World), I64 k → Big x → Ro w' A123 m.length 5 (rwL m) → Calls Try.prog 9 #[.slice (adr A123) 3 c123, .int .i64 k, frV x] w' fun e w2 => e = .returned (.bool true) ∧ Below w'.heap.size w' w2 := fun k x w' h1 h2 h3 => by
          have := htells_any m k x A123 c123 w' h3 (by rw [hml]; decide) h1 h2
          rw [hml] at this
          exact this
        repeat' ((conv => whnf); first | refine walk (Try.ok ..) ?_ | (refine Cnd.mk (fun h => ?_) (fun h => ?_) <;> (first | exact cndT h (by (try dsimp only); omega) | exact cndF h (by (try dsimp only); omega) | (exfalso; simp at h; omega) | simp at h | skip)) | refine kp ?_ ?_ | refine tw ?_ ?_ | exact trivial | refine side2 ?_ | refine sideL2 ?_ | refine Or.inr ?_ | refine sat_drawH (Try.ok ..) (by kernel_rfl) ?_ | refine xi _ (And.intro rfl rfl) ?_ | refine xi _ (fun _ => And.intro rfl rfl) ?_ | refine xi _ rfl ?_)
        (conv => whnf)
        refine called_at (.v (.bool true)) rfl (fun w' hh => by rw [tk1]; exact ht _ _ w' (by refine ⟨?_, ?_⟩ <;> omega) hX (hro hh rfl)) ?_
        repeat' ((conv => whnf); first | refine walk (Try.ok ..) ?_ | (refine Cnd.mk (fun h => ?_) (fun h => ?_) <;> (first | exact cndT h (by (try dsimp only); omega) | exact cndF h (by (try dsimp only); omega) | (exfalso; simp at h; omega) | simp at h | skip)) | refine kp ?_ ?_ | refine tw ?_ ?_ | exact trivial | refine side2 ?_ | refine sideL2 ?_ | refine Or.inr ?_ | refine sat_drawH (Try.ok ..) (by kernel_rfl) ?_ | refine xi _ (And.intro rfl rfl) ?_ | refine xi _ (fun _ => And.intro rfl rfl) ?_ | refine xi _ rfl ?_)
        (conv => whnf)
        refine calledQ_at (.v (.bool true)) rfl (fun _ w' hh => by rw [tk1]; exact ht _ _ w' (by refine ⟨?_, ?_⟩ <;> omega) bA (hro hh rfl)) ?_
        repeat' ((conv => whnf); first | refine walk (Try.ok ..) ?_ | (refine Cnd.mk (fun h => ?_) (fun h => ?_) <;> (first | exact cndT h (by (try dsimp only); omega) | exact cndF h (by (try dsimp only); omega) | (exfalso; simp at h; omega) | simp at h | skip)) | refine kp ?_ ?_ | refine tw ?_ ?_ | exact trivial | refine side2 ?_ | refine sideL2 ?_ | refine Or.inr ?_ | refine sat_drawH (Try.ok ..) (by kernel_rfl) ?_ | refine xi _ (And.intro rfl rfl) ?_ | refine xi _ (fun _ => And.intro rfl rfl) ?_ | refine xi _ rfl ?_)
        refine ⟨k + 1, ⟨by omega, by omega⟩, ?_, ?_, rfl⟩
        all_goals ((repeat' (first | exact trivial | exact rfl | refine And.intro ?_ ?_)) <;> (try (conv => whnf)) <;> (try simp only [SV.real, SV.r2, SV.r1]))
      obtain ⟨n, hn⟩ : ∃ a, numsL[k]? = some a := ⟨_, List.getElem?_eq_getElem hk3⟩
      have hI := num_i64 hn
      have hcell : (numsL.map fun n => SV.v (.int .i64 n))[0 + mulS (k : Int).toNat 1]? = some (.v (.int .i64 n)) ∧ (SV.v (.int .i64 n)).scal = true := by
        rw [Nat.zero_add, mulS_eq, Int.toNat_natCast, Nat.mul_one, List.getElem?_map, hn]
        exact ⟨rfl, rfl⟩
      repeat' ((conv => whnf); first | refine walk (Try.ok ..) ?_ | (refine Cnd.mk (fun h => ?_) (fun h => ?_) <;> (first | exact cndT h (by (try dsimp only); omega) | exact cndF h (by (try dsimp only); omega) | (exfalso; simp at h; omega) | simp at h | skip)) | refine kp ?_ ?_ | refine tw ?_ ?_ | exact trivial | refine side2 ?_ | refine sideL2 ?_ | refine Or.inr ?_ | refine sat_drawH (Try.ok ..) (by kernel_rfl) ?_ | refine xi _ (And.intro rfl rfl) ?_ | refine xi _ (fun _ => And.intro rfl rfl) ?_ | refine xi _ rfl ?_ | refine xi _ (fun _ => hcell) ?_ | refine xi _ hcell ?_)
      refine sat_loop (Try.ok ..) (α := Nat) (fun i => ([(0, .yes, .v (.bool false)), (6, .yes, .v (.int .i64 n)), (7, .yes, .v (.int .i64 (i : Nat))), (55, .yes, .s 55 g55 0 0 19 19), (56, .yes, .v (.int .i64 19)), (57, .yes, .v (.int .i64 (k : Nat)))], [(55, .blk g55 3 (numsL.map fun n => SV.v (.int .i64 n)))]))
        (fun i => i ≤ 15) (fun i => 15 - i) (fun _ => rfl) ?_ ?_
      · refine ⟨0, by omega, ?_, ?_, rfl⟩
        all_goals ((repeat' (first | exact trivial | exact rfl | refine And.intro ?_ ?_)) <;> (try (conv => whnf)) <;> (try simp only [SV.real, SV.r2, SV.r1]))
      intro i hi
      by_cases hi3 : i < 15
      case neg =>
        repeat' ((conv => whnf); first | refine walk (Try.ok ..) ?_ | (refine Cnd.mk (fun h => ?_) (fun h => ?_) <;> (first | exact cndT h (by (try dsimp only); omega) | exact cndF h (by (try dsimp only); omega) | (exfalso; simp at h; omega) | simp at h | skip)) | refine kp ?_ ?_ | refine tw ?_ ?_ | exact trivial | refine side2 ?_ | refine sideL2 ?_ | refine Or.inr ?_ | refine sat_drawH (Try.ok ..) (by kernel_rfl) ?_ | refine xi _ (And.intro rfl rfl) ?_ | refine xi _ (fun _ => And.intro rfl rfl) ?_ | refine xi _ rfl ?_)
        refine ⟨k + 1, ⟨by omega, by omega⟩, ?_, ?_, rfl⟩
        all_goals ((repeat' (first | exact trivial | exact rfl | refine And.intro ?_ ?_)) <;> (try (conv => whnf)) <;> (try simp only [SV.real, SV.r2, SV.r1]))
      repeat' ((conv => whnf); first | refine walk (Try.ok ..) ?_ | (refine Cnd.mk (fun h => ?_) (fun h => ?_) <;> (first | exact cndT h (by (try dsimp only); omega) | exact cndF h (by (try dsimp only); omega) | (exfalso; simp at h; omega) | simp at h | skip)) | refine kp ?_ ?_ | refine tw ?_ ?_ | exact trivial | refine side2 ?_ | refine sideL2 ?_ | refine Or.inr ?_ | refine sat_drawH (Try.ok ..) (by kernel_rfl) ?_ | refine xi _ (And.intro rfl rfl) ?_ | refine xi _ (fun _ => And.intro rfl rfl) ?_ | refine xi _ rfl ?_)
      (conv => whnf)
      refine called_row 65 (xs := rwL exH) (m := 3) (fun v => v) (fun A cap => .o 65 A 3 cap) (fun _ _ => rfl) (fun w' hh => by exact example_any w') ?_
      intro A65 c65
      have hst : mulS ((i : Int) / 5).toNat 5 + ((i : Int) % 5).toNat < (rwL exH).length := by
        rw [mulS_eq, rwL_len]
        show _ < 15
        omega
      obtain ⟨m, hm, he⟩ := rwL_set n exH _ (by rw [← rwL_len]; exact hst)
      repeat' ((conv => whnf); first | refine walk (Try.ok ..) ?_ | (refine Cnd.mk (fun h => ?_) (fun h => ?_) <;> (first | exact cndT h (by (try dsimp only); omega) | exact cndF h (by (try dsimp only); omega) | (exfalso; simp at h; omega) | simp at h | skip)) | refine kp ?_ ?_ | refine tw ?_ ?_ | exact trivial | refine side2 ?_ | refine sideL2 ?_ | refine Or.inr ?_ | refine xi _ (And.intro rfl rfl) ?_ | refine xi _ (fun _ => And.intro rfl rfl) ?_ | refine xi _ rfl ?_)
      (conv => whnf)
      refine sat_join0 (fun (_ : Unit) => ([(0, .yes, .v (.bool false)), (6, .yes, .v (.int .i64 n)), (7, .yes, .v (.int .i64 (i : Nat))), (8, .yes, .o 65 A65 3 c65), (55, .yes, .s 55 g55 0 0 19 19), (56, .yes, .v (.int .i64 19)), (57, .yes, .v (.int .i64 (k : Nat)))], [(55, .blk g55 3 (numsL.map fun n => SV.v (.int .i64 n))), (65, .row A65 31 5 3 c65 (rwL m))])) (fun _ => True) (fun _ => rfl) ?_ ?_
      · refine sat_draw (Try.ok ..) [] [] (by kernel_rfl) (fun w hw => hw.sub trivial) ?_
        repeat' ((conv => whnf); first | (refine xi _ (ptr5 65 _ _ _ _ (Int.natCast_nonneg i)) ?_) | refine walk (Try.ok ..) ?_ | (refine Cnd.mk (fun h => ?_) (fun h => ?_) <;> (first | exact cndT h (by (try dsimp only); omega) | exact cndF h (by (try dsimp only); omega) | (exfalso; simp at h; omega) | simp at h | skip)) | refine kp ?_ ?_ | refine tw ?_ ?_ | exact trivial | refine side2 ?_ | refine sideL2 ?_ | refine Or.inr ?_ | refine sat_drawH (Try.ok ..) (by kernel_rfl) ?_ | refine xi _ (And.intro rfl rfl) ?_ | refine xi _ (fun _ => And.intro rfl rfl) ?_ | refine xi _ rfl ?_)
        refine ⟨(), trivial, ?_, ?_, rfl⟩
        · ((repeat' (first | exact trivial | exact rfl | refine And.intro ?_ ?_)) <;> (try (conv => whnf)) <;> (try simp only [SV.real, SV.r2, SV.r1]))
        · ((repeat' (first | exact trivial | exact rfl | refine And.intro ?_ ?_)) <;> (try (conv => whnf)) <;> (try simp only [SV.real, SV.r2, SV.r1]))
          exact he
      rintro - -
      have hro : ∀ {cx : Cx} {H : Heap} {w : World}, Holds cx H w → hfind H 65 = some (.row A65 31 5 3 c65 (rwL m)) → Ro w A65 m.length 5 (rwL m) := fun hh h => by
        have := ro_of_row hh (id := 65) h
        rw [← show m.length = 3 from hm] at this
        exact this
      have ht : ∀ (k : Int) (x : Fr) (w' : World), I64 k → Big x → Ro w' A65 m.length 5 (rwL m) → Calls Try.prog 9 #[.slice (adr A65) 3 c65, .int .i64 k, frV x] w' fun e w2 => e = .returned (.bool true) ∧ Below w'.heap.size w' w2 := fun k x w' h1 h2 h3 => by
        have := htells_any m k x A65 c65 w' h3 (by rw [hm]; decide) h1 h2
        rw [show m.length = 3 from hm] at this
        exact this
      repeat' ((conv => whnf); first | refine walk (Try.ok ..) ?_ | (refine Cnd.mk (fun h => ?_) (fun h => ?_) <;> (first | exact cndT h (by (try dsimp only); omega) | exact cndF h (by (try dsimp only); omega) | (exfalso; simp at h; omega) | simp at h | skip)) | refine kp ?_ ?_ | refine tw ?_ ?_ | exact trivial | refine side2 ?_ | refine sideL2 ?_ | refine Or.inr ?_ | refine sat_drawH (Try.ok ..) (by kernel_rfl) ?_ | refine xi _ (And.intro rfl rfl) ?_ | refine xi _ (fun _ => And.intro rfl rfl) ?_ | refine xi _ rfl ?_)
      (conv => whnf)
      refine called_pure (.a (frC (ofF 6001))) rfl (fun w' => by exact of_frac 6001 w' i64) ?_
      repeat' ((conv => whnf); first | refine walk (Try.ok ..) ?_ | (refine Cnd.mk (fun h => ?_) (fun h => ?_) <;> (first | exact cndT h (by (try dsimp only); omega) | exact cndF h (by (try dsimp only); omega) | (exfalso; simp at h; omega) | simp at h | skip)) | refine kp ?_ ?_ | refine tw ?_ ?_ | exact trivial | refine side2 ?_ | refine sideL2 ?_ | refine Or.inr ?_ | refine sat_drawH (Try.ok ..) (by kernel_rfl) ?_ | refine xi _ (And.intro rfl rfl) ?_ | refine xi _ (fun _ => And.intro rfl rfl) ?_ | refine xi _ rfl ?_)
      (conv => whnf)
      refine called_at (.v (.bool true)) rfl (fun w' hh => by exact ht _ _ w' i64 (ofF_big _) (hro hh rfl)) ?_
      repeat' ((conv => whnf); first | refine walk (Try.ok ..) ?_ | (refine Cnd.mk (fun h => ?_) (fun h => ?_) <;> (first | exact cndT h (by (try dsimp only); omega) | exact cndF h (by (try dsimp only); omega) | (exfalso; simp at h; omega) | simp at h | skip)) | refine kp ?_ ?_ | refine tw ?_ ?_ | exact trivial | refine side2 ?_ | refine sideL2 ?_ | refine Or.inr ?_ | refine sat_drawH (Try.ok ..) (by kernel_rfl) ?_ | refine xi _ (And.intro rfl rfl) ?_ | refine xi _ (fun _ => And.intro rfl rfl) ?_ | refine xi _ rfl ?_)
      (conv => whnf)
      refine calledQ_pure (.a (frC (ratioE n 3).1)) rfl (fun _ w' => by exact hratio_any _ _ w' (by refine ⟨?_, ?_⟩ <;> omega) i64) ?_
      repeat' ((conv => whnf); first | refine walk (Try.ok ..) ?_ | (refine Cnd.mk (fun h => ?_) (fun h => ?_) <;> (first | exact cndT h (by (try dsimp only); omega) | exact cndF h (by (try dsimp only); omega) | (exfalso; simp at h; omega) | simp at h | skip)) | refine kp ?_ ?_ | refine tw ?_ ?_ | exact trivial | refine side2 ?_ | refine sideL2 ?_ | refine Or.inr ?_ | refine sat_drawH (Try.ok ..) (by kernel_rfl) ?_ | refine xi _ (And.intro rfl rfl) ?_ | refine xi _ (fun _ => And.intro rfl rfl) ?_ | refine xi _ rfl ?_)
      (conv => whnf)
      refine calledQ_at (.v (.bool true)) rfl (fun _ w' hh => by exact ht _ _ w' (by refine ⟨?_, ?_⟩ <;> omega) (ratio_big' _ _) (hro hh rfl)) ?_
      repeat' ((conv => whnf); first | refine walk (Try.ok ..) ?_ | (refine Cnd.mk (fun h => ?_) (fun h => ?_) <;> (first | exact cndT h (by (try dsimp only); omega) | exact cndF h (by (try dsimp only); omega) | (exfalso; simp at h; omega) | simp at h | skip)) | refine kp ?_ ?_ | refine tw ?_ ?_ | exact trivial | refine side2 ?_ | refine sideL2 ?_ | refine Or.inr ?_ | refine sat_drawH (Try.ok ..) (by kernel_rfl) ?_ | refine xi _ (And.intro rfl rfl) ?_ | refine xi _ (fun _ => And.intro rfl rfl) ?_ | refine xi _ rfl ?_)
      refine ⟨i + 1, ⟨by omega, by omega⟩, ?_, ?_, rfl⟩
      all_goals ((repeat' (first | exact trivial | exact rfl | refine And.intro ?_ ?_)) <;> (try (conv => whnf)) <;> (try simp only [SV.real, SV.r2, SV.r1]))
    obtain ⟨r, hr⟩ : ∃ a, exH[k]? = some a := ⟨_, List.getElem?_eq_getElem hk3⟩
    obtain ⟨_, _, _, _⟩ := ex_row hr
    repeat' ((conv => whnf); first | refine walk (Try.ok ..) ?_ | (refine Cnd.mk (fun h => ?_) (fun h => ?_) <;> (first | exact cndT h (by (try dsimp only); omega) | exact cndF h (by (try dsimp only); omega) | (exfalso; simp at h; omega) | simp at h | skip)) | refine kp ?_ ?_ | refine tw ?_ ?_ | exact trivial | refine side2 ?_ | refine sideL2 ?_ | refine Or.inr ?_ | refine sat_drawH (Try.ok ..) (by kernel_rfl) ?_ | refine xi _ (And.intro rfl rfl) ?_ | refine xi _ (fun _ => And.intro rfl rfl) ?_ | refine xi _ rfl ?_ | refine xi _ (fun _ => (rw_cells hr rfl)) ?_ | refine xi _ (rw_cells hr rfl) ?_)
    (conv => whnf)
    intro g2 hg2
    repeat' ((conv => whnf); first | refine walk (Try.ok ..) ?_ | (refine Cnd.mk (fun h => ?_) (fun h => ?_) <;> (first | exact cndT h (by (try dsimp only); omega) | exact cndF h (by (try dsimp only); omega) | (exfalso; simp at h; omega) | simp at h | skip)) | refine kp ?_ ?_ | refine tw ?_ ?_ | exact trivial | refine side2 ?_ | refine sideL2 ?_ | refine Or.inr ?_ | refine sat_drawH (Try.ok ..) (by kernel_rfl) ?_ | refine xi _ (And.intro rfl rfl) ?_ | refine xi _ (fun _ => And.intro rfl rfl) ?_ | refine xi _ rfl ?_)
    refine sat_loop (Try.ok ..) (α := Int) (fun n => ([(0, .yes, .v (.bool false)), (2, .yes, .p 2 g2 0 0), (3, .yes, .v (.int .i64 n)), (21, .yes, .o 21 A21 3 c21), (22, .yes, .v (.int .i64 3)), (23, .yes, .v (.int .i64 (k : Nat)))], [(2, .blk g2 31 (rwC r)), (21, .row A21 31 5 3 c21 (rwL exH))]))
      (fun n => -2 ≤ n ∧ n ≤ 3) (fun n => (3 - n).toNat) (fun _ => rfl) ?_ ?_
    · refine ⟨-2, by omega, ?_, ?_, rfl⟩
      all_goals ((repeat' (first | exact trivial | exact rfl | refine And.intro ?_ ?_)) <;> (try (conv => whnf)) <;> (try simp only [SV.real, SV.r2, SV.r1]))
    rintro n ⟨hn0, hn1⟩
    by_cases hn3 : n ≤ 2
    case neg =>
      repeat' ((conv => whnf); first | refine walk (Try.ok ..) ?_ | (refine Cnd.mk (fun h => ?_) (fun h => ?_) <;> (first | exact cndT h (by (try dsimp only); omega) | exact cndF h (by (try dsimp only); omega) | (exfalso; simp at h; omega) | simp at h | skip)) | refine kp ?_ ?_ | refine tw ?_ ?_ | exact trivial | refine side2 ?_ | refine sideL2 ?_ | refine Or.inr ?_ | refine sat_drawH (Try.ok ..) (by kernel_rfl) ?_ | refine xi _ (And.intro rfl rfl) ?_ | refine xi _ (fun _ => And.intro rfl rfl) ?_ | refine xi _ rfl ?_)
      refine ⟨k + 1, ⟨by omega, by omega⟩, ?_, ?_, rfl⟩
      all_goals ((repeat' (first | exact trivial | exact rfl | refine And.intro ?_ ?_)) <;> (try (conv => whnf)) <;> (try simp only [SV.real, SV.r2, SV.r1]))
    repeat' ((conv => whnf); first | refine walk (Try.ok ..) ?_ | (refine Cnd.mk (fun h => ?_) (fun h => ?_) <;> (first | exact cndT h (by (try dsimp only); omega) | exact cndF h (by (try dsimp only); omega) | (exfalso; simp at h; omega) | simp at h | skip)) | refine kp ?_ ?_ | refine tw ?_ ?_ | exact trivial | refine side2 ?_ | refine sideL2 ?_ | refine Or.inr ?_ | refine sat_drawH (Try.ok ..) (by kernel_rfl) ?_ | refine xi _ (And.intro rfl rfl) ?_ | refine xi _ (fun _ => And.intro rfl rfl) ?_ | refine xi _ rfl ?_)
    refine sat_loop (Try.ok ..) (α := Int) (fun d => ([(0, .yes, .v (.bool false)), (2, .yes, .p 2 g2 0 0), (3, .yes, .v (.int .i64 n)), (4, .yes, .v (.int .i64 d)), (21, .yes, .o 21 A21 3 c21), (22, .yes, .v (.int .i64 3)), (23, .yes, .v (.int .i64 (k : Nat)))], [(2, .blk g2 31 (rwC r)), (21, .row A21 31 5 3 c21 (rwL exH))]))
      (fun d => 1 ≤ d ∧ d ≤ 6) (fun d => (6 - d).toNat) (fun _ => rfl) ?_ ?_
    · refine ⟨1, by omega, ?_, ?_, rfl⟩
      all_goals ((repeat' (first | exact trivial | exact rfl | refine And.intro ?_ ?_)) <;> (try (conv => whnf)) <;> (try simp only [SV.real, SV.r2, SV.r1]))
    rintro d ⟨hd0, hd1⟩
    by_cases hd5 : d ≤ 5
    case neg =>
      repeat' ((conv => whnf); first | refine walk (Try.ok ..) ?_ | (refine Cnd.mk (fun h => ?_) (fun h => ?_) <;> (first | exact cndT h (by (try dsimp only); omega) | exact cndF h (by (try dsimp only); omega) | (exfalso; simp at h; omega) | simp at h | skip)) | refine kp ?_ ?_ | refine tw ?_ ?_ | exact trivial | refine side2 ?_ | refine sideL2 ?_ | refine Or.inr ?_ | refine sat_drawH (Try.ok ..) (by kernel_rfl) ?_ | refine xi _ (And.intro rfl rfl) ?_ | refine xi _ (fun _ => And.intro rfl rfl) ?_ | refine xi _ rfl ?_)
      refine ⟨n + 1, ⟨by omega, by omega⟩, ?_, ?_, rfl⟩
      all_goals ((repeat' (first | exact trivial | exact rfl | refine And.intro ?_ ?_)) <;> (try (conv => whnf)) <;> (try simp only [SV.real, SV.r2, SV.r1]))
    have e1 : -10 ≤ n * d ∧ n * d ≤ 10 := by rcases (by omega : d = 1 ∨ d = 2 ∨ d = 3 ∨ d = 4 ∨ d = 5) with rfl | rfl | rfl | rfl | rfl <;> omega
    have e2 : -50 ≤ n * d * d ∧ n * d * d ≤ 50 := by rcases (by omega : d = 1 ∨ d = 2 ∨ d = 3 ∨ d = 4 ∨ d = 5) with rfl | rfl | rfl | rfl | rfl <;> omega
    have e3 : 0 ≤ r.d * d ∧ r.d * d ≤ 45000 := by rcases (by omega : d = 1 ∨ d = 2 ∨ d = 3 ∨ d = 4 ∨ d = 5) with rfl | rfl | rfl | rfl | rfl <;> omega
    repeat' ((conv => whnf); first | refine walk (Try.ok ..) ?_ | (refine Cnd.mk (fun h => ?_) (fun h => ?_) <;> (first | exact cndT h (by (try dsimp only); omega) | exact cndF h (by (try dsimp only); omega) | (exfalso; simp at h; omega) | simp at h | skip)) | refine kp ?_ ?_ | refine tw ?_ ?_ | exact trivial | refine side2 ?_ | refine sideL2 ?_ | refine Or.inr ?_ | refine xi _ (And.intro rfl rfl) ?_ | refine xi _ (fun _ => And.intro rfl rfl) ?_ | refine xi _ rfl ?_)
    (conv => whnf)
    refine sat_drawH (Try.ok ..) (by kernel_rfl) ?_
    repeat' ((conv => whnf); first | refine walk (Try.ok ..) ?_ | (refine Cnd.mk (fun h => ?_) (fun h => ?_) <;> (first | exact cndT h (by (try dsimp only); omega) | exact cndF h (by (try dsimp only); omega) | (exfalso; simp at h; omega) | simp at h | skip)) | refine kp ?_ ?_ | refine tw ?_ ?_ | exact trivial | refine side2 ?_ | refine sideL2 ?_ | refine Or.inr ?_ | refine sat_drawH (Try.ok ..) (by kernel_rfl) ?_ | refine xi _ (And.intro rfl rfl) ?_ | refine xi _ (fun _ => And.intro rfl rfl) ?_ | refine xi _ rfl ?_)
    (conv => whnf)
    refine called_row 35 (xs := rwL exH) (m := 3) (fun v => v) (fun A cap => .o 35 A 3 cap) (fun _ _ => rfl) (fun w' hh => by exact example_any w') ?_
    intro A35 c35
    repeat' ((conv => whnf); first | refine walk (Try.ok ..) ?_ | (refine Cnd.mk (fun h => ?_) (fun h => ?_) <;> (first | exact cndT h (by (try dsimp only); omega) | exact cndF h (by (try dsimp only); omega) | (exfalso; simp at h; omega) | simp at h | skip)) | refine kp ?_ ?_ | refine tw ?_ ?_ | exact trivial | refine side2 ?_ | refine sideL2 ?_ | refine Or.inr ?_ | refine sat_drawH (Try.ok ..) (by kernel_rfl) ?_ | refine xi _ (And.intro rfl rfl) ?_ | refine xi _ (fun _ => And.intro rfl rfl) ?_ | refine xi _ rfl ?_)
    (conv => whnf)
    refine called_pure (.a (frC (ratioE (r.d * d + n) d).1)) rfl (fun w' => by exact hratio_any _ _ w' (by refine ⟨?_, ?_⟩ <;> omega) (by refine ⟨?_, ?_⟩ <;> omega)) ?_
    repeat' ((conv => whnf); first | refine walk (Try.ok ..) ?_ | (refine Cnd.mk (fun h => ?_) (fun h => ?_) <;> (first | exact cndT h (by (try dsimp only); omega) | exact cndF h (by (try dsimp only); omega) | (exfalso; simp at h; omega) | simp at h | skip)) | refine kp ?_ ?_ | refine tw ?_ ?_ | exact trivial | refine side2 ?_ | refine sideL2 ?_ | refine Or.inr ?_ | refine sat_drawH (Try.ok ..) (by kernel_rfl) ?_ | refine xi _ (And.intro rfl rfl) ?_ | refine xi _ (fun _ => And.intro rfl rfl) ?_ | refine xi _ rfl ?_)
    (conv => whnf)
    refine called_at (.v (.bool true)) rfl (fun w' hh => by exact htells_any exH (r.k + n * d * d) _ A35 c35 w' (ro_of_row hh (id := 35) rfl) (by decide) (by refine ⟨?_, ?_⟩ <;> omega) (ratio_big' _ _)) ?_
    repeat' ((conv => whnf); first | refine walk (Try.ok ..) ?_ | (refine Cnd.mk (fun h => ?_) (fun h => ?_) <;> (first | exact cndT h (by (try dsimp only); omega) | exact cndF h (by (try dsimp only); omega) | (exfalso; simp at h; omega) | simp at h | skip)) | refine kp ?_ ?_ | refine tw ?_ ?_ | exact trivial | refine side2 ?_ | refine sideL2 ?_ | refine Or.inr ?_ | refine sat_drawH (Try.ok ..) (by kernel_rfl) ?_ | refine xi _ (And.intro rfl rfl) ?_ | refine xi _ (fun _ => And.intro rfl rfl) ?_ | refine xi _ rfl ?_)
    refine ⟨d + 1, ⟨by omega, by omega⟩, ?_, ?_, rfl⟩
    all_goals ((repeat' (first | exact trivial | exact rfl | refine And.intro ?_ ?_)) <;> (try (conv => whnf)) <;> (try simp only [SV.real, SV.r2, SV.r1]))
end Go.Proofs.Ytomhfakkebaciaa
