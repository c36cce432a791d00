/-
  The walks of the reference: products, one, which fractions are right.
-/
import Derived.Test.YtmekcdjaafegaaaGreatDoorR8
namespace Go.Proofs.YtmekcdjaafegaaaGreatDoor
open Go Sat Go.RowKit Go.PlainAid
set_option linter.unusedSimpArgs false
set_option linter.unusedVariables false
set_option maxRecDepth 100000 in
set_option maxHeartbeats 8000000 in
theorem rone_any (x : Nat) (X : Option (Nat × Nat)) (capX : Nat) (w : World) (hx : Ro w X (dg b6 x).length 1 (iv (dg b6 x))) (hxl : (dg b6 x).length ≤ 100000) :
    Calls Tryz.prog 70 #[.slice (adr X) (dg b6 x).length capX] w fun e w' => e = .returned (.bool (decide (x = 1))) ∧ Below w.heap.size w w' := by
  have hone := len_one (B := b6) b6_2 x
  obtain ⟨l, el⟩ : ∃ l, l = dg b6 x := ⟨_, rfl⟩
  rw [← el] at hx hxl hone ⊢
  refine calls_sat (cx := Tryz.cx 12 [] [] [] w) (Tryz.ok ..) Tryz.func70 rfl [.o 100 X l.length capX] rfl (by show 1 ≤ 12; omega) [(100, .ro X l.length 1 (iv l))] (holds_ros rfl rfl ⟨hx, trivial⟩) ?_
  by_cases h1 : l.length = 1
  · obtain ⟨a, ha⟩ := iv_at (l := l) (k := 0) (by omega)
    have hu : decide (x = 1) = decide ((a : Int) = 1) := by
      have : x = 1 ↔ (a : Int) = 1 := by
        rw [← hone, ha]
        simp only [Option.some.injEq]
        omega
      simp only [this]
    rw [hu, h1]
    rw [h1] at hx
    repeat' ((conv => whnf); first | refine walk (Tryz.ok ..) ?_ | refine side2 ?_ | refine xi _ (fun _ => i_at ha rfl) ?_ | fail)
    exact done_pure rfl rfl (congrArg Value.bool (by rw [Bool.eq_iff_iff]; simp))
  · have hu : decide (x = 1) = false := decide_eq_false fun h => h1 (hone.2 h).1
    rw [hu]
    repeat' ((conv => whnf); first | refine walk (Tryz.ok ..) ?_ | refine side2 ?_ | refine xi _ (no_i (by simp; omega)) ?_ | fail)
    exact done_pure rfl rfl (congrArg Value.bool (by rw [Bool.and_eq_false_iff]; left; simpa using (by omega : (l.length : Int) ≠ 1)))
set_option maxRecDepth 100000 in
set_option maxHeartbeats 8000000 in
theorem rmul_any (x y : Nat) (X Y : Option (Nat × Nat)) (capX capY : Nat) (w : World) (hx : Ro w X (dg b6 x).length 1 (iv (dg b6 x))) (hy : Ro w Y (dg b6 y).length 1 (iv (dg b6 y))) (hxl : (dg b6 x).length ≤ 1000) (hyl : (dg b6 y).length ≤ 1000) :
    Calls Tryz.prog 65 #[.slice (adr X) (dg b6 x).length capX, .slice (adr Y) (dg b6 y).length capY] w fun e w' => ∃ v, e = .returned v ∧ w'.ownsRow w.heap.size 3 1 v (dg b6 (x * y)).length (iv (dg b6 (x * y))) ∧ Below w.heap.size w w' := by
  have hbb : b6 = 65536 := rfl
  have hle : ∀ z, z ≤ y → (dg b6 (x * z)).length ≤ (dg b6 x).length + (dg b6 y).length := by
    intro z hz
    have h1 : x * z ≤ x * y := Nat.mul_le_mul_left _ hz
    refine Nat.le_trans (len_le b6_2 h1) ?_
    rw [dg_len b6_2, Nat.pow_add]
    exact Nat.mul_lt_mul'' (dg_upper b6_2 x) (dg_upper b6_2 y)
  obtain ⟨n, hn⟩ : ∃ n, n = (dg b6 x).length := ⟨_, rfl⟩
  obtain ⟨m, hm⟩ : ∃ n, n = (dg b6 y).length := ⟨_, rfl⟩
  rw [← hn] at hx hxl hle ⊢
  rw [← hm] at hy hyl hle ⊢
  refine calls_sat (cx := Tryz.cx 27 [5] [] [] w) (Tryz.ok ..) Tryz.func65 rfl [.o 100 X n capX, .o 101 Y m capY] rfl (by show 2 ≤ 27; omega) [(100, .ro X n 1 (iv (dg b6 x))), (101, .ro Y m 1 (iv (dg b6 y)))] (holds_ros rfl rfl ⟨hx, hy, trivial⟩) ?_
  repeat' ((conv => whnf); first | refine walk (Tryz.ok ..) ?_ | refine sideL2 ?_ | fail)
  refine sat_loop (Tryz.ok ..) (α := Nat × Option (Nat × Nat) × Nat) (fun s => ([(0, .yes, .o 100 X n capX), (1, .yes, .o 101 Y m capY), (5, .yes, .o 24 s.2.1 (dg b6 (x * (y / b6 ^ s.1))).length s.2.2), (6, .yes, .v (.int .i64 ((s.1 : Int) - 1)))], [(24, .row s.2.1 3 1 (dg b6 (x * (y / b6 ^ s.1))).length s.2.2 (iv (dg b6 (x * (y / b6 ^ s.1))))), (100, .ro X n 1 (iv (dg b6 x))), (101, .ro Y m 1 (iv (dg b6 y)))]))
    (fun s => s.1 ≤ m) (fun s => s.1) (fun _ => rfl) ?_ ?_
  · have h0 : y / b6 ^ m = 0 := Nat.div_eq_of_lt (by rw [hm]; exact dg_upper b6_2 y)
    refine ⟨(m, none, 0), Nat.le_refl _, ?_, ?_, rfl⟩
    · dsimp only
      rw [h0]
      ((repeat' (first | exact trivial | exact rfl | refine And.intro ?_ ?_)) <;> (try (conv => whnf)) <;> (try simp only [SV.real, SV.r2, SV.r1]))
    · dsimp only
      rw [h0]
      ((repeat' (first | exact trivial | exact rfl | refine And.intro ?_ ?_)) <;> (try (conv => whnf)) <;> (try simp only [SV.real, SV.r2, SV.r1]))
  rintro ⟨k, A, cap⟩ hk
  dsimp only at hk
  by_cases hk0 : k = 0
  · subst hk0
    rw [Nat.pow_zero, Nat.div_one]
    have hl := hle y (Nat.le_refl _)
    have htr := trim_dg (B := b6) b6_2 (x * y)
    repeat' ((conv => whnf); first | refine walk (Tryz.ok ..) ?_ | (refine Cnd.mk (fun h => ?_) (fun h => ?_) <;> (first | exact cndT h (by (try dsimp only); omega) | exact cndF h (by (try dsimp only); omega) | (exfalso; simp at h; omega) | simp at h | skip)) | fail)
    refine called_trim 24 (dg b6 (x * y)).length rfl (Nat.le_refl _) (fun w' hh => by
      have h1 := rtrim_any (dg b6 (x * y)) A cap w' (ro_of_row hh (id := 24) rfl) (by omega) (row_cap6 hh (id := 24) rfl)
      rw [htr] at h1
      exact h1) ?_
    repeat' ((conv => whnf); first | refine walk (Tryz.ok ..) ?_ | fail)
    exact done_row2 (mk := fun v => v) rfl rfl 24 A cap rfl rfl (by rw [Nat.mul_one, List.take_of_length_le (by rw [iv_len]; exact Nat.le_refl _)]) rfl
  obtain ⟨i, rfl⟩ : ∃ i, k = i + 1 := ⟨k - 1, by omega⟩
  have hya := dg_get b6_2 i y (by omega)
  have hst := mul_next (B := b6) (x := x) (y := y) (i := i)
  have ld : y / b6 ^ i % b6 < 65536 := Nat.mod_lt _ (by decide)
  have hl1 := hle (y / b6 ^ (i + 1)) (Nat.div_le_self _ _)
  have hl2 := hle (y / b6 ^ i) (Nat.div_le_self _ _)
  obtain ⟨d, ed⟩ : ∃ d, d = y / b6 ^ i % b6 := ⟨_, rfl⟩
  obtain ⟨P, eP⟩ : ∃ P, P = x * (y / b6 ^ (i + 1)) := ⟨_, rfl⟩
  obtain ⟨Q, eQ⟩ : ∃ P, P = x * (y / b6 ^ i) := ⟨_, rfl⟩
  rw [← ed] at hya hst ld
  rw [← eP] at hst hl1 ⊢
  rw [← eQ] at hst hl2
  have hct := shift_trim (B := b6) (m := P) b6_2
  have hset : [Value.int .i64 (0 : Int)] ++ List.take ((dg b6 P).length * 1) (iv (dg b6 P)) = iv (0 :: dg b6 P) := by
    rw [Nat.mul_one, List.take_of_length_le (by rw [iv_len]; exact Nat.le_refl _)]
    rfl
  have hal : allV (List.take ((dg b6 P).length * 1) (iv (dg b6 P))) = true := by rw [iv_take]; exact iv_all _
  have hPl : (iv (dg b6 P)).length = (dg b6 P).length := iv_len _
  have hcl : (dg b6 (b6 * P)).length ≤ 1 + (dg b6 P).length := by
    rw [← hct]
    have := trim_len (0 :: dg b6 P)
    rw [List.length_cons] at this
    omega
  have hcut : ([Value.int .i64 (0 : Int)] ++ List.take ((dg b6 P).length * 1) (iv (dg b6 P))).take ((dg b6 (b6 * P)).length * 1) = iv (dg b6 (b6 * P)) := by
    rw [hset, Nat.mul_one, iv_take, ← hct, ← trim_take6]
  have hxdl : (dg b6 (x * d)).length ≤ n + 1 := by
    rw [dg_len b6_2, Nat.pow_succ]
    exact Nat.mul_lt_mul'' ((dg_len b6_2 _ x).1 (by omega)) ld
  repeat' ((conv => whnf); first | refine walk (Tryz.ok ..) ?_ | (refine Cnd.mk (fun h => ?_) (fun h => ?_) <;> (first | exact cndT h (by (try dsimp only); omega) | exact cndF h (by (try dsimp only); omega) | (exfalso; simp at h; omega) | simp at h | skip)) | fail)
  refine sat_draw (Tryz.ok ..) [] [(101, .ro Y m 1 (iv (dg b6 y)))] (by kernel_rfl) (fun w hw => hw.sub ?_) ?_
  · ((repeat' (first | exact trivial | exact rfl | refine And.intro ?_ ?_)) <;> (try (conv => whnf)) <;> (try simp only [SV.real, SV.r2, SV.r1]))
  repeat' ((conv => whnf); first | refine side2 ?_ | refine xi _ (i_at hya (by omega)) ?_ | fail)
  (conv => whnf)
  intro g14 hg14
  repeat' ((conv => whnf); first | refine kp ?_ ?_ | exact trivial | refine side2 ?_ | fail)
  intro A2 cap2
  repeat' ((conv => whnf); first | refine kp ?_ ?_ | exact trivial | refine side2 ?_ | fail)
  refine called_trim 14 (dg b6 (b6 * P)).length rfl hcl (fun w' hh => by
    have h0 : Ro w' A2 (1 + (dg b6 P).length) 1 (iv (0 :: dg b6 P)) := by rw [← hset]; exact ro_of_row hh (id := 14) rfl
    have h1 := rtrim_any (0 :: dg b6 P) A2 cap2 w' (by rw [List.length_cons, Nat.add_comm]; exact h0) (by rw [List.length_cons]; omega) (by rw [List.length_cons, Nat.add_comm]; exact row_cap6 hh (id := 14) rfl)
    rw [hct, List.length_cons, Nat.add_comm] at h1
    exact h1) ?_
  repeat' ((conv => whnf); first | refine kp ?_ ?_ | exact trivial | refine side2 ?_ | fail)
  refine called_row 23 (xs := iv (dg b6 (x * d))) (m := (dg b6 (x * d)).length) (fun v => v) (fun A cap => .o 23 A (dg b6 (x * d)).length cap) (fun _ _ => rfl) (fun w' hh => by
    have h1 := rscale_any x d X capX w' ld (by rw [← hn]; exact ro_of_ro hh (id := 100) rfl) (by omega)
    rw [← hn] at h1
    exact h1) ?_
  intro A3 cap3
  repeat' ((conv => whnf); first | refine kp ?_ ?_ | exact trivial | refine side2 ?_ | fail)
  refine called_row 24 (xs := iv (dg b6 Q)) (m := (dg b6 Q).length) (fun v => v) (fun A cap => .o 24 A (dg b6 Q).length cap) (fun _ _ => rfl) (fun w' hh => by
    have h1 := radd_any (b6 * P) (x * d) A2 A3 cap2 cap3 w' (by have h2 := ro_of_row hh (id := 14) rfl; rw [← hcut]; exact h2) (ro_of_row hh (id := 23) rfl) (by omega) (by omega)
    rw [hst] at h1
    exact h1) ?_
  intro A4 cap4
  repeat' ((conv => whnf); first | refine walk (Tryz.ok ..) ?_ | refine kp ?_ ?_ | exact trivial | refine side2 ?_ | refine sideL2 ?_ | fail)
  refine ⟨(i, A4, cap4), ⟨by dsimp only; omega, by dsimp only; omega⟩, ?_, ?_, rfl⟩
  · dsimp only
    rw [← eQ]
    ((repeat' (first | exact trivial | exact rfl | refine And.intro ?_ ?_)) <;> (try (conv => whnf)) <;> (try simp only [SV.real, SV.r2, SV.r1]))
    all_goals exact congrArg (Value.int .i64) (by omega)
  · dsimp only
    rw [← eQ]
    ((repeat' (first | exact trivial | exact rfl | refine And.intro ?_ ?_)) <;> (try (conv => whnf)) <;> (try simp only [SV.real, SV.r2, SV.r1]))
end Go.Proofs.YtmekcdjaafegaaaGreatDoor
