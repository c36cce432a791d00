/-
  The walks of the reference's numbers: digits of limbs, sums, products, one.
-/
import Derived.Test.YtmekcdjaafegaaaGreatDoorRC
namespace Go.Proofs.YtmekcdjaafegaaaGreatDoor
open Go Sat Go.RowKit Go.PlainAid
set_option linter.unusedSimpArgs false
set_option linter.unusedVariables false
theorem limb_two {n i l : Nat} (h : l = n / bb ^ i % bb) : l % b6 = n / b6 ^ (2 * i) % b6 ∧ l / b6 = n / b6 ^ (2 * i + 1) % b6 ∧ l < bb := by
  have hp := pow_half i
  have hb : bb = b6 * b6 := by decide
  refine ⟨?_, ?_, ?_⟩
  · rw [h, hb, Nat.mod_mul_right_mod, ← hb, hp]
  · rw [h, hb, Nat.mod_mul_right_div_self, ← hb, Nat.pow_succ, ← Nat.div_div_eq_div_mul, hp]
  · rw [h]; exact Nat.mod_lt _ (by decide)
set_option maxRecDepth 100000 in
set_option maxHeartbeats 8000000 in
theorem rdigits_any (n : Nat) (w : World) (hn : n < big) :
    Calls Tryz.prog 64 #[(SV.a (uc (lim n))).real] w fun e w' => ∃ v, e = .returned v ∧ w'.ownsRow w.heap.size 3 1 v (dg b6 n).length (iv (dg b6 n)) ∧ Below w.heap.size w w' := by
  have hl8 := lim_len n
  have hul : (uc (lim n)).length = 8 := by rw [uc_len, hl8]
  refine calls_sat (cx := Tryz.cx 24 [5] [] [] w) (Tryz.ok ..) Tryz.func64 rfl [.a (uc (lim n))] rfl (by show 1 ≤ 24; omega) [] (holds_nil (Nat.le_refl _)) ?_
  repeat' ((conv => whnf); first | refine walk (Tryz.ok ..) ?_ | fail)
  (conv => whnf)
  intro g1 hg1
  repeat' ((conv => whnf); first | refine walk (Tryz.ok ..) ?_ | fail)
  refine sat_loop (Tryz.ok ..) (α := Nat × Option (Nat × Nat) × Nat) (fun s => ([(1, .yes, .p 1 g1 0 0), (3, .yes, .o 21 s.2.1 (2 * s.1) s.2.2), (4, .yes, .v (.int .i64 s.1))], [(1, .blk g1 26 (uc (lim n))), (21, .row s.2.1 3 1 (2 * s.1) s.2.2 (iv (dgB b6 (2 * s.1) n)))]))
    (fun s => s.1 ≤ 8) (fun s => 8 - s.1) (fun _ => rfl) ?_ ?_
  · refine ⟨(0, none, 0), Nat.zero_le _, ?_, ?_, rfl⟩
    all_goals ((repeat' (first | exact trivial | exact rfl | refine And.intro ?_ ?_)) <;> (try (conv => whnf)) <;> (try simp only [SV.real, SV.r2, SV.r1]))
  rintro ⟨i, A, cap⟩ hi
  dsimp only at hi
  by_cases hi8 : i < 8
  · obtain ⟨l, el⟩ : ∃ l, l = n / bb ^ i % bb := ⟨_, rfl⟩
    obtain ⟨h1, h2, h3⟩ := limb_two el
    have h3 : l < 4294967296 := h3
    have hget : (uc (lim n))[0 + mulS ((i : Int)).toNat 1]? = some (.v (.int .u32 l)) := by
      rw [mulS_eq, Int.toNat_natCast, Nat.zero_add, Nat.mul_one, el]
      exact uc_get (lim_get hi8)
    have hlo : 0 + mulS ((i : Int)).toNat 1 < (uc (lim n)).length := by rw [mulS_eq, hul]; omega
    have hnx : iv (dgB b6 (2 * (i + 1)) n) = iv (dgB b6 (2 * i) n) ++ [.int .i64 ((l : Int) % 65536), .int .i64 ((l : Int) / 65536)] := by
      rw [show 2 * (i + 1) = 2 * i + 1 + 1 by omega, dgB_succ, dgB_succ, ← h1, ← h2, iv_app, iv_app, List.append_assoc]
      rfl
    repeat' ((conv => whnf); first | refine walk (Tryz.ok ..) ?_ | (refine Cnd.mk (fun h => ?_) (fun h => ?_) <;> (first | exact cndT h (by (try dsimp only); omega) | exact cndF h (by (try dsimp only); omega) | (exfalso; simp at h; omega) | simp at h | skip)) | fail)
    refine sat_draw (Tryz.ok ..) [] [(1, .blk g1 26 (uc (lim n)))] (by kernel_rfl) (fun w hw => hw.sub ?_) ?_
    · ((repeat' (first | exact trivial | exact rfl | refine And.intro ?_ ?_)) <;> (try (conv => whnf)) <;> (try simp only [SV.real, SV.r2, SV.r1]))
    repeat' ((conv => whnf); first | refine side2 ?_ | refine sideL2 ?_ | refine xi _ (And.intro hget rfl) ?_ | fail)
    (conv => whnf)
    intro g20 hg20
    repeat' ((conv => whnf); first | refine kp ?_ ?_ | exact trivial | refine side2 ?_ | refine Or.inr ?_ | fail)
    intro A2 cap2
    repeat' ((conv => whnf); first | refine walk (Tryz.ok ..) ?_ | refine kp ?_ ?_ | exact trivial | refine side2 ?_ | refine sideL2 ?_ | fail)
    refine ⟨(i + 1, A2, cap2), ⟨by dsimp only; omega, by dsimp only; omega⟩, ?_, ?_, rfl⟩
    · dsimp only
      rw [show 2 * (i + 1) = 2 * i + 2 by omega]
      ((repeat' (first | exact trivial | exact rfl | refine And.intro ?_ ?_)) <;> (try (conv => whnf)) <;> (try simp only [SV.real, SV.r2, SV.r1]))
    · dsimp only
      rw [hnx, show 2 * (i + 1) = 2 * i + 2 by omega]
      ((repeat' (first | exact trivial | exact rfl | refine And.intro ?_ ?_)) <;> (try (conv => whnf)) <;> (try simp only [SV.real, SV.r2, SV.r1]))
  · obtain rfl : i = 8 := by omega
    have htr := dgB_trim (B := b6) (k := 2 * 8) (n := n) b6_2 (by rw [big_b6] at hn; exact hn)
    repeat' ((conv => whnf); first | refine walk (Tryz.ok ..) ?_ | (refine Cnd.mk (fun h => ?_) (fun h => ?_) <;> (first | exact cndT h (by (try dsimp only); omega) | exact cndF h (by (try dsimp only); omega) | (exfalso; simp at h; omega) | simp at h | skip)) | fail)
    refine called_trim 21 (dg b6 n).length rfl (by rw [← htr]; have h9 := trim_len (dgB b6 (2 * 8) n); rw [dgB_len] at h9; exact h9) (fun w' hh => by
      have h1 := rtrim_any (dgB b6 (2 * 8) n) A cap w' (by rw [dgB_len]; exact ro_of_row hh (id := 21) rfl) (by rw [dgB_len]; omega) (by rw [dgB_len]; exact row_cap6 hh (id := 21) rfl)
      rw [htr, dgB_len] at h1
      exact h1) ?_
    repeat' ((conv => whnf); first | refine walk (Tryz.ok ..) ?_ | fail)
    exact done_row2 (mk := fun v => v) rfl rfl 21 A cap rfl rfl (by
      show List.take _ (iv (dgB b6 (2 * 8) n)) = _
      rw [Nat.mul_one, iv_take, ← htr, ← trim_take6]) rfl
set_option maxRecDepth 100000 in
set_option maxHeartbeats 8000000 in
theorem radd_any (x y : Nat) (X Y : Option (Nat × Nat)) (capX capY : Nat) (w : World) (hx : Ro w X (dg b6 x).length 1 (iv (dg b6 x))) (hy : Ro w Y (dg b6 y).length 1 (iv (dg b6 y))) (hxl : (dg b6 x).length ≤ 100000) (hyl : (dg b6 y).length ≤ 100000) :
    Calls Tryz.prog 66 #[.slice (adr X) (dg b6 x).length capX, .slice (adr Y) (dg b6 y).length capY] w fun e w' => ∃ v, e = .returned v ∧ w'.ownsRow w.heap.size 3 1 v (dg b6 (x + y)).length (iv (dg b6 (x + y))) ∧ Below w.heap.size w w' := by
  have hbb : b6 = 65536 := rfl
  have hL : (dg b6 (x + y)).length ≤ max (dg b6 x).length (dg b6 y).length + 1 := by
    obtain ⟨M, hM⟩ : ∃ M, M = max (dg b6 x).length (dg b6 y).length := ⟨_, rfl⟩
    rw [← hM, dg_len b6_2, Nat.pow_succ]
    have h1 := (dg_len b6_2 M x).1 (by omega)
    have h2 := (dg_len b6_2 M y).1 (by omega)
    have h3 : b6 ^ M * 2 ≤ b6 ^ M * b6 := Nat.mul_le_mul_left _ b6_2
    omega
  obtain ⟨n, hn⟩ : ∃ n, n = (dg b6 x).length := ⟨_, rfl⟩
  obtain ⟨m, hm⟩ : ∃ n, n = (dg b6 y).length := ⟨_, rfl⟩
  rw [← hn] at hx hxl ⊢
  rw [← hm] at hy hyl ⊢
  refine calls_sat (cx := Tryz.cx 52 [] [] [] w) (Tryz.ok ..) Tryz.func66 rfl [.o 100 X n capX, .o 101 Y m capY] rfl (by show 2 ≤ 52; omega) [(100, .ro X n 1 (iv (dg b6 x))), (101, .ro Y m 1 (iv (dg b6 y)))] (holds_ros rfl rfl ⟨hx, hy, trivial⟩) ?_
  repeat' ((conv => whnf); first | refine walk (Tryz.ok ..) ?_ | fail)
  refine sat_loop (Tryz.ok ..) (α := Nat × Nat × Option (Nat × Nat) × Nat) (fun s => ([(0, .yes, .o 100 X n capX), (1, .yes, .o 101 Y m capY), (5, .yes, .o 48 s.2.2.1 s.1 s.2.2.2), (6, .yes, .v (.int .i64 s.2.1)), (7, .yes, .v (.int .i64 s.1))], [(48, .row s.2.2.1 3 1 s.1 s.2.2.2 (iv ((dg b6 (x + y)).take s.1))), (100, .ro X n 1 (iv (dg b6 x))), (101, .ro Y m 1 (iv (dg b6 y)))]))
    (fun s => s.1 ≤ (dg b6 (x + y)).length ∧ s.2.1 ≤ 1 ∧ s.2.1 + x / b6 ^ s.1 + y / b6 ^ s.1 = (x + y) / b6 ^ s.1) (fun s => (dg b6 (x + y)).length - s.1) (fun _ => rfl) ?_ ?_
  · refine ⟨(0, 0, none, 0), ⟨Nat.zero_le _, Nat.zero_le _, ?_⟩, ?_, ?_, rfl⟩
    · simp only [Nat.pow_zero, Nat.div_one]; omega
    · ((repeat' (first | exact trivial | exact rfl | refine And.intro ?_ ?_)) <;> (try (conv => whnf)) <;> (try simp only [SV.real, SV.r2, SV.r1]))
    · ((repeat' (first | exact trivial | exact rfl | refine And.intro ?_ ?_)) <;> (try (conv => whnf)) <;> (try simp only [SV.real, SV.r2, SV.r1]))
  rintro ⟨i, c, A, cap⟩ ⟨hi, hc, hinv⟩
  dsimp only at hi hc hinv
  have lx := lt_len (B := b6) (s := x) (i := i) b6_2
  have ly := lt_len (B := b6) (s := y) (i := i) b6_2
  have lz := lt_len (B := b6) (s := x + y) (i := i) b6_2
  rw [← hn] at lx
  rw [← hm] at ly
  by_cases hil : i < (dg b6 (x + y)).length
  · have hcc : i < n ∨ i < m ∨ 0 < c := by
      have := lz.1 hil
      rw [lx, ly]
      omega
    obtain ⟨hdig, hst⟩ := add_next (B := b6) (by decide) hinv
    have la : x / b6 ^ i % b6 < b6 := Nat.mod_lt _ (by decide)
    have lb : y / b6 ^ i % b6 < b6 := Nat.mod_lt _ (by decide)
    clear lx ly lz hinv
    obtain ⟨a, ea⟩ : ∃ a, a = x / b6 ^ i % b6 := ⟨_, rfl⟩
    obtain ⟨b, eb⟩ : ∃ a, a = y / b6 ^ i % b6 := ⟨_, rfl⟩
    rw [← ea] at hdig hst la
    rw [← eb] at hdig hst lb
    obtain ⟨c', ec⟩ : ∃ c', c' = (c + a + b) / b6 := ⟨_, rfl⟩
    rw [← ec] at hst
    have hdig : (x + y) / b6 ^ i % b6 = (c + a + b) % 65536 := hdig
    rw [hbb] at ec la lb
    have hc' : c' ≤ 1 := by omega
    by_cases hin : i < n
    · have hxa := dg_get b6_2 i x (by omega)
      rw [← ea] at hxa
      by_cases him : i < m
      · have hya := dg_get b6_2 i y (by omega)
        rw [← eb] at hya
        have hnx : iv ((dg b6 (x + y)).take (i + 1)) = iv ((dg b6 (x + y)).take i) ++ [.int .i64 (((c : Int) + a + b) % 65536)] := by
          rw [dg_take b6_2 hil, iv_app, hdig]
          refine congrArg _ ?_
          show [Value.int .i64 _] = _
          rw [show (((c + a + b) % 65536 : Nat) : Int) = ((c : Int) + a + b) % 65536 by omega]
        repeat' ((conv => whnf); first | refine walk (Tryz.ok ..) ?_ | (refine Cnd.mk (fun h => ?_) (fun h => ?_) <;> (first | exact cndT h (by (try dsimp only); omega) | exact cndF h (by (try dsimp only); omega) | (exfalso; simp at h; omega) | simp at h | skip)) | refine side2 ?_ | refine sideL2 ?_ | refine xi _ (i_at hxa rfl) ?_ | refine xi _ (i_at hya rfl) ?_ | fail)
        intro g hg
        repeat' ((conv => whnf); first | refine side2 ?_ | refine Or.inr ?_ | fail)
        intro A2 cap2
        repeat' ((conv => whnf); first | refine walk (Tryz.ok ..) ?_ | refine sideL2 ?_ | fail)
        refine ⟨(i + 1, c', A2, cap2), ⟨⟨by dsimp only; omega, hc', hst⟩, by dsimp only; omega⟩, ?_, ?_, rfl⟩
        · dsimp only
          ((repeat' (first | exact trivial | exact rfl | refine And.intro ?_ ?_)) <;> (try (conv => whnf)) <;> (try simp only [SV.real, SV.r2, SV.r1]))
          all_goals exact congrArg (Value.int .i64) (by omega)
        · dsimp only
          rw [hnx]
          ((repeat' (first | exact trivial | exact rfl | refine And.intro ?_ ?_)) <;> (try (conv => whnf)) <;> (try simp only [SV.real, SV.r2, SV.r1]))
      · have hb0 : b = 0 := by rw [eb]; exact dg_past b6_2 (by omega)
        have hnx : iv ((dg b6 (x + y)).take (i + 1)) = iv ((dg b6 (x + y)).take i) ++ [.int .i64 (((c : Int) + a) % 65536)] := by
          rw [dg_take b6_2 hil, iv_app, hdig]
          refine congrArg _ ?_
          show [Value.int .i64 _] = _
          rw [show (((c + a + b) % 65536 : Nat) : Int) = ((c : Int) + a) % 65536 by omega]
        repeat' ((conv => whnf); first | refine walk (Tryz.ok ..) ?_ | (refine Cnd.mk (fun h => ?_) (fun h => ?_) <;> (first | exact cndT h (by (try dsimp only); omega) | exact cndF h (by (try dsimp only); omega) | (exfalso; simp at h; omega) | simp at h | skip)) | refine side2 ?_ | refine sideL2 ?_ | refine xi _ (i_at hxa rfl) ?_ | fail)
        intro g hg
        repeat' ((conv => whnf); first | refine side2 ?_ | refine Or.inr ?_ | fail)
        intro A2 cap2
        repeat' ((conv => whnf); first | refine walk (Tryz.ok ..) ?_ | refine sideL2 ?_ | fail)
        refine ⟨(i + 1, c', A2, cap2), ⟨⟨by dsimp only; omega, hc', hst⟩, by dsimp only; omega⟩, ?_, ?_, rfl⟩
        · dsimp only
          ((repeat' (first | exact trivial | exact rfl | refine And.intro ?_ ?_)) <;> (try (conv => whnf)) <;> (try simp only [SV.real, SV.r2, SV.r1]))
          all_goals exact congrArg (Value.int .i64) (by omega)
        · dsimp only
          rw [hnx]
          ((repeat' (first | exact trivial | exact rfl | refine And.intro ?_ ?_)) <;> (try (conv => whnf)) <;> (try simp only [SV.real, SV.r2, SV.r1]))
    · have ha0 : a = 0 := by rw [ea]; exact dg_past b6_2 (by omega)
      by_cases him : i < m
      · have hya := dg_get b6_2 i y (by omega)
        rw [← eb] at hya
        have hnx : iv ((dg b6 (x + y)).take (i + 1)) = iv ((dg b6 (x + y)).take i) ++ [.int .i64 (((c : Int) + b) % 65536)] := by
          rw [dg_take b6_2 hil, iv_app, hdig]
          refine congrArg _ ?_
          show [Value.int .i64 _] = _
          rw [show (((c + a + b) % 65536 : Nat) : Int) = ((c : Int) + b) % 65536 by omega]
        repeat' ((conv => whnf); first | refine walk (Tryz.ok ..) ?_ | (refine Cnd.mk (fun h => ?_) (fun h => ?_) <;> (first | exact cndT h (by (try dsimp only); omega) | exact cndF h (by (try dsimp only); omega) | (exfalso; simp at h; omega) | simp at h | skip)) | refine side2 ?_ | refine sideL2 ?_ | refine xi _ (i_at hya rfl) ?_ | fail)
        intro g hg
        repeat' ((conv => whnf); first | refine side2 ?_ | refine Or.inr ?_ | fail)
        intro A2 cap2
        repeat' ((conv => whnf); first | refine walk (Tryz.ok ..) ?_ | refine sideL2 ?_ | fail)
        refine ⟨(i + 1, c', A2, cap2), ⟨⟨by dsimp only; omega, hc', hst⟩, by dsimp only; omega⟩, ?_, ?_, rfl⟩
        · dsimp only
          ((repeat' (first | exact trivial | exact rfl | refine And.intro ?_ ?_)) <;> (try (conv => whnf)) <;> (try simp only [SV.real, SV.r2, SV.r1]))
          all_goals exact congrArg (Value.int .i64) (by omega)
        · dsimp only
          rw [hnx]
          ((repeat' (first | exact trivial | exact rfl | refine And.intro ?_ ?_)) <;> (try (conv => whnf)) <;> (try simp only [SV.real, SV.r2, SV.r1]))
      · have hb0 : b = 0 := by rw [eb]; exact dg_past b6_2 (by omega)
        have hnx : iv ((dg b6 (x + y)).take (i + 1)) = iv ((dg b6 (x + y)).take i) ++ [.int .i64 ((c : Int) % 65536)] := by
          rw [dg_take b6_2 hil, iv_app, hdig]
          refine congrArg _ ?_
          show [Value.int .i64 _] = _
          rw [show (((c + a + b) % 65536 : Nat) : Int) = (c : Int) % 65536 by omega]
        repeat' ((conv => whnf); first | refine walk (Tryz.ok ..) ?_ | (refine Cnd.mk (fun h => ?_) (fun h => ?_) <;> (first | exact cndT h (by (try dsimp only); omega) | exact cndF h (by (try dsimp only); omega) | (exfalso; simp at h; omega) | simp at h | skip)) | refine side2 ?_ | refine sideL2 ?_ | fail)
        intro g hg
        repeat' ((conv => whnf); first | refine side2 ?_ | refine Or.inr ?_ | fail)
        intro A2 cap2
        repeat' ((conv => whnf); first | refine walk (Tryz.ok ..) ?_ | refine sideL2 ?_ | fail)
        refine ⟨(i + 1, c', A2, cap2), ⟨⟨by dsimp only; omega, hc', hst⟩, by dsimp only; omega⟩, ?_, ?_, rfl⟩
        · dsimp only
          ((repeat' (first | exact trivial | exact rfl | refine And.intro ?_ ?_)) <;> (try (conv => whnf)) <;> (try simp only [SV.real, SV.r2, SV.r1]))
          all_goals exact congrArg (Value.int .i64) (by omega)
        · dsimp only
          rw [hnx]
          ((repeat' (first | exact trivial | exact rfl | refine And.intro ?_ ?_)) <;> (try (conv => whnf)) <;> (try simp only [SV.real, SV.r2, SV.r1]))
  · obtain rfl : i = (dg b6 (x + y)).length := by omega
    have hz : (x + y) / b6 ^ (dg b6 (x + y)).length = 0 := Nat.div_eq_of_lt (dg_upper b6_2 _)
    rw [hz] at hinv
    obtain ⟨u, eu⟩ : ∃ u, u = x / b6 ^ (dg b6 (x + y)).length := ⟨_, rfl⟩
    obtain ⟨v, ev⟩ : ∃ u, u = y / b6 ^ (dg b6 (x + y)).length := ⟨_, rfl⟩
    rw [← eu] at hinv lx
    rw [← ev] at hinv ly
    have hc0 : c = 0 := by omega
    have hin : ¬ (dg b6 (x + y)).length < n := by rw [lx]; omega
    have him : ¬ (dg b6 (x + y)).length < m := by rw [ly]; omega
    clear lx ly lz
    rw [List.take_length]
    repeat' ((conv => whnf); first | refine walk (Tryz.ok ..) ?_ | (refine Cnd.mk (fun h => ?_) (fun h => ?_) <;> (first | exact cndT h (by (try dsimp only); omega) | exact cndF h (by (try dsimp only); omega) | (exfalso; simp at h; omega) | simp at h | skip)) | refine side2 ?_ | fail)
    exact done_row (mk := fun v => v) rfl rfl 48 A cap rfl rfl
end Go.Proofs.YtmekcdjaafegaaaGreatDoor
