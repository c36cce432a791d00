/-
  The walks of the reference's numbers: digits of limbs, sums, products, one. The walks of the reference: products, one, which fractions are right. The walks of the reference: which fractions are right; the other sign.
-/
import Derived.Test.YtomhfakkebaciaaRC
import Derived.Test.YtomhfakkebaciaaN12
set_option linter.unusedSimpArgs false
set_option linter.unusedVariables false
namespace Go.Proofs.Ytomhfakkebaciaa
section
open Go Sat Go.RowKit Go.PlainAid
set_option linter.unusedSimpArgs false
set_option linter.unusedVariables false
theorem limb_two {n i l : Nat} (h : l = n / bb ^ i % bb) : l % b6 = n / b6 ^ (2 * i) % b6 ∧ l / b6 = n / b6 ^ (2 * i + 1) % b6 ∧ l < bb := by
  have hp := pow_half i
  have hb : bb = b6 * b6 := by decide
  refine ⟨?_, ?_, ?_⟩
  · rw [h, hb, Nat.mod_mul_right_mod, ← hb, hp]
  · rw [h, hb, Nat.mod_mul_right_div_self, ← hb, Nat.pow_succ, ← Nat.div_div_eq_div_mul, hp]
  · rw [h]; exact Nat.mod_lt _ (by decide)
set_option maxRecDepth 100000 in
set_option maxHeartbeats 8000000 in
theorem rdigits_any (n : Nat) (w : World) (hn : n < big) :
    Calls Try.prog 83 #[(SV.a (uc (lim n))).real] w fun e w' => ∃ v, e = .returned v ∧ w'.ownsRow w.heap.size 3 1 v (dg b6 n).length (iv (dg b6 n)) ∧ Below w.heap.size w w' := by
  have hl8 := lim_len n
  have hul : (uc (lim n)).length = 8 := by rw [uc_len, hl8]
  refine calls_sat (cx := Try.cx 24 [5] [] [] w) (Try.ok ..) Try.func83 rfl [.a (uc (lim n))] rfl (by show 1 ≤ 24; omega) [] (holds_nil (Nat.le_refl _)) ?_
  repeat' ((conv => whnf); first | refine walk (Try.ok ..) ?_ | fail)
  (conv => whnf)
  intro g1 hg1
  repeat' ((conv => whnf); first | refine walk (Try.ok ..) ?_ | fail)
  refine sat_loop (Try.ok ..) (α := Nat × Option (Nat × Nat) × Nat) (fun s => ([(1, .yes, .p 1 g1 0 0), (3, .yes, .o 21 s.2.1 (2 * s.1) s.2.2), (4, .yes, .v (.int .i64 s.1))], [(1, .blk g1 24 (uc (lim n))), (21, .row s.2.1 3 1 (2 * s.1) s.2.2 (iv (dgB b6 (2 * s.1) n)))]))
    (fun s => s.1 ≤ 8) (fun s => 8 - s.1) (fun _ => rfl) ?_ ?_
  · refine ⟨(0, none, 0), Nat.zero_le _, ?_, ?_, rfl⟩
    all_goals ((repeat' (first | exact trivial | exact rfl | refine And.intro ?_ ?_)) <;> (try (conv => whnf)) <;> (try simp only [SV.real, SV.r2, SV.r1]))
  rintro ⟨i, A, cap⟩ hi
  dsimp only at hi
  by_cases hi8 : i < 8
  · obtain ⟨l, el⟩ : ∃ l, l = n / bb ^ i % bb := ⟨_, rfl⟩
    obtain ⟨h1, h2, h3⟩ := limb_two el
    have h3 : l < 4294967296 := h3
    have hget : (uc (lim n))[0 + mulS ((i : Int)).toNat 1]? = some (.v (.int .u32 l)) := by
      rw [mulS_eq, Int.toNat_natCast, Nat.zero_add, Nat.mul_one, el]
      exact uc_get (lim_get hi8)
    have hlo : 0 + mulS ((i : Int)).toNat 1 < (uc (lim n)).length := by rw [mulS_eq, hul]; omega
    have hnx : iv (dgB b6 (2 * (i + 1)) n) = iv (dgB b6 (2 * i) n) ++ [.int .i64 ((l : Int) % 65536), .int .i64 ((l : Int) / 65536)] := by
      rw [show 2 * (i + 1) = 2 * i + 1 + 1 by omega, dgB_succ, dgB_succ, ← h1, ← h2, iv_app, iv_app, List.append_assoc]
      rfl
    repeat' ((conv => whnf); first | refine walk (Try.ok ..) ?_ | (refine Cnd.mk (fun h => ?_) (fun h => ?_) <;> (first | exact cndT h (by (try dsimp only); omega) | exact cndF h (by (try dsimp only); omega) | (exfalso; simp at h; omega) | simp at h | skip)) | fail)
    refine sat_draw (Try.ok ..) [] [(1, .blk g1 24 (uc (lim n)))] (by kernel_rfl) (fun w hw => hw.sub ?_) ?_
    · ((repeat' (first | exact trivial | exact rfl | refine And.intro ?_ ?_)) <;> (try (conv => whnf)) <;> (try simp only [SV.real, SV.r2, SV.r1]))
    repeat' ((conv => whnf); first | refine side2 ?_ | refine sideL2 ?_ | refine xi _ (And.intro hget rfl) ?_ | fail)
    (conv => whnf)
    intro g20 hg20
    repeat' ((conv => whnf); first | refine kp ?_ ?_ | exact trivial | refine side2 ?_ | refine Or.inr ?_ | fail)
    intro A2 cap2
    repeat' ((conv => whnf); first | refine walk (Try.ok ..) ?_ | refine kp ?_ ?_ | exact trivial | refine side2 ?_ | refine sideL2 ?_ | fail)
    refine ⟨(i + 1, A2, cap2), ⟨by dsimp only; omega, by dsimp only; omega⟩, ?_, ?_, rfl⟩
    · dsimp only
      rw [show 2 * (i + 1) = 2 * i + 2 by omega]
      ((repeat' (first | exact trivial | exact rfl | refine And.intro ?_ ?_)) <;> (try (conv => whnf)) <;> (try simp only [SV.real, SV.r2, SV.r1]))
    · dsimp only
      rw [hnx, show 2 * (i + 1) = 2 * i + 2 by omega]
      ((repeat' (first | exact trivial | exact rfl | refine And.intro ?_ ?_)) <;> (try (conv => whnf)) <;> (try simp only [SV.real, SV.r2, SV.r1]))
  · obtain rfl : i = 8 := by omega
    have htr := dgB_trim (B := b6) (k := 2 * 8) (n := n) b6_2 (by rw [big_b6] at hn; exact hn)
    repeat' ((conv => whnf); first | refine walk (Try.ok ..) ?_ | (refine Cnd.mk (fun h => ?_) (fun h => ?_) <;> (first | exact cndT h (by (try dsimp only); omega) | exact cndF h (by (try dsimp only); omega) | (exfalso; simp at h; omega) | simp at h | skip)) | fail)
    refine called_trim 21 (dg b6 n).length rfl (by rw [← htr]; have h9 := trim_len (dgB b6 (2 * 8) n); rw [dgB_len] at h9; exact h9) (fun w' hh => by
      have h1 := rtrim_any (dgB b6 (2 * 8) n) A cap w' (by rw [dgB_len]; exact ro_of_row hh (id := 21) rfl) (by rw [dgB_len]; omega) (by rw [dgB_len]; exact row_cap6 hh (id := 21) rfl)
      rw [htr, dgB_len] at h1
      exact h1) ?_
    repeat' ((conv => whnf); first | refine walk (Try.ok ..) ?_ | fail)
    exact done_row2 (mk := fun v => v) rfl rfl 21 A cap rfl rfl (by
      show List.take _ (iv (dgB b6 (2 * 8) n)) = _
      rw [Nat.mul_one, iv_take, ← htr, ← trim_take6]) rfl
set_option maxRecDepth 100000 in
set_option maxHeartbeats 8000000 in
theorem radd_any (x y : Nat) (X Y : Option (Nat × Nat)) (capX capY : Nat) (w : World) (hx : Ro w X (dg b6 x).length 1 (iv (dg b6 x))) (hy : Ro w Y (dg b6 y).length 1 (iv (dg b6 y))) (hxl : (dg b6 x).length ≤ 100000) (hyl : (dg b6 y).length ≤ 100000) :
    Calls Try.prog 92 #[.slice (adr X) (dg b6 x).length capX, .slice (adr Y) (dg b6 y).length capY] w fun e w' => ∃ v, e = .returned v ∧ w'.ownsRow w.heap.size 3 1 v (dg b6 (x + y)).length (iv (dg b6 (x + y))) ∧ Below w.heap.size w w' := by
  have hbb : b6 = 65536 := rfl
  have hL : (dg b6 (x + y)).length ≤ max (dg b6 x).length (dg b6 y).length + 1 := by
    obtain ⟨M, hM⟩ : ∃ M, M = max (dg b6 x).length (dg b6 y).length := ⟨_, rfl⟩
    rw [← hM, dg_len b6_2, Nat.pow_succ]
    have h1 := (dg_len b6_2 M x).1 (by omega)
    have h2 := (dg_len b6_2 M y).1 (by omega)
    have h3 : b6 ^ M * 2 ≤ b6 ^ M * b6 := Nat.mul_le_mul_left _ b6_2
    omega
  obtain ⟨n, hn⟩ : ∃ n, n = (dg b6 x).length := ⟨_, rfl⟩
  obtain ⟨m, hm⟩ : ∃ n, n = (dg b6 y).length := ⟨_, rfl⟩
  rw [← hn] at hx hxl ⊢
  rw [← hm] at hy hyl ⊢
  refine calls_sat (cx := Try.cx 52 [] [] [] w) (Try.ok ..) Try.func92 rfl [.o 100 X n capX, .o 101 Y m capY] rfl (by show 2 ≤ 52; omega) [(100, .ro X n 1 (iv (dg b6 x))), (101, .ro Y m 1 (iv (dg b6 y)))] (holds_ros rfl rfl ⟨hx, hy, trivial⟩) ?_
  repeat' ((conv => whnf); first | refine walk (Try.ok ..) ?_ | fail)
  refine sat_loop (Try.ok ..) (α := Nat × Nat × Option (Nat × Nat) × Nat) (fun s => ([(0, .yes, .o 100 X n capX), (1, .yes, .o 101 Y m capY), (5, .yes, .o 48 s.2.2.1 s.1 s.2.2.2), (6, .yes, .v (.int .i64 s.2.1)), (7, .yes, .v (.int .i64 s.1))], [(48, .row s.2.2.1 3 1 s.1 s.2.2.2 (iv ((dg b6 (x + y)).take s.1))), (100, .ro X n 1 (iv (dg b6 x))), (101, .ro Y m 1 (iv (dg b6 y)))]))
    (fun s => s.1 ≤ (dg b6 (x + y)).length ∧ s.2.1 ≤ 1 ∧ s.2.1 + x / b6 ^ s.1 + y / b6 ^ s.1 = (x + y) / b6 ^ s.1) (fun s => (dg b6 (x + y)).length - s.1) (fun _ => rfl) ?_ ?_
  · refine ⟨(0, 0, none, 0), ⟨Nat.zero_le _, Nat.zero_le _, ?_⟩, ?_, ?_, rfl⟩
    · simp only [Nat.pow_zero, Nat.div_one]; omega
    · ((repeat' (first | exact trivial | exact rfl | refine And.intro ?_ ?_)) <;> (try (conv => whnf)) <;> (try simp only [SV.real, SV.r2, SV.r1]))
    · ((repeat' (first | exact trivial | exact rfl | refine And.intro ?_ ?_)) <;> (try (conv => whnf)) <;> (try simp only [SV.real, SV.r2, SV.r1]))
  rintro ⟨i, c, A, cap⟩ ⟨hi, hc, hinv⟩
  dsimp only at hi hc hinv
  have lx := lt_len (B := b6) (s := x) (i := i) b6_2
  have ly := lt_len (B := b6) (s := y) (i := i) b6_2
  have lz := lt_len (B := b6) (s := x + y) (i := i) b6_2
  rw [← hn] at lx
  rw [← hm] at ly
  by_cases hil : i < (dg b6 (x + y)).length
  · have hcc : i < n ∨ i < m ∨ 0 < c := by
      have := lz.1 hil
      rw [lx, ly]
      omega
    obtain ⟨hdig, hst⟩ := add_next (B := b6) (by decide) hinv
    have la : x / b6 ^ i % b6 < b6 := Nat.mod_lt _ (by decide)
    have lb : y / b6 ^ i % b6 < b6 := Nat.mod_lt _ (by decide)
    clear lx ly lz hinv
    obtain ⟨a, ea⟩ : ∃ a, a = x / b6 ^ i % b6 := ⟨_, rfl⟩
    obtain ⟨b, eb⟩ : ∃ a, a = y / b6 ^ i % b6 := ⟨_, rfl⟩
    rw [← ea] at hdig hst la
    rw [← eb] at hdig hst lb
    obtain ⟨c', ec⟩ : ∃ c', c' = (c + a + b) / b6 := ⟨_, rfl⟩
    rw [← ec] at hst
    have hdig : (x + y) / b6 ^ i % b6 = (c + a + b) % 65536 := hdig
    rw [hbb] at ec la lb
    have hc' : c' ≤ 1 := by omega
    by_cases hin : i < n
    · have hxa := dg_get b6_2 i x (by omega)
      rw [← ea] at hxa
      by_cases him : i < m
      · have hya := dg_get b6_2 i y (by omega)
        rw [← eb] at hya
        have hnx : iv ((dg b6 (x + y)).take (i + 1)) = iv ((dg b6 (x + y)).take i) ++ [.int .i64 (((c : Int) + a + b) % 65536)] := by
          rw [dg_take b6_2 hil, iv_app, hdig]
          refine congrArg _ ?_
          show [Value.int .i64 _] = _
          rw [show (((c + a + b) % 65536 : Nat) : Int) = ((c : Int) + a + b) % 65536 by omega]
        repeat' ((conv => whnf); first | refine walk (Try.ok ..) ?_ | (refine Cnd.mk (fun h => ?_) (fun h => ?_) <;> (first | exact cndT h (by (try dsimp only); omega) | exact cndF h (by (try dsimp only); omega) | (exfalso; simp at h; omega) | simp at h | skip)) | refine side2 ?_ | refine sideL2 ?_ | refine xi _ (i_at hxa rfl) ?_ | refine xi _ (i_at hya rfl) ?_ | fail)
        intro g hg
        repeat' ((conv => whnf); first | refine side2 ?_ | refine Or.inr ?_ | fail)
        intro A2 cap2
        repeat' ((conv => whnf); first | refine walk (Try.ok ..) ?_ | refine sideL2 ?_ | fail)
        refine ⟨(i + 1, c', A2, cap2), ⟨⟨by dsimp only; omega, hc', hst⟩, by dsimp only; omega⟩, ?_, ?_, rfl⟩
        · dsimp only
          ((repeat' (first | exact trivial | exact rfl | refine And.intro ?_ ?_)) <;> (try (conv => whnf)) <;> (try simp only [SV.real, SV.r2, SV.r1]))
          all_goals exact congrArg (Value.int .i64) (by omega)
        · dsimp only
          rw [hnx]
          ((repeat' (first | exact trivial | exact rfl | refine And.intro ?_ ?_)) <;> (try (conv => whnf)) <;> (try simp only [SV.real, SV.r2, SV.r1]))
      · have hb0 : b = 0 := by rw [eb]; exact dg_past b6_2 (by omega)
        have hnx : iv ((dg b6 (x + y)).take (i + 1)) = iv ((dg b6 (x + y)).take i) ++ [.int .i64 (((c : Int) + a) % 65536)] := by
          rw [dg_take b6_2 hil, iv_app, hdig]
          refine congrArg _ ?_
          show [Value.int .i64 _] = _
          rw [show (((c + a + b) % 65536 : Nat) : Int) = ((c : Int) + a) % 65536 by omega]
        repeat' ((conv => whnf); first | refine walk (Try.ok ..) ?_ | (refine Cnd.mk (fun h => ?_) (fun h => ?_) <;> (first | exact cndT h (by (try dsimp only); omega) | exact cndF h (by (try dsimp only); omega) | (exfalso; simp at h; omega) | simp at h | skip)) | refine side2 ?_ | refine sideL2 ?_ | refine xi _ (i_at hxa rfl) ?_ | fail)
        intro g hg
        repeat' ((conv => whnf); first | refine side2 ?_ | refine Or.inr ?_ | fail)
        intro A2 cap2
        repeat' ((conv => whnf); first | refine walk (Try.ok ..) ?_ | refine sideL2 ?_ | fail)
        refine ⟨(i + 1, c', A2, cap2), ⟨⟨by dsimp only; omega, hc', hst⟩, by dsimp only; omega⟩, ?_, ?_, rfl⟩
        · dsimp only
          ((repeat' (first | exact trivial | exact rfl | refine And.intro ?_ ?_)) <;> (try (conv => whnf)) <;> (try simp only [SV.real, SV.r2, SV.r1]))
          all_goals exact congrArg (Value.int .i64) (by omega)
        · dsimp only
          rw [hnx]
          ((repeat' (first | exact trivial | exact rfl | refine And.intro ?_ ?_)) <;> (try (conv => whnf)) <;> (try simp only [SV.real, SV.r2, SV.r1]))
    · have ha0 : a = 0 := by rw [ea]; exact dg_past b6_2 (by omega)
      by_cases him : i < m
      · have hya := dg_get b6_2 i y (by omega)
        rw [← eb] at hya
        have hnx : iv ((dg b6 (x + y)).take (i + 1)) = iv ((dg b6 (x + y)).take i) ++ [.int .i64 (((c : Int) + b) % 65536)] := by
          rw [dg_take b6_2 hil, iv_app, hdig]
          refine congrArg _ ?_
          show [Value.int .i64 _] = _
          rw [show (((c + a + b) % 65536 : Nat) : Int) = ((c : Int) + b) % 65536 by omega]
        repeat' ((conv => whnf); first | refine walk (Try.ok ..) ?_ | (refine Cnd.mk (fun h => ?_) (fun h => ?_) <;> (first | exact cndT h (by (try dsimp only); omega) | exact cndF h (by (try dsimp only); omega) | (exfalso; simp at h; omega) | simp at h | skip)) | refine side2 ?_ | refine sideL2 ?_ | refine xi _ (i_at hya rfl) ?_ | fail)
        intro g hg
        repeat' ((conv => whnf); first | refine side2 ?_ | refine Or.inr ?_ | fail)
        intro A2 cap2
        repeat' ((conv => whnf); first | refine walk (Try.ok ..) ?_ | refine sideL2 ?_ | fail)
        refine ⟨(i + 1, c', A2, cap2), ⟨⟨by dsimp only; omega, hc', hst⟩, by dsimp only; omega⟩, ?_, ?_, rfl⟩
        · dsimp only
          ((repeat' (first | exact trivial | exact rfl | refine And.intro ?_ ?_)) <;> (try (conv => whnf)) <;> (try simp only [SV.real, SV.r2, SV.r1]))
          all_goals exact congrArg (Value.int .i64) (by omega)
        · dsimp only
          rw [hnx]
          ((repeat' (first | exact trivial | exact rfl | refine And.intro ?_ ?_)) <;> (try (conv => whnf)) <;> (try simp only [SV.real, SV.r2, SV.r1]))
      · have hb0 : b = 0 := by rw [eb]; exact dg_past b6_2 (by omega)
        have hnx : iv ((dg b6 (x + y)).take (i + 1)) = iv ((dg b6 (x + y)).take i) ++ [.int .i64 ((c : Int) % 65536)] := by
          rw [dg_take b6_2 hil, iv_app, hdig]
          refine congrArg _ ?_
          show [Value.int .i64 _] = _
          rw [show (((c + a + b) % 65536 : Nat) : Int) = (c : Int) % 65536 by omega]
        repeat' ((conv => whnf); first | refine walk (Try.ok ..) ?_ | (refine Cnd.mk (fun h => ?_) (fun h => ?_) <;> (first | exact cndT h (by (try dsimp only); omega) | exact cndF h (by (try dsimp only); omega) | (exfalso; simp at h; omega) | simp at h | skip)) | refine side2 ?_ | refine sideL2 ?_ | fail)
        intro g hg
        repeat' ((conv => whnf); first | refine side2 ?_ | refine Or.inr ?_ | fail)
        intro A2 cap2
        repeat' ((conv => whnf); first | refine walk (Try.ok ..) ?_ | refine sideL2 ?_ | fail)
        refine ⟨(i + 1, c', A2, cap2), ⟨⟨by dsimp only; omega, hc', hst⟩, by dsimp only; omega⟩, ?_, ?_, rfl⟩
        · dsimp only
          ((repeat' (first | exact trivial | exact rfl | refine And.intro ?_ ?_)) <;> (try (conv => whnf)) <;> (try simp only [SV.real, SV.r2, SV.r1]))
          all_goals exact congrArg (Value.int .i64) (by omega)
        · dsimp only
          rw [hnx]
          ((repeat' (first | exact trivial | exact rfl | refine And.intro ?_ ?_)) <;> (try (conv => whnf)) <;> (try simp only [SV.real, SV.r2, SV.r1]))
  · obtain rfl : i = (dg b6 (x + y)).length := by omega
    have hz : (x + y) / b6 ^ (dg b6 (x + y)).length = 0 := Nat.div_eq_of_lt (dg_upper b6_2 _)
    rw [hz] at hinv
    obtain ⟨u, eu⟩ : ∃ u, u = x / b6 ^ (dg b6 (x + y)).length := ⟨_, rfl⟩
    obtain ⟨v, ev⟩ : ∃ u, u = y / b6 ^ (dg b6 (x + y)).length := ⟨_, rfl⟩
    rw [← eu] at hinv lx
    rw [← ev] at hinv ly
    have hc0 : c = 0 := by omega
    have hin : ¬ (dg b6 (x + y)).length < n := by rw [lx]; omega
    have him : ¬ (dg b6 (x + y)).length < m := by rw [ly]; omega
    clear lx ly lz
    rw [List.take_length]
    repeat' ((conv => whnf); first | refine walk (Try.ok ..) ?_ | (refine Cnd.mk (fun h => ?_) (fun h => ?_) <;> (first | exact cndT h (by (try dsimp only); omega) | exact cndF h (by (try dsimp only); omega) | (exfalso; simp at h; omega) | simp at h | skip)) | refine side2 ?_ | fail)
    exact done_row (mk := fun v => v) rfl rfl 48 A cap rfl rfl
end
section
open Go Sat Go.RowKit Go.PlainAid
set_option linter.unusedSimpArgs false
set_option linter.unusedVariables false
set_option maxRecDepth 100000 in
set_option maxHeartbeats 8000000 in
theorem rone_any (x : Nat) (X : Option (Nat × Nat)) (capX : Nat) (w : World) (hx : Ro w X (dg b6 x).length 1 (iv (dg b6 x))) (hxl : (dg b6 x).length ≤ 100000) :
    Calls Try.prog 84 #[.slice (adr X) (dg b6 x).length capX] w fun e w' => e = .returned (.bool (decide (x = 1))) ∧ Below w.heap.size w w' := by
  have hone := len_one (B := b6) b6_2 x
  obtain ⟨l, el⟩ : ∃ l, l = dg b6 x := ⟨_, rfl⟩
  rw [← el] at hx hxl hone ⊢
  refine calls_sat (cx := Try.cx 12 [] [] [] w) (Try.ok ..) Try.func84 rfl [.o 100 X l.length capX] rfl (by show 1 ≤ 12; omega) [(100, .ro X l.length 1 (iv l))] (holds_ros rfl rfl ⟨hx, trivial⟩) ?_
  by_cases h1 : l.length = 1
  · obtain ⟨a, ha⟩ := iv_at (l := l) (k := 0) (by omega)
    have hu : decide (x = 1) = decide ((a : Int) = 1) := by
      have : x = 1 ↔ (a : Int) = 1 := by
        rw [← hone, ha]
        simp only [Option.some.injEq]
        omega
      simp only [this]
    rw [hu, h1]
    rw [h1] at hx
    repeat' ((conv => whnf); first | refine walk (Try.ok ..) ?_ | refine side2 ?_ | refine xi _ (fun _ => i_at ha rfl) ?_ | fail)
    exact done_pure rfl rfl (congrArg Value.bool (by rw [Bool.eq_iff_iff]; simp))
  · have hu : decide (x = 1) = false := decide_eq_false fun h => h1 (hone.2 h).1
    rw [hu]
    repeat' ((conv => whnf); first | refine walk (Try.ok ..) ?_ | refine side2 ?_ | refine xi _ (no_i (by simp; omega)) ?_ | fail)
    exact done_pure rfl rfl (congrArg Value.bool (by rw [Bool.and_eq_false_iff]; left; simpa using (by omega : (l.length : Int) ≠ 1)))
set_option maxRecDepth 100000 in
set_option maxHeartbeats 8000000 in
theorem rmul_any (x y : Nat) (X Y : Option (Nat × Nat)) (capX capY : Nat) (w : World) (hx : Ro w X (dg b6 x).length 1 (iv (dg b6 x))) (hy : Ro w Y (dg b6 y).length 1 (iv (dg b6 y))) (hxl : (dg b6 x).length ≤ 1000) (hyl : (dg b6 y).length ≤ 1000) :
    Calls Try.prog 86 #[.slice (adr X) (dg b6 x).length capX, .slice (adr Y) (dg b6 y).length capY] w fun e w' => ∃ v, e = .returned v ∧ w'.ownsRow w.heap.size 3 1 v (dg b6 (x * y)).length (iv (dg b6 (x * y))) ∧ Below w.heap.size w w' := by
  have hbb : b6 = 65536 := rfl
  have hle : ∀ z, z ≤ y → (dg b6 (x * z)).length ≤ (dg b6 x).length + (dg b6 y).length := by
    intro z hz
    have h1 : x * z ≤ x * y := Nat.mul_le_mul_left _ hz
    refine Nat.le_trans (len_le b6_2 h1) ?_
    rw [dg_len b6_2, Nat.pow_add]
    exact Nat.mul_lt_mul'' (dg_upper b6_2 x) (dg_upper b6_2 y)
  obtain ⟨n, hn⟩ : ∃ n, n = (dg b6 x).length := ⟨_, rfl⟩
  obtain ⟨m, hm⟩ : ∃ n, n = (dg b6 y).length := ⟨_, rfl⟩
  rw [← hn] at hx hxl hle ⊢
  rw [← hm] at hy hyl hle ⊢
  refine calls_sat (cx := Try.cx 27 [5] [] [] w) (Try.ok ..) Try.func86 rfl [.o 100 X n capX, .o 101 Y m capY] rfl (by show 2 ≤ 27; omega) [(100, .ro X n 1 (iv (dg b6 x))), (101, .ro Y m 1 (iv (dg b6 y)))] (holds_ros rfl rfl ⟨hx, hy, trivial⟩) ?_
  repeat' ((conv => whnf); first | refine walk (Try.ok ..) ?_ | refine sideL2 ?_ | fail)
  refine sat_loop (Try.ok ..) (α := Nat × Option (Nat × Nat) × Nat) (fun s => ([(0, .yes, .o 100 X n capX), (1, .yes, .o 101 Y m capY), (5, .yes, .o 24 s.2.1 (dg b6 (x * (y / b6 ^ s.1))).length s.2.2), (6, .yes, .v (.int .i64 ((s.1 : Int) - 1)))], [(24, .row s.2.1 3 1 (dg b6 (x * (y / b6 ^ s.1))).length s.2.2 (iv (dg b6 (x * (y / b6 ^ s.1))))), (100, .ro X n 1 (iv (dg b6 x))), (101, .ro Y m 1 (iv (dg b6 y)))]))
    (fun s => s.1 ≤ m) (fun s => s.1) (fun _ => rfl) ?_ ?_
  · have h0 : y / b6 ^ m = 0 := Nat.div_eq_of_lt (by rw [hm]; exact dg_upper b6_2 y)
    refine ⟨(m, none, 0), Nat.le_refl _, ?_, ?_, rfl⟩
    · dsimp only
      rw [h0]
      ((repeat' (first | exact trivial | exact rfl | refine And.intro ?_ ?_)) <;> (try (conv => whnf)) <;> (try simp only [SV.real, SV.r2, SV.r1]))
    · dsimp only
      rw [h0]
      ((repeat' (first | exact trivial | exact rfl | refine And.intro ?_ ?_)) <;> (try (conv => whnf)) <;> (try simp only [SV.real, SV.r2, SV.r1]))
  rintro ⟨k, A, cap⟩ hk
  dsimp only at hk
  by_cases hk0 : k = 0
  · subst hk0
    rw [Nat.pow_zero, Nat.div_one]
    have hl := hle y (Nat.le_refl _)
    have htr := trim_dg (B := b6) b6_2 (x * y)
    repeat' ((conv => whnf); first | refine walk (Try.ok ..) ?_ | (refine Cnd.mk (fun h => ?_) (fun h => ?_) <;> (first | exact cndT h (by (try dsimp only); omega) | exact cndF h (by (try dsimp only); omega) | (exfalso; simp at h; omega) | simp at h | skip)) | fail)
    refine called_trim 24 (dg b6 (x * y)).length rfl (Nat.le_refl _) (fun w' hh => by
      have h1 := rtrim_any (dg b6 (x * y)) A cap w' (ro_of_row hh (id := 24) rfl) (by omega) (row_cap6 hh (id := 24) rfl)
      rw [htr] at h1
      exact h1) ?_
    repeat' ((conv => whnf); first | refine walk (Try.ok ..) ?_ | fail)
    exact done_row2 (mk := fun v => v) rfl rfl 24 A cap rfl rfl (by rw [Nat.mul_one, List.take_of_length_le (by rw [iv_len]; exact Nat.le_refl _)]) rfl
  obtain ⟨i, rfl⟩ : ∃ i, k = i + 1 := ⟨k - 1, by omega⟩
  have hya := dg_get b6_2 i y (by omega)
  have hst := mul_next (B := b6) (x := x) (y := y) (i := i)
  have ld : y / b6 ^ i % b6 < 65536 := Nat.mod_lt _ (by decide)
  have hl1 := hle (y / b6 ^ (i + 1)) (Nat.div_le_self _ _)
  have hl2 := hle (y / b6 ^ i) (Nat.div_le_self _ _)
  obtain ⟨d, ed⟩ : ∃ d, d = y / b6 ^ i % b6 := ⟨_, rfl⟩
  obtain ⟨P, eP⟩ : ∃ P, P = x * (y / b6 ^ (i + 1)) := ⟨_, rfl⟩
  obtain ⟨Q, eQ⟩ : ∃ P, P = x * (y / b6 ^ i) := ⟨_, rfl⟩
  rw [← ed] at hya hst ld
  rw [← eP] at hst hl1 ⊢
  rw [← eQ] at hst hl2
  have hct := shift_trim (B := b6) (m := P) b6_2
  have hset : [Value.int .i64 (0 : Int)] ++ List.take ((dg b6 P).length * 1) (iv (dg b6 P)) = iv (0 :: dg b6 P) := by
    rw [Nat.mul_one, List.take_of_length_le (by rw [iv_len]; exact Nat.le_refl _)]
    rfl
  have hal : allV (List.take ((dg b6 P).length * 1) (iv (dg b6 P))) = true := by rw [iv_take]; exact iv_all _
  have hPl : (iv (dg b6 P)).length = (dg b6 P).length := iv_len _
  have hcl : (dg b6 (b6 * P)).length ≤ 1 + (dg b6 P).length := by
    rw [← hct]
    have := trim_len (0 :: dg b6 P)
    rw [List.length_cons] at this
    omega
  have hcut : ([Value.int .i64 (0 : Int)] ++ List.take ((dg b6 P).length * 1) (iv (dg b6 P))).take ((dg b6 (b6 * P)).length * 1) = iv (dg b6 (b6 * P)) := by
    rw [hset, Nat.mul_one, iv_take, ← hct, ← trim_take6]
  have hxdl : (dg b6 (x * d)).length ≤ n + 1 := by
    rw [dg_len b6_2, Nat.pow_succ]
    exact Nat.mul_lt_mul'' ((dg_len b6_2 _ x).1 (by omega)) ld
  repeat' ((conv => whnf); first | refine walk (Try.ok ..) ?_ | (refine Cnd.mk (fun h => ?_) (fun h => ?_) <;> (first | exact cndT h (by (try dsimp only); omega) | exact cndF h (by (try dsimp only); omega) | (exfalso; simp at h; omega) | simp at h | skip)) | fail)
  refine sat_draw (Try.ok ..) [] [(101, .ro Y m 1 (iv (dg b6 y)))] (by kernel_rfl) (fun w hw => hw.sub ?_) ?_
  · ((repeat' (first | exact trivial | exact rfl | refine And.intro ?_ ?_)) <;> (try (conv => whnf)) <;> (try simp only [SV.real, SV.r2, SV.r1]))
  repeat' ((conv => whnf); first | refine side2 ?_ | refine xi _ (i_at hya (by omega)) ?_ | fail)
  (conv => whnf)
  intro g14 hg14
  repeat' ((conv => whnf); first | refine kp ?_ ?_ | exact trivial | refine side2 ?_ | fail)
  intro A2 cap2
  repeat' ((conv => whnf); first | refine kp ?_ ?_ | exact trivial | refine side2 ?_ | fail)
  refine called_trim 14 (dg b6 (b6 * P)).length rfl hcl (fun w' hh => by
    have h0 : Ro w' A2 (1 + (dg b6 P).length) 1 (iv (0 :: dg b6 P)) := by rw [← hset]; exact ro_of_row hh (id := 14) rfl
    have h1 := rtrim_any (0 :: dg b6 P) A2 cap2 w' (by rw [List.length_cons, Nat.add_comm]; exact h0) (by rw [List.length_cons]; omega) (by rw [List.length_cons, Nat.add_comm]; exact row_cap6 hh (id := 14) rfl)
    rw [hct, List.length_cons, Nat.add_comm] at h1
    exact h1) ?_
  repeat' ((conv => whnf); first | refine kp ?_ ?_ | exact trivial | refine side2 ?_ | fail)
  refine called_row 23 (xs := iv (dg b6 (x * d))) (m := (dg b6 (x * d)).length) (fun v => v) (fun A cap => .o 23 A (dg b6 (x * d)).length cap) (fun _ _ => rfl) (fun w' hh => by
    have h1 := rscale_any x d X capX w' ld (by rw [← hn]; exact ro_of_ro hh (id := 100) rfl) (by omega)
    rw [← hn] at h1
    exact h1) ?_
  intro A3 cap3
  repeat' ((conv => whnf); first | refine kp ?_ ?_ | exact trivial | refine side2 ?_ | fail)
  refine called_row 24 (xs := iv (dg b6 Q)) (m := (dg b6 Q).length) (fun v => v) (fun A cap => .o 24 A (dg b6 Q).length cap) (fun _ _ => rfl) (fun w' hh => by
    have h1 := radd_any (b6 * P) (x * d) A2 A3 cap2 cap3 w' (by have h2 := ro_of_row hh (id := 14) rfl; rw [← hcut]; exact h2) (ro_of_row hh (id := 23) rfl) (by omega) (by omega)
    rw [hst] at h1
    exact h1) ?_
  intro A4 cap4
  repeat' ((conv => whnf); first | refine walk (Try.ok ..) ?_ | refine kp ?_ ?_ | exact trivial | refine side2 ?_ | refine sideL2 ?_ | fail)
  refine ⟨(i, A4, cap4), ⟨by dsimp only; omega, by dsimp only; omega⟩, ?_, ?_, rfl⟩
  · dsimp only
    rw [← eQ]
    ((repeat' (first | exact trivial | exact rfl | refine And.intro ?_ ?_)) <;> (try (conv => whnf)) <;> (try simp only [SV.real, SV.r2, SV.r1]))
    all_goals exact congrArg (Value.int .i64) (by omega)
  · dsimp only
    rw [← eQ]
    ((repeat' (first | exact trivial | exact rfl | refine And.intro ?_ ?_)) <;> (try (conv => whnf)) <;> (try simp only [SV.real, SV.r2, SV.r1]))
end
section
open Go Sat Go.RowKit Go.PlainAid
set_option linter.unusedSimpArgs false
set_option linter.unusedVariables false
theorem uc_num (f : Fr) : List.take 8 (List.drop 1 (frC f)) = uc (lim f.num) := num_at f
theorem uc_den (f : Fr) : List.take 8 (List.drop 9 (frC f)) = uc (lim f.den) := by
  have h : (List.map SV.v (us (lim f.num))).length = 8 := by rw [List.length_map, us_len, lim_len]
  unfold frC
  rw [show (9 : Nat) = 8 + 1 from rfl, List.drop_succ_cons, ← h, List.drop_left, List.take_of_length_le]
  · rfl
  · rw [h, List.length_map, us_len, lim_len]; omega
theorem rdig_num (f : Fr) (w : World) (hf : Big f) :
    Calls Try.prog 83 #[(SV.a (List.take 8 (List.drop 1 (frC f)))).real] w fun e w' => ∃ v, e = .returned v ∧ w'.ownsRow w.heap.size 3 1 v (dg b6 f.num).length (iv (dg b6 f.num)) ∧ Below w.heap.size w w' := by
  rw [uc_num]; exact rdigits_any f.num w hf.num
theorem rdig_den (f : Fr) (w : World) (hf : Big f) :
    Calls Try.prog 83 #[(SV.a (List.take 8 (List.drop 9 (frC f)))).real] w fun e w' => ∃ v, e = .returned v ∧ w'.ownsRow w.heap.size 3 1 v (dg b6 f.den).length (iv (dg b6 f.den)) ∧ Below w.heap.size w w' := by
  rw [uc_den]; exact rdigits_any f.den w hf.den
theorem dg_big6 {n : Nat} (h : n < big) : (dg b6 n).length ≤ 16 := (dg_len b6_2 16 n).2 (by rw [← big_b6]; exact h)
theorem len_zero {n : Nat} : (dg b6 n).length = 0 ↔ n = 0 := by rw [List.length_eq_zero_iff, dg_nil b6_2]
set_option maxRecDepth 100000 in
set_option maxHeartbeats 8000000 in
theorem rright_any (f : Fr) (w : World) (hf : Big f) :
    Calls Try.prog 59 #[frV f] w fun e w' => e = .returned (.bool (rightF f)) ∧ Below w.heap.size w w' := by
  have hn := dg_big6 hf.num
  have hd := dg_big6 hf.den
  have zn := len_zero (n := f.num)
  have zd := len_zero (n := f.den)
  have l17 := frC_len f
  obtain ⟨r, er⟩ : ∃ r, r = rightF f := ⟨_, rfl⟩
  rw [← er]
  have er2 : r = (decide (f.den ≠ 0) && decide (Nat.gcd f.num f.den = 1) && !(f.neg && decide (f.num = 0))) := er
  refine calls_sat (cx := Try.cx 27 [1] [] [] w) (Try.ok ..) Try.func59 rfl [.a (frC f)] rfl (by show 1 ≤ 27; omega) [] (holds_nil (Nat.le_refl _)) ?_
  repeat' ((conv => whnf); first | refine walk (Try.ok ..) ?_ | fail)
  (conv => whnf)
  intro g1 hg1
  repeat' ((conv => whnf); first | refine walk (Try.ok ..) ?_ | fail)
  refine sat_draw (Try.ok ..) [] [(1, .blk g1 62 (frC f))] (by kernel_rfl) (fun w hw => hw.sub ?_) ?_
  · ((repeat' (first | exact trivial | exact rfl | refine And.intro ?_ ?_)) <;> (try (conv => whnf)) <;> (try simp only [SV.real, SV.r2, SV.r1]))
  repeat' ((conv => whnf); first | refine side2 ?_ | fail)
  refine called_row 7 (xs := iv (dg b6 f.num)) (m := (dg b6 f.num).length) (fun v => v) (fun A cap => .o 7 A (dg b6 f.num).length cap) (fun _ _ => rfl) (fun w' hh => by exact rdig_num f w' hf) ?_
  intro A7 c7
  repeat' ((conv => whnf); first | refine kp ?_ ?_ | exact trivial | refine side2 ?_ | fail)
  refine called_row 10 (xs := iv (dg b6 f.den)) (m := (dg b6 f.den).length) (fun v => v) (fun A cap => .o 10 A (dg b6 f.den).length cap) (fun _ _ => rfl) (fun w' hh => by exact rdig_den f w' hf) ?_
  intro A10 c10
  repeat' ((conv => whnf); first | refine walk (Try.ok ..) ?_ | (refine Cnd.mk (fun h => ?_) (fun h => ?_) <;> (first | exact cndT h (by (try dsimp only); omega) | exact cndF h (by (try dsimp only); omega) | (exfalso; simp at h; omega) | simp at h | skip)) | refine kp ?_ ?_ | exact trivial | refine side2 ?_ | refine xi _ (fun _ => And.intro rfl rfl) ?_ | fail)
  · have h0 : r = false := by
      rw [er2]
      rcases h with h | ⟨h, k⟩
      · rw [(dg_nil b6_2).1 h]; simp
      · rw [(dg_nil b6_2).1 k, h]; simp
    rw [h0]
    exact done_pure rfl rfl rfl
  have hdn : f.den ≠ 0 := fun k => h.1 ((dg_nil b6_2).2 k)
  have hr : r = decide (Nat.gcd f.num f.den = 1) := by
    rw [er2, decide_eq_true hdn]
    cases hneg : f.neg
    · simp
    · have := h.2 hneg
      rw [dg_nil b6_2] at this
      rw [decide_eq_false this]; simp
  rw [hr]
  clear h er2 er
  refine called_alt3 25 (e := 3) (s := 1) (m := (dg b6 (Nat.gcd f.num f.den)).length) (xs := iv (dg b6 (Nat.gcd f.num f.den))) (.o 7 A7 (dg b6 f.num).length c7) (.o 10 A10 (dg b6 f.den).length c10) (p1 := Nat.gcd f.num f.den = f.num) (p2 := Nat.gcd f.num f.den = f.den) (fun w' hh => ?_) ?_ ?_ ?_
  · rcases Nat.lt_or_ge f.num f.den with h | h
    · exact (rcommon_lt f.num f.den A7 A10 c7 c10 w' (ro_of_row hh (id := 7) rfl) (ro_of_row hh (id := 10) rfl) (by omega) (by omega) (row_cap6 hh (id := 7) rfl) (row_cap6 hh (id := 10) rfl) h).mono fun e w'' hp => hp.elim (fun a => .inr (.inl a)) (fun b => b.elim (fun c => .inl c) (fun c => .inr (.inr c)))
    · exact rcommon_ge f.num f.den A7 A10 c7 c10 w' (ro_of_row hh (id := 7) rfl) (ro_of_row hh (id := 10) rfl) (by omega) (by omega) (row_cap6 hh (id := 7) rfl) (row_cap6 hh (id := 10) rfl) h (by omega)
  · intro e
    skip
    refine called_at (.v (.bool (decide (f.num = 1)))) rfl (fun w' hh => rone_any f.num A7 c7 w' (ro_of_row hh (id := 7) rfl) (by omega)) ?_
    repeat' ((conv => whnf); first | refine walk (Try.ok ..) ?_ | fail)
    exact done_pure rfl rfl (congrArg Value.bool (decide_eq_decide.2 (by rw [e])))
  · intro e
    skip
    refine called_at (.v (.bool (decide (f.den = 1)))) rfl (fun w' hh => rone_any f.den A10 c10 w' (ro_of_row hh (id := 10) rfl) (by omega)) ?_
    repeat' ((conv => whnf); first | refine walk (Try.ok ..) ?_ | fail)
    exact done_pure rfl rfl (congrArg Value.bool (decide_eq_decide.2 (by rw [e])))
  · intro A1 cap1
    have hgl : (dg b6 (Nat.gcd f.num f.den)).length ≤ 100000 := Nat.le_trans (len_le b6_2 (Nat.le_of_dvd (by omega) (Nat.gcd_dvd_right _ _))) (by omega)
    skip
    refine called_at (.v (.bool (decide (Nat.gcd f.num f.den = 1)))) rfl (fun w' hh => rone_any (Nat.gcd f.num f.den) A1 cap1 w' (ro_of_row hh (id := 25) rfl) hgl) ?_
    repeat' ((conv => whnf); first | refine walk (Try.ok ..) ?_ | fail)
    exact done_pure rfl rfl rfl
def negR (f : Fr) : Fr := if f.num = 0 then f else ⟨!f.neg, f.num, f.den⟩
set_option maxRecDepth 100000 in
set_option maxHeartbeats 8000000 in
theorem rneg_any (f : Fr) (w : World) (hf : Big f) :
    Calls Try.prog 91 #[frV f] w fun e w' => e = .returned (frV (negR f)) ∧ Below w.heap.size w w' := by
  have zn := len_zero (n := f.num)
  have l17 := frC_len f
  refine calls_sat (cx := Try.cx 13 [] [] [] w) (Try.ok ..) Try.func91 rfl [.a (frC f)] rfl (by show 1 ≤ 13; omega) [] (holds_nil (Nat.le_refl _)) ?_
  repeat' ((conv => whnf); first | refine walk (Try.ok ..) ?_ | fail)
  (conv => whnf)
  intro g1 hg1
  skip
  (conv => whnf)
  intro g2 hg2
  repeat' ((conv => whnf); first | refine walk (Try.ok ..) ?_ | refine side2 ?_ | fail)
  refine called_row 5 (xs := iv (dg b6 f.num)) (m := (dg b6 f.num).length) (fun v => v) (fun A cap => .o 5 A (dg b6 f.num).length cap) (fun _ _ => rfl) (fun w' hh => by exact rdig_num f w' hf) ?_
  intro A5 c5
  by_cases h0 : f.num = 0
  · have hl : (dg b6 f.num).length = 0 := zn.2 h0
    rw [show negR f = f from if_pos h0]
    repeat' ((conv => whnf); first | refine walk (Try.ok ..) ?_ | (refine Cnd.mk (fun h => ?_) (fun h => ?_) <;> (first | exact cndT h (by (try dsimp only); omega) | exact cndF h (by (try dsimp only); omega) | (exfalso; simp at h; omega) | simp at h | skip)) | refine side2 ?_ | fail)
    exact done_pure rfl rfl (congrArg (fun l => (SV.a l).real) (tk2 f))
  · have hl : 0 < (dg b6 f.num).length := Nat.pos_of_ne_zero fun h => h0 (zn.1 h)
    rw [show negR f = ⟨!f.neg, f.num, f.den⟩ from if_neg h0]
    repeat' ((conv => whnf); first | refine walk (Try.ok ..) ?_ | (refine Cnd.mk (fun h => ?_) (fun h => ?_) <;> (first | exact cndT h (by (try dsimp only); omega) | exact cndF h (by (try dsimp only); omega) | (exfalso; simp at h; omega) | simp at h | skip)) | refine side2 ?_ | refine xi _ (And.intro rfl rfl) ?_ | fail)
    exact done_pure rfl rfl (congrArg (fun l => (SV.a l).real) (tk2 ⟨!f.neg, f.num, f.den⟩))
theorem negR_big {f : Fr} (h : Big f) : Big (negR f) := by
  unfold negR
  split
  · exact h
  · exact ⟨h.num, h.den⟩
theorem negR_right (f : Fr) : rightF (negR f) = rightF f := by
  unfold negR
  split
  · rfl
  · rename_i h
    unfold rightF
    dsimp only
    rw [decide_eq_false h, Bool.and_false, Bool.and_false]
theorem negR_turn {f : Fr} (h : rightF f = true) : negR f = turnF f := by
  unfold negR turnF
  split
  · rename_i h0
    unfold rightF at h
    simp only [Bool.and_eq_true, Bool.not_eq_true', h0, decide_true, Bool.and_true] at h
    cases f with
    | mk a b c =>
      dsimp only at h h0
      subst h0
      rw [h.2]
      rfl
  · rename_i h0
    rw [decide_eq_true h0, Bool.and_true]
/-- the reference subtracts by a sum -/
theorem subE_neg (f g : Fr) : addE f (negR g) = subE f g := by
  unfold addE subE bothF
  rw [negR_right]
  split
  · rename_i h
    simp only [Bool.and_eq_true] at h
    rw [negR_turn h.2]
  · rfl
end
end Go.Proofs.Ytomhfakkebaciaa
