/-
  The walks of the frac package: the decimal text of a whole number.
-/
import Derived.Test.YtmekcdjaafegaaaGreatDoorN15
import Derived.Test.YtmekcdjaafegaaaGreatDoorShelf
namespace Go.Proofs.YtmekcdjaafegaaaGreatDoor
open Go Sat Go.RowKit Go.PlainAid
set_option linter.unusedSimpArgs false
set_option linter.unusedVariables false
theorem nine_bound {n j : Nat} (hn : n < big) (h : 0 < n / 10 ^ (9 * j)) : 9 * j < 78 := by
  have h1 : 10 ^ (9 * j) ≤ n := by
    rcases Nat.lt_or_ge n (10 ^ (9 * j)) with h2 | h2
    · rw [Nat.div_eq_of_lt h2] at h; omega
    · exact h2
  have h2 : 10 ^ (9 * j) < 10 ^ 78 := Nat.lt_of_le_of_lt h1 (Nat.lt_trans hn (by decide))
  exact (Nat.pow_lt_pow_iff_right (by decide)).1 h2
theorem dig_wrap {r : Nat} : IntKind.u8.wrap (48 + (r : Int) % 10) = 48 + ((r % 10 : Nat) : Int) := by
  rw [IntKind.wrap_u8]
  omega
theorem u8v_app (a b : List Int) : u8v (a ++ b) = u8v a ++ u8v b := List.map_append ..
set_option maxRecDepth 100000 in
set_option maxHeartbeats 8000000 in
theorem reverse_nil (cap : Nat) (w : World) : Calls Tryz.prog 88 #[.slice none 0 cap] w fun e w' => e = .returned (.tuple #[]) ∧ Below w.heap.size w w' := by
  refine calls_sat (cx := Tryz.cx 28 [] [] [] w) (Tryz.ok ..) Tryz.func88 rfl [.v (.slice none 0 cap)] rfl (by show 1 ≤ 28; omega) [] (holds_nil (Nat.le_refl _)) ?_
  repeat' ((conv => whnf); first | refine walk (Tryz.ok ..) ?_ | refine sideL2 ?_ | fail)
  refine sat_loop (Tryz.ok ..) (α := Unit) (fun s => ([(0, .yes, .v (.slice none 0 cap)), (2, .yes, .v (.int .i64 0)), (3, .yes, .v (.int .i64 (-1)))], []))
    (fun s => True) (fun s => 0) (fun _ => rfl) ?_ ?_
  · refine ⟨(), trivial, ?_, ?_, rfl⟩
    all_goals ((repeat' (first | exact trivial | exact rfl | refine And.intro ?_ ?_)) <;> (try (conv => whnf)) <;> (try simp only [SV.real, SV.r2, SV.r1]))
  rintro ⟨⟩ _
  repeat' ((conv => whnf); first | refine walk (Tryz.ok ..) ?_ | (refine Cnd.mk (fun h => ?_) (fun h => ?_) <;> (first | exact cndT h (by (try dsimp only); omega) | exact cndF h (by (try dsimp only); omega) | (exfalso; simp at h; omega) | simp at h | skip)) | fail)
  exact done_pure rfl rfl rfl
set_option maxRecDepth 100000 in
set_option maxHeartbeats 8000000 in
theorem text_any (N : Nat) (A : Option (Nat × Nat)) (cap : Nat) (w : World) (hA : Ro w A (dg bb N).length 1 (us (dg bb N))) (hN : N < big) :
    Calls Tryz.prog 51 #[.slice (adr A) (dg bb N).length cap] w fun e w' => e = .returned (.string (txN N)) ∧ Below w.heap.size w w' := by
  have hbb : bb = 4294967296 := rfl
  have hb2 : 2 ≤ bb := by decide
  have h8 : (dg bb N).length ≤ 8 := (dg_len hb2 8 N).2 (by rw [← big_pow]; exact hN)
  refine calls_sat (cx := Tryz.cx 35 [] [] [] w) (Tryz.ok ..) Tryz.func51 rfl [.o 100 A (dg bb N).length cap] rfl (by show 1 ≤ 35; omega) [(100, .ro A (dg bb N).length 1 (us (dg bb N)))] (holds_ros rfl rfl ⟨hA, trivial⟩) ?_
  repeat' ((conv => whnf); first | refine walk (Tryz.ok ..) ?_ | fail)
  refine called_row 7 (xs := us (dg bb N)) (m := (dg bb N).length) (fun v => v) (fun A cap => .o 7 A (dg bb N).length cap) (fun A cap => rfl) (fun w' hh => clone_any (dg bb N) A cap w' (ro_of_ro hh (id := 100) rfl) (by omega)) ?_
  intro A1 cap1
  repeat' ((conv => whnf); first | refine walk (Tryz.ok ..) ?_ | fail)
  refine sat_loop (Tryz.ok ..) (α := Nat × Option (Nat × Nat) × Nat) (fun s => ([(0, .yes, .o 7 A1 (dg bb (N / 10 ^ (9 * s.1))).length cap1), (3, .yes, .o 23 s.2.1 (9 * s.1) s.2.2)],
      [(7, .row A1 25 1 (dg bb (N / 10 ^ (9 * s.1))).length cap1 (us (dg bb (N / 10 ^ (9 * s.1))))), (23, .row s.2.1 5 1 (9 * s.1) s.2.2 (u8v (cd (9 * s.1) N)))]))
    (fun s => 9 * s.1 ≤ 90 ∧ (s.1 = 0 → s.2.1 = none) ∧ (0 < s.1 → 0 < N)) (fun s => N / 10 ^ (9 * s.1)) (fun _ => rfl) ?_ ?_
  · refine ⟨(0, none, 0), ⟨by omega, fun _ => rfl, fun h => absurd h (by omega)⟩, ?_, ?_, rfl⟩
    all_goals dsimp only
    all_goals rw [Nat.mul_zero, Nat.pow_zero, Nat.div_one]
    all_goals ((repeat' (first | exact trivial | exact rfl | refine And.intro ?_ ?_)) <;> (try (conv => whnf)) <;> (try simp only [SV.real, SV.r2, SV.r1]))
  rintro ⟨j, A2, cap2⟩ ⟨hj, hjn, hjp⟩
  dsimp only at hj hjn hjp
  obtain ⟨X, hX⟩ : ∃ X, X = N / 10 ^ (9 * j) := ⟨_, rfl⟩
  have hXN : X ≤ N := by rw [hX]; exact Nat.div_le_self _ _
  have hXl : (dg bb X).length ≤ 8 := Nat.le_trans (len_le hb2 hXN) h8
  rw [← hX]
  rcases Nat.eq_zero_or_pos X with h0 | h0
  · subst h0
    rw [dg_zero]
    rcases Nat.eq_zero_or_pos N with hz | hz
    · obtain rfl : j = 0 := by
        rcases Nat.eq_zero_or_pos j with h1 | h1
        · exact h1
        · have := hjp h1; omega
      obtain rfl := hjn rfl
      repeat' ((conv => whnf); first | refine walk (Tryz.ok ..) ?_ | (refine Cnd.mk (fun h => ?_) (fun h => ?_) <;> (first | exact cndT h (by (try dsimp only); omega) | exact cndF h (by (try dsimp only); omega) | (exfalso; simp at h; omega) | simp at h | skip)) | fail)
      refine called_pure (.v (.tuple #[])) rfl (fun w' => reverse_nil cap2 w') ?_
      repeat' ((conv => whnf); first | refine walk (Tryz.ok ..) ?_ | refine side2 ?_ | fail)
      refine ⟨[], ⟨rfl, fun j u h => by simp at h⟩, ?_⟩
      skip
      refine called_pure (.v (.string ⟨#[]⟩)) rfl (fun w' => (Tryz.strings_TrimLeft_one (Sat.strOf []) 48 (by decide) w').mono fun e w'' h => ⟨h.1, by rw [h.2]; exact Below.refl _ _⟩) ?_
      repeat' ((conv => whnf); first | refine walk (Tryz.ok ..) ?_ | (refine Cnd.mk (fun h => ?_) (fun h => ?_) <;> (first | exact cndT h (by (try dsimp only); omega) | exact cndF h (by (try dsimp only); omega) | (exfalso; simp at h; omega) | simp at h | skip)) | fail)
      subst hz
      exact done_pure rfl rfl rfl
    · have hj0 : 0 < j := by
        rcases Nat.eq_zero_or_pos j with h1 | h1
        · rw [h1, Nat.mul_zero, Nat.pow_zero, Nat.div_one] at hX; omega
        · exact h1
      have hNj : N < 10 ^ (9 * j) := by
        rcases Nat.lt_or_ge N (10 ^ (9 * j)) with h2 | h2
        · exact h2
        · have := Nat.div_pos h2 (Nat.pow_pos (by omega)); omega
      have htt := text_trim hNj
      rw [← txL_pos hz] at htt
      have hne : txN N ≠ ⟨#[]⟩ := fun h => by
        have h1 := congrArg (fun b : ByteArray => b.data.toList.length) h
        unfold txN at h1
        simp only [txL_pos hz, List.length_reverse, List.length_map, List.length_nil] at h1
        have := (dg_nil (B := 10) (by decide)).1 (List.eq_nil_of_length_eq_zero h1)
        omega
      repeat' ((conv => whnf); first | refine walk (Tryz.ok ..) ?_ | (refine Cnd.mk (fun h => ?_) (fun h => ?_) <;> (first | exact cndT h (by (try dsimp only); omega) | exact cndF h (by (try dsimp only); omega) | (exfalso; simp at h; omega) | simp at h | skip)) | fail)
      refine called_modA 23 (u8v (cd (9 * j) N).reverse) (.v (.tuple #[])) rfl (by omega) (by rw [u8v_len, u8v_len, List.length_reverse]) (fun w' tail g hAg hh hg => by
        subst hAg
        have h1 := reverse_any (cd (9 * j) N) tail g 5 cap2 w' hg (by rw [cd_len]; omega)
        rw [cd_len] at h1
        exact h1) ?_
      repeat' ((conv => whnf); first | refine walk (Tryz.ok ..) ?_ | refine side2 ?_ | fail)
      refine ⟨(cd (9 * j) N).reverse, ⟨by rw [List.length_reverse, cd_len], fun j u h => h⟩, ?_⟩
      skip
      refine called_pure (.v (.string (txN N))) rfl (fun w' => (Tryz.strings_TrimLeft_one (Sat.strOf (cd (9 * j) N).reverse) 48 (by decide) w').mono fun e w'' h => ⟨by rw [htt] at h; exact h.1, by rw [h.2]; exact Below.refl _ _⟩) ?_
      repeat' ((conv => whnf); first | refine walk (Tryz.ok ..) ?_ | (refine Cnd.mk (fun h => ?_) (fun h => ?_) <;> (first | exact cndT h (by (try dsimp only); omega) | exact cndF h (by (try dsimp only); omega) | (exfalso; simp at h; omega) | simp at h | skip)) | fail)
      exact done_pure rfl rfl rfl
      exact absurd (by assumption) hne
  have hb9 := nine_bound hN (j := j) (by rw [← hX]; exact h0)
  have hL : 0 < (dg bb X).length := by
    rcases Nat.eq_zero_or_pos (dg bb X).length with h1 | h1
    · have := (dg_nil hb2).1 (List.eq_nil_of_length_eq_zero h1); omega
    · exact h1
  obtain ⟨L, eL⟩ : ∃ L, L = (dg bb X).length := ⟨_, rfl⟩
  rw [← eL] at hL hXl ⊢
  have hdl : (dgs L (X / 1000000000)).length = L := dgs_len _ _
  have hnvx : nv bb (dg bb X) = X := nv_dg hb2 X
  repeat' ((conv => whnf); first | refine walk (Tryz.ok ..) ?_ | (refine Cnd.mk (fun h => ?_) (fun h => ?_) <;> (first | exact cndT h (by (try dsimp only); omega) | exact cndF h (by (try dsimp only); omega) | (exfalso; simp at h; omega) | simp at h | skip)) | fail)
  refine called_modA 7 (us (dgs L (X / 1000000000))) (.v (.int .u32 ((X % 1000000000 : Nat) : Int))) rfl (by omega) (by rw [us_len, us_len, hdl, eL]) (fun w' tail g hAg hh hg => by
    subst hAg
    have h1 := small_any (dg bb X) [] tail g 25 cap1 1000000000 w' (by rw [List.nil_append]; exact hg) (by omega) (dg_lt hb2 X) (by omega) (by rw [hbb]; omega)
    rw [hnvx, ← eL, List.nil_append] at h1
    exact h1) ?_
  have hnq : nv bb (dgs L (X / 1000000000)) = X / 1000000000 := by
    rw [nv_dgs]
    refine Nat.mod_eq_of_lt (Nat.lt_of_le_of_lt (Nat.div_le_self _ _) ?_)
    rw [eL]
    exact dg_upper hb2 X
  have htr := trim_nil (B := bb) hb2 (dgs_lt L (X / 1000000000))
  rw [hnq] at htr
  repeat' ((conv => whnf); first | refine walk (Tryz.ok ..) ?_ | fail)
  refine called_trim 7 (dg bb (X / 1000000000)).length rfl (by rw [htr]; have h9 := trim_len (dgs L (X / 1000000000)); rw [hdl] at h9; exact h9) (fun w' hh => by
    have h1 := trim_any (dgs L (X / 1000000000)) A1 cap1 w' (by rw [hdl]; exact ro_of_row hh (id := 7) rfl) (by rw [hdl]; omega) (by rw [hdl]; exact row_cap hh (id := 7) rfl)
    rw [← htr, hdl] at h1
    exact h1) ?_
  have hcut : (us (dgs L (X / 1000000000))).take ((dg bb (X / 1000000000)).length * 1) = us (dg bb (X / 1000000000)) := by
    rw [Nat.mul_one, us_take, htr, ← trim_take]
  rw [hcut]
  repeat' ((conv => whnf); first | refine walk (Tryz.ok ..) ?_ | fail)
  refine sat_loop (Tryz.ok ..) (α := Nat × Option (Nat × Nat) × Nat) (fun s => ([(0, .yes, .o 7 A1 (dg bb (X / 1000000000)).length cap1), (3, .yes, .o 23 s.2.1 (9 * j + s.1) s.2.2), (4, .yes, .v (.int .u32 ((X % 1000000000 / 10 ^ s.1 : Nat) : Int))), (15, .yes, .v (.int .i64 s.1))],
      [(7, .row A1 25 1 (dg bb (X / 1000000000)).length cap1 (us (dg bb (X / 1000000000)))), (23, .row s.2.1 5 1 (9 * j + s.1) s.2.2 (u8v (cd (9 * j + s.1) N)))]))
    (fun s => s.1 ≤ 9) (fun s => 9 - s.1) (fun _ => rfl) ?_ ?_
  · refine ⟨(0, A2, cap2), by show 0 ≤ 9; omega, ?_, ?_, rfl⟩
    all_goals dsimp only
    all_goals rw [Nat.add_zero]
    · rw [Nat.pow_zero, Nat.div_one]
      ((repeat' (first | exact trivial | exact rfl | refine And.intro ?_ ?_)) <;> (try (conv => whnf)) <;> (try simp only [SV.real, SV.r2, SV.r1]))
    · ((repeat' (first | exact trivial | exact rfl | refine And.intro ?_ ?_)) <;> (try (conv => whnf)) <;> (try simp only [SV.real, SV.r2, SV.r1]))
  rintro ⟨i, A3, cap3⟩ hi
  dsimp only at hi
  by_cases hi9 : i < 9
  · obtain ⟨r, hr⟩ : ∃ r, r = X % 1000000000 / 10 ^ i := ⟨_, rfl⟩
    have hrl : r < 1000000000 := by
      rw [hr]
      exact Nat.lt_of_le_of_lt (Nat.div_le_self _ _) (Nat.mod_lt _ (by omega))
    have hdw := dig_wrap (r := r)
    have hnx : u8v (cd (9 * j + (i + 1)) N) = u8v (cd (9 * j + i) N) ++ [.int .u8 (48 + (r : Int) % 10)] := by
      rw [← Nat.add_assoc, cd_succ, u8v_app, ← nine_step hi9, ← hX, hr]
      rfl
    have hrn : r / 10 = X % 1000000000 / 10 ^ (i + 1) := by
      rw [hr, Nat.div_div_eq_div_mul, Nat.pow_succ]
    rw [← hr]
    repeat' ((conv => whnf); first | refine walk (Tryz.ok ..) ?_ | (refine Cnd.mk (fun h => ?_) (fun h => ?_) <;> (first | exact cndT h (by (try dsimp only); omega) | exact cndF h (by (try dsimp only); omega) | (exfalso; simp at h; omega) | simp at h | skip)) | refine sideL2 ?_ | fail)
    intro g22 hg22
    repeat' ((conv => whnf); first | refine side2 ?_ | refine Or.inr ?_ | fail)
    intro A4 cap4
    repeat' ((conv => whnf); first | refine walk (Tryz.ok ..) ?_ | refine sideL2 ?_ | fail)
    refine ⟨(i + 1, A4, cap4), ⟨by show i + 1 ≤ 9; omega, by show 9 - (i + 1) < 9 - i; omega⟩, ?_, ?_, rfl⟩
    · dsimp only
      rw [← hrn]
      ((repeat' (first | exact trivial | exact rfl | refine And.intro ?_ ?_)) <;> (try (conv => whnf)) <;> (try simp only [SV.real, SV.r2, SV.r1]))
    · dsimp only
      rw [hnx]
      ((repeat' (first | exact trivial | exact rfl | refine And.intro ?_ ?_)) <;> (try (conv => whnf)) <;> (try simp only [SV.real, SV.r2, SV.r1]))
  · obtain rfl : i = 9 := by omega
    have hn2 : N / 10 ^ (9 * (j + 1)) = X / 1000000000 := by rw [hX, ← nine_next]
    repeat' ((conv => whnf); first | refine walk (Tryz.ok ..) ?_ | (refine Cnd.mk (fun h => ?_) (fun h => ?_) <;> (first | exact cndT h (by (try dsimp only); omega) | exact cndF h (by (try dsimp only); omega) | (exfalso; simp at h; omega) | simp at h | skip)) | fail)
    refine ⟨(j + 1, A3, cap3), ⟨⟨by show 9 * (j + 1) ≤ 90; omega, fun h => absurd h (by simp), fun _ => by show 0 < N; omega⟩, by dsimp only; rw [hn2]; exact Nat.div_lt_self h0 (by omega)⟩, ?_, ?_, rfl⟩
    · dsimp only
      rw [hn2]
      ((repeat' (first | exact trivial | exact rfl | refine And.intro ?_ ?_)) <;> (try (conv => whnf)) <;> (try simp only [SV.real, SV.r2, SV.r1]))
    · dsimp only
      rw [hn2]
      ((repeat' (first | exact trivial | exact rfl | refine And.intro ?_ ?_)) <;> (try (conv => whnf)) <;> (try simp only [SV.real, SV.r2, SV.r1]))
end Go.Proofs.YtmekcdjaafegaaaGreatDoor
