/-
  The walks of the frac package: the right fraction of a numerator and a denominator; whole numbers and quotients of them.
-/
import Derived.Test.YtomhfakkebaciaaN8
namespace Go.Proofs.Ytomhfakkebaciaa
open Go Sat Go.RowKit Go.PlainAid
set_option linter.unusedSimpArgs false
set_option linter.unusedVariables false
def zC : List SV := .v (.bool false) :: List.replicate 16 (.v (.int .u32 0))
theorem frC_zero : frC zeroF = zC := rfl
def frZ (b : Bool) : List SV := .v (.bool b) :: List.replicate 16 (.v (.int .u32 0))
def frH (b : Bool) (n : Nat) : List SV := .v (.bool b) :: ((us (lim n)).map .v ++ List.replicate 8 (.v (.int .u32 0)))
theorem frH_len (b : Bool) (n : Nat) : (frH b n).length = 17 := by simp [frH, us_len, lim_len]
theorem us_rep_v (k : Nat) : (us (List.replicate k 0)).map SV.v = List.replicate k (.v (.int .u32 0)) := by rw [us_rep, List.map_replicate]
theorem cp_num (b : Bool) {n : Nat} (h : n < big) : (frZ b).take 1 ++ ((us (dg bb n)).take ((dg bb n).length * 1)).map .v ++ (frZ b).drop (1 + (dg bb n).length) = frH b n := by
  have h8 := dg_big h
  obtain ⟨k, hk⟩ : ∃ k, k = (dg bb n).length := ⟨_, rfl⟩
  unfold frH
  rw [lim_fill h, us_app, List.map_append, us_rep_v, ← hk, Nat.mul_one, List.take_of_length_le (l := us (dg bb n)) (by rw [us_len]; omega), Nat.add_comm 1 k]
  show [SV.v (.bool b)] ++ (us (dg bb n)).map .v ++ (List.replicate 16 (SV.v (.int .u32 0))).drop k = _
  rw [List.drop_replicate, List.append_assoc, List.append_assoc, List.replicate_append_replicate, show 8 - k + 8 = 16 - k by omega]
  rfl
theorem cp_den (b : Bool) {n d : Nat} (h : d < big) : (frH b n).take 9 ++ ((us (dg bb d)).take ((dg bb d).length * 1)).map .v ++ (frH b n).drop (9 + (dg bb d).length) = frC ⟨b, n, d⟩ := by
  have h8 := dg_big h
  obtain ⟨k, hk⟩ : ∃ k, k = (dg bb d).length := ⟨_, rfl⟩
  have hl : (.v (.bool b) :: (us (lim n)).map SV.v).length = 9 := by simp [us_len, lim_len]
  have e : frH b n = (.v (.bool b) :: (us (lim n)).map SV.v) ++ List.replicate 8 (.v (.int .u32 0)) := rfl
  have e1 : (frH b n).take 9 = .v (.bool b) :: (us (lim n)).map SV.v := by rw [e, ← hl, List.take_left]
  have e2 : (frH b n).drop (9 + k) = List.replicate (8 - k) (.v (.int .u32 0)) := by
    rw [e, ← List.drop_drop, ← hl, List.drop_left, List.drop_replicate]
  rw [← hk, e1, e2, Nat.mul_one, List.take_of_length_le (l := us (dg bb d)) (by rw [us_len]; omega)]
  unfold frC
  rw [lim_fill h, us_app, List.map_append, us_rep_v, ← hk]
  simp
theorem frC_cells (f : Fr) : allV ((frC f).map SV.r1) = true := by
  refine allV_of fun u hu => ?_
  have e : (frC f).map SV.r1 = .bool f.neg :: (us (lim f.num) ++ us (lim f.den)) := by
    have := map_r1 (.bool f.neg :: (us (lim f.num) ++ us (lim f.den)))
    rw [List.map_cons, List.map_append] at this
    exact this
  rw [e] at hu
  rcases List.mem_cons.1 hu with rfl | hu
  · rfl
  · rw [← us_app] at hu
    exact allV_mem (us_all _) u hu
theorem fitF_yes {neg : Bool} {x y : Nat} (h : x / Nat.gcd x y < big ∧ y / Nat.gcd x y < big) : fitF neg x y = (⟨neg && decide (x ≠ 0), x / Nat.gcd x y, y / Nat.gcd x y⟩, 0) := by unfold fitF; rw [if_pos h]
theorem fitF_no {neg : Bool} {x y : Nat} (h : ¬ (x / Nat.gcd x y < big ∧ y / Nat.gcd x y < big)) : fitF neg x y = (zeroF, 3) := by unfold fitF; rw [if_neg h]
inductive V2 where
  | a | b (A : Option (Nat × Nat)) (cA : Nat) (B : Option (Nat × Nat)) (cB : Nat)
set_option maxRecDepth 100000 in
set_option maxHeartbeats 8000000 in
theorem fit_any (neg : Bool) (x y : Nat) (X Y : Option (Nat × Nat)) (capX capY : Nat) (w : World) (hx : Ro w X (dg bb x).length 1 (us (dg bb x))) (hy : Ro w Y (dg bb y).length 1 (us (dg bb y))) (hxl : (dg bb x).length ≤ 10000) (hyl : (dg bb y).length ≤ 10000) (hy0 : 0 < y) :
    Calls Try.prog 32 #[.bool neg, .slice (adr X) (dg bb x).length capX, .slice (adr Y) (dg bb y).length capY] w fun e w' => e = .returned (.tuple #[frV (fitF neg x y).1, .int .i64 (fitF neg x y).2]) ∧ Below w.heap.size w w' := by
  have hb2 : (2 : Nat) ≤ bb := by decide
  obtain ⟨G, hG⟩ : ∃ G, G = Nat.gcd x y := ⟨_, rfl⟩
  have hGy : G ≤ y := by rw [hG]; exact Nat.gcd_le_right x hy0
  have hG0 : 0 < G := by rw [hG]; exact Nat.gcd_pos_of_pos_right x hy0
  have hGl : (dg bb G).length ≤ 10000 := Nat.le_trans (len_le hb2 hGy) hyl
  obtain ⟨x', ex⟩ : ∃ v, v = x / G := ⟨_, rfl⟩
  obtain ⟨y', ey⟩ : ∃ v, v = y / G := ⟨_, rfl⟩
  have hxl' : (dg bb x').length ≤ 10000 := Nat.le_trans (len_le hb2 (by rw [ex]; exact Nat.div_le_self _ _)) hxl
  have hyl' : (dg bb y').length ≤ 10000 := Nat.le_trans (len_le hb2 (by rw [ey]; exact Nat.div_le_self _ _)) hyl
  have hxz : x' ≠ 0 ↔ x ≠ 0 := by
    have hgx : G ∣ x := by rw [hG]; exact Nat.gcd_dvd_left x y
    rcases Nat.eq_zero_or_pos x with h | h
    · rw [ex, h, Nat.zero_div]
    · have := Nat.div_pos (Nat.le_of_dvd h hgx) hG0
      omega
  refine calls_sat (cx := Try.cx 53 [5] [] [] w) (Try.ok ..) Try.func32 rfl [.v (.bool neg), .o 100 X (dg bb x).length capX, .o 101 Y (dg bb y).length capY] rfl (by show 3 ≤ 53; omega) [(100, .ro X (dg bb x).length 1 (us (dg bb x))), (101, .ro Y (dg bb y).length 1 (us (dg bb y)))] (holds_ros rfl rfl ⟨hx, hy, trivial⟩) ?_
  repeat' ((conv => whnf); first | refine walk (Try.ok ..) ?_ | fail)
  intro g6 hg6
  repeat' ((conv => whnf); first | refine walk (Try.ok ..) ?_ | fail)
  refine called_alt 12 (e := 23) (s := 1) (m := (dg bb G).length) (xs := us (dg bb G)) (p := G = y) (.o 101 Y (dg bb y).length capY) (fun w' hh => by rw [hG]; exact common_any x y X Y capX capY w' (ro_of_ro hh (id := 100) rfl) (ro_of_ro hh (id := 101) rfl) (by omega) (by omega) hy0) ?_ ?_
  · intro hgy
    repeat' ((conv => whnf); first | refine walk (Try.ok ..) ?_ | fail)
    refine called_at (.v (.bool (decide (G = 1)))) rfl (fun w' hh => by
      have h1 := one_any y Y capY w' (ro_of_ro hh (id := 101) rfl) (by omega)
      rw [show decide (y = 1) = decide (G = 1) from decide_eq_decide.2 (by rw [hgy])] at h1
      exact h1) ?_
    by_cases hG1 : G = 1
    · rw [decide_eq_true hG1]
      repeat' ((conv => whnf); first | refine walk (Try.ok ..) ?_ | (refine Cnd.mk (fun h => ?_) (fun h => ?_) <;> (first | exact cndT h (by (try dsimp only); omega) | exact cndF h (by (try dsimp only); omega) | (exfalso; simp at h; omega) | simp at h | skip)) | fail)
      have ex1 : x' = x := by rw [ex, hG1, Nat.div_one]
      have ey1 : y' = y := by rw [ey, hG1, Nat.div_one]
      refine sat_to ([(0, .yes, .v (.bool neg)), (1, .yes, .o 100 X (dg bb x').length capX), (2, .yes, .o 101 Y (dg bb y').length capY), (6, .yes, .p 6 g6 0 0)], [(6, .blk g6 26 zC), (100, .ro X (dg bb x').length 1 (us (dg bb x'))), (101, .ro Y (dg bb y').length 1 (us (dg bb y')))]) rfl ?_ ?_ rfl ?_
      · rw [ex1, ey1]
        ((repeat' (first | exact trivial | exact rfl | refine And.intro ?_ ?_)) <;> (try (conv => whnf)) <;> (try simp only [SV.real, SV.r2, SV.r1]))
      · rw [ex1, ey1]
        ((repeat' (first | exact trivial | exact rfl | refine And.intro ?_ ?_)) <;> (try (conv => whnf)) <;> (try simp only [SV.real, SV.r2, SV.r1]))
      refine sat_ops (Try.ok ..) ?_
      by_cases hok : x' < big ∧ y' < big
      · obtain ⟨hx8, hy8⟩ := hok
        have h8x := dg_big hx8
        have h8y := dg_big hy8
        have hfit : fitF neg x y = (⟨neg && decide (x' ≠ 0), x', y'⟩, 0) := by
          rw [show decide (x' ≠ 0) = decide (x ≠ 0) from decide_eq_decide.2 hxz, ex, ey, hG]
          exact fitF_yes ⟨by rw [← hG, ← ex]; exact hx8, by rw [← hG, ← ey]; exact hy8⟩
        have hbv : (neg && decide (x' ≠ 0)) = (neg && decide ((0 : Int) < ((dg bb x').length : Int))) := by
          have e2 : decide ((0 : Int) < ((dg bb x').length : Int)) = decide (x' ≠ 0) := by
            refine decide_eq_decide.2 ?_
            rw [Ne, ← dg_nil (B := bb) (by decide), ← List.length_eq_zero_iff]
            omega
          rw [e2]
        rw [hfit]
        dsimp only
        obtain ⟨bv, ebv⟩ : ∃ b, b = (neg && decide (x' ≠ 0)) := ⟨_, rfl⟩
        rw [← ebv] at hbv ⊢
        have hle1 : (dg bb x').length * 1 ≤ (us (dg bb x')).length := by rw [us_len]; omega
        have hle2 : (dg bb y').length * 1 ≤ (us (dg bb y')).length := by rw [us_len]; omega
        repeat' ((conv => whnf); first | refine walk (Try.ok ..) ?_ | (refine Cnd.mk (fun h => ?_) (fun h => ?_) <;> (first | exact cndT h (by (try dsimp only); omega) | exact cndF h (by (try dsimp only); omega) | (exfalso; simp at h; omega) | simp at h | skip)) | refine side2 ?_ | fail)
        intro g9 hg9
        repeat' ((conv => whnf); first | refine walk (Try.ok ..) ?_ | refine side2 ?_ | fail)
        (conv => whnf)
        rw [← hbv]
        refine other_copy_blk (Try.ok 53 [5] [] [] w.heap.size [] w).T (i := _) (j := _) (elem := 23) rfl rfl rfl rfl 9 (g := g9) (ty := 26) (off := 1) (n := 8) (cap := 8) (cs := frZ bv) rfl rfl (m := (dg bb x').length) (news := (us (dg bb x')).take ((dg bb x').length * 1)) ⟨rfl, hle1, rfl, rfl⟩ h8x (by show 1 + 8 ≤ 17; omega) (by rw [us_take]; exact us_all _) ?_
        rw [cp_num bv hx8]
        repeat' ((conv => whnf); first | refine walk (Try.ok ..) ?_ | refine side2 ?_ | fail)
        refine other_copy_blk (Try.ok 53 [5] [] [] w.heap.size [] w).T (i := _) (j := _) (elem := 23) rfl rfl rfl rfl 9 (g := g9) (ty := 26) (off := 9) (n := 8) (cap := 8) (cs := frH bv x') rfl rfl (m := (dg bb y').length) (news := (us (dg bb y')).take ((dg bb y').length * 1)) ⟨rfl, hle2, rfl, rfl⟩ h8y (by rw [frH_len]; omega) (by rw [us_take]; exact us_all _) ?_
        rw [cp_den bv hy8]
        have hcl := frC_len ⟨bv, x', y'⟩
        have htk : (List.take 17 (List.drop 0 (List.take 17 (List.drop 0 (frC ⟨bv, x', y'⟩))))) = frC ⟨bv, x', y'⟩ := by
          rw [List.drop_zero, List.drop_zero, List.take_take, Nat.min_self, List.take_of_length_le (by rw [hcl]; exact Nat.le_refl _)]
        repeat' ((conv => whnf); first | refine walk (Try.ok ..) ?_ | refine side2 ?_ | fail)
        exact done_pure rfl rfl (congrArg (fun l => (SV.t [.a l, .v (.int .i64 0)]).real) htk)
      · rw [show fitF neg x y = (zeroF, 3) from fitF_no (by rw [← hG, ← ex, ← ey]; exact hok)]
        have h8 : 8 < (dg bb x').length ∨ 8 < (dg bb y').length := by
          rcases Nat.lt_or_ge 8 (dg bb x').length with h | h
          · exact .inl h
          rcases Nat.lt_or_ge 8 (dg bb y').length with h' | h'
          · exact .inr h'
          refine absurd ⟨?_, ?_⟩ hok
          · rw [big_pow]; exact (dg_len (by decide) 8 x').1 h
          · rw [big_pow]; exact (dg_len (by decide) 8 y').1 h'
        repeat' ((conv => whnf); first | refine walk (Try.ok ..) ?_ | (refine Cnd.mk (fun h => ?_) (fun h => ?_) <;> (first | exact cndT h (by (try dsimp only); omega) | exact cndF h (by (try dsimp only); omega) | (exfalso; simp at h; omega) | simp at h | skip)) | refine side2 ?_ | fail)
        exact done_pure rfl rfl rfl
    · rw [decide_eq_false hG1]
      repeat' ((conv => whnf); first | refine walk (Try.ok ..) ?_ | (refine Cnd.mk (fun h => ?_) (fun h => ?_) <;> (first | exact cndT h (by (try dsimp only); omega) | exact cndF h (by (try dsimp only); omega) | (exfalso; simp at h; omega) | simp at h | skip)) | fail)
      refine called_row2 300 301 (m1 := (dg bb x').length) (m2 := (dg bb (x % G)).length) (xs1 := us (dg bb x')) (xs2 := us (dg bb (x % G))) (fun v u => .tuple #[v, u]) (fun A c A' c' => .t [.o 300 A (dg bb x').length c, .o 301 A' (dg bb (x % G)).length c']) (fun _ _ _ _ => rfl) (fun w' hh => by
        have h1 := divide_any x y X Y capX capY w' (ro_of_ro hh (id := 100) rfl) (ro_of_ro hh (id := 101) rfl) (by omega) (by omega) hy0
        rw [← hgy, ← ex, hgy] at h1
        rw [hgy]
        exact h1) ?_
      intro A3 c3 A4 c4
      repeat' ((conv => whnf); first | refine walk (Try.ok ..) ?_ | fail)
      refine called_row2 310 311 (m1 := (dg bb y').length) (m2 := (dg bb (y % G)).length) (xs1 := us (dg bb y')) (xs2 := us (dg bb (y % G))) (fun v u => .tuple #[v, u]) (fun A c A' c' => .t [.o 310 A (dg bb y').length c, .o 311 A' (dg bb (y % G)).length c']) (fun _ _ _ _ => rfl) (fun w' hh => by
        have h1 := divide_any y y Y Y capY capY w' (ro_of_ro hh (id := 101) rfl) (ro_of_ro hh (id := 101) rfl) (by omega) (by omega) hy0
        rw [ey, hgy]
        exact h1) ?_
      intro A5 c5 A6 c6
      repeat' ((conv => whnf); first | refine walk (Try.ok ..) ?_ | fail)
      refine sat_to ([(0, .yes, .v (.bool neg)), (1, .yes, .o 300 A3 (dg bb x').length c3), (2, .yes, .o 310 A5 (dg bb y').length c5), (6, .yes, .p 6 g6 0 0)], [(6, .blk g6 26 zC), (300, .row A3 23 1 (dg bb x').length c3 (us (dg bb x'))), (310, .row A5 23 1 (dg bb y').length c5 (us (dg bb y')))]) rfl ?_ ?_ rfl ?_
      · skip
        ((repeat' (first | exact trivial | exact rfl | refine And.intro ?_ ?_)) <;> (try (conv => whnf)) <;> (try simp only [SV.real, SV.r2, SV.r1]))
      · skip
        ((repeat' (first | exact trivial | exact rfl | refine And.intro ?_ ?_)) <;> (try (conv => whnf)) <;> (try simp only [SV.real, SV.r2, SV.r1]))
      refine sat_ops (Try.ok ..) ?_
      by_cases hok : x' < big ∧ y' < big
      · obtain ⟨hx8, hy8⟩ := hok
        have h8x := dg_big hx8
        have h8y := dg_big hy8
        have hfit : fitF neg x y = (⟨neg && decide (x' ≠ 0), x', y'⟩, 0) := by
          rw [show decide (x' ≠ 0) = decide (x ≠ 0) from decide_eq_decide.2 hxz, ex, ey, hG]
          exact fitF_yes ⟨by rw [← hG, ← ex]; exact hx8, by rw [← hG, ← ey]; exact hy8⟩
        have hbv : (neg && decide (x' ≠ 0)) = (neg && decide ((0 : Int) < ((dg bb x').length : Int))) := by
          have e2 : decide ((0 : Int) < ((dg bb x').length : Int)) = decide (x' ≠ 0) := by
            refine decide_eq_decide.2 ?_
            rw [Ne, ← dg_nil (B := bb) (by decide), ← List.length_eq_zero_iff]
            omega
          rw [e2]
        rw [hfit]
        dsimp only
        obtain ⟨bv, ebv⟩ : ∃ b, b = (neg && decide (x' ≠ 0)) := ⟨_, rfl⟩
        rw [← ebv] at hbv ⊢
        have hle1 : (dg bb x').length * 1 ≤ (us (dg bb x')).length := by rw [us_len]; omega
        have hle2 : (dg bb y').length * 1 ≤ (us (dg bb y')).length := by rw [us_len]; omega
        repeat' ((conv => whnf); first | refine walk (Try.ok ..) ?_ | (refine Cnd.mk (fun h => ?_) (fun h => ?_) <;> (first | exact cndT h (by (try dsimp only); omega) | exact cndF h (by (try dsimp only); omega) | (exfalso; simp at h; omega) | simp at h | skip)) | refine side2 ?_ | fail)
        intro g9 hg9
        repeat' ((conv => whnf); first | refine walk (Try.ok ..) ?_ | refine side2 ?_ | fail)
        (conv => whnf)
        rw [← hbv]
        refine other_copy_blk (Try.ok 53 [5] [] [] w.heap.size [] w).T (i := _) (j := _) (elem := 23) rfl rfl rfl rfl 9 (g := g9) (ty := 26) (off := 1) (n := 8) (cap := 8) (cs := frZ bv) rfl rfl (m := (dg bb x').length) (news := (us (dg bb x')).take ((dg bb x').length * 1)) ⟨rfl, hle1, rfl, rfl⟩ h8x (by show 1 + 8 ≤ 17; omega) (by rw [us_take]; exact us_all _) ?_
        rw [cp_num bv hx8]
        repeat' ((conv => whnf); first | refine walk (Try.ok ..) ?_ | refine side2 ?_ | fail)
        refine other_copy_blk (Try.ok 53 [5] [] [] w.heap.size [] w).T (i := _) (j := _) (elem := 23) rfl rfl rfl rfl 9 (g := g9) (ty := 26) (off := 9) (n := 8) (cap := 8) (cs := frH bv x') rfl rfl (m := (dg bb y').length) (news := (us (dg bb y')).take ((dg bb y').length * 1)) ⟨rfl, hle2, rfl, rfl⟩ h8y (by rw [frH_len]; omega) (by rw [us_take]; exact us_all _) ?_
        rw [cp_den bv hy8]
        have hcl := frC_len ⟨bv, x', y'⟩
        have htk : (List.take 17 (List.drop 0 (List.take 17 (List.drop 0 (frC ⟨bv, x', y'⟩))))) = frC ⟨bv, x', y'⟩ := by
          rw [List.drop_zero, List.drop_zero, List.take_take, Nat.min_self, List.take_of_length_le (by rw [hcl]; exact Nat.le_refl _)]
        repeat' ((conv => whnf); first | refine walk (Try.ok ..) ?_ | refine side2 ?_ | fail)
        exact done_pure rfl rfl (congrArg (fun l => (SV.t [.a l, .v (.int .i64 0)]).real) htk)
      · rw [show fitF neg x y = (zeroF, 3) from fitF_no (by rw [← hG, ← ex, ← ey]; exact hok)]
        have h8 : 8 < (dg bb x').length ∨ 8 < (dg bb y').length := by
          rcases Nat.lt_or_ge 8 (dg bb x').length with h | h
          · exact .inl h
          rcases Nat.lt_or_ge 8 (dg bb y').length with h' | h'
          · exact .inr h'
          refine absurd ⟨?_, ?_⟩ hok
          · rw [big_pow]; exact (dg_len (by decide) 8 x').1 h
          · rw [big_pow]; exact (dg_len (by decide) 8 y').1 h'
        repeat' ((conv => whnf); first | refine walk (Try.ok ..) ?_ | (refine Cnd.mk (fun h => ?_) (fun h => ?_) <;> (first | exact cndT h (by (try dsimp only); omega) | exact cndF h (by (try dsimp only); omega) | (exfalso; simp at h; omega) | simp at h | skip)) | refine side2 ?_ | fail)
        exact done_pure rfl rfl rfl
  · intro A1 c1
    repeat' ((conv => whnf); first | refine walk (Try.ok ..) ?_ | fail)
    refine called_at (.v (.bool (decide (G = 1)))) rfl (fun w' hh => one_any G A1 c1 w' (ro_of_row hh (id := 12) rfl) (by omega)) ?_
    by_cases hG1 : G = 1
    · rw [decide_eq_true hG1]
      repeat' ((conv => whnf); first | refine walk (Try.ok ..) ?_ | (refine Cnd.mk (fun h => ?_) (fun h => ?_) <;> (first | exact cndT h (by (try dsimp only); omega) | exact cndF h (by (try dsimp only); omega) | (exfalso; simp at h; omega) | simp at h | skip)) | fail)
      have ex1 : x' = x := by rw [ex, hG1, Nat.div_one]
      have ey1 : y' = y := by rw [ey, hG1, Nat.div_one]
      refine sat_to ([(0, .yes, .v (.bool neg)), (1, .yes, .o 100 X (dg bb x').length capX), (2, .yes, .o 101 Y (dg bb y').length capY), (6, .yes, .p 6 g6 0 0)], [(6, .blk g6 26 zC), (100, .ro X (dg bb x').length 1 (us (dg bb x'))), (101, .ro Y (dg bb y').length 1 (us (dg bb y')))]) rfl ?_ ?_ rfl ?_
      · rw [ex1, ey1]
        ((repeat' (first | exact trivial | exact rfl | refine And.intro ?_ ?_)) <;> (try (conv => whnf)) <;> (try simp only [SV.real, SV.r2, SV.r1]))
      · rw [ex1, ey1]
        ((repeat' (first | exact trivial | exact rfl | refine And.intro ?_ ?_)) <;> (try (conv => whnf)) <;> (try simp only [SV.real, SV.r2, SV.r1]))
      refine sat_ops (Try.ok ..) ?_
      by_cases hok : x' < big ∧ y' < big
      · obtain ⟨hx8, hy8⟩ := hok
        have h8x := dg_big hx8
        have h8y := dg_big hy8
        have hfit : fitF neg x y = (⟨neg && decide (x' ≠ 0), x', y'⟩, 0) := by
          rw [show decide (x' ≠ 0) = decide (x ≠ 0) from decide_eq_decide.2 hxz, ex, ey, hG]
          exact fitF_yes ⟨by rw [← hG, ← ex]; exact hx8, by rw [← hG, ← ey]; exact hy8⟩
        have hbv : (neg && decide (x' ≠ 0)) = (neg && decide ((0 : Int) < ((dg bb x').length : Int))) := by
          have e2 : decide ((0 : Int) < ((dg bb x').length : Int)) = decide (x' ≠ 0) := by
            refine decide_eq_decide.2 ?_
            rw [Ne, ← dg_nil (B := bb) (by decide), ← List.length_eq_zero_iff]
            omega
          rw [e2]
        rw [hfit]
        dsimp only
        obtain ⟨bv, ebv⟩ : ∃ b, b = (neg && decide (x' ≠ 0)) := ⟨_, rfl⟩
        rw [← ebv] at hbv ⊢
        have hle1 : (dg bb x').length * 1 ≤ (us (dg bb x')).length := by rw [us_len]; omega
        have hle2 : (dg bb y').length * 1 ≤ (us (dg bb y')).length := by rw [us_len]; omega
        repeat' ((conv => whnf); first | refine walk (Try.ok ..) ?_ | (refine Cnd.mk (fun h => ?_) (fun h => ?_) <;> (first | exact cndT h (by (try dsimp only); omega) | exact cndF h (by (try dsimp only); omega) | (exfalso; simp at h; omega) | simp at h | skip)) | refine side2 ?_ | fail)
        intro g9 hg9
        repeat' ((conv => whnf); first | refine walk (Try.ok ..) ?_ | refine side2 ?_ | fail)
        (conv => whnf)
        rw [← hbv]
        refine other_copy_blk (Try.ok 53 [5] [] [] w.heap.size [] w).T (i := _) (j := _) (elem := 23) rfl rfl rfl rfl 9 (g := g9) (ty := 26) (off := 1) (n := 8) (cap := 8) (cs := frZ bv) rfl rfl (m := (dg bb x').length) (news := (us (dg bb x')).take ((dg bb x').length * 1)) ⟨rfl, hle1, rfl, rfl⟩ h8x (by show 1 + 8 ≤ 17; omega) (by rw [us_take]; exact us_all _) ?_
        rw [cp_num bv hx8]
        repeat' ((conv => whnf); first | refine walk (Try.ok ..) ?_ | refine side2 ?_ | fail)
        refine other_copy_blk (Try.ok 53 [5] [] [] w.heap.size [] w).T (i := _) (j := _) (elem := 23) rfl rfl rfl rfl 9 (g := g9) (ty := 26) (off := 9) (n := 8) (cap := 8) (cs := frH bv x') rfl rfl (m := (dg bb y').length) (news := (us (dg bb y')).take ((dg bb y').length * 1)) ⟨rfl, hle2, rfl, rfl⟩ h8y (by rw [frH_len]; omega) (by rw [us_take]; exact us_all _) ?_
        rw [cp_den bv hy8]
        have hcl := frC_len ⟨bv, x', y'⟩
        have htk : (List.take 17 (List.drop 0 (List.take 17 (List.drop 0 (frC ⟨bv, x', y'⟩))))) = frC ⟨bv, x', y'⟩ := by
          rw [List.drop_zero, List.drop_zero, List.take_take, Nat.min_self, List.take_of_length_le (by rw [hcl]; exact Nat.le_refl _)]
        repeat' ((conv => whnf); first | refine walk (Try.ok ..) ?_ | refine side2 ?_ | fail)
        exact done_pure rfl rfl (congrArg (fun l => (SV.t [.a l, .v (.int .i64 0)]).real) htk)
      · rw [show fitF neg x y = (zeroF, 3) from fitF_no (by rw [← hG, ← ex, ← ey]; exact hok)]
        have h8 : 8 < (dg bb x').length ∨ 8 < (dg bb y').length := by
          rcases Nat.lt_or_ge 8 (dg bb x').length with h | h
          · exact .inl h
          rcases Nat.lt_or_ge 8 (dg bb y').length with h' | h'
          · exact .inr h'
          refine absurd ⟨?_, ?_⟩ hok
          · rw [big_pow]; exact (dg_len (by decide) 8 x').1 h
          · rw [big_pow]; exact (dg_len (by decide) 8 y').1 h'
        repeat' ((conv => whnf); first | refine walk (Try.ok ..) ?_ | (refine Cnd.mk (fun h => ?_) (fun h => ?_) <;> (first | exact cndT h (by (try dsimp only); omega) | exact cndF h (by (try dsimp only); omega) | (exfalso; simp at h; omega) | simp at h | skip)) | refine side2 ?_ | fail)
        exact done_pure rfl rfl rfl
    · rw [decide_eq_false hG1]
      repeat' ((conv => whnf); first | refine walk (Try.ok ..) ?_ | (refine Cnd.mk (fun h => ?_) (fun h => ?_) <;> (first | exact cndT h (by (try dsimp only); omega) | exact cndF h (by (try dsimp only); omega) | (exfalso; simp at h; omega) | simp at h | skip)) | fail)
      refine called_row2 300 301 (m1 := (dg bb x').length) (m2 := (dg bb (x % G)).length) (xs1 := us (dg bb x')) (xs2 := us (dg bb (x % G))) (fun v u => .tuple #[v, u]) (fun A c A' c' => .t [.o 300 A (dg bb x').length c, .o 301 A' (dg bb (x % G)).length c']) (fun _ _ _ _ => rfl) (fun w' hh => by
        rw [ex]
        exact divide_any x G X A1 capX c1 w' (ro_of_ro hh (id := 100) rfl) (ro_of_row hh (id := 12) rfl) (by omega) (by omega) hG0) ?_
      intro A3 c3 A4 c4
      repeat' ((conv => whnf); first | refine walk (Try.ok ..) ?_ | fail)
      refine called_row2 310 311 (m1 := (dg bb y').length) (m2 := (dg bb (y % G)).length) (xs1 := us (dg bb y')) (xs2 := us (dg bb (y % G))) (fun v u => .tuple #[v, u]) (fun A c A' c' => .t [.o 310 A (dg bb y').length c, .o 311 A' (dg bb (y % G)).length c']) (fun _ _ _ _ => rfl) (fun w' hh => by
        rw [ey]
        exact divide_any y G Y A1 capY c1 w' (ro_of_ro hh (id := 101) rfl) (ro_of_row hh (id := 12) rfl) (by omega) (by omega) hG0) ?_
      intro A5 c5 A6 c6
      repeat' ((conv => whnf); first | refine walk (Try.ok ..) ?_ | fail)
      refine sat_to ([(0, .yes, .v (.bool neg)), (1, .yes, .o 300 A3 (dg bb x').length c3), (2, .yes, .o 310 A5 (dg bb y').length c5), (6, .yes, .p 6 g6 0 0)], [(6, .blk g6 26 zC), (300, .row A3 23 1 (dg bb x').length c3 (us (dg bb x'))), (310, .row A5 23 1 (dg bb y').length c5 (us (dg bb y')))]) rfl ?_ ?_ rfl ?_
      · skip
        ((repeat' (first | exact trivial | exact rfl | refine And.intro ?_ ?_)) <;> (try (conv => whnf)) <;> (try simp only [SV.real, SV.r2, SV.r1]))
      · skip
        ((repeat' (first | exact trivial | exact rfl | refine And.intro ?_ ?_)) <;> (try (conv => whnf)) <;> (try simp only [SV.real, SV.r2, SV.r1]))
      refine sat_ops (Try.ok ..) ?_
      by_cases hok : x' < big ∧ y' < big
      · obtain ⟨hx8, hy8⟩ := hok
        have h8x := dg_big hx8
        have h8y := dg_big hy8
        have hfit : fitF neg x y = (⟨neg && decide (x' ≠ 0), x', y'⟩, 0) := by
          rw [show decide (x' ≠ 0) = decide (x ≠ 0) from decide_eq_decide.2 hxz, ex, ey, hG]
          exact fitF_yes ⟨by rw [← hG, ← ex]; exact hx8, by rw [← hG, ← ey]; exact hy8⟩
        have hbv : (neg && decide (x' ≠ 0)) = (neg && decide ((0 : Int) < ((dg bb x').length : Int))) := by
          have e2 : decide ((0 : Int) < ((dg bb x').length : Int)) = decide (x' ≠ 0) := by
            refine decide_eq_decide.2 ?_
            rw [Ne, ← dg_nil (B := bb) (by decide), ← List.length_eq_zero_iff]
            omega
          rw [e2]
        rw [hfit]
        dsimp only
        obtain ⟨bv, ebv⟩ : ∃ b, b = (neg && decide (x' ≠ 0)) := ⟨_, rfl⟩
        rw [← ebv] at hbv ⊢
        have hle1 : (dg bb x').length * 1 ≤ (us (dg bb x')).length := by rw [us_len]; omega
        have hle2 : (dg bb y').length * 1 ≤ (us (dg bb y')).length := by rw [us_len]; omega
        repeat' ((conv => whnf); first | refine walk (Try.ok ..) ?_ | (refine Cnd.mk (fun h => ?_) (fun h => ?_) <;> (first | exact cndT h (by (try dsimp only); omega) | exact cndF h (by (try dsimp only); omega) | (exfalso; simp at h; omega) | simp at h | skip)) | refine side2 ?_ | fail)
        intro g9 hg9
        repeat' ((conv => whnf); first | refine walk (Try.ok ..) ?_ | refine side2 ?_ | fail)
        (conv => whnf)
        rw [← hbv]
        refine other_copy_blk (Try.ok 53 [5] [] [] w.heap.size [] w).T (i := _) (j := _) (elem := 23) rfl rfl rfl rfl 9 (g := g9) (ty := 26) (off := 1) (n := 8) (cap := 8) (cs := frZ bv) rfl rfl (m := (dg bb x').length) (news := (us (dg bb x')).take ((dg bb x').length * 1)) ⟨rfl, hle1, rfl, rfl⟩ h8x (by show 1 + 8 ≤ 17; omega) (by rw [us_take]; exact us_all _) ?_
        rw [cp_num bv hx8]
        repeat' ((conv => whnf); first | refine walk (Try.ok ..) ?_ | refine side2 ?_ | fail)
        refine other_copy_blk (Try.ok 53 [5] [] [] w.heap.size [] w).T (i := _) (j := _) (elem := 23) rfl rfl rfl rfl 9 (g := g9) (ty := 26) (off := 9) (n := 8) (cap := 8) (cs := frH bv x') rfl rfl (m := (dg bb y').length) (news := (us (dg bb y')).take ((dg bb y').length * 1)) ⟨rfl, hle2, rfl, rfl⟩ h8y (by rw [frH_len]; omega) (by rw [us_take]; exact us_all _) ?_
        rw [cp_den bv hy8]
        have hcl := frC_len ⟨bv, x', y'⟩
        have htk : (List.take 17 (List.drop 0 (List.take 17 (List.drop 0 (frC ⟨bv, x', y'⟩))))) = frC ⟨bv, x', y'⟩ := by
          rw [List.drop_zero, List.drop_zero, List.take_take, Nat.min_self, List.take_of_length_le (by rw [hcl]; exact Nat.le_refl _)]
        repeat' ((conv => whnf); first | refine walk (Try.ok ..) ?_ | refine side2 ?_ | fail)
        exact done_pure rfl rfl (congrArg (fun l => (SV.t [.a l, .v (.int .i64 0)]).real) htk)
      · rw [show fitF neg x y = (zeroF, 3) from fitF_no (by rw [← hG, ← ex, ← ey]; exact hok)]
        have h8 : 8 < (dg bb x').length ∨ 8 < (dg bb y').length := by
          rcases Nat.lt_or_ge 8 (dg bb x').length with h | h
          · exact .inl h
          rcases Nat.lt_or_ge 8 (dg bb y').length with h' | h'
          · exact .inr h'
          refine absurd ⟨?_, ?_⟩ hok
          · rw [big_pow]; exact (dg_len (by decide) 8 x').1 h
          · rw [big_pow]; exact (dg_len (by decide) 8 y').1 h'
        repeat' ((conv => whnf); first | refine walk (Try.ok ..) ?_ | (refine Cnd.mk (fun h => ?_) (fun h => ?_) <;> (first | exact cndT h (by (try dsimp only); omega) | exact cndF h (by (try dsimp only); omega) | (exfalso; simp at h; omega) | simp at h | skip)) | refine side2 ?_ | fail)
        exact done_pure rfl rfl rfl
end Go.Proofs.Ytomhfakkebaciaa
