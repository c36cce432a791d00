/-
  The walks of the frac package: the right fraction of a numerator and a denominator; whole numbers and quotients of them. The walks of the frac package: whole numbers, quotients; fractions are compared, turned, added.
-/
import Derived.Test.YtmekcdjaafegaaaGreatDoorNC
import Derived.Test.YtmekcdjaafegaaaGreatDoorFE
set_option linter.unusedSimpArgs false
set_option linter.unusedVariables false
namespace Go.Proofs.YtmekcdjaafegaaaGreatDoor
section
open Go Sat Go.RowKit Go.PlainAid
set_option linter.unusedSimpArgs false
set_option linter.unusedVariables false
def zC : List SV := .v (.bool false) :: List.replicate 16 (.v (.int .u32 0))
theorem frC_zero : frC zeroF = zC := rfl
def frZ (b : Bool) : List SV := .v (.bool b) :: List.replicate 16 (.v (.int .u32 0))
def frH (b : Bool) (n : Nat) : List SV := .v (.bool b) :: ((us (lim n)).map .v ++ List.replicate 8 (.v (.int .u32 0)))
theorem frH_len (b : Bool) (n : Nat) : (frH b n).length = 17 := by simp [frH, us_len, lim_len]
theorem us_rep_v (k : Nat) : (us (List.replicate k 0)).map SV.v = List.replicate k (.v (.int .u32 0)) := by rw [us_rep, List.map_replicate]
theorem cp_num (b : Bool) {n : Nat} (h : n < big) : (frZ b).take 1 ++ ((us (dg bb n)).take ((dg bb n).length * 1)).map .v ++ (frZ b).drop (1 + (dg bb n).length) = frH b n := by
  have h8 := dg_big h
  obtain ⟨k, hk⟩ : ∃ k, k = (dg bb n).length := ⟨_, rfl⟩
  unfold frH
  rw [lim_fill h, us_app, List.map_append, us_rep_v, ← hk, Nat.mul_one, List.take_of_length_le (l := us (dg bb n)) (by rw [us_len]; omega), Nat.add_comm 1 k]
  show [SV.v (.bool b)] ++ (us (dg bb n)).map .v ++ (List.replicate 16 (SV.v (.int .u32 0))).drop k = _
  rw [List.drop_replicate, List.append_assoc, List.append_assoc, List.replicate_append_replicate, show 8 - k + 8 = 16 - k by omega]
  rfl
theorem cp_den (b : Bool) {n d : Nat} (h : d < big) : (frH b n).take 9 ++ ((us (dg bb d)).take ((dg bb d).length * 1)).map .v ++ (frH b n).drop (9 + (dg bb d).length) = frC ⟨b, n, d⟩ := by
  have h8 := dg_big h
  obtain ⟨k, hk⟩ : ∃ k, k = (dg bb d).length := ⟨_, rfl⟩
  have hl : (.v (.bool b) :: (us (lim n)).map SV.v).length = 9 := by simp [us_len, lim_len]
  have e : frH b n = (.v (.bool b) :: (us (lim n)).map SV.v) ++ List.replicate 8 (.v (.int .u32 0)) := rfl
  have e1 : (frH b n).take 9 = .v (.bool b) :: (us (lim n)).map SV.v := by rw [e, ← hl, List.take_left]
  have e2 : (frH b n).drop (9 + k) = List.replicate (8 - k) (.v (.int .u32 0)) := by
    rw [e, ← List.drop_drop, ← hl, List.drop_left, List.drop_replicate]
  rw [← hk, e1, e2, Nat.mul_one, List.take_of_length_le (l := us (dg bb d)) (by rw [us_len]; omega)]
  unfold frC
  rw [lim_fill h, us_app, List.map_append, us_rep_v, ← hk]
  simp
theorem frC_cells (f : Fr) : allV ((frC f).map SV.r1) = true := by
  refine allV_of fun u hu => ?_
  have e : (frC f).map SV.r1 = .bool f.neg :: (us (lim f.num) ++ us (lim f.den)) := by
    have := map_r1 (.bool f.neg :: (us (lim f.num) ++ us (lim f.den)))
    rw [List.map_cons, List.map_append] at this
    exact this
  rw [e] at hu
  rcases List.mem_cons.1 hu with rfl | hu
  · rfl
  · rw [← us_app] at hu
    exact allV_mem (us_all _) u hu
theorem fitF_yes {neg : Bool} {x y : Nat} (h : x / Nat.gcd x y < big ∧ y / Nat.gcd x y < big) : fitF neg x y = (⟨neg && decide (x ≠ 0), x / Nat.gcd x y, y / Nat.gcd x y⟩, 0) := by unfold fitF; rw [if_pos h]
theorem fitF_no {neg : Bool} {x y : Nat} (h : ¬ (x / Nat.gcd x y < big ∧ y / Nat.gcd x y < big)) : fitF neg x y = (zeroF, 3) := by unfold fitF; rw [if_neg h]
inductive V2 where
  | a | b (A : Option (Nat × Nat)) (cA : Nat) (B : Option (Nat × Nat)) (cB : Nat)
set_option maxRecDepth 100000 in
set_option maxHeartbeats 8000000 in
theorem fit_any (neg : Bool) (x y : Nat) (X Y : Option (Nat × Nat)) (capX capY : Nat) (w : World) (hx : Ro w X (dg bb x).length 1 (us (dg bb x))) (hy : Ro w Y (dg bb y).length 1 (us (dg bb y))) (hxl : (dg bb x).length ≤ 10000) (hyl : (dg bb y).length ≤ 10000) (hy0 : 0 < y) :
    Calls Tryz.prog 44 #[.bool neg, .slice (adr X) (dg bb x).length capX, .slice (adr Y) (dg bb y).length capY] w fun e w' => e = .returned (.tuple #[frV (fitF neg x y).1, .int .i64 (fitF neg x y).2]) ∧ Below w.heap.size w w' := by
  have hb2 : (2 : Nat) ≤ bb := by decide
  obtain ⟨G, hG⟩ : ∃ G, G = Nat.gcd x y := ⟨_, rfl⟩
  have hGy : G ≤ y := by rw [hG]; exact Nat.gcd_le_right x hy0
  have hG0 : 0 < G := by rw [hG]; exact Nat.gcd_pos_of_pos_right x hy0
  have hGl : (dg bb G).length ≤ 10000 := Nat.le_trans (len_le hb2 hGy) hyl
  obtain ⟨x', ex⟩ : ∃ v, v = x / G := ⟨_, rfl⟩
  obtain ⟨y', ey⟩ : ∃ v, v = y / G := ⟨_, rfl⟩
  have hxl' : (dg bb x').length ≤ 10000 := Nat.le_trans (len_le hb2 (by rw [ex]; exact Nat.div_le_self _ _)) hxl
  have hyl' : (dg bb y').length ≤ 10000 := Nat.le_trans (len_le hb2 (by rw [ey]; exact Nat.div_le_self _ _)) hyl
  have hxz : x' ≠ 0 ↔ x ≠ 0 := by
    have hgx : G ∣ x := by rw [hG]; exact Nat.gcd_dvd_left x y
    rcases Nat.eq_zero_or_pos x with h | h
    · rw [ex, h, Nat.zero_div]
    · have := Nat.div_pos (Nat.le_of_dvd h hgx) hG0
      omega
  refine calls_sat (cx := Tryz.cx 53 [5] [] [] w) (Tryz.ok ..) Tryz.func44 rfl [.v (.bool neg), .o 100 X (dg bb x).length capX, .o 101 Y (dg bb y).length capY] rfl (by show 3 ≤ 53; omega) [(100, .ro X (dg bb x).length 1 (us (dg bb x))), (101, .ro Y (dg bb y).length 1 (us (dg bb y)))] (holds_ros rfl rfl ⟨hx, hy, trivial⟩) ?_
  repeat' ((conv => whnf); first | refine walk (Tryz.ok ..) ?_ | fail)
  intro g6 hg6
  repeat' ((conv => whnf); first | refine walk (Tryz.ok ..) ?_ | fail)
  refine called_alt 12 (e := 25) (s := 1) (m := (dg bb G).length) (xs := us (dg bb G)) (p := G = y) (.o 101 Y (dg bb y).length capY) (fun w' hh => by rw [hG]; exact common_any x y X Y capX capY w' (ro_of_ro hh (id := 100) rfl) (ro_of_ro hh (id := 101) rfl) (by omega) (by omega) hy0) ?_ ?_
  · intro hgy
    repeat' ((conv => whnf); first | refine walk (Tryz.ok ..) ?_ | fail)
    refine called_at (.v (.bool (decide (G = 1)))) rfl (fun w' hh => by
      have h1 := one_any y Y capY w' (ro_of_ro hh (id := 101) rfl) (by omega)
      rw [show decide (y = 1) = decide (G = 1) from decide_eq_decide.2 (by rw [hgy])] at h1
      exact h1) ?_
    by_cases hG1 : G = 1
    · rw [decide_eq_true hG1]
      repeat' ((conv => whnf); first | refine walk (Tryz.ok ..) ?_ | (refine Cnd.mk (fun h => ?_) (fun h => ?_) <;> (first | exact cndT h (by (try dsimp only); omega) | exact cndF h (by (try dsimp only); omega) | (exfalso; simp at h; omega) | simp at h | skip)) | fail)
      have ex1 : x' = x := by rw [ex, hG1, Nat.div_one]
      have ey1 : y' = y := by rw [ey, hG1, Nat.div_one]
      refine sat_to ([(0, .yes, .v (.bool neg)), (1, .yes, .o 100 X (dg bb x').length capX), (2, .yes, .o 101 Y (dg bb y').length capY), (6, .yes, .p 6 g6 0 0)], [(6, .blk g6 28 zC), (100, .ro X (dg bb x').length 1 (us (dg bb x'))), (101, .ro Y (dg bb y').length 1 (us (dg bb y')))]) rfl ?_ ?_ rfl ?_
      · rw [ex1, ey1]
        ((repeat' (first | exact trivial | exact rfl | refine And.intro ?_ ?_)) <;> (try (conv => whnf)) <;> (try simp only [SV.real, SV.r2, SV.r1]))
      · rw [ex1, ey1]
        ((repeat' (first | exact trivial | exact rfl | refine And.intro ?_ ?_)) <;> (try (conv => whnf)) <;> (try simp only [SV.real, SV.r2, SV.r1]))
      refine sat_ops (Tryz.ok ..) ?_
      by_cases hok : x' < big ∧ y' < big
      · obtain ⟨hx8, hy8⟩ := hok
        have h8x := dg_big hx8
        have h8y := dg_big hy8
        have hfit : fitF neg x y = (⟨neg && decide (x' ≠ 0), x', y'⟩, 0) := by
          rw [show decide (x' ≠ 0) = decide (x ≠ 0) from decide_eq_decide.2 hxz, ex, ey, hG]
          exact fitF_yes ⟨by rw [← hG, ← ex]; exact hx8, by rw [← hG, ← ey]; exact hy8⟩
        have hbv : (neg && decide (x' ≠ 0)) = (neg && decide ((0 : Int) < ((dg bb x').length : Int))) := by
          have e2 : decide ((0 : Int) < ((dg bb x').length : Int)) = decide (x' ≠ 0) := by
            refine decide_eq_decide.2 ?_
            rw [Ne, ← dg_nil (B := bb) (by decide), ← List.length_eq_zero_iff]
            omega
          rw [e2]
        rw [hfit]
        dsimp only
        obtain ⟨bv, ebv⟩ : ∃ b, b = (neg && decide (x' ≠ 0)) := ⟨_, rfl⟩
        rw [← ebv] at hbv ⊢
        have hle1 : (dg bb x').length * 1 ≤ (us (dg bb x')).length := by rw [us_len]; omega
        have hle2 : (dg bb y').length * 1 ≤ (us (dg bb y')).length := by rw [us_len]; omega
        repeat' ((conv => whnf); first | refine walk (Tryz.ok ..) ?_ | (refine Cnd.mk (fun h => ?_) (fun h => ?_) <;> (first | exact cndT h (by (try dsimp only); omega) | exact cndF h (by (try dsimp only); omega) | (exfalso; simp at h; omega) | simp at h | skip)) | refine side2 ?_ | fail)
        intro g9 hg9
        repeat' ((conv => whnf); first | refine walk (Tryz.ok ..) ?_ | refine side2 ?_ | fail)
        (conv => whnf)
        rw [← hbv]
        refine other_copy_blk (Tryz.ok 53 [5] [] [] w.heap.size [] w).T (i := _) (j := _) (elem := 25) rfl rfl rfl rfl 9 (g := g9) (ty := 28) (off := 1) (n := 8) (cap := 8) (cs := frZ bv) rfl rfl (m := (dg bb x').length) (news := (us (dg bb x')).take ((dg bb x').length * 1)) ⟨rfl, hle1, rfl, rfl⟩ h8x (by show 1 + 8 ≤ 17; omega) (by rw [us_take]; exact us_all _) ?_
        rw [cp_num bv hx8]
        repeat' ((conv => whnf); first | refine walk (Tryz.ok ..) ?_ | refine side2 ?_ | fail)
        refine other_copy_blk (Tryz.ok 53 [5] [] [] w.heap.size [] w).T (i := _) (j := _) (elem := 25) rfl rfl rfl rfl 9 (g := g9) (ty := 28) (off := 9) (n := 8) (cap := 8) (cs := frH bv x') rfl rfl (m := (dg bb y').length) (news := (us (dg bb y')).take ((dg bb y').length * 1)) ⟨rfl, hle2, rfl, rfl⟩ h8y (by rw [frH_len]; omega) (by rw [us_take]; exact us_all _) ?_
        rw [cp_den bv hy8]
        have hcl := frC_len ⟨bv, x', y'⟩
        have htk : (List.take 17 (List.drop 0 (List.take 17 (List.drop 0 (frC ⟨bv, x', y'⟩))))) = frC ⟨bv, x', y'⟩ := by
          rw [List.drop_zero, List.drop_zero, List.take_take, Nat.min_self, List.take_of_length_le (by rw [hcl]; exact Nat.le_refl _)]
        repeat' ((conv => whnf); first | refine walk (Tryz.ok ..) ?_ | refine side2 ?_ | fail)
        exact done_pure rfl rfl (congrArg (fun l => (SV.t [.a l, .v (.int .i64 0)]).real) htk)
      · rw [show fitF neg x y = (zeroF, 3) from fitF_no (by rw [← hG, ← ex, ← ey]; exact hok)]
        have h8 : 8 < (dg bb x').length ∨ 8 < (dg bb y').length := by
          rcases Nat.lt_or_ge 8 (dg bb x').length with h | h
          · exact .inl h
          rcases Nat.lt_or_ge 8 (dg bb y').length with h' | h'
          · exact .inr h'
          refine absurd ⟨?_, ?_⟩ hok
          · rw [big_pow]; exact (dg_len (by decide) 8 x').1 h
          · rw [big_pow]; exact (dg_len (by decide) 8 y').1 h'
        repeat' ((conv => whnf); first | refine walk (Tryz.ok ..) ?_ | (refine Cnd.mk (fun h => ?_) (fun h => ?_) <;> (first | exact cndT h (by (try dsimp only); omega) | exact cndF h (by (try dsimp only); omega) | (exfalso; simp at h; omega) | simp at h | skip)) | refine side2 ?_ | fail)
        exact done_pure rfl rfl rfl
    · rw [decide_eq_false hG1]
      repeat' ((conv => whnf); first | refine walk (Tryz.ok ..) ?_ | (refine Cnd.mk (fun h => ?_) (fun h => ?_) <;> (first | exact cndT h (by (try dsimp only); omega) | exact cndF h (by (try dsimp only); omega) | (exfalso; simp at h; omega) | simp at h | skip)) | fail)
      refine called_row2 300 301 (m1 := (dg bb x').length) (m2 := (dg bb (x % G)).length) (xs1 := us (dg bb x')) (xs2 := us (dg bb (x % G))) (fun v u => .tuple #[v, u]) (fun A c A' c' => .t [.o 300 A (dg bb x').length c, .o 301 A' (dg bb (x % G)).length c']) (fun _ _ _ _ => rfl) (fun w' hh => by
        have h1 := divide_any x y X Y capX capY w' (ro_of_ro hh (id := 100) rfl) (ro_of_ro hh (id := 101) rfl) (by omega) (by omega) hy0
        rw [← hgy, ← ex, hgy] at h1
        rw [hgy]
        exact h1) ?_
      intro A3 c3 A4 c4
      repeat' ((conv => whnf); first | refine walk (Tryz.ok ..) ?_ | fail)
      refine called_row2 310 311 (m1 := (dg bb y').length) (m2 := (dg bb (y % G)).length) (xs1 := us (dg bb y')) (xs2 := us (dg bb (y % G))) (fun v u => .tuple #[v, u]) (fun A c A' c' => .t [.o 310 A (dg bb y').length c, .o 311 A' (dg bb (y % G)).length c']) (fun _ _ _ _ => rfl) (fun w' hh => by
        have h1 := divide_any y y Y Y capY capY w' (ro_of_ro hh (id := 101) rfl) (ro_of_ro hh (id := 101) rfl) (by omega) (by omega) hy0
        rw [ey, hgy]
        exact h1) ?_
      intro A5 c5 A6 c6
      repeat' ((conv => whnf); first | refine walk (Tryz.ok ..) ?_ | fail)
      refine sat_to ([(0, .yes, .v (.bool neg)), (1, .yes, .o 300 A3 (dg bb x').length c3), (2, .yes, .o 310 A5 (dg bb y').length c5), (6, .yes, .p 6 g6 0 0)], [(6, .blk g6 28 zC), (300, .row A3 25 1 (dg bb x').length c3 (us (dg bb x'))), (310, .row A5 25 1 (dg bb y').length c5 (us (dg bb y')))]) rfl ?_ ?_ rfl ?_
      · skip
        ((repeat' (first | exact trivial | exact rfl | refine And.intro ?_ ?_)) <;> (try (conv => whnf)) <;> (try simp only [SV.real, SV.r2, SV.r1]))
      · skip
        ((repeat' (first | exact trivial | exact rfl | refine And.intro ?_ ?_)) <;> (try (conv => whnf)) <;> (try simp only [SV.real, SV.r2, SV.r1]))
      refine sat_ops (Tryz.ok ..) ?_
      by_cases hok : x' < big ∧ y' < big
      · obtain ⟨hx8, hy8⟩ := hok
        have h8x := dg_big hx8
        have h8y := dg_big hy8
        have hfit : fitF neg x y = (⟨neg && decide (x' ≠ 0), x', y'⟩, 0) := by
          rw [show decide (x' ≠ 0) = decide (x ≠ 0) from decide_eq_decide.2 hxz, ex, ey, hG]
          exact fitF_yes ⟨by rw [← hG, ← ex]; exact hx8, by rw [← hG, ← ey]; exact hy8⟩
        have hbv : (neg && decide (x' ≠ 0)) = (neg && decide ((0 : Int) < ((dg bb x').length : Int))) := by
          have e2 : decide ((0 : Int) < ((dg bb x').length : Int)) = decide (x' ≠ 0) := by
            refine decide_eq_decide.2 ?_
            rw [Ne, ← dg_nil (B := bb) (by decide), ← List.length_eq_zero_iff]
            omega
          rw [e2]
        rw [hfit]
        dsimp only
        obtain ⟨bv, ebv⟩ : ∃ b, b = (neg && decide (x' ≠ 0)) := ⟨_, rfl⟩
        rw [← ebv] at hbv ⊢
        have hle1 : (dg bb x').length * 1 ≤ (us (dg bb x')).length := by rw [us_len]; omega
        have hle2 : (dg bb y').length * 1 ≤ (us (dg bb y')).length := by rw [us_len]; omega
        repeat' ((conv => whnf); first | refine walk (Tryz.ok ..) ?_ | (refine Cnd.mk (fun h => ?_) (fun h => ?_) <;> (first | exact cndT h (by (try dsimp only); omega) | exact cndF h (by (try dsimp only); omega) | (exfalso; simp at h; omega) | simp at h | skip)) | refine side2 ?_ | fail)
        intro g9 hg9
        repeat' ((conv => whnf); first | refine walk (Tryz.ok ..) ?_ | refine side2 ?_ | fail)
        (conv => whnf)
        rw [← hbv]
        refine other_copy_blk (Tryz.ok 53 [5] [] [] w.heap.size [] w).T (i := _) (j := _) (elem := 25) rfl rfl rfl rfl 9 (g := g9) (ty := 28) (off := 1) (n := 8) (cap := 8) (cs := frZ bv) rfl rfl (m := (dg bb x').length) (news := (us (dg bb x')).take ((dg bb x').length * 1)) ⟨rfl, hle1, rfl, rfl⟩ h8x (by show 1 + 8 ≤ 17; omega) (by rw [us_take]; exact us_all _) ?_
        rw [cp_num bv hx8]
        repeat' ((conv => whnf); first | refine walk (Tryz.ok ..) ?_ | refine side2 ?_ | fail)
        refine other_copy_blk (Tryz.ok 53 [5] [] [] w.heap.size [] w).T (i := _) (j := _) (elem := 25) rfl rfl rfl rfl 9 (g := g9) (ty := 28) (off := 9) (n := 8) (cap := 8) (cs := frH bv x') rfl rfl (m := (dg bb y').length) (news := (us (dg bb y')).take ((dg bb y').length * 1)) ⟨rfl, hle2, rfl, rfl⟩ h8y (by rw [frH_len]; omega) (by rw [us_take]; exact us_all _) ?_
        rw [cp_den bv hy8]
        have hcl := frC_len ⟨bv, x', y'⟩
        have htk : (List.take 17 (List.drop 0 (List.take 17 (List.drop 0 (frC ⟨bv, x', y'⟩))))) = frC ⟨bv, x', y'⟩ := by
          rw [List.drop_zero, List.drop_zero, List.take_take, Nat.min_self, List.take_of_length_le (by rw [hcl]; exact Nat.le_refl _)]
        repeat' ((conv => whnf); first | refine walk (Tryz.ok ..) ?_ | refine side2 ?_ | fail)
        exact done_pure rfl rfl (congrArg (fun l => (SV.t [.a l, .v (.int .i64 0)]).real) htk)
      · rw [show fitF neg x y = (zeroF, 3) from fitF_no (by rw [← hG, ← ex, ← ey]; exact hok)]
        have h8 : 8 < (dg bb x').length ∨ 8 < (dg bb y').length := by
          rcases Nat.lt_or_ge 8 (dg bb x').length with h | h
          · exact .inl h
          rcases Nat.lt_or_ge 8 (dg bb y').length with h' | h'
          · exact .inr h'
          refine absurd ⟨?_, ?_⟩ hok
          · rw [big_pow]; exact (dg_len (by decide) 8 x').1 h
          · rw [big_pow]; exact (dg_len (by decide) 8 y').1 h'
        repeat' ((conv => whnf); first | refine walk (Tryz.ok ..) ?_ | (refine Cnd.mk (fun h => ?_) (fun h => ?_) <;> (first | exact cndT h (by (try dsimp only); omega) | exact cndF h (by (try dsimp only); omega) | (exfalso; simp at h; omega) | simp at h | skip)) | refine side2 ?_ | fail)
        exact done_pure rfl rfl rfl
  · intro A1 c1
    repeat' ((conv => whnf); first | refine walk (Tryz.ok ..) ?_ | fail)
    refine called_at (.v (.bool (decide (G = 1)))) rfl (fun w' hh => one_any G A1 c1 w' (ro_of_row hh (id := 12) rfl) (by omega)) ?_
    by_cases hG1 : G = 1
    · rw [decide_eq_true hG1]
      repeat' ((conv => whnf); first | refine walk (Tryz.ok ..) ?_ | (refine Cnd.mk (fun h => ?_) (fun h => ?_) <;> (first | exact cndT h (by (try dsimp only); omega) | exact cndF h (by (try dsimp only); omega) | (exfalso; simp at h; omega) | simp at h | skip)) | fail)
      have ex1 : x' = x := by rw [ex, hG1, Nat.div_one]
      have ey1 : y' = y := by rw [ey, hG1, Nat.div_one]
      refine sat_to ([(0, .yes, .v (.bool neg)), (1, .yes, .o 100 X (dg bb x').length capX), (2, .yes, .o 101 Y (dg bb y').length capY), (6, .yes, .p 6 g6 0 0)], [(6, .blk g6 28 zC), (100, .ro X (dg bb x').length 1 (us (dg bb x'))), (101, .ro Y (dg bb y').length 1 (us (dg bb y')))]) rfl ?_ ?_ rfl ?_
      · rw [ex1, ey1]
        ((repeat' (first | exact trivial | exact rfl | refine And.intro ?_ ?_)) <;> (try (conv => whnf)) <;> (try simp only [SV.real, SV.r2, SV.r1]))
      · rw [ex1, ey1]
        ((repeat' (first | exact trivial | exact rfl | refine And.intro ?_ ?_)) <;> (try (conv => whnf)) <;> (try simp only [SV.real, SV.r2, SV.r1]))
      refine sat_ops (Tryz.ok ..) ?_
      by_cases hok : x' < big ∧ y' < big
      · obtain ⟨hx8, hy8⟩ := hok
        have h8x := dg_big hx8
        have h8y := dg_big hy8
        have hfit : fitF neg x y = (⟨neg && decide (x' ≠ 0), x', y'⟩, 0) := by
          rw [show decide (x' ≠ 0) = decide (x ≠ 0) from decide_eq_decide.2 hxz, ex, ey, hG]
          exact fitF_yes ⟨by rw [← hG, ← ex]; exact hx8, by rw [← hG, ← ey]; exact hy8⟩
        have hbv : (neg && decide (x' ≠ 0)) = (neg && decide ((0 : Int) < ((dg bb x').length : Int))) := by
          have e2 : decide ((0 : Int) < ((dg bb x').length : Int)) = decide (x' ≠ 0) := by
            refine decide_eq_decide.2 ?_
            rw [Ne, ← dg_nil (B := bb) (by decide), ← List.length_eq_zero_iff]
            omega
          rw [e2]
        rw [hfit]
        dsimp only
        obtain ⟨bv, ebv⟩ : ∃ b, b = (neg && decide (x' ≠ 0)) := ⟨_, rfl⟩
        rw [← ebv] at hbv ⊢
        have hle1 : (dg bb x').length * 1 ≤ (us (dg bb x')).length := by rw [us_len]; omega
        have hle2 : (dg bb y').length * 1 ≤ (us (dg bb y')).length := by rw [us_len]; omega
        repeat' ((conv => whnf); first | refine walk (Tryz.ok ..) ?_ | (refine Cnd.mk (fun h => ?_) (fun h => ?_) <;> (first | exact cndT h (by (try dsimp only); omega) | exact cndF h (by (try dsimp only); omega) | (exfalso; simp at h; omega) | simp at h | skip)) | refine side2 ?_ | fail)
        intro g9 hg9
        repeat' ((conv => whnf); first | refine walk (Tryz.ok ..) ?_ | refine side2 ?_ | fail)
        (conv => whnf)
        rw [← hbv]
        refine other_copy_blk (Tryz.ok 53 [5] [] [] w.heap.size [] w).T (i := _) (j := _) (elem := 25) rfl rfl rfl rfl 9 (g := g9) (ty := 28) (off := 1) (n := 8) (cap := 8) (cs := frZ bv) rfl rfl (m := (dg bb x').length) (news := (us (dg bb x')).take ((dg bb x').length * 1)) ⟨rfl, hle1, rfl, rfl⟩ h8x (by show 1 + 8 ≤ 17; omega) (by rw [us_take]; exact us_all _) ?_
        rw [cp_num bv hx8]
        repeat' ((conv => whnf); first | refine walk (Tryz.ok ..) ?_ | refine side2 ?_ | fail)
        refine other_copy_blk (Tryz.ok 53 [5] [] [] w.heap.size [] w).T (i := _) (j := _) (elem := 25) rfl rfl rfl rfl 9 (g := g9) (ty := 28) (off := 9) (n := 8) (cap := 8) (cs := frH bv x') rfl rfl (m := (dg bb y').length) (news := (us (dg bb y')).take ((dg bb y').length * 1)) ⟨rfl, hle2, rfl, rfl⟩ h8y (by rw [frH_len]; omega) (by rw [us_take]; exact us_all _) ?_
        rw [cp_den bv hy8]
        have hcl := frC_len ⟨bv, x', y'⟩
        have htk : (List.take 17 (List.drop 0 (List.take 17 (List.drop 0 (frC ⟨bv, x', y'⟩))))) = frC ⟨bv, x', y'⟩ := by
          rw [List.drop_zero, List.drop_zero, List.take_take, Nat.min_self, List.take_of_length_le (by rw [hcl]; exact Nat.le_refl _)]
        repeat' ((conv => whnf); first | refine walk (Tryz.ok ..) ?_ | refine side2 ?_ | fail)
        exact done_pure rfl rfl (congrArg (fun l => (SV.t [.a l, .v (.int .i64 0)]).real) htk)
      · rw [show fitF neg x y = (zeroF, 3) from fitF_no (by rw [← hG, ← ex, ← ey]; exact hok)]
        have h8 : 8 < (dg bb x').length ∨ 8 < (dg bb y').length := by
          rcases Nat.lt_or_ge 8 (dg bb x').length with h | h
          · exact .inl h
          rcases Nat.lt_or_ge 8 (dg bb y').length with h' | h'
          · exact .inr h'
          refine absurd ⟨?_, ?_⟩ hok
          · rw [big_pow]; exact (dg_len (by decide) 8 x').1 h
          · rw [big_pow]; exact (dg_len (by decide) 8 y').1 h'
        repeat' ((conv => whnf); first | refine walk (Tryz.ok ..) ?_ | (refine Cnd.mk (fun h => ?_) (fun h => ?_) <;> (first | exact cndT h (by (try dsimp only); omega) | exact cndF h (by (try dsimp only); omega) | (exfalso; simp at h; omega) | simp at h | skip)) | refine side2 ?_ | fail)
        exact done_pure rfl rfl rfl
    · rw [decide_eq_false hG1]
      repeat' ((conv => whnf); first | refine walk (Tryz.ok ..) ?_ | (refine Cnd.mk (fun h => ?_) (fun h => ?_) <;> (first | exact cndT h (by (try dsimp only); omega) | exact cndF h (by (try dsimp only); omega) | (exfalso; simp at h; omega) | simp at h | skip)) | fail)
      refine called_row2 300 301 (m1 := (dg bb x').length) (m2 := (dg bb (x % G)).length) (xs1 := us (dg bb x')) (xs2 := us (dg bb (x % G))) (fun v u => .tuple #[v, u]) (fun A c A' c' => .t [.o 300 A (dg bb x').length c, .o 301 A' (dg bb (x % G)).length c']) (fun _ _ _ _ => rfl) (fun w' hh => by
        rw [ex]
        exact divide_any x G X A1 capX c1 w' (ro_of_ro hh (id := 100) rfl) (ro_of_row hh (id := 12) rfl) (by omega) (by omega) hG0) ?_
      intro A3 c3 A4 c4
      repeat' ((conv => whnf); first | refine walk (Tryz.ok ..) ?_ | fail)
      refine called_row2 310 311 (m1 := (dg bb y').length) (m2 := (dg bb (y % G)).length) (xs1 := us (dg bb y')) (xs2 := us (dg bb (y % G))) (fun v u => .tuple #[v, u]) (fun A c A' c' => .t [.o 310 A (dg bb y').length c, .o 311 A' (dg bb (y % G)).length c']) (fun _ _ _ _ => rfl) (fun w' hh => by
        rw [ey]
        exact divide_any y G Y A1 capY c1 w' (ro_of_ro hh (id := 101) rfl) (ro_of_row hh (id := 12) rfl) (by omega) (by omega) hG0) ?_
      intro A5 c5 A6 c6
      repeat' ((conv => whnf); first | refine walk (Tryz.ok ..) ?_ | fail)
      refine sat_to ([(0, .yes, .v (.bool neg)), (1, .yes, .o 300 A3 (dg bb x').length c3), (2, .yes, .o 310 A5 (dg bb y').length c5), (6, .yes, .p 6 g6 0 0)], [(6, .blk g6 28 zC), (300, .row A3 25 1 (dg bb x').length c3 (us (dg bb x'))), (310, .row A5 25 1 (dg bb y').length c5 (us (dg bb y')))]) rfl ?_ ?_ rfl ?_
      · skip
        ((repeat' (first | exact trivial | exact rfl | refine And.intro ?_ ?_)) <;> (try (conv => whnf)) <;> (try simp only [SV.real, SV.r2, SV.r1]))
      · skip
        ((repeat' (first | exact trivial | exact rfl | refine And.intro ?_ ?_)) <;> (try (conv => whnf)) <;> (try simp only [SV.real, SV.r2, SV.r1]))
      refine sat_ops (Tryz.ok ..) ?_
      by_cases hok : x' < big ∧ y' < big
      · obtain ⟨hx8, hy8⟩ := hok
        have h8x := dg_big hx8
        have h8y := dg_big hy8
        have hfit : fitF neg x y = (⟨neg && decide (x' ≠ 0), x', y'⟩, 0) := by
          rw [show decide (x' ≠ 0) = decide (x ≠ 0) from decide_eq_decide.2 hxz, ex, ey, hG]
          exact fitF_yes ⟨by rw [← hG, ← ex]; exact hx8, by rw [← hG, ← ey]; exact hy8⟩
        have hbv : (neg && decide (x' ≠ 0)) = (neg && decide ((0 : Int) < ((dg bb x').length : Int))) := by
          have e2 : decide ((0 : Int) < ((dg bb x').length : Int)) = decide (x' ≠ 0) := by
            refine decide_eq_decide.2 ?_
            rw [Ne, ← dg_nil (B := bb) (by decide), ← List.length_eq_zero_iff]
            omega
          rw [e2]
        rw [hfit]
        dsimp only
        obtain ⟨bv, ebv⟩ : ∃ b, b = (neg && decide (x' ≠ 0)) := ⟨_, rfl⟩
        rw [← ebv] at hbv ⊢
        have hle1 : (dg bb x').length * 1 ≤ (us (dg bb x')).length := by rw [us_len]; omega
        have hle2 : (dg bb y').length * 1 ≤ (us (dg bb y')).length := by rw [us_len]; omega
        repeat' ((conv => whnf); first | refine walk (Tryz.ok ..) ?_ | (refine Cnd.mk (fun h => ?_) (fun h => ?_) <;> (first | exact cndT h (by (try dsimp only); omega) | exact cndF h (by (try dsimp only); omega) | (exfalso; simp at h; omega) | simp at h | skip)) | refine side2 ?_ | fail)
        intro g9 hg9
        repeat' ((conv => whnf); first | refine walk (Tryz.ok ..) ?_ | refine side2 ?_ | fail)
        (conv => whnf)
        rw [← hbv]
        refine other_copy_blk (Tryz.ok 53 [5] [] [] w.heap.size [] w).T (i := _) (j := _) (elem := 25) rfl rfl rfl rfl 9 (g := g9) (ty := 28) (off := 1) (n := 8) (cap := 8) (cs := frZ bv) rfl rfl (m := (dg bb x').length) (news := (us (dg bb x')).take ((dg bb x').length * 1)) ⟨rfl, hle1, rfl, rfl⟩ h8x (by show 1 + 8 ≤ 17; omega) (by rw [us_take]; exact us_all _) ?_
        rw [cp_num bv hx8]
        repeat' ((conv => whnf); first | refine walk (Tryz.ok ..) ?_ | refine side2 ?_ | fail)
        refine other_copy_blk (Tryz.ok 53 [5] [] [] w.heap.size [] w).T (i := _) (j := _) (elem := 25) rfl rfl rfl rfl 9 (g := g9) (ty := 28) (off := 9) (n := 8) (cap := 8) (cs := frH bv x') rfl rfl (m := (dg bb y').length) (news := (us (dg bb y')).take ((dg bb y').length * 1)) ⟨rfl, hle2, rfl, rfl⟩ h8y (by rw [frH_len]; omega) (by rw [us_take]; exact us_all _) ?_
        rw [cp_den bv hy8]
        have hcl := frC_len ⟨bv, x', y'⟩
        have htk : (List.take 17 (List.drop 0 (List.take 17 (List.drop 0 (frC ⟨bv, x', y'⟩))))) = frC ⟨bv, x', y'⟩ := by
          rw [List.drop_zero, List.drop_zero, List.take_take, Nat.min_self, List.take_of_length_le (by rw [hcl]; exact Nat.le_refl _)]
        repeat' ((conv => whnf); first | refine walk (Tryz.ok ..) ?_ | refine side2 ?_ | fail)
        exact done_pure rfl rfl (congrArg (fun l => (SV.t [.a l, .v (.int .i64 0)]).real) htk)
      · rw [show fitF neg x y = (zeroF, 3) from fitF_no (by rw [← hG, ← ex, ← ey]; exact hok)]
        have h8 : 8 < (dg bb x').length ∨ 8 < (dg bb y').length := by
          rcases Nat.lt_or_ge 8 (dg bb x').length with h | h
          · exact .inl h
          rcases Nat.lt_or_ge 8 (dg bb y').length with h' | h'
          · exact .inr h'
          refine absurd ⟨?_, ?_⟩ hok
          · rw [big_pow]; exact (dg_len (by decide) 8 x').1 h
          · rw [big_pow]; exact (dg_len (by decide) 8 y').1 h'
        repeat' ((conv => whnf); first | refine walk (Tryz.ok ..) ?_ | (refine Cnd.mk (fun h => ?_) (fun h => ?_) <;> (first | exact cndT h (by (try dsimp only); omega) | exact cndF h (by (try dsimp only); omega) | (exfalso; simp at h; omega) | simp at h | skip)) | refine side2 ?_ | fail)
        exact done_pure rfl rfl rfl
end
section
open Go Sat Go.RowKit Go.PlainAid
set_option linter.unusedSimpArgs false
set_option linter.unusedVariables false
theorem frV_val (f : Fr) : frV f = .agg (.bool f.neg :: (us (lim f.num) ++ us (lim f.den))).toArray := by
  have := map_r1 (.bool f.neg :: (us (lim f.num) ++ us (lim f.den)))
  rw [List.map_cons, List.map_append] at this
  exact congrArg (fun l : List Value => Value.agg l.toArray) this
def eqFr (f g : Fr) : Bool := f.neg == g.neg && (decide (f.num = g.num) && (decide (f.den = g.den) && true))
theorem eqFr_iff {f g : Fr} : eqFr f g = true ↔ f = g := by
  obtain ⟨a, b, c⟩ := f
  obtain ⟨a', b', c'⟩ := g
  simp [eqFr]
theorem lim_dec {n m : Nat} (h : n < big) (h' : m < big) : decide (lim n = lim m) = decide (n = m) := decide_eq_decide.2 (lim_inj h h')
theorem us_get8 (n : Nat) : (us (lim n)).length = 8 := by rw [us_len, lim_len]
theorem eqInFr1 (d : Nat) (f g : Fr) (hf : Big f) (hg : Big g) (w : World) : (Op.equalIn (d + 1 + 1 + 1) 28 (frV f) (frV g)).run Tryz.prog w = .ok (eqFr f g) w := by
  rw [frV_val, frV_val]
  have px : ∀ (h : Fr) (w : World), (part 4 (.bool h.neg :: (us (lim h.num) ++ us (lim h.den))).toArray 0).run Tryz.prog w = .ok (.bool h.neg) w := fun h w =>
    run_part_one (cx := Tryz.cx 0 [] [] [] w) (Tryz.ok 0 [] [] [] w.heap.size [] w).T (t := 4) rfl rfl rfl w
  have pn : ∀ (h : Fr) (w : World), (part 26 (.bool h.neg :: (us (lim h.num) ++ us (lim h.den))).toArray 1).run Tryz.prog w = .ok (.agg (u32L (lim h.num)).toArray) w := fun h w => by
    have h1 := run_part_agg (cx := Tryz.cx 0 [] [] [] w) (Tryz.ok 0 [] [] [] w.heap.size [] w).T (t := 26) (j := _) rfl rfl (cs := (.bool h.neg :: (us (lim h.num) ++ us (lim h.den))).toArray) (off := 1) w
    refine h1.trans (congrArg (fun a => Result.ok (Value.agg a) w) ?_)
    apply Array.toList_inj.1
    rw [Array.toList_extract]
    show (((.bool h.neg :: (us (lim h.num) ++ us (lim h.den))) : List Value).drop 1).take 8 = us (lim h.num)
    rw [List.drop_one, List.tail_cons, List.take_append_of_le_length (by rw [us_get8]; omega), List.take_of_length_le (by rw [us_get8]; omega)]
  have pd : ∀ (h : Fr) (w : World), (part 26 (.bool h.neg :: (us (lim h.num) ++ us (lim h.den))).toArray 9).run Tryz.prog w = .ok (.agg (u32L (lim h.den)).toArray) w := fun h w => by
    have h1 := run_part_agg (cx := Tryz.cx 0 [] [] [] w) (Tryz.ok 0 [] [] [] w.heap.size [] w).T (t := 26) (j := _) rfl rfl (cs := (.bool h.neg :: (us (lim h.num) ++ us (lim h.den))).toArray) (off := 9) w
    refine h1.trans (congrArg (fun a => Result.ok (Value.agg a) w) ?_)
    apply Array.toList_inj.1
    rw [Array.toList_extract]
    show (((.bool h.neg :: (us (lim h.num) ++ us (lim h.den))) : List Value).drop 9).take 8 = us (lim h.den)
    have e := List.drop_left (l₁ := .bool h.neg :: us (lim h.num)) (l₂ := us (lim h.den))
    rw [List.length_cons, us_get8] at e
    rw [show ((.bool h.neg :: (us (lim h.num) ++ us (lim h.den))) : List Value) = (.bool h.neg :: us (lim h.num)) ++ us (lim h.den) from rfl, e, List.take_of_length_le (by rw [us_get8]; omega)]
  have ea : ∀ n m : Nat, n < big → m < big → (Op.equalIn (d + 1 + 1) 26 (.agg (u32L (lim n)).toArray) (.agg (u32L (lim m)).toArray)).run Tryz.prog w = .ok (decide (n = m)) w := fun n m hn hm => by
    rw [← lim_dec hn hm]
    exact eq_arr (T := (Tryz.cx 0 [] [] [] w).T) (Tryz.ok 0 [] [] [] w.heap.size [] w).T (t := 26) (e := 25) rfl rfl rfl rfl rfl d w (lim_len n) (lim_len m)
  exact equalIn_st [(true, 4, 0), (true, 26, 1), (true, 26, 9)] (by kernel_rfl) (by kernel_rfl) (by kernel_rfl)
    (eqs_cons _ _ (px f w) (px g w) (run_equalIn_bool' w (d + 1) 4 f.neg g.neg (by kernel_rfl)) (eqs_cons _ _ (pn f w) (pn g w) (ea _ _ hf.num hg.num) (eqs_cons _ _ (pd f w) (pd g w) (ea _ _ hf.den hg.den) eqs_nil)))
theorem eqFr1 (f g : Fr) (hf : Big f) (hg : Big g) (w : World) : (Op.equal 28 (SV.a (frC f)).real (SV.a (frC g)).real).run Tryz.prog w = .ok (eqFr f g) w := eqInFr1 9997 f g hf hg w
theorem eqgFr1 : Tryz.prog.eqGuardType Tryz.prog.depth 28 = false := by kernel_rfl
theorem wrap_neg {n : Int} (h0 : n < 0) (h1 : -9223372036854775808 ≤ n) : IntKind.u64.wrap (0 - IntKind.u64.wrap n) = ((n.natAbs : Nat) : Int) := by
  rw [IntKind.wrap_u64, IntKind.wrap_u64]
  omega
theorem tk1 (f : Fr) : List.take 17 (List.drop 0 (frC f)) = frC f := by
  rw [List.drop_zero, List.take_of_length_le (by rw [frC_len]; exact Nat.le_refl _)]
theorem tk2 (f : Fr) : List.take 17 (List.drop 0 (List.take 17 (List.drop 0 (frC f)))) = frC f := by
  rw [tk1, tk1]
structure I64 (n : Int) : Prop where
  lo : -9223372036854775808 ≤ n
  hi : n ≤ 9223372036854775807
set_option maxRecDepth 100000 in
set_option maxHeartbeats 8000000 in
theorem size64_any (n : Int) (w : World) (hn : I64 n) :
    Calls Tryz.prog 63 #[.int .i64 n] w fun e w' => ∃ v, e = .returned v ∧ w'.ownsRow w.heap.size 25 1 v (dg bb n.natAbs).length (us (dg bb n.natAbs)) ∧ Below w.heap.size w w' := by
  have h1 := hn.lo
  have h2 := hn.hi
  refine calls_sat (cx := Tryz.cx 12 [] [] [] w) (Tryz.ok ..) Tryz.func63 rfl [.v (.int .i64 n)] rfl (by show 1 ≤ 12; omega) [] (holds_nil (Nat.le_refl _)) ?_
  repeat' ((conv => whnf); first | refine walk (Tryz.ok ..) ?_ | (refine Cnd.mk (fun h => ?_) (fun h => ?_) <;> (first | exact cndT h (by (try dsimp only); omega) | exact cndF h (by (try dsimp only); omega) | (exfalso; simp at h; omega) | simp at h | skip)) | refine sideL2 ?_ | refine Or.inr ?_ | fail)
  · refine called_row 8 (xs := us (dg bb n.natAbs)) (m := (dg bb n.natAbs).length) (fun v => v) (fun A cap => .o 8 A (dg bb n.natAbs).length cap) (fun A cap => rfl) (fun w' hh => by
      have h3 := of_any n.natAbs w' (by omega)
      rw [← wrap_neg h h1] at h3
      exact h3) ?_
    intro A1 c1
    repeat' ((conv => whnf); first | refine walk (Tryz.ok ..) ?_ | fail)
    exact done_row (mk := fun v => v) rfl rfl 8 A1 c1 rfl rfl
  · refine called_row 11 (xs := us (dg bb n.natAbs)) (m := (dg bb n.natAbs).length) (fun v => v) (fun A cap => .o 11 A (dg bb n.natAbs).length cap) (fun A cap => rfl) (fun w' hh => by
      have h3 := of_any n.natAbs w' (by omega)
      rw [show ((n.natAbs : Nat) : Int) = n by omega] at h3
      exact h3) ?_
    intro A1 c1
    repeat' ((conv => whnf); first | refine walk (Tryz.ok ..) ?_ | fail)
    exact done_row (mk := fun v => v) rfl rfl 11 A1 c1 rfl rfl
theorem abs_len {n : Int} (hn : I64 n) : (dg bb n.natAbs).length ≤ 2 := by
  have h1 := hn.lo
  have h2 := hn.hi
  rw [dg_len (by decide)]
  show _ < 18446744073709551616
  omega
theorem dg_1 : dg bb 1 = [1] := dg_one (by omega) (by decide)
set_option maxRecDepth 100000 in
set_option maxHeartbeats 8000000 in
theorem of_frac (n : Int) (w : World) (hn : I64 n) :
    Calls Tryz.prog 37 #[.int .i64 n] w fun e w' => e = .returned (frV (ofF n)) ∧ Below w.heap.size w w' := by
  have hl := abs_len hn
  refine calls_sat (cx := Tryz.cx 15 [] [] [] w) (Tryz.ok ..) Tryz.func37 rfl [.v (.int .i64 n)] rfl (by show 1 ≤ 15; omega) [] (holds_nil (Nat.le_refl _)) ?_
  obtain ⟨r, er⟩ : ∃ r, r = (fitF (decide (n < 0)) n.natAbs 1).1 := ⟨_, rfl⟩
  obtain ⟨e0, ee⟩ : ∃ r, r = (fitF (decide (n < 0)) n.natAbs 1).2 := ⟨_, rfl⟩
  rw [show ofF n = r from er.symm]
  repeat' ((conv => whnf); first | refine walk (Tryz.ok ..) ?_ | fail)
  intro g2 hg2
  repeat' ((conv => whnf); first | refine walk (Tryz.ok ..) ?_ | fail)
  refine called_row 9 (xs := us (dg bb n.natAbs)) (m := (dg bb n.natAbs).length) (fun v => v) (fun A cap => .o 9 A (dg bb n.natAbs).length cap) (fun A cap => rfl) (fun w' hh => size64_any n w' hn) ?_
  intro A1 c1
  skip
  refine called_row 10 (xs := us (dg bb 1)) (m := (dg bb 1).length) (fun v => v) (fun A cap => .o 10 A (dg bb 1).length cap) (fun A cap => rfl) (fun w' hh => of_any 1 w' (by omega)) ?_
  intro A2 c2
  skip
  refine called_at (.t [.a (frC r), .v (.int .i64 e0)]) rfl (fun w' hh => by
    rw [er, ee]
    exact fit_any (decide (n < 0)) n.natAbs 1 A1 A2 c1 c2 w' (ro_of_row hh (id := 9) rfl) (ro_of_row hh (id := 10) rfl) (by omega) (by rw [dg_1]; show 1 ≤ _; omega) (by omega)) ?_
  skip
  intro g3 hg3
  repeat' ((conv => whnf); first | refine walk (Tryz.ok ..) ?_ | refine side2 ?_ | fail)
  exact done_pure rfl rfl (congrArg (fun l => (SV.a l).real) (tk2 r))
end
end Go.Proofs.YtmekcdjaafegaaaGreatDoor
