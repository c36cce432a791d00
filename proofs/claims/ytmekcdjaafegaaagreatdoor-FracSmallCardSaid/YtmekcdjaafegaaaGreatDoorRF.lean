/-
  The walks of the reference: the whole part of a fraction. The walks of the reference: the decimal text of a whole number. The walks of the reference: sums of several fractions. The walks of the reference: the text of a fraction.
-/
import Derived.Test.YtmekcdjaafegaaaGreatDoorRD
import Derived.Test.YtmekcdjaafegaaaGreatDoorN14
import Derived.Test.YtmekcdjaafegaaaGreatDoorN17
import Derived.Test.YtmekcdjaafegaaaGreatDoorRE
set_option linter.unusedSimpArgs false
set_option linter.unusedVariables false
namespace Go.Proofs.YtmekcdjaafegaaaGreatDoor
section
open Go Sat Go.RowKit Go.PlainAid
set_option linter.unusedSimpArgs false
set_option linter.unusedVariables false
theorem dg_2_63 : dg b6 9223372036854775808 = [0, 0, 0, 32768] := by
  have h := dg_nv (B := b6) b6_2 (l := [0, 0, 0, 32768]) (by decide) (fun a ha => by
    simp at ha
    omega)
  rw [show nv b6 [0, 0, 0, 32768] = 9223372036854775808 from by decide] at h
  exact h
theorem dg6_one : dg b6 1 = [1] := by
  rw [dg_pos b6_2 (by omega)]
  rfl
theorem floorE_pos {f : Fr} {W : Nat} (h : rightF f = true) (hn : f.neg = false) (hW : W = wholeF f) : floorE f = if W < 9223372036854775808 then ((W : Int), 0) else (0, 3) := by
  unfold floorE; rw [if_pos h, hn, if_neg (by decide), hW]
theorem floorE_neg {f : Fr} {W : Nat} (h : rightF f = true) (hn : f.neg = true) (hW : W = wholeF f) : floorE f = if W ≤ 9223372036854775808 then (-(W : Int), 0) else (0, 3) := by
  unfold floorE; rw [if_pos h, hn, if_pos rfl, hW]
theorem rdiv_less2 (x y : Nat) (X Y : Option (Nat × Nat)) (capX capY : Nat) (w : World) (hxy : x < y) (hx : Ro w X (dg b6 x).length 1 (iv (dg b6 x))) (hy : Ro w Y (dg b6 y).length 1 (iv (dg b6 y))) (hxl : (dg b6 x).length ≤ 1000000) (hyl : (dg b6 y).length ≤ 1000000) :
    Calls Tryz.prog 74 #[.slice (adr X) (dg b6 x).length capX, .slice (adr Y) (dg b6 y).length capY] w fun e w' => ∃ v, e = .returned (.tuple #[v, .slice (adr X) (dg b6 x).length capX]) ∧ w'.ownsRow w.heap.size 3 1 v (dg b6 (x / y)).length (iv (dg b6 (x / y))) ∧ Below w.heap.size w w' :=
  (rdiv_less x y X Y capX capY w hxy hx hy hxl hyl).mono fun e w' ⟨h, b⟩ => ⟨.slice none 0 0, h, by
    rw [Nat.div_eq_of_lt hxy, (dg_nil b6_2).2 rfl]
    exact ⟨rfl, .inl ⟨rfl, rfl⟩⟩, b⟩
set_option maxRecDepth 100000 in
set_option maxHeartbeats 8000000 in
theorem rfloor_pos (f : Fr) (w : World) (hf : Big f) (hrf : rightF f = true) (hd0 : 0 < f.den) (hng : f.neg = false) :
    Calls Tryz.prog 32 #[frV f] w fun e w' => e = .returned (.tuple #[.int .i64 (floorE f).1, .int .i64 (floorE f).2]) ∧ Below w.heap.size w w' := by
  have hn := dg_big6 hf.num
  have hd := dg_big6 hf.den
  have lf := frC_len f
  obtain ⟨r, er⟩ : ∃ r, r = floorE f := ⟨_, rfl⟩
  rw [← er]
  refine calls_sat (cx := Tryz.cx 71 [3] [] [] w) (Tryz.ok ..) Tryz.func32 rfl [.a (frC f)] rfl (by show 1 ≤ 71; omega) [] (holds_nil (Nat.le_refl _)) ?_
  repeat' ((conv => whnf); first | refine walk (Tryz.ok ..) ?_ | fail)
  (conv => whnf)
  intro g1 hg1
  repeat' ((conv => whnf); first | refine walk (Tryz.ok ..) ?_ | refine side2 ?_ | fail)
  refine called_pure (.v (.bool true)) rfl (fun w' => by rw [← hrf]; exact rright_any f w' hf) ?_
  repeat' ((conv => whnf); first | refine walk (Tryz.ok ..) ?_ | (refine Cnd.mk (fun h => ?_) (fun h => ?_) <;> (first | exact cndT h (by (try dsimp only); omega) | exact cndF h (by (try dsimp only); omega) | (exfalso; simp at h; omega) | simp at h | skip)) | fail)
  refine sat_draw (Tryz.ok ..) [] [(1, .blk g1 37 (frC f))] (by kernel_rfl) (fun w hw => hw.sub ?_) ?_
  · ((repeat' (first | exact trivial | exact rfl | refine And.intro ?_ ?_)) <;> (try (conv => whnf)) <;> (try simp only [SV.real, SV.r2, SV.r1]))
  repeat' ((conv => whnf); first | refine side2 ?_ | fail)
  refine called_row 15 (xs := iv (dg b6 f.num)) (m := (dg b6 f.num).length) (fun v => v) (fun A cap => .o 15 A (dg b6 f.num).length cap) (fun _ _ => rfl) (fun w' hh => by exact rdig_num f w' hf) ?_
  intro A15 c15
  repeat' ((conv => whnf); first | refine kp ?_ ?_ | exact trivial | refine side2 ?_ | fail)
  refine called_row 18 (xs := iv (dg b6 f.den)) (m := (dg b6 f.den).length) (fun v => v) (fun A cap => .o 18 A (dg b6 f.den).length cap) (fun _ _ => rfl) (fun w' hh => by exact rdig_den f w' hf) ?_
  intro A18 c18
  repeat' ((conv => whnf); first | refine kp ?_ ?_ | exact trivial | refine side2 ?_ | fail)
  rcases Nat.lt_or_ge f.num f.den with hlt | hlt
  · refine called_row 400 (xs := iv (dg b6 (f.num / f.den))) (m := (dg b6 (f.num / f.den)).length) (fun v => .tuple #[v, .slice (adr A15) (dg b6 f.num).length c15]) (fun A cap => .t [.o 400 A (dg b6 (f.num / f.den)).length cap, .o 15 A15 (dg b6 f.num).length c15]) (fun _ _ => rfl) (fun w' hh => rdiv_less2 f.num f.den A15 A18 c15 c18 w' hlt (ro_of_row hh (id := 15) rfl) (ro_of_row hh (id := 18) rfl) (by omega) (by omega)) ?_
    intro A c
    have hql : (dg b6 (f.num / f.den)).length ≤ 16 := Nat.le_trans (len_le b6_2 (Nat.div_le_self _ _)) hn
    obtain ⟨W, eW⟩ : ∃ W, W = f.num / f.den := ⟨_, rfl⟩
    rw [← eW] at hql ⊢
    have hW : W = wholeF f := by rw [eW]; unfold wholeF; rw [if_neg (by rw [hng]; simp)]
    obtain ⟨fn, fu, fd⟩ := f
    dsimp only at *
    subst hng
    repeat' ((conv => whnf); first | refine walk (Tryz.ok ..) ?_ | (refine Cnd.mk (fun h => ?_) (fun h => ?_) <;> (first | exact cndT h (by (try dsimp only); omega) | exact cndF h (by (try dsimp only); omega) | (exfalso; simp at h; omega) | simp at h | skip)) | refine kp ?_ ?_ | exact trivial | refine side2 ?_ | refine xi _ (And.intro rfl rfl) ?_ | fail)
    (conv => whnf)
    intro g32 hg32
    repeat' ((conv => whnf); first | refine walk (Tryz.ok ..) ?_ | fail)
    by_cases h1 : 9223372036854775808 < W
    · have hr : r = (0, 3) := by rw [er, floorE_pos hrf rfl hW, if_neg (by omega)]
      rw [hr]
      refine called_at (.v (.bool true)) rfl (fun w' hh => by have h := rless_any 9223372036854775808 W (some (g32, 0)) A 4 c w' (by rw [dg_2_63]; exact ro_of_blk hh (id := 32) rfl 0 4 1 (by decide)) (ro_of_row hh (id := 400) rfl) (by rw [dg_2_63]; decide) (by omega); rw [decide_eq_true h1, dg_2_63] at h; exact h) ?_
      repeat' ((conv => whnf); first | refine side2 ?_ | refine sideL2 ?_ | refine xi _ (fun _ => And.intro rfl rfl) ?_ | fail)
      refine calledQ_pure (v := .bool true) (.v (.bool true)) rfl (fun hc _ => absurd (show (!!false) = true from hc) (by decide)) ?_
      repeat' ((conv => whnf); first | refine walk (Tryz.ok ..) ?_ | (refine Cnd.mk (fun h => ?_) (fun h => ?_) <;> (first | exact cndT h (by (try dsimp only); omega) | exact cndF h (by (try dsimp only); omega) | (exfalso; simp at h; omega) | simp at h | skip)) | refine side2 ?_ | fail)
      exact done_pure rfl rfl rfl
    by_cases h2 : W < 9223372036854775808
    · have hr : r = ((W : Int), 0) := by rw [er, floorE_pos hrf rfl hW, if_pos h2]
      rw [hr]
      refine called_at (.v (.bool false)) rfl (fun w' hh => by have h := rless_any 9223372036854775808 W (some (g32, 0)) A 4 c w' (by rw [dg_2_63]; exact ro_of_blk hh (id := 32) rfl 0 4 1 (by decide)) (ro_of_row hh (id := 400) rfl) (by rw [dg_2_63]; decide) (by omega); rw [decide_eq_false h1, dg_2_63] at h; exact h) ?_
      repeat' ((conv => whnf); first | refine side2 ?_ | refine sideL2 ?_ | refine xi _ (fun _ => And.intro rfl rfl) ?_ | fail)
      refine calledQ_at (.v (.bool true)) rfl (fun _ w' hh => by have h := rless_any W 9223372036854775808 A (some (g32, 0)) c 4 w' (ro_of_row hh (id := 400) rfl) (by rw [dg_2_63]; exact ro_of_blk hh (id := 32) rfl 0 4 1 (by decide)) (by omega) (by rw [dg_2_63]; decide); rw [decide_eq_true h2, dg_2_63] at h; exact h) ?_
      repeat' ((conv => whnf); first | refine walk (Tryz.ok ..) ?_ | (refine Cnd.mk (fun h => ?_) (fun h => ?_) <;> (first | exact cndT h (by (try dsimp only); omega) | exact cndF h (by (try dsimp only); omega) | (exfalso; simp at h; omega) | simp at h | skip)) | refine side2 ?_ | refine sideL2 ?_ | fail)
      refine sat_loop (Tryz.ok ..) (α := Nat) (fun k => ([(1, .yes, .p 1 g1 0 0), (4, .yes, .o 400 A (dg b6 W).length c), (7, .yes, .v (.int .i64 (((W / b6 ^ k : Nat) : Int)))), (8, .yes, .v (.int .i64 ((k : Int) - 1)))], [(1, .blk g1 37 (frC ⟨false, fu, fd⟩)), (400, .row A 3 1 (dg b6 W).length c (iv (dg b6 W)))])) (fun k => k ≤ (dg b6 W).length) (fun k => k) (fun _ => rfl) ?_ ?_
      · refine ⟨(dg b6 W).length, Nat.le_refl _, ?_, ?_, rfl⟩
        · dsimp only
          rw [Nat.div_eq_of_lt (dg_upper b6_2 W)]
          ((repeat' (first | exact trivial | exact rfl | refine And.intro ?_ ?_)) <;> (try (conv => whnf)) <;> (try simp only [SV.real, SV.r2, SV.r1]))
        · ((repeat' (first | exact trivial | exact rfl | refine And.intro ?_ ?_)) <;> (try (conv => whnf)) <;> (try simp only [SV.real, SV.r2, SV.r1]))
      intro k hk
      by_cases hk0 : k = 0
      · subst hk0
        rw [Nat.pow_zero, Nat.div_one]
        repeat' ((conv => whnf); first | refine walk (Tryz.ok ..) ?_ | (refine Cnd.mk (fun h => ?_) (fun h => ?_) <;> (first | exact cndT h (by (try dsimp only); omega) | exact cndF h (by (try dsimp only); omega) | (exfalso; simp at h; omega) | simp at h | skip)) | fail)
        exact done_pure rfl rfl rfl
      obtain ⟨i, rfl⟩ : ∃ i, k = i + 1 := ⟨k - 1, by omega⟩
      have hwa := dg_get b6_2 i W (by omega)
      have hsp := div_split b6 W i
      have hle : W / b6 ^ i ≤ W := Nat.div_le_self _ _
      have ld : W / b6 ^ i % b6 < 65536 := Nat.mod_lt _ (by decide)
      obtain ⟨d, ed⟩ : ∃ d, d = W / b6 ^ i % b6 := ⟨_, rfl⟩
      obtain ⟨P, eP⟩ : ∃ d, d = W / b6 ^ (i + 1) := ⟨_, rfl⟩
      obtain ⟨Q, eQ⟩ : ∃ d, d = W / b6 ^ i := ⟨_, rfl⟩
      rw [← ed] at hwa hsp ld
      rw [← eP] at hsp ⊢
      rw [← eQ] at hsp hle
      have hsp : Q = 65536 * P + d := hsp
      repeat' ((conv => whnf); first | refine walk (Tryz.ok ..) ?_ | (refine Cnd.mk (fun h => ?_) (fun h => ?_) <;> (first | exact cndT h (by (try dsimp only); omega) | exact cndF h (by (try dsimp only); omega) | (exfalso; simp at h; omega) | simp at h | skip)) | refine side2 ?_ | refine sideL2 ?_ | refine xi _ (And.intro rfl rfl) ?_ | refine xi _ (i_at hwa (by omega)) ?_ | fail)
      refine ⟨i, ⟨by omega, by omega⟩, ?_, ?_, rfl⟩
      · dsimp only
        rw [← eQ]
        ((repeat' (first | exact trivial | exact rfl | refine And.intro ?_ ?_)) <;> (try (conv => whnf)) <;> (try simp only [SV.real, SV.r2, SV.r1]))
        all_goals exact congrArg (Value.int .i64) (by omega)
      · dsimp only
        ((repeat' (first | exact trivial | exact rfl | refine And.intro ?_ ?_)) <;> (try (conv => whnf)) <;> (try simp only [SV.real, SV.r2, SV.r1]))
    · have hr : r = (0, 3) := by rw [er, floorE_pos hrf rfl hW, if_neg h2]
      rw [hr]
      refine called_at (.v (.bool false)) rfl (fun w' hh => by have h := rless_any 9223372036854775808 W (some (g32, 0)) A 4 c w' (by rw [dg_2_63]; exact ro_of_blk hh (id := 32) rfl 0 4 1 (by decide)) (ro_of_row hh (id := 400) rfl) (by rw [dg_2_63]; decide) (by omega); rw [decide_eq_false h1, dg_2_63] at h; exact h) ?_
      repeat' ((conv => whnf); first | refine side2 ?_ | refine sideL2 ?_ | refine xi _ (fun _ => And.intro rfl rfl) ?_ | fail)
      refine calledQ_at (.v (.bool false)) rfl (fun _ w' hh => by have h := rless_any W 9223372036854775808 A (some (g32, 0)) c 4 w' (ro_of_row hh (id := 400) rfl) (by rw [dg_2_63]; exact ro_of_blk hh (id := 32) rfl 0 4 1 (by decide)) (by omega) (by rw [dg_2_63]; decide); rw [decide_eq_false h2, dg_2_63] at h; exact h) ?_
      repeat' ((conv => whnf); first | refine walk (Tryz.ok ..) ?_ | (refine Cnd.mk (fun h => ?_) (fun h => ?_) <;> (first | exact cndT h (by (try dsimp only); omega) | exact cndF h (by (try dsimp only); omega) | (exfalso; simp at h; omega) | simp at h | skip)) | refine side2 ?_ | fail)
      exact done_pure rfl rfl rfl
  · refine called_row2 400 401 (m1 := (dg b6 (f.num / f.den)).length) (m2 := (dg b6 (f.num % f.den)).length) (xs1 := iv (dg b6 (f.num / f.den))) (xs2 := iv (dg b6 (f.num % f.den))) (fun v u => .tuple #[v, u]) (fun A c A' c' => .t [.o 400 A (dg b6 (f.num / f.den)).length c, .o 401 A' (dg b6 (f.num % f.den)).length c']) (fun _ _ _ _ => rfl) (fun w' hh => rdiv_any f.num f.den A15 A18 c15 c18 w' (by omega) hd0 (ro_of_row hh (id := 15) rfl) (ro_of_row hh (id := 18) rfl) (by omega) (row_cap6 hh (id := 15) rfl)) ?_
    intro A c A' c'
    have hql : (dg b6 (f.num / f.den)).length ≤ 16 := Nat.le_trans (len_le b6_2 (Nat.div_le_self _ _)) hn
    obtain ⟨W, eW⟩ : ∃ W, W = f.num / f.den := ⟨_, rfl⟩
    rw [← eW] at hql ⊢
    have hW : W = wholeF f := by rw [eW]; unfold wholeF; rw [if_neg (by rw [hng]; simp)]
    obtain ⟨fn, fu, fd⟩ := f
    dsimp only at *
    subst hng
    repeat' ((conv => whnf); first | refine walk (Tryz.ok ..) ?_ | (refine Cnd.mk (fun h => ?_) (fun h => ?_) <;> (first | exact cndT h (by (try dsimp only); omega) | exact cndF h (by (try dsimp only); omega) | (exfalso; simp at h; omega) | simp at h | skip)) | refine kp ?_ ?_ | exact trivial | refine side2 ?_ | refine xi _ (And.intro rfl rfl) ?_ | fail)
    (conv => whnf)
    intro g32 hg32
    repeat' ((conv => whnf); first | refine walk (Tryz.ok ..) ?_ | fail)
    by_cases h1 : 9223372036854775808 < W
    · have hr : r = (0, 3) := by rw [er, floorE_pos hrf rfl hW, if_neg (by omega)]
      rw [hr]
      refine called_at (.v (.bool true)) rfl (fun w' hh => by have h := rless_any 9223372036854775808 W (some (g32, 0)) A 4 c w' (by rw [dg_2_63]; exact ro_of_blk hh (id := 32) rfl 0 4 1 (by decide)) (ro_of_row hh (id := 400) rfl) (by rw [dg_2_63]; decide) (by omega); rw [decide_eq_true h1, dg_2_63] at h; exact h) ?_
      repeat' ((conv => whnf); first | refine side2 ?_ | refine sideL2 ?_ | refine xi _ (fun _ => And.intro rfl rfl) ?_ | fail)
      refine calledQ_pure (v := .bool true) (.v (.bool true)) rfl (fun hc _ => absurd (show (!!false) = true from hc) (by decide)) ?_
      repeat' ((conv => whnf); first | refine walk (Tryz.ok ..) ?_ | (refine Cnd.mk (fun h => ?_) (fun h => ?_) <;> (first | exact cndT h (by (try dsimp only); omega) | exact cndF h (by (try dsimp only); omega) | (exfalso; simp at h; omega) | simp at h | skip)) | refine side2 ?_ | fail)
      exact done_pure rfl rfl rfl
    by_cases h2 : W < 9223372036854775808
    · have hr : r = ((W : Int), 0) := by rw [er, floorE_pos hrf rfl hW, if_pos h2]
      rw [hr]
      refine called_at (.v (.bool false)) rfl (fun w' hh => by have h := rless_any 9223372036854775808 W (some (g32, 0)) A 4 c w' (by rw [dg_2_63]; exact ro_of_blk hh (id := 32) rfl 0 4 1 (by decide)) (ro_of_row hh (id := 400) rfl) (by rw [dg_2_63]; decide) (by omega); rw [decide_eq_false h1, dg_2_63] at h; exact h) ?_
      repeat' ((conv => whnf); first | refine side2 ?_ | refine sideL2 ?_ | refine xi _ (fun _ => And.intro rfl rfl) ?_ | fail)
      refine calledQ_at (.v (.bool true)) rfl (fun _ w' hh => by have h := rless_any W 9223372036854775808 A (some (g32, 0)) c 4 w' (ro_of_row hh (id := 400) rfl) (by rw [dg_2_63]; exact ro_of_blk hh (id := 32) rfl 0 4 1 (by decide)) (by omega) (by rw [dg_2_63]; decide); rw [decide_eq_true h2, dg_2_63] at h; exact h) ?_
      repeat' ((conv => whnf); first | refine walk (Tryz.ok ..) ?_ | (refine Cnd.mk (fun h => ?_) (fun h => ?_) <;> (first | exact cndT h (by (try dsimp only); omega) | exact cndF h (by (try dsimp only); omega) | (exfalso; simp at h; omega) | simp at h | skip)) | refine side2 ?_ | refine sideL2 ?_ | fail)
      refine sat_loop (Tryz.ok ..) (α := Nat) (fun k => ([(1, .yes, .p 1 g1 0 0), (4, .yes, .o 400 A (dg b6 W).length c), (7, .yes, .v (.int .i64 (((W / b6 ^ k : Nat) : Int)))), (8, .yes, .v (.int .i64 ((k : Int) - 1)))], [(1, .blk g1 37 (frC ⟨false, fu, fd⟩)), (400, .row A 3 1 (dg b6 W).length c (iv (dg b6 W)))])) (fun k => k ≤ (dg b6 W).length) (fun k => k) (fun _ => rfl) ?_ ?_
      · refine ⟨(dg b6 W).length, Nat.le_refl _, ?_, ?_, rfl⟩
        · dsimp only
          rw [Nat.div_eq_of_lt (dg_upper b6_2 W)]
          ((repeat' (first | exact trivial | exact rfl | refine And.intro ?_ ?_)) <;> (try (conv => whnf)) <;> (try simp only [SV.real, SV.r2, SV.r1]))
        · ((repeat' (first | exact trivial | exact rfl | refine And.intro ?_ ?_)) <;> (try (conv => whnf)) <;> (try simp only [SV.real, SV.r2, SV.r1]))
      intro k hk
      by_cases hk0 : k = 0
      · subst hk0
        rw [Nat.pow_zero, Nat.div_one]
        repeat' ((conv => whnf); first | refine walk (Tryz.ok ..) ?_ | (refine Cnd.mk (fun h => ?_) (fun h => ?_) <;> (first | exact cndT h (by (try dsimp only); omega) | exact cndF h (by (try dsimp only); omega) | (exfalso; simp at h; omega) | simp at h | skip)) | fail)
        exact done_pure rfl rfl rfl
      obtain ⟨i, rfl⟩ : ∃ i, k = i + 1 := ⟨k - 1, by omega⟩
      have hwa := dg_get b6_2 i W (by omega)
      have hsp := div_split b6 W i
      have hle : W / b6 ^ i ≤ W := Nat.div_le_self _ _
      have ld : W / b6 ^ i % b6 < 65536 := Nat.mod_lt _ (by decide)
      obtain ⟨d, ed⟩ : ∃ d, d = W / b6 ^ i % b6 := ⟨_, rfl⟩
      obtain ⟨P, eP⟩ : ∃ d, d = W / b6 ^ (i + 1) := ⟨_, rfl⟩
      obtain ⟨Q, eQ⟩ : ∃ d, d = W / b6 ^ i := ⟨_, rfl⟩
      rw [← ed] at hwa hsp ld
      rw [← eP] at hsp ⊢
      rw [← eQ] at hsp hle
      have hsp : Q = 65536 * P + d := hsp
      repeat' ((conv => whnf); first | refine walk (Tryz.ok ..) ?_ | (refine Cnd.mk (fun h => ?_) (fun h => ?_) <;> (first | exact cndT h (by (try dsimp only); omega) | exact cndF h (by (try dsimp only); omega) | (exfalso; simp at h; omega) | simp at h | skip)) | refine side2 ?_ | refine sideL2 ?_ | refine xi _ (And.intro rfl rfl) ?_ | refine xi _ (i_at hwa (by omega)) ?_ | fail)
      refine ⟨i, ⟨by omega, by omega⟩, ?_, ?_, rfl⟩
      · dsimp only
        rw [← eQ]
        ((repeat' (first | exact trivial | exact rfl | refine And.intro ?_ ?_)) <;> (try (conv => whnf)) <;> (try simp only [SV.real, SV.r2, SV.r1]))
        all_goals exact congrArg (Value.int .i64) (by omega)
      · dsimp only
        ((repeat' (first | exact trivial | exact rfl | refine And.intro ?_ ?_)) <;> (try (conv => whnf)) <;> (try simp only [SV.real, SV.r2, SV.r1]))
    · have hr : r = (0, 3) := by rw [er, floorE_pos hrf rfl hW, if_neg h2]
      rw [hr]
      refine called_at (.v (.bool false)) rfl (fun w' hh => by have h := rless_any 9223372036854775808 W (some (g32, 0)) A 4 c w' (by rw [dg_2_63]; exact ro_of_blk hh (id := 32) rfl 0 4 1 (by decide)) (ro_of_row hh (id := 400) rfl) (by rw [dg_2_63]; decide) (by omega); rw [decide_eq_false h1, dg_2_63] at h; exact h) ?_
      repeat' ((conv => whnf); first | refine side2 ?_ | refine sideL2 ?_ | refine xi _ (fun _ => And.intro rfl rfl) ?_ | fail)
      refine calledQ_at (.v (.bool false)) rfl (fun _ w' hh => by have h := rless_any W 9223372036854775808 A (some (g32, 0)) c 4 w' (ro_of_row hh (id := 400) rfl) (by rw [dg_2_63]; exact ro_of_blk hh (id := 32) rfl 0 4 1 (by decide)) (by omega) (by rw [dg_2_63]; decide); rw [decide_eq_false h2, dg_2_63] at h; exact h) ?_
      repeat' ((conv => whnf); first | refine walk (Tryz.ok ..) ?_ | (refine Cnd.mk (fun h => ?_) (fun h => ?_) <;> (first | exact cndT h (by (try dsimp only); omega) | exact cndF h (by (try dsimp only); omega) | (exfalso; simp at h; omega) | simp at h | skip)) | refine side2 ?_ | fail)
      exact done_pure rfl rfl rfl
theorem one_len6 {V n : Nat} (h : (dg b6 V).length ≤ n) : (dg b6 (V + 1)).length ≤ n + 1 := by
  refine (dg_len b6_2 (n + 1) (V + 1)).2 ?_
  have h1 := (dg_len b6_2 n V).1 h
  have hp : 1 ≤ b6 ^ n := Nat.pow_pos (by decide)
  have : b6 ^ (n + 1) = b6 ^ n * 65536 := Nat.pow_succ ..
  omega
set_option maxRecDepth 100000 in
set_option maxHeartbeats 8000000 in
theorem rfloor_neg (f : Fr) (w : World) (hf : Big f) (hrf : rightF f = true) (hd0 : 0 < f.den) (hng : f.neg = true) (hn0 : f.num ≠ 0) :
    Calls Tryz.prog 32 #[frV f] w fun e w' => e = .returned (.tuple #[.int .i64 (floorE f).1, .int .i64 (floorE f).2]) ∧ Below w.heap.size w w' := by
  have hn := dg_big6 hf.num
  have hd := dg_big6 hf.den
  have lf := frC_len f
  obtain ⟨r, er⟩ : ∃ r, r = floorE f := ⟨_, rfl⟩
  rw [← er]
  refine calls_sat (cx := Tryz.cx 71 [3] [] [] w) (Tryz.ok ..) Tryz.func32 rfl [.a (frC f)] rfl (by show 1 ≤ 71; omega) [] (holds_nil (Nat.le_refl _)) ?_
  repeat' ((conv => whnf); first | refine walk (Tryz.ok ..) ?_ | fail)
  (conv => whnf)
  intro g1 hg1
  repeat' ((conv => whnf); first | refine walk (Tryz.ok ..) ?_ | refine side2 ?_ | fail)
  refine called_pure (.v (.bool true)) rfl (fun w' => by rw [← hrf]; exact rright_any f w' hf) ?_
  repeat' ((conv => whnf); first | refine walk (Tryz.ok ..) ?_ | (refine Cnd.mk (fun h => ?_) (fun h => ?_) <;> (first | exact cndT h (by (try dsimp only); omega) | exact cndF h (by (try dsimp only); omega) | (exfalso; simp at h; omega) | simp at h | skip)) | fail)
  refine sat_draw (Tryz.ok ..) [] [(1, .blk g1 37 (frC f))] (by kernel_rfl) (fun w hw => hw.sub ?_) ?_
  · ((repeat' (first | exact trivial | exact rfl | refine And.intro ?_ ?_)) <;> (try (conv => whnf)) <;> (try simp only [SV.real, SV.r2, SV.r1]))
  repeat' ((conv => whnf); first | refine side2 ?_ | fail)
  refine called_row 15 (xs := iv (dg b6 f.num)) (m := (dg b6 f.num).length) (fun v => v) (fun A cap => .o 15 A (dg b6 f.num).length cap) (fun _ _ => rfl) (fun w' hh => by exact rdig_num f w' hf) ?_
  intro A15 c15
  repeat' ((conv => whnf); first | refine kp ?_ ?_ | exact trivial | refine side2 ?_ | fail)
  refine called_row 18 (xs := iv (dg b6 f.den)) (m := (dg b6 f.den).length) (fun v => v) (fun A cap => .o 18 A (dg b6 f.den).length cap) (fun _ _ => rfl) (fun w' hh => by exact rdig_den f w' hf) ?_
  intro A18 c18
  repeat' ((conv => whnf); first | refine kp ?_ ?_ | exact trivial | refine side2 ?_ | fail)
  rcases Nat.lt_or_ge f.num f.den with hlt | hlt
  · have hr0 : f.num % f.den ≠ 0 := by rw [Nat.mod_eq_of_lt hlt]; exact hn0
    have hl5 : 0 < (dg b6 f.num).length := Nat.pos_of_ne_zero fun h => hn0 (len_zero.1 h)
    refine called_row 400 (xs := iv (dg b6 (f.num / f.den))) (m := (dg b6 (f.num / f.den)).length) (fun v => .tuple #[v, .slice (adr A15) (dg b6 f.num).length c15]) (fun A cap => .t [.o 400 A (dg b6 (f.num / f.den)).length cap, .o 15 A15 (dg b6 f.num).length c15]) (fun _ _ => rfl) (fun w' hh => rdiv_less2 f.num f.den A15 A18 c15 c18 w' hlt (ro_of_row hh (id := 15) rfl) (ro_of_row hh (id := 18) rfl) (by omega) (by omega)) ?_
    intro A c
    have hql : (dg b6 (f.num / f.den)).length ≤ 16 := Nat.le_trans (len_le b6_2 (Nat.div_le_self _ _)) hn
    obtain ⟨V, eV⟩ : ∃ W, W = f.num / f.den := ⟨_, rfl⟩
    rw [← eV] at hql ⊢
    obtain ⟨fn, fu, fd⟩ := f
    dsimp only at *
    subst hng
    repeat' ((conv => whnf); first | refine walk (Tryz.ok ..) ?_ | (refine Cnd.mk (fun h => ?_) (fun h => ?_) <;> (first | exact cndT h (by (try dsimp only); omega) | exact cndF h (by (try dsimp only); omega) | (exfalso; simp at h; omega) | simp at h | skip)) | refine kp ?_ ?_ | exact trivial | refine side2 ?_ | refine xi _ (And.intro rfl rfl) ?_ | fail)
    (conv => whnf)
    intro g30 hg30
    skip
    refine called_row 402 (xs := iv (dg b6 (V + 1))) (m := (dg b6 (V + 1)).length) (fun v => v) (fun A cap => .o 402 A (dg b6 (V + 1)).length cap) (fun _ _ => rfl) (fun w' hh => by have h := radd_any V 1 A (some (g30, 0)) c 1 w' (ro_of_row hh (id := 400) rfl) (by rw [dg6_one]; exact ro_of_blk hh (id := 30) rfl 0 1 1 (by decide)) (by omega) (by rw [dg6_one]; decide); rw [dg6_one] at h; exact h) ?_
    intro B cB
    have hal := one_len6 hql
    have hW : V + 1 = wholeF ⟨true, fu, fd⟩ := by rw [eV]; unfold wholeF; rw [if_pos ⟨rfl, hr0⟩]
    obtain ⟨W, eW⟩ : ∃ W, W = V + 1 := ⟨_, rfl⟩
    rw [← eW] at hal hW ⊢
    repeat' ((conv => whnf); first | refine walk (Tryz.ok ..) ?_ | fail)
    (conv => whnf)
    intro g32 hg32
    repeat' ((conv => whnf); first | refine walk (Tryz.ok ..) ?_ | fail)
    by_cases h1 : 9223372036854775808 < W
    · have hr : r = (0, 3) := by rw [er, floorE_neg hrf rfl hW, if_neg (by omega)]
      rw [hr]
      refine called_at (.v (.bool true)) rfl (fun w' hh => by have h := rless_any 9223372036854775808 W (some (g32, 0)) B 4 cB w' (by rw [dg_2_63]; exact ro_of_blk hh (id := 32) rfl 0 4 1 (by decide)) (ro_of_row hh (id := 402) rfl) (by rw [dg_2_63]; decide) (by omega); rw [decide_eq_true h1, dg_2_63] at h; exact h) ?_
      repeat' ((conv => whnf); first | refine side2 ?_ | refine sideL2 ?_ | refine xi _ (fun _ => And.intro rfl rfl) ?_ | fail)
      refine calledQ_pure (v := .bool true) (.v (.bool true)) rfl (fun hc _ => absurd (show (!!false) = true from hc) (by decide)) ?_
      repeat' ((conv => whnf); first | refine walk (Tryz.ok ..) ?_ | (refine Cnd.mk (fun h => ?_) (fun h => ?_) <;> (first | exact cndT h (by (try dsimp only); omega) | exact cndF h (by (try dsimp only); omega) | (exfalso; simp at h; omega) | simp at h | skip)) | refine side2 ?_ | fail)
      exact done_pure rfl rfl rfl
    have hr : r = (-(W : Int), 0) := by rw [er, floorE_neg hrf rfl hW, if_pos (by omega)]
    rw [hr]
    refine called_at (.v (.bool false)) rfl (fun w' hh => by have h := rless_any 9223372036854775808 W (some (g32, 0)) B 4 cB w' (by rw [dg_2_63]; exact ro_of_blk hh (id := 32) rfl 0 4 1 (by decide)) (ro_of_row hh (id := 402) rfl) (by rw [dg_2_63]; decide) (by omega); rw [decide_eq_false h1, dg_2_63] at h; exact h) ?_
    repeat' ((conv => whnf); first | refine side2 ?_ | refine sideL2 ?_ | refine xi _ (fun _ => And.intro rfl rfl) ?_ | fail)
    refine calledQ_pure (v := .bool true) (.v (.bool true)) rfl (fun hc _ => absurd (show (!!false) = true from hc) (by decide)) ?_
    repeat' ((conv => whnf); first | refine walk (Tryz.ok ..) ?_ | (refine Cnd.mk (fun h => ?_) (fun h => ?_) <;> (first | exact cndT h (by (try dsimp only); omega) | exact cndF h (by (try dsimp only); omega) | (exfalso; simp at h; omega) | simp at h | skip)) | refine side2 ?_ | refine sideL2 ?_ | fail)
    refine sat_loop (Tryz.ok ..) (α := Nat) (fun k => ([(1, .yes, .p 1 g1 0 0), (4, .yes, .o 402 B (dg b6 W).length cB), (7, .yes, .v (.int .i64 (-((W / b6 ^ k : Nat) : Int)))), (8, .yes, .v (.int .i64 ((k : Int) - 1)))], [(1, .blk g1 37 (frC ⟨true, fu, fd⟩)), (402, .row B 3 1 (dg b6 W).length cB (iv (dg b6 W)))])) (fun k => k ≤ (dg b6 W).length) (fun k => k) (fun _ => rfl) ?_ ?_
    · refine ⟨(dg b6 W).length, Nat.le_refl _, ?_, ?_, rfl⟩
      · dsimp only
        rw [Nat.div_eq_of_lt (dg_upper b6_2 W)]
        ((repeat' (first | exact trivial | exact rfl | refine And.intro ?_ ?_)) <;> (try (conv => whnf)) <;> (try simp only [SV.real, SV.r2, SV.r1]))
      · ((repeat' (first | exact trivial | exact rfl | refine And.intro ?_ ?_)) <;> (try (conv => whnf)) <;> (try simp only [SV.real, SV.r2, SV.r1]))
    intro k hk
    by_cases hk0 : k = 0
    · subst hk0
      rw [Nat.pow_zero, Nat.div_one]
      repeat' ((conv => whnf); first | refine walk (Tryz.ok ..) ?_ | (refine Cnd.mk (fun h => ?_) (fun h => ?_) <;> (first | exact cndT h (by (try dsimp only); omega) | exact cndF h (by (try dsimp only); omega) | (exfalso; simp at h; omega) | simp at h | skip)) | fail)
      exact done_pure rfl rfl rfl
    obtain ⟨i, rfl⟩ : ∃ i, k = i + 1 := ⟨k - 1, by omega⟩
    have hwa := dg_get b6_2 i W (by omega)
    have hsp := div_split b6 W i
    have hle : W / b6 ^ i ≤ W := Nat.div_le_self _ _
    have ld : W / b6 ^ i % b6 < 65536 := Nat.mod_lt _ (by decide)
    obtain ⟨d, ed⟩ : ∃ d, d = W / b6 ^ i % b6 := ⟨_, rfl⟩
    obtain ⟨P, eP⟩ : ∃ d, d = W / b6 ^ (i + 1) := ⟨_, rfl⟩
    obtain ⟨Q, eQ⟩ : ∃ d, d = W / b6 ^ i := ⟨_, rfl⟩
    rw [← ed] at hwa hsp ld
    rw [← eP] at hsp ⊢
    rw [← eQ] at hsp hle
    have hsp : Q = 65536 * P + d := hsp
    repeat' ((conv => whnf); first | refine walk (Tryz.ok ..) ?_ | (refine Cnd.mk (fun h => ?_) (fun h => ?_) <;> (first | exact cndT h (by (try dsimp only); omega) | exact cndF h (by (try dsimp only); omega) | (exfalso; simp at h; omega) | simp at h | skip)) | refine side2 ?_ | refine sideL2 ?_ | refine xi _ (And.intro rfl rfl) ?_ | refine xi _ (i_at hwa (by omega)) ?_ | fail)
    refine ⟨i, ⟨by omega, by omega⟩, ?_, ?_, rfl⟩
    · dsimp only
      rw [← eQ]
      ((repeat' (first | exact trivial | exact rfl | refine And.intro ?_ ?_)) <;> (try (conv => whnf)) <;> (try simp only [SV.real, SV.r2, SV.r1]))
      all_goals exact congrArg (Value.int .i64) (by omega)
    · dsimp only
      ((repeat' (first | exact trivial | exact rfl | refine And.intro ?_ ?_)) <;> (try (conv => whnf)) <;> (try simp only [SV.real, SV.r2, SV.r1]))
  · by_cases hr0 : f.num % f.den = 0
    · have hl5 : (dg b6 (f.num % f.den)).length = 0 := len_zero.2 hr0
      refine called_row2 400 401 (m1 := (dg b6 (f.num / f.den)).length) (m2 := (dg b6 (f.num % f.den)).length) (xs1 := iv (dg b6 (f.num / f.den))) (xs2 := iv (dg b6 (f.num % f.den))) (fun v u => .tuple #[v, u]) (fun A c A' c' => .t [.o 400 A (dg b6 (f.num / f.den)).length c, .o 401 A' (dg b6 (f.num % f.den)).length c']) (fun _ _ _ _ => rfl) (fun w' hh => rdiv_any f.num f.den A15 A18 c15 c18 w' (by omega) hd0 (ro_of_row hh (id := 15) rfl) (ro_of_row hh (id := 18) rfl) (by omega) (row_cap6 hh (id := 15) rfl)) ?_
      intro A c A' c'
      have hql : (dg b6 (f.num / f.den)).length ≤ 16 := Nat.le_trans (len_le b6_2 (Nat.div_le_self _ _)) hn
      obtain ⟨V, eV⟩ : ∃ W, W = f.num / f.den := ⟨_, rfl⟩
      rw [← eV] at hql ⊢
      have hW : V = wholeF f := by rw [eV]; unfold wholeF; rw [if_neg (fun h => h.2 hr0)]
      obtain ⟨W, eW⟩ : ∃ W, W = V := ⟨_, rfl⟩
      rw [← eW] at hql hW ⊢
      obtain ⟨fn, fu, fd⟩ := f
      dsimp only at *
      subst hng
      repeat' ((conv => whnf); first | refine walk (Tryz.ok ..) ?_ | (refine Cnd.mk (fun h => ?_) (fun h => ?_) <;> (first | exact cndT h (by (try dsimp only); omega) | exact cndF h (by (try dsimp only); omega) | (exfalso; simp at h; omega) | simp at h | skip)) | refine kp ?_ ?_ | exact trivial | refine side2 ?_ | refine xi _ (And.intro rfl rfl) ?_ | fail)
      (conv => whnf)
      intro g32 hg32
      repeat' ((conv => whnf); first | refine walk (Tryz.ok ..) ?_ | fail)
      by_cases h1 : 9223372036854775808 < W
      · have hr : r = (0, 3) := by rw [er, floorE_neg hrf rfl hW, if_neg (by omega)]
        rw [hr]
        refine called_at (.v (.bool true)) rfl (fun w' hh => by have h := rless_any 9223372036854775808 W (some (g32, 0)) A 4 c w' (by rw [dg_2_63]; exact ro_of_blk hh (id := 32) rfl 0 4 1 (by decide)) (ro_of_row hh (id := 400) rfl) (by rw [dg_2_63]; decide) (by omega); rw [decide_eq_true h1, dg_2_63] at h; exact h) ?_
        repeat' ((conv => whnf); first | refine side2 ?_ | refine sideL2 ?_ | refine xi _ (fun _ => And.intro rfl rfl) ?_ | fail)
        refine calledQ_pure (v := .bool true) (.v (.bool true)) rfl (fun hc _ => absurd (show (!!false) = true from hc) (by decide)) ?_
        repeat' ((conv => whnf); first | refine walk (Tryz.ok ..) ?_ | (refine Cnd.mk (fun h => ?_) (fun h => ?_) <;> (first | exact cndT h (by (try dsimp only); omega) | exact cndF h (by (try dsimp only); omega) | (exfalso; simp at h; omega) | simp at h | skip)) | refine side2 ?_ | fail)
        exact done_pure rfl rfl rfl
      have hr : r = (-(W : Int), 0) := by rw [er, floorE_neg hrf rfl hW, if_pos (by omega)]
      rw [hr]
      refine called_at (.v (.bool false)) rfl (fun w' hh => by have h := rless_any 9223372036854775808 W (some (g32, 0)) A 4 c w' (by rw [dg_2_63]; exact ro_of_blk hh (id := 32) rfl 0 4 1 (by decide)) (ro_of_row hh (id := 400) rfl) (by rw [dg_2_63]; decide) (by omega); rw [decide_eq_false h1, dg_2_63] at h; exact h) ?_
      repeat' ((conv => whnf); first | refine side2 ?_ | refine sideL2 ?_ | refine xi _ (fun _ => And.intro rfl rfl) ?_ | fail)
      refine calledQ_pure (v := .bool true) (.v (.bool true)) rfl (fun hc _ => absurd (show (!!false) = true from hc) (by decide)) ?_
      repeat' ((conv => whnf); first | refine walk (Tryz.ok ..) ?_ | (refine Cnd.mk (fun h => ?_) (fun h => ?_) <;> (first | exact cndT h (by (try dsimp only); omega) | exact cndF h (by (try dsimp only); omega) | (exfalso; simp at h; omega) | simp at h | skip)) | refine side2 ?_ | refine sideL2 ?_ | fail)
      refine sat_loop (Tryz.ok ..) (α := Nat) (fun k => ([(1, .yes, .p 1 g1 0 0), (4, .yes, .o 400 A (dg b6 W).length c), (7, .yes, .v (.int .i64 (-((W / b6 ^ k : Nat) : Int)))), (8, .yes, .v (.int .i64 ((k : Int) - 1)))], [(1, .blk g1 37 (frC ⟨true, fu, fd⟩)), (400, .row A 3 1 (dg b6 W).length c (iv (dg b6 W)))])) (fun k => k ≤ (dg b6 W).length) (fun k => k) (fun _ => rfl) ?_ ?_
      · refine ⟨(dg b6 W).length, Nat.le_refl _, ?_, ?_, rfl⟩
        · dsimp only
          rw [Nat.div_eq_of_lt (dg_upper b6_2 W)]
          ((repeat' (first | exact trivial | exact rfl | refine And.intro ?_ ?_)) <;> (try (conv => whnf)) <;> (try simp only [SV.real, SV.r2, SV.r1]))
        · ((repeat' (first | exact trivial | exact rfl | refine And.intro ?_ ?_)) <;> (try (conv => whnf)) <;> (try simp only [SV.real, SV.r2, SV.r1]))
      intro k hk
      by_cases hk0 : k = 0
      · subst hk0
        rw [Nat.pow_zero, Nat.div_one]
        repeat' ((conv => whnf); first | refine walk (Tryz.ok ..) ?_ | (refine Cnd.mk (fun h => ?_) (fun h => ?_) <;> (first | exact cndT h (by (try dsimp only); omega) | exact cndF h (by (try dsimp only); omega) | (exfalso; simp at h; omega) | simp at h | skip)) | fail)
        exact done_pure rfl rfl rfl
      obtain ⟨i, rfl⟩ : ∃ i, k = i + 1 := ⟨k - 1, by omega⟩
      have hwa := dg_get b6_2 i W (by omega)
      have hsp := div_split b6 W i
      have hle : W / b6 ^ i ≤ W := Nat.div_le_self _ _
      have ld : W / b6 ^ i % b6 < 65536 := Nat.mod_lt _ (by decide)
      obtain ⟨d, ed⟩ : ∃ d, d = W / b6 ^ i % b6 := ⟨_, rfl⟩
      obtain ⟨P, eP⟩ : ∃ d, d = W / b6 ^ (i + 1) := ⟨_, rfl⟩
      obtain ⟨Q, eQ⟩ : ∃ d, d = W / b6 ^ i := ⟨_, rfl⟩
      rw [← ed] at hwa hsp ld
      rw [← eP] at hsp ⊢
      rw [← eQ] at hsp hle
      have hsp : Q = 65536 * P + d := hsp
      repeat' ((conv => whnf); first | refine walk (Tryz.ok ..) ?_ | (refine Cnd.mk (fun h => ?_) (fun h => ?_) <;> (first | exact cndT h (by (try dsimp only); omega) | exact cndF h (by (try dsimp only); omega) | (exfalso; simp at h; omega) | simp at h | skip)) | refine side2 ?_ | refine sideL2 ?_ | refine xi _ (And.intro rfl rfl) ?_ | refine xi _ (i_at hwa (by omega)) ?_ | fail)
      refine ⟨i, ⟨by omega, by omega⟩, ?_, ?_, rfl⟩
      · dsimp only
        rw [← eQ]
        ((repeat' (first | exact trivial | exact rfl | refine And.intro ?_ ?_)) <;> (try (conv => whnf)) <;> (try simp only [SV.real, SV.r2, SV.r1]))
        all_goals exact congrArg (Value.int .i64) (by omega)
      · dsimp only
        ((repeat' (first | exact trivial | exact rfl | refine And.intro ?_ ?_)) <;> (try (conv => whnf)) <;> (try simp only [SV.real, SV.r2, SV.r1]))
    · have hl5 : 0 < (dg b6 (f.num % f.den)).length := Nat.pos_of_ne_zero fun h => hr0 (len_zero.1 h)
      refine called_row2 400 401 (m1 := (dg b6 (f.num / f.den)).length) (m2 := (dg b6 (f.num % f.den)).length) (xs1 := iv (dg b6 (f.num / f.den))) (xs2 := iv (dg b6 (f.num % f.den))) (fun v u => .tuple #[v, u]) (fun A c A' c' => .t [.o 400 A (dg b6 (f.num / f.den)).length c, .o 401 A' (dg b6 (f.num % f.den)).length c']) (fun _ _ _ _ => rfl) (fun w' hh => rdiv_any f.num f.den A15 A18 c15 c18 w' (by omega) hd0 (ro_of_row hh (id := 15) rfl) (ro_of_row hh (id := 18) rfl) (by omega) (row_cap6 hh (id := 15) rfl)) ?_
      intro A c A' c'
      have hql : (dg b6 (f.num / f.den)).length ≤ 16 := Nat.le_trans (len_le b6_2 (Nat.div_le_self _ _)) hn
      obtain ⟨V, eV⟩ : ∃ W, W = f.num / f.den := ⟨_, rfl⟩
      rw [← eV] at hql ⊢
      obtain ⟨fn, fu, fd⟩ := f
      dsimp only at *
      subst hng
      repeat' ((conv => whnf); first | refine walk (Tryz.ok ..) ?_ | (refine Cnd.mk (fun h => ?_) (fun h => ?_) <;> (first | exact cndT h (by (try dsimp only); omega) | exact cndF h (by (try dsimp only); omega) | (exfalso; simp at h; omega) | simp at h | skip)) | refine kp ?_ ?_ | exact trivial | refine side2 ?_ | refine xi _ (And.intro rfl rfl) ?_ | fail)
      (conv => whnf)
      intro g30 hg30
      skip
      refine called_row 402 (xs := iv (dg b6 (V + 1))) (m := (dg b6 (V + 1)).length) (fun v => v) (fun A cap => .o 402 A (dg b6 (V + 1)).length cap) (fun _ _ => rfl) (fun w' hh => by have h := radd_any V 1 A (some (g30, 0)) c 1 w' (ro_of_row hh (id := 400) rfl) (by rw [dg6_one]; exact ro_of_blk hh (id := 30) rfl 0 1 1 (by decide)) (by omega) (by rw [dg6_one]; decide); rw [dg6_one] at h; exact h) ?_
      intro B cB
      have hal := one_len6 hql
      have hW : V + 1 = wholeF ⟨true, fu, fd⟩ := by rw [eV]; unfold wholeF; rw [if_pos ⟨rfl, hr0⟩]
      obtain ⟨W, eW⟩ : ∃ W, W = V + 1 := ⟨_, rfl⟩
      rw [← eW] at hal hW ⊢
      repeat' ((conv => whnf); first | refine walk (Tryz.ok ..) ?_ | fail)
      (conv => whnf)
      intro g32 hg32
      repeat' ((conv => whnf); first | refine walk (Tryz.ok ..) ?_ | fail)
      by_cases h1 : 9223372036854775808 < W
      · have hr : r = (0, 3) := by rw [er, floorE_neg hrf rfl hW, if_neg (by omega)]
        rw [hr]
        refine called_at (.v (.bool true)) rfl (fun w' hh => by have h := rless_any 9223372036854775808 W (some (g32, 0)) B 4 cB w' (by rw [dg_2_63]; exact ro_of_blk hh (id := 32) rfl 0 4 1 (by decide)) (ro_of_row hh (id := 402) rfl) (by rw [dg_2_63]; decide) (by omega); rw [decide_eq_true h1, dg_2_63] at h; exact h) ?_
        repeat' ((conv => whnf); first | refine side2 ?_ | refine sideL2 ?_ | refine xi _ (fun _ => And.intro rfl rfl) ?_ | fail)
        refine calledQ_pure (v := .bool true) (.v (.bool true)) rfl (fun hc _ => absurd (show (!!false) = true from hc) (by decide)) ?_
        repeat' ((conv => whnf); first | refine walk (Tryz.ok ..) ?_ | (refine Cnd.mk (fun h => ?_) (fun h => ?_) <;> (first | exact cndT h (by (try dsimp only); omega) | exact cndF h (by (try dsimp only); omega) | (exfalso; simp at h; omega) | simp at h | skip)) | refine side2 ?_ | fail)
        exact done_pure rfl rfl rfl
      have hr : r = (-(W : Int), 0) := by rw [er, floorE_neg hrf rfl hW, if_pos (by omega)]
      rw [hr]
      refine called_at (.v (.bool false)) rfl (fun w' hh => by have h := rless_any 9223372036854775808 W (some (g32, 0)) B 4 cB w' (by rw [dg_2_63]; exact ro_of_blk hh (id := 32) rfl 0 4 1 (by decide)) (ro_of_row hh (id := 402) rfl) (by rw [dg_2_63]; decide) (by omega); rw [decide_eq_false h1, dg_2_63] at h; exact h) ?_
      repeat' ((conv => whnf); first | refine side2 ?_ | refine sideL2 ?_ | refine xi _ (fun _ => And.intro rfl rfl) ?_ | fail)
      refine calledQ_pure (v := .bool true) (.v (.bool true)) rfl (fun hc _ => absurd (show (!!false) = true from hc) (by decide)) ?_
      repeat' ((conv => whnf); first | refine walk (Tryz.ok ..) ?_ | (refine Cnd.mk (fun h => ?_) (fun h => ?_) <;> (first | exact cndT h (by (try dsimp only); omega) | exact cndF h (by (try dsimp only); omega) | (exfalso; simp at h; omega) | simp at h | skip)) | refine side2 ?_ | refine sideL2 ?_ | fail)
      refine sat_loop (Tryz.ok ..) (α := Nat) (fun k => ([(1, .yes, .p 1 g1 0 0), (4, .yes, .o 402 B (dg b6 W).length cB), (7, .yes, .v (.int .i64 (-((W / b6 ^ k : Nat) : Int)))), (8, .yes, .v (.int .i64 ((k : Int) - 1)))], [(1, .blk g1 37 (frC ⟨true, fu, fd⟩)), (402, .row B 3 1 (dg b6 W).length cB (iv (dg b6 W)))])) (fun k => k ≤ (dg b6 W).length) (fun k => k) (fun _ => rfl) ?_ ?_
      · refine ⟨(dg b6 W).length, Nat.le_refl _, ?_, ?_, rfl⟩
        · dsimp only
          rw [Nat.div_eq_of_lt (dg_upper b6_2 W)]
          ((repeat' (first | exact trivial | exact rfl | refine And.intro ?_ ?_)) <;> (try (conv => whnf)) <;> (try simp only [SV.real, SV.r2, SV.r1]))
        · ((repeat' (first | exact trivial | exact rfl | refine And.intro ?_ ?_)) <;> (try (conv => whnf)) <;> (try simp only [SV.real, SV.r2, SV.r1]))
      intro k hk
      by_cases hk0 : k = 0
      · subst hk0
        rw [Nat.pow_zero, Nat.div_one]
        repeat' ((conv => whnf); first | refine walk (Tryz.ok ..) ?_ | (refine Cnd.mk (fun h => ?_) (fun h => ?_) <;> (first | exact cndT h (by (try dsimp only); omega) | exact cndF h (by (try dsimp only); omega) | (exfalso; simp at h; omega) | simp at h | skip)) | fail)
        exact done_pure rfl rfl rfl
      obtain ⟨i, rfl⟩ : ∃ i, k = i + 1 := ⟨k - 1, by omega⟩
      have hwa := dg_get b6_2 i W (by omega)
      have hsp := div_split b6 W i
      have hle : W / b6 ^ i ≤ W := Nat.div_le_self _ _
      have ld : W / b6 ^ i % b6 < 65536 := Nat.mod_lt _ (by decide)
      obtain ⟨d, ed⟩ : ∃ d, d = W / b6 ^ i % b6 := ⟨_, rfl⟩
      obtain ⟨P, eP⟩ : ∃ d, d = W / b6 ^ (i + 1) := ⟨_, rfl⟩
      obtain ⟨Q, eQ⟩ : ∃ d, d = W / b6 ^ i := ⟨_, rfl⟩
      rw [← ed] at hwa hsp ld
      rw [← eP] at hsp ⊢
      rw [← eQ] at hsp hle
      have hsp : Q = 65536 * P + d := hsp
      repeat' ((conv => whnf); first | refine walk (Tryz.ok ..) ?_ | (refine Cnd.mk (fun h => ?_) (fun h => ?_) <;> (first | exact cndT h (by (try dsimp only); omega) | exact cndF h (by (try dsimp only); omega) | (exfalso; simp at h; omega) | simp at h | skip)) | refine side2 ?_ | refine sideL2 ?_ | refine xi _ (And.intro rfl rfl) ?_ | refine xi _ (i_at hwa (by omega)) ?_ | fail)
      refine ⟨i, ⟨by omega, by omega⟩, ?_, ?_, rfl⟩
      · dsimp only
        rw [← eQ]
        ((repeat' (first | exact trivial | exact rfl | refine And.intro ?_ ?_)) <;> (try (conv => whnf)) <;> (try simp only [SV.real, SV.r2, SV.r1]))
        all_goals exact congrArg (Value.int .i64) (by omega)
      · dsimp only
        ((repeat' (first | exact trivial | exact rfl | refine And.intro ?_ ?_)) <;> (try (conv => whnf)) <;> (try simp only [SV.real, SV.r2, SV.r1]))
set_option maxRecDepth 100000 in
set_option maxHeartbeats 8000000 in
theorem rfloor_any (f : Fr) (w : World) (hf : Big f) :
    Calls Tryz.prog 32 #[frV f] w fun e w' => e = .returned (.tuple #[.int .i64 (floorE f).1, .int .i64 (floorE f).2]) ∧ Below w.heap.size w w' := by
  by_cases hrf : rightF f = true
  · have hd0 : 0 < f.den := by
      rcases Nat.eq_zero_or_pos f.den with h | h
      · unfold rightF at hrf
        rw [h] at hrf
        simp at hrf
      · exact h
    cases hng : f.neg
    · exact rfloor_pos f w hf hrf hd0 hng
    · refine rfloor_neg f w hf hrf hd0 hng fun h => ?_
      unfold rightF at hrf
      rw [h, hng] at hrf
      simp at hrf
  · have hrf2 : rightF f = false := by simpa using hrf
    have lf := frC_len f
    rw [floor_no hrf2]
    refine calls_sat (cx := Tryz.cx 71 [3] [] [] w) (Tryz.ok ..) Tryz.func32 rfl [.a (frC f)] rfl (by show 1 ≤ 71; omega) [] (holds_nil (Nat.le_refl _)) ?_
    repeat' ((conv => whnf); first | refine walk (Tryz.ok ..) ?_ | fail)
    (conv => whnf)
    intro g1 hg1
    repeat' ((conv => whnf); first | refine walk (Tryz.ok ..) ?_ | refine side2 ?_ | fail)
    refine called_pure (.v (.bool false)) rfl (fun w' => by rw [← hrf2]; exact rright_any f w' hf) ?_
    repeat' ((conv => whnf); first | refine walk (Tryz.ok ..) ?_ | (refine Cnd.mk (fun h => ?_) (fun h => ?_) <;> (first | exact cndT h (by (try dsimp only); omega) | exact cndF h (by (try dsimp only); omega) | (exfalso; simp at h; omega) | simp at h | skip)) | fail)
    exact done_pure rfl rfl rfl
end
section
open Go Sat Go.RowKit Go.PlainAid
set_option linter.unusedSimpArgs false
set_option linter.unusedVariables false
theorem dg6_ten : dg b6 10 = [10] := by
  rw [dg_pos b6_2 (by omega)]
  rfl
def tt (k n : Nat) : List UInt8 := ((List.range k).map fun i => dch (n / 10 ^ i % 10)).reverse
def tB (k n : Nat) : ByteArray := ⟨(tt k n).toArray⟩
theorem tt_len (k n : Nat) : (tt k n).length = k := by simp [tt]
theorem tB_size (k n : Nat) : (tB k n).size = k := by
  show (tt k n).toArray.size = k
  rw [List.size_toArray, tt_len]
theorem tt_succ (k n : Nat) : tt (k + 1) n = dch (n / 10 ^ k % 10) :: tt k n := by
  unfold tt
  rw [List.range_succ, List.map_append, List.reverse_append]
  rfl
theorem tt_all (n : Nat) : tt (dg 10 n).length n = ((dg 10 n).map dch).reverse := by
  unfold tt
  congr 1
  refine List.ext_getElem? fun i => ?_
  rw [List.getElem?_map, List.getElem?_map]
  rcases Nat.lt_or_ge i (dg 10 n).length with hi | hi
  · rw [List.getElem?_range hi, dg_get (by decide) i n hi]
    rfl
  · rw [List.getElem?_eq_none (by simpa using hi), List.getElem?_eq_none hi]
    rfl
theorem tB_next {k n : Nat} {d : Int} (h : d = ((n / 10 ^ k % 10 : Nat) : Int)) : strOf [IntKind.u8.wrap (48 + d)] ++ tB k n = tB (k + 1) n := by
  have hd : n / 10 ^ k % 10 < 10 := Nat.mod_lt _ (by decide)
  refine ByteArray.ext ?_
  refine Array.toList_inj.1 ?_
  rw [ByteArray.data_append, Array.toList_append, strOf_data]
  show _ ++ tt k n = tt (k + 1) n
  rw [tt_succ]
  subst h
  rw [IntKind.wrap_u8]
  show [UInt8.ofNat _] ++ _ = _
  rw [show ((48 + ((n / 10 ^ k % 10 : Nat) : Int)) % 256).toNat = 48 + n / 10 ^ k % 10 by omega]
  rfl
theorem tB_end {k n : Nat} (h0 : 0 < k) (h : n / 10 ^ k = 0) (hk : k ≤ max 1 (dg 10 n).length) : tB k n = txN n := by
  have hl : (dg 10 n).length ≤ k := (dg_len (by decide) k n).2 ((Nat.div_eq_zero_iff.1 h).resolve_left (Nat.ne_of_gt (Nat.pow_pos (by decide))))
  unfold tB txN
  rcases Nat.eq_zero_or_pos n with h1 | h1
  · subst h1
    rw [dg_zero] at hk
    obtain rfl : k = 1 := by simp at hk; omega
    rfl
  · rw [txL_pos h1, ← tt_all]
    have : 0 < (dg 10 n).length := Nat.pos_of_ne_zero fun e => by
      have := (dg_nil (B := 10) (by decide)).1 (List.eq_nil_of_length_eq_zero e)
      omega
    rw [show k = (dg 10 n).length by omega]
theorem div_len {n k : Nat} (h : 0 < n / 10 ^ k) : k + 1 ≤ (dg 10 n).length := by
  rcases Nat.lt_or_ge k (dg 10 n).length with h1 | h1
  · omega
  · have := (dg_len (B := 10) (by decide) k n).1 h1
    rw [Nat.div_eq_of_lt this] at h
    omega
theorem tB_next0 {k n : Nat} {d : Int} (h : d = ((n / 10 ^ k % 10 : Nat) : Int)) : strOf [48 + d] ++ tB k n = tB (k + 1) n := by
  rw [← tB_next h, IntKind.wrap_u8]
  have hd : n / 10 ^ k % 10 < 10 := Nat.mod_lt _ (by decide)
  rw [show (48 + d) % 256 = 48 + d by omega]
set_option maxRecDepth 100000 in
set_option maxHeartbeats 8000000 in
theorem rdecimal_any (n : Nat) (X : Option (Nat × Nat)) (capX : Nat) (w : World) (hn : n < big) (hx : Ro w X (dg b6 n).length 1 (iv (dg b6 n))) (hcx : (dg b6 n).length ≤ capX) :
    Calls Tryz.prog 75 #[.slice (adr X) (dg b6 n).length capX] w fun e w' => e = .returned (.string (txN n)) ∧ Below w.heap.size w w' := by
  have hl16 := dg_big6 hn
  have h78 : (dg 10 n).length ≤ 78 := (dg_len (by decide) 78 n).2 (Nat.lt_trans hn (by decide))
  refine calls_sat (cx := Tryz.cx 35 [] [] [] w) (Tryz.ok ..) Tryz.func75 rfl [.o 100 X (dg b6 n).length capX] rfl (by show 1 ≤ 35; omega) [(100, .ro X (dg b6 n).length 1 (iv (dg b6 n)))] (holds_ros rfl rfl ⟨hx, trivial⟩) ?_
  repeat' ((conv => whnf); first | refine walk (Tryz.ok ..) ?_ | fail)
  refine sat_loop (Tryz.ok ..) (α := Nat × Option (Nat × Nat) × Nat × Bool) (fun s => match s.1, s.2.2.2 with
    | 0, _ => ([(0, .yes, .o 100 X (dg b6 n).length capX), (3, .yes, .v (.string ⟨#[]⟩))], [(100, .ro X (dg b6 n).length 1 (iv (dg b6 n)))])
    | k + 1, true => ([(0, .yes, .o 401 s.2.1 (dg b6 (n / 10 ^ (k + 1))).length s.2.2.1), (3, .yes, .v (.string (tB (k + 1) n)))], [(401, .row s.2.1 3 1 (dg b6 (n / 10 ^ (k + 1))).length s.2.2.1 (iv (dg b6 (n / 10 ^ (k + 1)))))])
    | k + 1, false => ([(0, .yes, .o 402 s.2.1 (dg b6 (n / 10 ^ (k + 1))).length s.2.2.1), (3, .yes, .v (.string (tB (k + 1) n)))], [(402, .row s.2.1 3 1 (dg b6 (n / 10 ^ (k + 1))).length s.2.2.1 (iv (dg b6 (n / 10 ^ (k + 1)))))]))
    (fun s => s.1 ≤ max 1 (dg 10 n).length) (fun s => 80 - s.1) (fun s => by obtain ⟨k, _, _, p⟩ := s; cases k <;> cases p <;> rfl) ?_ ?_
  · refine ⟨(0, none, 0, true), Nat.zero_le _, ?_, ?_, rfl⟩
    all_goals ((repeat' (first | exact trivial | exact rfl | refine And.intro ?_ ?_)) <;> (try (conv => whnf)) <;> (try simp only [SV.real, SV.r2, SV.r1]))
  rintro ⟨k, A, c, p⟩ hk
  dsimp only at hk
  have hxn : n / 10 ^ k ≤ n := Nat.div_le_self _ _
  have hdl := div_len (n := n) (k := k)
  have hq : n / 10 ^ k / 10 = n / 10 ^ (k + 1) := by rw [Nat.div_div_eq_div_mul, Nat.pow_succ]
  have hxl : (dg b6 (n / 10 ^ k)).length ≤ 16 := Nat.le_trans (len_le b6_2 hxn) hl16
  obtain ⟨x, ex⟩ : ∃ x, x = n / 10 ^ k := ⟨_, rfl⟩
  rw [← ex] at hdl hxl hxn
  cases k with
  | zero =>
    have hk1 : 0 + 1 ≤ max 1 (dg 10 n).length := by omega
    have e0 : x = n := by rw [ex, Nat.pow_zero, Nat.div_one]
    have e1 : dg b6 n = dg b6 x := by rw [e0]
    rw [e1] at hcx ⊢
    have hq : x / 10 = n / 10 ^ 1 := by rw [e0, Nat.pow_one]
    by_cases hz : x = 0
    · have hl0 : (dg b6 x).length = 0 := len_zero.2 hz
      have hlt : x < 10 := by omega
      repeat' ((conv => whnf); first | refine walk (Tryz.ok ..) ?_ | (refine Cnd.mk (fun h => ?_) (fun h => ?_) <;> (first | exact cndT h (by (try dsimp only); omega) | exact cndF h (by (try dsimp only); omega) | (exfalso; simp at h; omega) | simp at h | skip)) | refine side2 ?_ | fail)
      (conv => whnf)
      intro g16 hg16
      skip
      refine called_row 401 (xs := iv (dg b6 (x / 10))) (m := (dg b6 (x / 10)).length) (fun v => .tuple #[v, .slice (adr X) (dg b6 x).length capX]) (fun A' cap => .t [.o 401 A' (dg b6 (x / 10)).length cap, .o 100 X (dg b6 x).length capX]) (fun _ _ => rfl) (fun w' hh => by have h := rdiv_less2 x 10 X (some (g16, 0)) capX 1 w' hlt (ro_of_ro hh (id := 100) rfl) (by rw [dg6_ten]; exact ro_of_blk hh (id := 16) rfl 0 1 1 (by decide)) (by omega) (by rw [dg6_ten]; decide); rw [dg6_ten] at h; exact h) ?_
      intro B cB
      repeat' ((conv => whnf); first | refine walk (Tryz.ok ..) ?_ | (refine Cnd.mk (fun h => ?_) (fun h => ?_) <;> (first | exact cndT h (by (try dsimp only); omega) | exact cndF h (by (try dsimp only); omega) | (exfalso; simp at h; omega) | simp at h | skip)) | refine sideL2 ?_ | fail)
      (conv => whnf)
      intro g29 hg29
      repeat' ((conv => whnf); first | refine walk (Tryz.ok ..) ?_ | refine side2 ?_ | refine Exists.intro [_] (And.intro (one_byte rfl) ?_) | fail)
      have e9 := tB_next0 (k := 0) (n := n) (d := 0) (by omega)
      skip
      refine ⟨(0 + 1, B, cB, true), ⟨hk1, by dsimp only; omega⟩, ?_, ?_, rfl⟩
      · dsimp only
        rw [← hq]
        ((repeat' (first | exact trivial | exact rfl | refine And.intro ?_ ?_)) <;> (try (conv => whnf)) <;> (try simp only [SV.real, SV.r2, SV.r1]))
        all_goals exact congrArg Value.string e9
      · dsimp only
        rw [← hq]
        ((repeat' (first | exact trivial | exact rfl | refine And.intro ?_ ?_)) <;> (try (conv => whnf)) <;> (try simp only [SV.real, SV.r2, SV.r1]))
    · have hl0 : 0 < (dg b6 x).length := Nat.pos_of_ne_zero fun h => hz (len_zero.1 h)
      repeat' ((conv => whnf); first | refine walk (Tryz.ok ..) ?_ | (refine Cnd.mk (fun h => ?_) (fun h => ?_) <;> (first | exact cndT h (by (try dsimp only); omega) | exact cndF h (by (try dsimp only); omega) | (exfalso; simp at h; omega) | simp at h | skip)) | refine side2 ?_ | fail)
      (conv => whnf)
      intro g16 hg16
      skip
      rcases Nat.lt_or_ge x 10 with hlt | hlt
      · refine called_row 401 (xs := iv (dg b6 (x / 10))) (m := (dg b6 (x / 10)).length) (fun v => .tuple #[v, .slice (adr X) (dg b6 x).length capX]) (fun A' cap => .t [.o 401 A' (dg b6 (x / 10)).length cap, .o 100 X (dg b6 x).length capX]) (fun _ _ => rfl) (fun w' hh => by have h := rdiv_less2 x 10 X (some (g16, 0)) capX 1 w' hlt (ro_of_ro hh (id := 100) rfl) (by rw [dg6_ten]; exact ro_of_blk hh (id := 16) rfl 0 1 1 (by decide)) (by omega) (by rw [dg6_ten]; decide); rw [dg6_ten] at h; exact h) ?_
        intro B cB
        have hx1 := dg_get b6_2 0 x hl0
        rw [Nat.pow_zero, Nat.div_one, Nat.mod_eq_of_lt (show x < b6 from Nat.lt_trans hlt (by decide))] at hx1
        repeat' ((conv => whnf); first | refine walk (Tryz.ok ..) ?_ | (refine Cnd.mk (fun h => ?_) (fun h => ?_) <;> (first | exact cndT h (by (try dsimp only); omega) | exact cndF h (by (try dsimp only); omega) | (exfalso; simp at h; omega) | simp at h | skip)) | refine side2 ?_ | refine sideL2 ?_ | refine xi _ (i_at hx1 rfl) ?_ | fail)
        (conv => whnf)
        intro g29 hg29
        repeat' ((conv => whnf); first | refine walk (Tryz.ok ..) ?_ | refine side2 ?_ | refine Exists.intro [_] (And.intro (one_byte rfl) ?_) | fail)
        have e9 := tB_next0 (k := 0) (n := n) (d := (x : Int)) (by omega)
        skip
        refine ⟨(0 + 1, B, cB, true), ⟨hk1, by dsimp only; omega⟩, ?_, ?_, rfl⟩
        · dsimp only
          rw [← hq]
          ((repeat' (first | exact trivial | exact rfl | refine And.intro ?_ ?_)) <;> (try (conv => whnf)) <;> (try simp only [SV.real, SV.r2, SV.r1]))
          all_goals exact congrArg Value.string e9
        · dsimp only
          rw [← hq]
          ((repeat' (first | exact trivial | exact rfl | refine And.intro ?_ ?_)) <;> (try (conv => whnf)) <;> (try simp only [SV.real, SV.r2, SV.r1]))
      · refine called_row2 401 403 (m1 := (dg b6 (x / 10)).length) (m2 := (dg b6 (x % 10)).length) (xs1 := iv (dg b6 (x / 10))) (xs2 := iv (dg b6 (x % 10))) (fun v u => .tuple #[v, u]) (fun A c A' c' => .t [.o 401 A (dg b6 (x / 10)).length c, .o 403 A' (dg b6 (x % 10)).length c']) (fun _ _ _ _ => rfl) (fun w' hh => by have h := rdiv_any x 10 X (some (g16, 0)) capX 1 w' hlt (by omega) (ro_of_ro hh (id := 100) rfl) (by rw [dg6_ten]; exact ro_of_blk hh (id := 16) rfl 0 1 1 (by decide)) (by omega) hcx; rw [dg6_ten] at h; exact h) ?_
        intro B cB B' cB'
        have hlt2 : x % 10 < 10 := Nat.mod_lt _ (by decide)
        by_cases hx0 : x % 10 = 0
        · have hl1 : (dg b6 (x % 10)).length = 0 := len_zero.2 hx0
          repeat' ((conv => whnf); first | refine walk (Tryz.ok ..) ?_ | (refine Cnd.mk (fun h => ?_) (fun h => ?_) <;> (first | exact cndT h (by (try dsimp only); omega) | exact cndF h (by (try dsimp only); omega) | (exfalso; simp at h; omega) | simp at h | skip)) | refine sideL2 ?_ | fail)
          (conv => whnf)
          intro g29 hg29
          repeat' ((conv => whnf); first | refine walk (Tryz.ok ..) ?_ | refine side2 ?_ | refine Exists.intro [_] (And.intro (one_byte rfl) ?_) | fail)
          have e9 := tB_next0 (k := 0) (n := n) (d := 0) (by omega)
          skip
          refine ⟨(0 + 1, B, cB, true), ⟨hk1, by dsimp only; omega⟩, ?_, ?_, rfl⟩
          · dsimp only
            rw [← hq]
            ((repeat' (first | exact trivial | exact rfl | refine And.intro ?_ ?_)) <;> (try (conv => whnf)) <;> (try simp only [SV.real, SV.r2, SV.r1]))
            all_goals exact congrArg Value.string e9
          · dsimp only
            rw [← hq]
            ((repeat' (first | exact trivial | exact rfl | refine And.intro ?_ ?_)) <;> (try (conv => whnf)) <;> (try simp only [SV.real, SV.r2, SV.r1]))
        · have hl1 : 0 < (dg b6 (x % 10)).length := Nat.pos_of_ne_zero fun h => hx0 (len_zero.1 h)
          have hx1 := dg_get b6_2 0 (x % 10) hl1
          rw [Nat.pow_zero, Nat.div_one, Nat.mod_eq_of_lt (show x % 10 < b6 from Nat.lt_trans hlt2 (by decide))] at hx1
          repeat' ((conv => whnf); first | refine walk (Tryz.ok ..) ?_ | (refine Cnd.mk (fun h => ?_) (fun h => ?_) <;> (first | exact cndT h (by (try dsimp only); omega) | exact cndF h (by (try dsimp only); omega) | (exfalso; simp at h; omega) | simp at h | skip)) | refine side2 ?_ | refine sideL2 ?_ | refine xi _ (i_at hx1 rfl) ?_ | fail)
          (conv => whnf)
          intro g29 hg29
          repeat' ((conv => whnf); first | refine walk (Tryz.ok ..) ?_ | refine side2 ?_ | refine Exists.intro [_] (And.intro (one_byte rfl) ?_) | fail)
          have e9 := tB_next0 (k := 0) (n := n) (d := ((x % 10 : Nat) : Int)) (by omega)
          skip
          refine ⟨(0 + 1, B, cB, true), ⟨hk1, by dsimp only; omega⟩, ?_, ?_, rfl⟩
          · dsimp only
            rw [← hq]
            ((repeat' (first | exact trivial | exact rfl | refine And.intro ?_ ?_)) <;> (try (conv => whnf)) <;> (try simp only [SV.real, SV.r2, SV.r1]))
            all_goals exact congrArg Value.string e9
          · dsimp only
            rw [← hq]
            ((repeat' (first | exact trivial | exact rfl | refine And.intro ?_ ?_)) <;> (try (conv => whnf)) <;> (try simp only [SV.real, SV.r2, SV.r1]))
  | succ k =>
    rw [← ex] at hq
    have hts := tB_size (k + 1) n
    have hne : tB (k + 1) n ≠ ⟨#[]⟩ := fun h => by
      rw [h] at hts
      exact absurd (show (0 : Nat) = k + 1 from hts) (by omega)
    obtain ⟨T, eT⟩ : ∃ T, T = tB (k + 1) n := ⟨_, rfl⟩
    rw [← eT] at hts hne
    cases p
    · dsimp only
      rw [← eT]
      rw [← ex]
      repeat' ((conv => whnf); first | refine walk (Tryz.ok ..) ?_ | (refine Cnd.mk (fun h => ?_) (fun h => ?_) <;> (first | exact cndT h (by (try dsimp only); omega) | exact cndF h (by (try dsimp only); omega) | (exfalso; simp at h; omega) | simp at h | skip)) | refine side2 ?_ | fail)
      · have hz : x ≠ 0 := fun e => h.elim (fun h1 => Nat.ne_of_gt h1 (len_zero.2 e)) (fun h1 => hne h1)
        have hl0 : 0 < (dg b6 x).length := Nat.pos_of_ne_zero fun h => hz (len_zero.1 h)
        have hk1 : k + 1 + 1 ≤ max 1 (dg 10 n).length := by have := hdl (by omega); omega
        (conv => whnf)
        intro g16 hg16
        skip
        rcases Nat.lt_or_ge x 10 with hlt | hlt
        · refine called_row 401 (xs := iv (dg b6 (x / 10))) (m := (dg b6 (x / 10)).length) (fun v => .tuple #[v, .slice (adr A) (dg b6 x).length c]) (fun A' cap => .t [.o 401 A' (dg b6 (x / 10)).length cap, .o 402 A (dg b6 x).length c]) (fun _ _ => rfl) (fun w' hh => by have h := rdiv_less2 x 10 A (some (g16, 0)) c 1 w' hlt (ro_of_row hh (id := 402) rfl) (by rw [dg6_ten]; exact ro_of_blk hh (id := 16) rfl 0 1 1 (by decide)) (by omega) (by rw [dg6_ten]; decide); rw [dg6_ten] at h; exact h) ?_
          intro B cB
          have hx1 := dg_get b6_2 0 x hl0
          rw [Nat.pow_zero, Nat.div_one, Nat.mod_eq_of_lt (show x < b6 from Nat.lt_trans hlt (by decide))] at hx1
          repeat' ((conv => whnf); first | refine walk (Tryz.ok ..) ?_ | (refine Cnd.mk (fun h => ?_) (fun h => ?_) <;> (first | exact cndT h (by (try dsimp only); omega) | exact cndF h (by (try dsimp only); omega) | (exfalso; simp at h; omega) | simp at h | skip)) | refine side2 ?_ | refine sideL2 ?_ | refine xi _ (i_at hx1 rfl) ?_ | fail)
          (conv => whnf)
          intro g29 hg29
          repeat' ((conv => whnf); first | refine walk (Tryz.ok ..) ?_ | refine side2 ?_ | refine Exists.intro [_] (And.intro (one_byte rfl) ?_) | fail)
          have e9 := tB_next0 (k := k + 1) (n := n) (d := (x : Int)) (by omega)
          rw [← eT] at e9
          refine ⟨(k + 1 + 1, B, cB, true), ⟨hk1, by dsimp only; omega⟩, ?_, ?_, rfl⟩
          · dsimp only
            rw [← hq]
            ((repeat' (first | exact trivial | exact rfl | refine And.intro ?_ ?_)) <;> (try (conv => whnf)) <;> (try simp only [SV.real, SV.r2, SV.r1]))
            all_goals exact congrArg Value.string e9
          · dsimp only
            rw [← hq]
            ((repeat' (first | exact trivial | exact rfl | refine And.intro ?_ ?_)) <;> (try (conv => whnf)) <;> (try simp only [SV.real, SV.r2, SV.r1]))
        · refine called_row2 401 403 (m1 := (dg b6 (x / 10)).length) (m2 := (dg b6 (x % 10)).length) (xs1 := iv (dg b6 (x / 10))) (xs2 := iv (dg b6 (x % 10))) (fun v u => .tuple #[v, u]) (fun A c A' c' => .t [.o 401 A (dg b6 (x / 10)).length c, .o 403 A' (dg b6 (x % 10)).length c']) (fun _ _ _ _ => rfl) (fun w' hh => by have h := rdiv_any x 10 A (some (g16, 0)) c 1 w' hlt (by omega) (ro_of_row hh (id := 402) rfl) (by rw [dg6_ten]; exact ro_of_blk hh (id := 16) rfl 0 1 1 (by decide)) (by omega) (row_cap6 hh (id := 402) rfl); rw [dg6_ten] at h; exact h) ?_
          intro B cB B' cB'
          have hlt2 : x % 10 < 10 := Nat.mod_lt _ (by decide)
          by_cases hx0 : x % 10 = 0
          · have hl1 : (dg b6 (x % 10)).length = 0 := len_zero.2 hx0
            repeat' ((conv => whnf); first | refine walk (Tryz.ok ..) ?_ | (refine Cnd.mk (fun h => ?_) (fun h => ?_) <;> (first | exact cndT h (by (try dsimp only); omega) | exact cndF h (by (try dsimp only); omega) | (exfalso; simp at h; omega) | simp at h | skip)) | refine sideL2 ?_ | fail)
            (conv => whnf)
            intro g29 hg29
            repeat' ((conv => whnf); first | refine walk (Tryz.ok ..) ?_ | refine side2 ?_ | refine Exists.intro [_] (And.intro (one_byte rfl) ?_) | fail)
            have e9 := tB_next0 (k := k + 1) (n := n) (d := 0) (by omega)
            rw [← eT] at e9
            refine ⟨(k + 1 + 1, B, cB, true), ⟨hk1, by dsimp only; omega⟩, ?_, ?_, rfl⟩
            · dsimp only
              rw [← hq]
              ((repeat' (first | exact trivial | exact rfl | refine And.intro ?_ ?_)) <;> (try (conv => whnf)) <;> (try simp only [SV.real, SV.r2, SV.r1]))
              all_goals exact congrArg Value.string e9
            · dsimp only
              rw [← hq]
              ((repeat' (first | exact trivial | exact rfl | refine And.intro ?_ ?_)) <;> (try (conv => whnf)) <;> (try simp only [SV.real, SV.r2, SV.r1]))
          · have hl1 : 0 < (dg b6 (x % 10)).length := Nat.pos_of_ne_zero fun h => hx0 (len_zero.1 h)
            have hx1 := dg_get b6_2 0 (x % 10) hl1
            rw [Nat.pow_zero, Nat.div_one, Nat.mod_eq_of_lt (show x % 10 < b6 from Nat.lt_trans hlt2 (by decide))] at hx1
            repeat' ((conv => whnf); first | refine walk (Tryz.ok ..) ?_ | (refine Cnd.mk (fun h => ?_) (fun h => ?_) <;> (first | exact cndT h (by (try dsimp only); omega) | exact cndF h (by (try dsimp only); omega) | (exfalso; simp at h; omega) | simp at h | skip)) | refine side2 ?_ | refine sideL2 ?_ | refine xi _ (i_at hx1 rfl) ?_ | fail)
            (conv => whnf)
            intro g29 hg29
            repeat' ((conv => whnf); first | refine walk (Tryz.ok ..) ?_ | refine side2 ?_ | refine Exists.intro [_] (And.intro (one_byte rfl) ?_) | fail)
            have e9 := tB_next0 (k := k + 1) (n := n) (d := ((x % 10 : Nat) : Int)) (by omega)
            rw [← eT] at e9
            refine ⟨(k + 1 + 1, B, cB, true), ⟨hk1, by dsimp only; omega⟩, ?_, ?_, rfl⟩
            · dsimp only
              rw [← hq]
              ((repeat' (first | exact trivial | exact rfl | refine And.intro ?_ ?_)) <;> (try (conv => whnf)) <;> (try simp only [SV.real, SV.r2, SV.r1]))
              all_goals exact congrArg Value.string e9
            · dsimp only
              rw [← hq]
              ((repeat' (first | exact trivial | exact rfl | refine And.intro ?_ ?_)) <;> (try (conv => whnf)) <;> (try simp only [SV.real, SV.r2, SV.r1]))
      · have hz : x = 0 := (dg_nil b6_2).1 h.1
        have hd := tB_end (k := k + 1) (n := n) (by omega) (by rw [← ex]; exact hz) hk
        rw [← eT] at hd
        rw [← hd]
        exact done_pure rfl rfl rfl
    · dsimp only
      rw [← eT]
      rw [← ex]
      repeat' ((conv => whnf); first | refine walk (Tryz.ok ..) ?_ | (refine Cnd.mk (fun h => ?_) (fun h => ?_) <;> (first | exact cndT h (by (try dsimp only); omega) | exact cndF h (by (try dsimp only); omega) | (exfalso; simp at h; omega) | simp at h | skip)) | refine side2 ?_ | fail)
      · have hz : x ≠ 0 := fun e => h.elim (fun h1 => Nat.ne_of_gt h1 (len_zero.2 e)) (fun h1 => hne h1)
        have hl0 : 0 < (dg b6 x).length := Nat.pos_of_ne_zero fun h => hz (len_zero.1 h)
        have hk1 : k + 1 + 1 ≤ max 1 (dg 10 n).length := by have := hdl (by omega); omega
        (conv => whnf)
        intro g16 hg16
        skip
        rcases Nat.lt_or_ge x 10 with hlt | hlt
        · refine called_row 402 (xs := iv (dg b6 (x / 10))) (m := (dg b6 (x / 10)).length) (fun v => .tuple #[v, .slice (adr A) (dg b6 x).length c]) (fun A' cap => .t [.o 402 A' (dg b6 (x / 10)).length cap, .o 401 A (dg b6 x).length c]) (fun _ _ => rfl) (fun w' hh => by have h := rdiv_less2 x 10 A (some (g16, 0)) c 1 w' hlt (ro_of_row hh (id := 401) rfl) (by rw [dg6_ten]; exact ro_of_blk hh (id := 16) rfl 0 1 1 (by decide)) (by omega) (by rw [dg6_ten]; decide); rw [dg6_ten] at h; exact h) ?_
          intro B cB
          have hx1 := dg_get b6_2 0 x hl0
          rw [Nat.pow_zero, Nat.div_one, Nat.mod_eq_of_lt (show x < b6 from Nat.lt_trans hlt (by decide))] at hx1
          repeat' ((conv => whnf); first | refine walk (Tryz.ok ..) ?_ | (refine Cnd.mk (fun h => ?_) (fun h => ?_) <;> (first | exact cndT h (by (try dsimp only); omega) | exact cndF h (by (try dsimp only); omega) | (exfalso; simp at h; omega) | simp at h | skip)) | refine side2 ?_ | refine sideL2 ?_ | refine xi _ (i_at hx1 rfl) ?_ | fail)
          (conv => whnf)
          intro g29 hg29
          repeat' ((conv => whnf); first | refine walk (Tryz.ok ..) ?_ | refine side2 ?_ | refine Exists.intro [_] (And.intro (one_byte rfl) ?_) | fail)
          have e9 := tB_next0 (k := k + 1) (n := n) (d := (x : Int)) (by omega)
          rw [← eT] at e9
          refine ⟨(k + 1 + 1, B, cB, false), ⟨hk1, by dsimp only; omega⟩, ?_, ?_, rfl⟩
          · dsimp only
            rw [← hq]
            ((repeat' (first | exact trivial | exact rfl | refine And.intro ?_ ?_)) <;> (try (conv => whnf)) <;> (try simp only [SV.real, SV.r2, SV.r1]))
            all_goals exact congrArg Value.string e9
          · dsimp only
            rw [← hq]
            ((repeat' (first | exact trivial | exact rfl | refine And.intro ?_ ?_)) <;> (try (conv => whnf)) <;> (try simp only [SV.real, SV.r2, SV.r1]))
        · refine called_row2 402 403 (m1 := (dg b6 (x / 10)).length) (m2 := (dg b6 (x % 10)).length) (xs1 := iv (dg b6 (x / 10))) (xs2 := iv (dg b6 (x % 10))) (fun v u => .tuple #[v, u]) (fun A c A' c' => .t [.o 402 A (dg b6 (x / 10)).length c, .o 403 A' (dg b6 (x % 10)).length c']) (fun _ _ _ _ => rfl) (fun w' hh => by have h := rdiv_any x 10 A (some (g16, 0)) c 1 w' hlt (by omega) (ro_of_row hh (id := 401) rfl) (by rw [dg6_ten]; exact ro_of_blk hh (id := 16) rfl 0 1 1 (by decide)) (by omega) (row_cap6 hh (id := 401) rfl); rw [dg6_ten] at h; exact h) ?_
          intro B cB B' cB'
          have hlt2 : x % 10 < 10 := Nat.mod_lt _ (by decide)
          by_cases hx0 : x % 10 = 0
          · have hl1 : (dg b6 (x % 10)).length = 0 := len_zero.2 hx0
            repeat' ((conv => whnf); first | refine walk (Tryz.ok ..) ?_ | (refine Cnd.mk (fun h => ?_) (fun h => ?_) <;> (first | exact cndT h (by (try dsimp only); omega) | exact cndF h (by (try dsimp only); omega) | (exfalso; simp at h; omega) | simp at h | skip)) | refine sideL2 ?_ | fail)
            (conv => whnf)
            intro g29 hg29
            repeat' ((conv => whnf); first | refine walk (Tryz.ok ..) ?_ | refine side2 ?_ | refine Exists.intro [_] (And.intro (one_byte rfl) ?_) | fail)
            have e9 := tB_next0 (k := k + 1) (n := n) (d := 0) (by omega)
            rw [← eT] at e9
            refine ⟨(k + 1 + 1, B, cB, false), ⟨hk1, by dsimp only; omega⟩, ?_, ?_, rfl⟩
            · dsimp only
              rw [← hq]
              ((repeat' (first | exact trivial | exact rfl | refine And.intro ?_ ?_)) <;> (try (conv => whnf)) <;> (try simp only [SV.real, SV.r2, SV.r1]))
              all_goals exact congrArg Value.string e9
            · dsimp only
              rw [← hq]
              ((repeat' (first | exact trivial | exact rfl | refine And.intro ?_ ?_)) <;> (try (conv => whnf)) <;> (try simp only [SV.real, SV.r2, SV.r1]))
          · have hl1 : 0 < (dg b6 (x % 10)).length := Nat.pos_of_ne_zero fun h => hx0 (len_zero.1 h)
            have hx1 := dg_get b6_2 0 (x % 10) hl1
            rw [Nat.pow_zero, Nat.div_one, Nat.mod_eq_of_lt (show x % 10 < b6 from Nat.lt_trans hlt2 (by decide))] at hx1
            repeat' ((conv => whnf); first | refine walk (Tryz.ok ..) ?_ | (refine Cnd.mk (fun h => ?_) (fun h => ?_) <;> (first | exact cndT h (by (try dsimp only); omega) | exact cndF h (by (try dsimp only); omega) | (exfalso; simp at h; omega) | simp at h | skip)) | refine side2 ?_ | refine sideL2 ?_ | refine xi _ (i_at hx1 rfl) ?_ | fail)
            (conv => whnf)
            intro g29 hg29
            repeat' ((conv => whnf); first | refine walk (Tryz.ok ..) ?_ | refine side2 ?_ | refine Exists.intro [_] (And.intro (one_byte rfl) ?_) | fail)
            have e9 := tB_next0 (k := k + 1) (n := n) (d := ((x % 10 : Nat) : Int)) (by omega)
            rw [← eT] at e9
            refine ⟨(k + 1 + 1, B, cB, false), ⟨hk1, by dsimp only; omega⟩, ?_, ?_, rfl⟩
            · dsimp only
              rw [← hq]
              ((repeat' (first | exact trivial | exact rfl | refine And.intro ?_ ?_)) <;> (try (conv => whnf)) <;> (try simp only [SV.real, SV.r2, SV.r1]))
              all_goals exact congrArg Value.string e9
            · dsimp only
              rw [← hq]
              ((repeat' (first | exact trivial | exact rfl | refine And.intro ?_ ?_)) <;> (try (conv => whnf)) <;> (try simp only [SV.real, SV.r2, SV.r1]))
      · have hz : x = 0 := (dg_nil b6_2).1 h.1
        have hd := tB_end (k := k + 1) (n := n) (by omega) (by rw [← ex]; exact hz) hk
        rw [← eT] at hd
        rw [← hd]
        exact done_pure rfl rfl rfl
end
section
open Go Sat Go.RowKit Go.PlainAid
set_option linter.unusedSimpArgs false
set_option linter.unusedVariables false
set_option maxRecDepth 100000 in
set_option maxHeartbeats 8000000 in
theorem rSum_any (l : List Fr) (A : Option (Nat × Nat)) (cap : Nat) (w : World) (hA : Ro w A l.length 17 (frL l)) (hl : l.length ≤ 1000000) (hb : ∀ f ∈ l, Big f) :
    Calls Tryz.prog 35 #[.slice (adr A) l.length cap] w fun e w' => e = .returned (.tuple #[frV (sumE l).1, .int .i64 (sumE l).2]) ∧ Below w.heap.size w w' := by
  have ho0 : rightF (ofF 0) = true := by kernel_rfl
  have hob : Big (ofF 0) := ⟨(fitF_small _ _ _).1, (fitF_small _ _ _).2⟩
  have hof := fun w => rof_any 0 w ⟨by decide, by decide⟩
  rw [ratioE_one] at hof
  have hsE : l.all rightF = true → sumE l = sumF (ofF 0) l := fun h => by unfold sumE; rw [if_pos h]
  obtain ⟨O, eO⟩ : ∃ r, r = ofF 0 := ⟨_, rfl⟩
  rw [← eO] at ho0 hob hof hsE
  have lO := frC_len O
  refine calls_sat (cx := Tryz.cx 44 [10] [] [] w) (Tryz.ok ..) Tryz.func35 rfl [.o 300 A l.length cap] rfl (by show 1 ≤ 44; omega) [(300, .ro A l.length 17 (frL l))] (holds_ros rfl rfl ⟨hA, trivial⟩) ?_
  repeat' ((conv => whnf); first | refine walk (Tryz.ok ..) ?_ | fail)
  (conv => whnf)
  intro g2 hg2
  repeat' ((conv => whnf); first | refine walk (Tryz.ok ..) ?_ | fail)
  refine called_pure (.a (frC O)) rfl hof ?_
  skip
  (conv => whnf)
  intro g4 hg4
  repeat' ((conv => whnf); first | refine walk (Tryz.ok ..) ?_ | refine side2 ?_ | fail)
  refine sat_loop (Tryz.ok ..) (α := Nat) (fun k => ([(0, .yes, .o 300 A l.length cap), (2, .yes, .p 2 g2 0 0), (4, .yes, .p 4 g4 0 0), (5, .yes, .v (.int .i64 k))], [(2, .blk g2 37 (frC zeroF)), (4, .blk g4 37 (frC O)), (300, .ro A l.length 17 (frL l))]))
    (fun k => k ≤ l.length ∧ (l.take k).all rightF = true) (fun k => l.length - k) (fun _ => rfl) ?_ ?_
  · refine ⟨0, ⟨Nat.zero_le _, rfl⟩, ?_, ?_, rfl⟩
    all_goals ((repeat' (first | exact trivial | exact rfl | refine And.intro ?_ ?_)) <;> (try (conv => whnf)) <;> (try simp only [SV.real, SV.r2, SV.r1]))
  rintro k ⟨hk, hall⟩
  by_cases hk1 : k < l.length
  · obtain ⟨f, hf⟩ : ∃ a, l[k]? = some a := ⟨l[k], List.getElem?_eq_getElem hk1⟩
    have hbf := hb f (List.mem_of_getElem? hf)
    have hfl := frL_len l
    have l17 := frC_len f
    by_cases hr : rightF f = true
    case neg =>
      have hr2 : rightF f = false := by simpa using hr
      have hno : l.all rightF = false := by
        rw [Bool.eq_false_iff]
        intro h2
        exact hr (List.all_eq_true.1 h2 f (List.mem_of_getElem? hf))
      rw [sumE_no hno]
      repeat' ((conv => whnf); first | refine walk (Tryz.ok ..) ?_ | (refine Cnd.mk (fun h => ?_) (fun h => ?_) <;> (first | exact cndT h (by (try dsimp only); omega) | exact cndF h (by (try dsimp only); omega) | (exfalso; simp at h; omega) | simp at h | skip)) | refine side2 ?_ | refine xi _ (fr_cells hf rfl) ?_ | fail)
      (conv => whnf)
      rw [frW_v]
      refine called_pure (.v (.bool false)) rfl (fun w' => by rw [← hr2]; exact rright_any f w' hbf) ?_
      repeat' ((conv => whnf); first | refine walk (Tryz.ok ..) ?_ | (refine Cnd.mk (fun h => ?_) (fun h => ?_) <;> (first | exact cndT h (by (try dsimp only); omega) | exact cndF h (by (try dsimp only); omega) | (exfalso; simp at h; omega) | simp at h | skip)) | refine side2 ?_ | fail)
      exact done_pure rfl rfl rfl
    repeat' ((conv => whnf); first | refine walk (Tryz.ok ..) ?_ | (refine Cnd.mk (fun h => ?_) (fun h => ?_) <;> (first | exact cndT h (by (try dsimp only); omega) | exact cndF h (by (try dsimp only); omega) | (exfalso; simp at h; omega) | simp at h | skip)) | refine side2 ?_ | refine xi _ (fr_cells hf rfl) ?_ | fail)
    (conv => whnf)
    rw [frW_v]
    refine called_pure (.v (.bool true)) rfl (fun w' => by rw [← hr]; exact rright_any f w' hbf) ?_
    repeat' ((conv => whnf); first | refine walk (Tryz.ok ..) ?_ | (refine Cnd.mk (fun h => ?_) (fun h => ?_) <;> (first | exact cndT h (by (try dsimp only); omega) | exact cndF h (by (try dsimp only); omega) | (exfalso; simp at h; omega) | simp at h | skip)) | refine sideL2 ?_ | fail)
    refine ⟨k + 1, ⟨⟨hk1, ?_⟩, by omega⟩, ?_, ?_, rfl⟩
    · rw [List.take_add_one, hf, List.all_append, hall]
      simpa using hr
    all_goals ((repeat' (first | exact trivial | exact rfl | refine And.intro ?_ ?_)) <;> (try (conv => whnf)) <;> (try simp only [SV.real, SV.r2, SV.r1]))
  obtain rfl : k = l.length := by omega
  rw [List.take_length] at hall
  rw [hsE hall]
  repeat' ((conv => whnf); first | refine walk (Tryz.ok ..) ?_ | (refine Cnd.mk (fun h => ?_) (fun h => ?_) <;> (first | exact cndT h (by (try dsimp only); omega) | exact cndF h (by (try dsimp only); omega) | (exfalso; simp at h; omega) | simp at h | skip)) | fail)
  refine sat_loop (Tryz.ok ..) (α := Nat × Fr) (fun s => ([(0, .yes, .o 300 A l.length cap), (2, .yes, .p 2 g2 0 0), (4, .yes, .p 4 g4 0 0), (6, .yes, .v (.int .i64 s.1))], [(2, .blk g2 37 (frC zeroF)), (4, .blk g4 37 (frC s.2)), (300, .ro A l.length 17 (frL l))]))
    (fun s => s.1 ≤ l.length ∧ rightF s.2 = true ∧ Big s.2 ∧ sumF O l = sumF s.2 (l.drop s.1)) (fun s => l.length - s.1) (fun _ => rfl) ?_ ?_
  · refine ⟨(0, O), ⟨Nat.zero_le _, ho0, hob, rfl⟩, ?_, ?_, rfl⟩
    all_goals ((repeat' (first | exact trivial | exact rfl | refine And.intro ?_ ?_)) <;> (try (conv => whnf)) <;> (try simp only [SV.real, SV.r2, SV.r1]))
  rintro ⟨k, X⟩ ⟨hk, hrX, hbX, hs⟩
  dsimp only at hk hrX hbX hs
  have lX := frC_len X
  by_cases hk1 : k < l.length
  · obtain ⟨f, hf⟩ : ∃ a, l[k]? = some a := ⟨l[k], List.getElem?_eq_getElem hk1⟩
    have hbf := hb f (List.mem_of_getElem? hf)
    have hrf := List.all_eq_true.1 hall f (List.mem_of_getElem? hf)
    have hfl := frL_len l
    have l17 := frC_len f
    have hdr : l.drop k = f :: l.drop (k + 1) := by
      rw [List.drop_eq_getElem_cons hk1]
      rw [List.getElem?_eq_getElem hk1] at hf
      injection hf with hf
      rw [hf]
    rw [hdr, sumF_cons] at hs
    have hadd := fun w => rAdd_any X f w hbX hbf
    have hae : addE X f = addF X f := by unfold addE bothF; rw [hrX, hrf]; rfl
    rw [hae] at hadd
    have hok := addF_ok (right_den hrX) (right_den hrf)
    have hbg := addF_big X f
    obtain ⟨r, er⟩ : ∃ r, r = addF X f := ⟨_, rfl⟩
    rw [← er] at hs hadd hok hbg
    have lr := frC_len r.1
    have hadd2 : ∀ w, Calls Tryz.prog 24 #[(SV.a (List.take 17 (List.drop 0 (frC X)))).real, (SV.a (List.map SV.v (frW f))).real] w fun e w' => e = .returned (.tuple #[frV r.1, .int .i64 r.2]) ∧ Below w.heap.size w w' := fun w => by rw [tk1, frW_v]; exact hadd w
    repeat' ((conv => whnf); first | refine walk (Tryz.ok ..) ?_ | (refine Cnd.mk (fun h => ?_) (fun h => ?_) <;> (first | exact cndT h (by (try dsimp only); omega) | exact cndF h (by (try dsimp only); omega) | (exfalso; simp at h; omega) | simp at h | skip)) | fail)
    refine sat_join0 (fun (g : Nat) => ([(0, .yes, .o 300 A l.length cap), (2, .yes, .p 2 g2 0 0), (4, .yes, .p 4 g4 0 0), (6, .yes, .v (.int .i64 k)), (7, .yes, .p 7 g 0 0), (8, .yes, .v (.int .i64 r.2))], [(2, .blk g2 37 (frC zeroF)), (4, .blk g4 37 (frC X)), (7, .blk g 37 (frC r.1)), (300, .ro A l.length 17 (frL l))])) (fun _ => True) (fun _ => rfl) ?_ ?_
    · refine sat_drawH (Tryz.ok ..) (by kernel_rfl) ?_
      repeat' ((conv => whnf); first | refine kp ?_ ?_ | refine tw ?_ ?_ | exact trivial | refine side2 ?_ | refine xi _ (fr_cells hf rfl) ?_ | intro g hg | (refine called_pure (.t [.a (frC r.1), .v (.int .i64 r.2)]) rfl (fun w' => by exact hadd2 w') ?_) | (exact ⟨g, trivial, by ((repeat' (first | exact trivial | exact rfl | refine And.intro ?_ ?_)) <;> (try (conv => whnf)) <;> (try simp only [SV.real, SV.r2, SV.r1])), by ((repeat' (first | exact trivial | exact rfl | refine And.intro ?_ ?_)) <;> (try (conv => whnf)) <;> (try simp only [SV.real, SV.r2, SV.r1])), rfl⟩) | fail)
    intro g7 _
    by_cases h0 : r.2 = 0
    · rw [if_pos h0] at hs
      repeat' ((conv => whnf); first | refine walk (Tryz.ok ..) ?_ | (refine Cnd.mk (fun h => ?_) (fun h => ?_) <;> (first | exact cndT h (by (try dsimp only); omega) | exact cndF h (by (try dsimp only); omega) | (exfalso; simp at h; omega) | simp at h | skip)) | refine side2 ?_ | refine sideL2 ?_ | fail)
      refine ⟨(k + 1, r.1), ⟨⟨hk1, hok h0, hbg, hs⟩, by dsimp only; omega⟩, ?_, ?_, rfl⟩
      all_goals ((repeat' (first | exact trivial | exact rfl | refine And.intro ?_ ?_)) <;> (try (conv => whnf)) <;> (try simp only [SV.real, SV.r2, SV.r1]))
    · rw [if_neg h0] at hs
      rw [hs]
      repeat' ((conv => whnf); first | refine walk (Tryz.ok ..) ?_ | (refine Cnd.mk (fun h => ?_) (fun h => ?_) <;> (first | exact cndT h (by (try dsimp only); omega) | exact cndF h (by (try dsimp only); omega) | (exfalso; simp at h; omega) | simp at h | skip)) | refine side2 ?_ | fail)
      exact done_pure rfl rfl (congrArg (fun l => (SV.t [.a l, .v (.int .i64 r.2)]).real) (show _ = frC zeroF from rfl))
  obtain rfl : k = l.length := by omega
  rw [List.drop_length] at hs
  rw [hs]
  repeat' ((conv => whnf); first | refine walk (Tryz.ok ..) ?_ | (refine Cnd.mk (fun h => ?_) (fun h => ?_) <;> (first | exact cndT h (by (try dsimp only); omega) | exact cndF h (by (try dsimp only); omega) | (exfalso; simp at h; omega) | simp at h | skip)) | refine side2 ?_ | fail)
  exact done_pure rfl rfl (congrArg (fun l => (SV.t [.a l, .v (.int .i64 0)]).real) (tk2 X))
end
section
open Go Sat Go.RowKit Go.PlainAid
set_option linter.unusedSimpArgs false
set_option linter.unusedVariables false
set_option maxRecDepth 100000 in
set_option maxHeartbeats 8000000 in
theorem rtext_any (f : Fr) (w : World) (hf : Big f) :
    Calls Tryz.prog 33 #[frV f] w fun e w' => e = .returned (.tuple #[.string (textE f).1, .int .i64 (textE f).2]) ∧ Below w.heap.size w w' := by
  refine calls_sat (cx := Tryz.cx 29 [] [] [] w) (Tryz.ok ..) Tryz.func33 rfl [.a (frC f)] rfl (by show 1 ≤ 29; omega) [] (holds_nil (Nat.le_refl _)) ?_
  have h17 := frC_len f
  cases hrf : rightF f
  · have e1 : textE f = (⟨#[]⟩, 2) := by unfold textE; rw [hrf]; rfl
    rw [e1]
    repeat' ((conv => whnf); first | refine walk (Tryz.ok ..) ?_ | fail)
    (conv => whnf)
    intro g1 hg1
    repeat' ((conv => whnf); first | refine walk (Tryz.ok ..) ?_ | refine side2 ?_ | fail)
    refine called_pure (.v (.bool false)) rfl (fun w' => by rw [← hrf]; exact rright_any f w' hf) ?_
    repeat' ((conv => whnf); first | refine walk (Tryz.ok ..) ?_ | (refine Cnd.mk (fun h => ?_) (fun h => ?_) <;> (first | exact cndT h (by (try dsimp only); omega) | exact cndF h (by (try dsimp only); omega) | (exfalso; simp at h; omega) | simp at h | skip)) | fail)
    exact done_pure rfl rfl rfl
  have e1 : textE f = (textF f, 0) := by unfold textE; rw [if_pos hrf]
  rw [e1]
  have b1 := dg_big6 hf.num
  have b2 := dg_big6 hf.den
  have s1 := txN_size hf.num
  have s2 := txN_size hf.den
  repeat' ((conv => whnf); first | refine walk (Tryz.ok ..) ?_ | fail)
  (conv => whnf)
  intro g1 hg1
  repeat' ((conv => whnf); first | refine walk (Tryz.ok ..) ?_ | refine side2 ?_ | fail)
  refine called_pure (.v (.bool true)) rfl (fun w' => by rw [← hrf]; exact rright_any f w' hf) ?_
  repeat' ((conv => whnf); first | refine walk (Tryz.ok ..) ?_ | (refine Cnd.mk (fun h => ?_) (fun h => ?_) <;> (first | exact cndT h (by (try dsimp only); omega) | exact cndF h (by (try dsimp only); omega) | (exfalso; simp at h; omega) | simp at h | skip)) | refine side2 ?_ | fail)
  refine called_row 11 (xs := iv (dg b6 f.num)) (m := (dg b6 f.num).length) (fun v => v) (fun A cap => .o 11 A (dg b6 f.num).length cap) (fun _ _ => rfl) (fun w' hh => by exact rdig_num f w' hf) ?_
  intro A11 c11
  skip
  refine called_at (.v (.string (txN f.num))) rfl (fun w' hh => rdecimal_any f.num A11 c11 w' hf.num (ro_of_row hh (id := 11) rfl) (row_cap6 hh (id := 11) rfl)) ?_
  obtain ⟨X, hX⟩ : ∃ X, X = txN f.num := ⟨_, rfl⟩
  obtain ⟨Y, hY⟩ : ∃ Y, Y = txN f.den := ⟨_, rfl⟩
  have ht : textF f = if f.den = 1 then (if f.neg = true then ⟨#[45]⟩ ++ X else X) else (if f.neg = true then ⟨#[45]⟩ ++ X else X) ++ (⟨#[47]⟩ ++ Y) := by rw [hX, hY]; rfl
  have ht : textF f = if f.den = 1 then (if f.neg = true then ⟨#[45]⟩ ++ X else X) else (if f.neg = true then ⟨#[45]⟩ ++ X else X) ++ ⟨#[47]⟩ ++ Y := by rw [ht, ByteArray.append_assoc]
  have z1 : (⟨#[45]⟩ : ByteArray).size = 1 := rfl
  have z2 : (⟨#[47]⟩ : ByteArray).size = 1 := rfl
  rw [← hX] at s1 ⊢
  rw [← hY] at s2
  by_cases h1 : f.den = 1
  · rw [if_pos h1] at ht
    have hd1 : decide (f.den = 1) = true := decide_eq_true h1
    repeat' ((conv => whnf); first | refine walk (Tryz.ok ..) ?_ | (refine Cnd.mk (fun h => ?_) (fun h => ?_) <;> (first | exact cndT h (by (try dsimp only); omega) | exact cndF h (by (try dsimp only); omega) | (exfalso; simp at h; omega) | simp at h | skip)) | refine side2 ?_ | refine xi _ (And.intro rfl rfl) ?_ | fail)
    · rw [if_pos h] at ht
      refine called_row 19 (xs := iv (dg b6 f.den)) (m := (dg b6 f.den).length) (fun v => v) (fun A cap => .o 19 A (dg b6 f.den).length cap) (fun _ _ => rfl) (fun w' hh => by exact rdig_den f w' hf) ?_
      intro A19 c19
      repeat' ((conv => whnf); first | refine walk (Tryz.ok ..) ?_ | fail)
      refine called_at (.v (.bool true)) rfl (fun w' hh => by rw [← hd1]; exact rone_any f.den A19 c19 w' (ro_of_row hh (id := 19) rfl) (by omega)) ?_
      repeat' ((conv => whnf); first | refine walk (Tryz.ok ..) ?_ | (refine Cnd.mk (fun h => ?_) (fun h => ?_) <;> (first | exact cndT h (by (try dsimp only); omega) | exact cndF h (by (try dsimp only); omega) | (exfalso; simp at h; omega) | simp at h | skip)) | fail)
      rw [ht]
      exact done_pure rfl rfl rfl
    · rw [if_neg (by rw [h]; simp)] at ht
      refine called_row 19 (xs := iv (dg b6 f.den)) (m := (dg b6 f.den).length) (fun v => v) (fun A cap => .o 19 A (dg b6 f.den).length cap) (fun _ _ => rfl) (fun w' hh => by exact rdig_den f w' hf) ?_
      intro A19 c19
      repeat' ((conv => whnf); first | refine walk (Tryz.ok ..) ?_ | fail)
      refine called_at (.v (.bool true)) rfl (fun w' hh => by rw [← hd1]; exact rone_any f.den A19 c19 w' (ro_of_row hh (id := 19) rfl) (by omega)) ?_
      repeat' ((conv => whnf); first | refine walk (Tryz.ok ..) ?_ | (refine Cnd.mk (fun h => ?_) (fun h => ?_) <;> (first | exact cndT h (by (try dsimp only); omega) | exact cndF h (by (try dsimp only); omega) | (exfalso; simp at h; omega) | simp at h | skip)) | fail)
      rw [ht]
      exact done_pure rfl rfl rfl
  · rw [if_neg h1] at ht
    have hd1 : decide (f.den = 1) = false := decide_eq_false h1
    repeat' ((conv => whnf); first | refine walk (Tryz.ok ..) ?_ | (refine Cnd.mk (fun h => ?_) (fun h => ?_) <;> (first | exact cndT h (by (try dsimp only); omega) | exact cndF h (by (try dsimp only); omega) | (exfalso; simp at h; omega) | simp at h | skip)) | refine side2 ?_ | refine xi _ (And.intro rfl rfl) ?_ | fail)
    · rw [if_pos h] at ht
      refine called_row 19 (xs := iv (dg b6 f.den)) (m := (dg b6 f.den).length) (fun v => v) (fun A cap => .o 19 A (dg b6 f.den).length cap) (fun _ _ => rfl) (fun w' hh => by exact rdig_den f w' hf) ?_
      intro A19 c19
      repeat' ((conv => whnf); first | refine walk (Tryz.ok ..) ?_ | fail)
      refine called_at (.v (.bool false)) rfl (fun w' hh => by rw [← hd1]; exact rone_any f.den A19 c19 w' (ro_of_row hh (id := 19) rfl) (by omega)) ?_
      repeat' ((conv => whnf); first | refine walk (Tryz.ok ..) ?_ | (refine Cnd.mk (fun h => ?_) (fun h => ?_) <;> (first | exact cndT h (by (try dsimp only); omega) | exact cndF h (by (try dsimp only); omega) | (exfalso; simp at h; omega) | simp at h | skip)) | refine side2 ?_ | fail)
      refine called_at (.v (.string Y)) rfl (fun w' hh => by rw [hY]; exact rdecimal_any f.den A19 c19 w' hf.den (ro_of_row hh (id := 19) rfl) (row_cap6 hh (id := 19) rfl)) ?_
      repeat' ((conv => whnf); first | refine walk (Tryz.ok ..) ?_ | refine side2 ?_ | fail)
      rw [ht]
      exact done_pure rfl rfl rfl
    · rw [if_neg (by rw [h]; simp)] at ht
      refine called_row 19 (xs := iv (dg b6 f.den)) (m := (dg b6 f.den).length) (fun v => v) (fun A cap => .o 19 A (dg b6 f.den).length cap) (fun _ _ => rfl) (fun w' hh => by exact rdig_den f w' hf) ?_
      intro A19 c19
      repeat' ((conv => whnf); first | refine walk (Tryz.ok ..) ?_ | fail)
      refine called_at (.v (.bool false)) rfl (fun w' hh => by rw [← hd1]; exact rone_any f.den A19 c19 w' (ro_of_row hh (id := 19) rfl) (by omega)) ?_
      repeat' ((conv => whnf); first | refine walk (Tryz.ok ..) ?_ | (refine Cnd.mk (fun h => ?_) (fun h => ?_) <;> (first | exact cndT h (by (try dsimp only); omega) | exact cndF h (by (try dsimp only); omega) | (exfalso; simp at h; omega) | simp at h | skip)) | refine side2 ?_ | fail)
      refine called_at (.v (.string Y)) rfl (fun w' hh => by rw [hY]; exact rdecimal_any f.den A19 c19 w' hf.den (ro_of_row hh (id := 19) rfl) (row_cap6 hh (id := 19) rfl)) ?_
      repeat' ((conv => whnf); first | refine walk (Tryz.ok ..) ?_ | refine side2 ?_ | fail)
      rw [ht]
      exact done_pure rfl rfl rfl
end
end Go.Proofs.YtmekcdjaafegaaaGreatDoor
