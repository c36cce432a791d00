/-
  The walks of the reference: the whole part of a fraction.
-/
import Derived.Test.YtmekcdjaafegaaaGreatDoorR10
import Derived.Test.YtmekcdjaafegaaaGreatDoorN14
namespace Go.Proofs.YtmekcdjaafegaaaGreatDoor
open Go Sat Go.RowKit Go.PlainAid
set_option linter.unusedSimpArgs false
set_option linter.unusedVariables false
theorem dg_2_63 : dg b6 9223372036854775808 = [0, 0, 0, 32768] := by
  have h := dg_nv (B := b6) b6_2 (l := [0, 0, 0, 32768]) (by decide) (fun a ha => by
    simp at ha
    omega)
  rw [show nv b6 [0, 0, 0, 32768] = 9223372036854775808 from by decide] at h
  exact h
theorem dg6_one : dg b6 1 = [1] := by
  rw [dg_pos b6_2 (by omega)]
  rfl
theorem floorE_pos {f : Fr} {W : Nat} (h : rightF f = true) (hn : f.neg = false) (hW : W = wholeF f) : floorE f = if W < 9223372036854775808 then ((W : Int), 0) else (0, 3) := by
  unfold floorE; rw [if_pos h, hn, if_neg (by decide), hW]
theorem floorE_neg {f : Fr} {W : Nat} (h : rightF f = true) (hn : f.neg = true) (hW : W = wholeF f) : floorE f = if W ≤ 9223372036854775808 then (-(W : Int), 0) else (0, 3) := by
  unfold floorE; rw [if_pos h, hn, if_pos rfl, hW]
theorem rdiv_less2 (x y : Nat) (X Y : Option (Nat × Nat)) (capX capY : Nat) (w : World) (hxy : x < y) (hx : Ro w X (dg b6 x).length 1 (iv (dg b6 x))) (hy : Ro w Y (dg b6 y).length 1 (iv (dg b6 y))) (hxl : (dg b6 x).length ≤ 1000000) (hyl : (dg b6 y).length ≤ 1000000) :
    Calls Tryz.prog 74 #[.slice (adr X) (dg b6 x).length capX, .slice (adr Y) (dg b6 y).length capY] w fun e w' => ∃ v, e = .returned (.tuple #[v, .slice (adr X) (dg b6 x).length capX]) ∧ w'.ownsRow w.heap.size 3 1 v (dg b6 (x / y)).length (iv (dg b6 (x / y))) ∧ Below w.heap.size w w' :=
  (rdiv_less x y X Y capX capY w hxy hx hy hxl hyl).mono fun e w' ⟨h, b⟩ => ⟨.slice none 0 0, h, by
    rw [Nat.div_eq_of_lt hxy, (dg_nil b6_2).2 rfl]
    exact ⟨rfl, .inl ⟨rfl, rfl⟩⟩, b⟩
set_option maxRecDepth 100000 in
set_option maxHeartbeats 8000000 in
theorem rfloor_pos (f : Fr) (w : World) (hf : Big f) (hrf : rightF f = true) (hd0 : 0 < f.den) (hng : f.neg = false) :
    Calls Tryz.prog 32 #[frV f] w fun e w' => e = .returned (.tuple #[.int .i64 (floorE f).1, .int .i64 (floorE f).2]) ∧ Below w.heap.size w w' := by
  have hn := dg_big6 hf.num
  have hd := dg_big6 hf.den
  have lf := frC_len f
  obtain ⟨r, er⟩ : ∃ r, r = floorE f := ⟨_, rfl⟩
  rw [← er]
  refine calls_sat (cx := Tryz.cx 71 [3] [] [] w) (Tryz.ok ..) Tryz.func32 rfl [.a (frC f)] rfl (by show 1 ≤ 71; omega) [] (holds_nil (Nat.le_refl _)) ?_
  repeat' ((conv => whnf); first | refine walk (Tryz.ok ..) ?_ | fail)
  (conv => whnf)
  intro g1 hg1
  repeat' ((conv => whnf); first | refine walk (Tryz.ok ..) ?_ | refine side2 ?_ | fail)
  refine called_pure (.v (.bool true)) rfl (fun w' => by rw [← hrf]; exact rright_any f w' hf) ?_
  repeat' ((conv => whnf); first | refine walk (Tryz.ok ..) ?_ | (refine Cnd.mk (fun h => ?_) (fun h => ?_) <;> (first | exact cndT h (by (try dsimp only); omega) | exact cndF h (by (try dsimp only); omega) | (exfalso; simp at h; omega) | simp at h | skip)) | fail)
  refine sat_draw (Tryz.ok ..) [] [(1, .blk g1 37 (frC f))] (by kernel_rfl) (fun w hw => hw.sub ?_) ?_
  · ((repeat' (first | exact trivial | exact rfl | refine And.intro ?_ ?_)) <;> (try (conv => whnf)) <;> (try simp only [SV.real, SV.r2, SV.r1]))
  repeat' ((conv => whnf); first | refine side2 ?_ | fail)
  refine called_row 15 (xs := iv (dg b6 f.num)) (m := (dg b6 f.num).length) (fun v => v) (fun A cap => .o 15 A (dg b6 f.num).length cap) (fun _ _ => rfl) (fun w' hh => by exact rdig_num f w' hf) ?_
  intro A15 c15
  repeat' ((conv => whnf); first | refine kp ?_ ?_ | exact trivial | refine side2 ?_ | fail)
  refine called_row 18 (xs := iv (dg b6 f.den)) (m := (dg b6 f.den).length) (fun v => v) (fun A cap => .o 18 A (dg b6 f.den).length cap) (fun _ _ => rfl) (fun w' hh => by exact rdig_den f w' hf) ?_
  intro A18 c18
  repeat' ((conv => whnf); first | refine kp ?_ ?_ | exact trivial | refine side2 ?_ | fail)
  rcases Nat.lt_or_ge f.num f.den with hlt | hlt
  · refine called_row 400 (xs := iv (dg b6 (f.num / f.den))) (m := (dg b6 (f.num / f.den)).length) (fun v => .tuple #[v, .slice (adr A15) (dg b6 f.num).length c15]) (fun A cap => .t [.o 400 A (dg b6 (f.num / f.den)).length cap, .o 15 A15 (dg b6 f.num).length c15]) (fun _ _ => rfl) (fun w' hh => rdiv_less2 f.num f.den A15 A18 c15 c18 w' hlt (ro_of_row hh (id := 15) rfl) (ro_of_row hh (id := 18) rfl) (by omega) (by omega)) ?_
    intro A c
    have hql : (dg b6 (f.num / f.den)).length ≤ 16 := Nat.le_trans (len_le b6_2 (Nat.div_le_self _ _)) hn
    obtain ⟨W, eW⟩ : ∃ W, W = f.num / f.den := ⟨_, rfl⟩
    rw [← eW] at hql ⊢
    have hW : W = wholeF f := by rw [eW]; unfold wholeF; rw [if_neg (by rw [hng]; simp)]
    obtain ⟨fn, fu, fd⟩ := f
    dsimp only at *
    subst hng
    repeat' ((conv => whnf); first | refine walk (Tryz.ok ..) ?_ | (refine Cnd.mk (fun h => ?_) (fun h => ?_) <;> (first | exact cndT h (by (try dsimp only); omega) | exact cndF h (by (try dsimp only); omega) | (exfalso; simp at h; omega) | simp at h | skip)) | refine kp ?_ ?_ | exact trivial | refine side2 ?_ | refine xi _ (And.intro rfl rfl) ?_ | fail)
    (conv => whnf)
    intro g32 hg32
    repeat' ((conv => whnf); first | refine walk (Tryz.ok ..) ?_ | fail)
    by_cases h1 : 9223372036854775808 < W
    · have hr : r = (0, 3) := by rw [er, floorE_pos hrf rfl hW, if_neg (by omega)]
      rw [hr]
      refine called_at (.v (.bool true)) rfl (fun w' hh => by have h := rless_any 9223372036854775808 W (some (g32, 0)) A 4 c w' (by rw [dg_2_63]; exact ro_of_blk hh (id := 32) rfl 0 4 1 (by decide)) (ro_of_row hh (id := 400) rfl) (by rw [dg_2_63]; decide) (by omega); rw [decide_eq_true h1, dg_2_63] at h; exact h) ?_
      repeat' ((conv => whnf); first | refine side2 ?_ | refine sideL2 ?_ | refine xi _ (fun _ => And.intro rfl rfl) ?_ | fail)
      refine calledQ_pure (v := .bool true) (.v (.bool true)) rfl (fun hc _ => absurd (show (!!false) = true from hc) (by decide)) ?_
      repeat' ((conv => whnf); first | refine walk (Tryz.ok ..) ?_ | (refine Cnd.mk (fun h => ?_) (fun h => ?_) <;> (first | exact cndT h (by (try dsimp only); omega) | exact cndF h (by (try dsimp only); omega) | (exfalso; simp at h; omega) | simp at h | skip)) | refine side2 ?_ | fail)
      exact done_pure rfl rfl rfl
    by_cases h2 : W < 9223372036854775808
    · have hr : r = ((W : Int), 0) := by rw [er, floorE_pos hrf rfl hW, if_pos h2]
      rw [hr]
      refine called_at (.v (.bool false)) rfl (fun w' hh => by have h := rless_any 9223372036854775808 W (some (g32, 0)) A 4 c w' (by rw [dg_2_63]; exact ro_of_blk hh (id := 32) rfl 0 4 1 (by decide)) (ro_of_row hh (id := 400) rfl) (by rw [dg_2_63]; decide) (by omega); rw [decide_eq_false h1, dg_2_63] at h; exact h) ?_
      repeat' ((conv => whnf); first | refine side2 ?_ | refine sideL2 ?_ | refine xi _ (fun _ => And.intro rfl rfl) ?_ | fail)
      refine calledQ_at (.v (.bool true)) rfl (fun _ w' hh => by have h := rless_any W 9223372036854775808 A (some (g32, 0)) c 4 w' (ro_of_row hh (id := 400) rfl) (by rw [dg_2_63]; exact ro_of_blk hh (id := 32) rfl 0 4 1 (by decide)) (by omega) (by rw [dg_2_63]; decide); rw [decide_eq_true h2, dg_2_63] at h; exact h) ?_
      repeat' ((conv => whnf); first | refine walk (Tryz.ok ..) ?_ | (refine Cnd.mk (fun h => ?_) (fun h => ?_) <;> (first | exact cndT h (by (try dsimp only); omega) | exact cndF h (by (try dsimp only); omega) | (exfalso; simp at h; omega) | simp at h | skip)) | refine side2 ?_ | refine sideL2 ?_ | fail)
      refine sat_loop (Tryz.ok ..) (α := Nat) (fun k => ([(1, .yes, .p 1 g1 0 0), (4, .yes, .o 400 A (dg b6 W).length c), (7, .yes, .v (.int .i64 (((W / b6 ^ k : Nat) : Int)))), (8, .yes, .v (.int .i64 ((k : Int) - 1)))], [(1, .blk g1 37 (frC ⟨false, fu, fd⟩)), (400, .row A 3 1 (dg b6 W).length c (iv (dg b6 W)))])) (fun k => k ≤ (dg b6 W).length) (fun k => k) (fun _ => rfl) ?_ ?_
      · refine ⟨(dg b6 W).length, Nat.le_refl _, ?_, ?_, rfl⟩
        · dsimp only
          rw [Nat.div_eq_of_lt (dg_upper b6_2 W)]
          ((repeat' (first | exact trivial | exact rfl | refine And.intro ?_ ?_)) <;> (try (conv => whnf)) <;> (try simp only [SV.real, SV.r2, SV.r1]))
        · ((repeat' (first | exact trivial | exact rfl | refine And.intro ?_ ?_)) <;> (try (conv => whnf)) <;> (try simp only [SV.real, SV.r2, SV.r1]))
      intro k hk
      by_cases hk0 : k = 0
      · subst hk0
        rw [Nat.pow_zero, Nat.div_one]
        repeat' ((conv => whnf); first | refine walk (Tryz.ok ..) ?_ | (refine Cnd.mk (fun h => ?_) (fun h => ?_) <;> (first | exact cndT h (by (try dsimp only); omega) | exact cndF h (by (try dsimp only); omega) | (exfalso; simp at h; omega) | simp at h | skip)) | fail)
        exact done_pure rfl rfl rfl
      obtain ⟨i, rfl⟩ : ∃ i, k = i + 1 := ⟨k - 1, by omega⟩
      have hwa := dg_get b6_2 i W (by omega)
      have hsp := div_split b6 W i
      have hle : W / b6 ^ i ≤ W := Nat.div_le_self _ _
      have ld : W / b6 ^ i % b6 < 65536 := Nat.mod_lt _ (by decide)
      obtain ⟨d, ed⟩ : ∃ d, d = W / b6 ^ i % b6 := ⟨_, rfl⟩
      obtain ⟨P, eP⟩ : ∃ d, d = W / b6 ^ (i + 1) := ⟨_, rfl⟩
      obtain ⟨Q, eQ⟩ : ∃ d, d = W / b6 ^ i := ⟨_, rfl⟩
      rw [← ed] at hwa hsp ld
      rw [← eP] at hsp ⊢
      rw [← eQ] at hsp hle
      have hsp : Q = 65536 * P + d := hsp
      repeat' ((conv => whnf); first | refine walk (Tryz.ok ..) ?_ | (refine Cnd.mk (fun h => ?_) (fun h => ?_) <;> (first | exact cndT h (by (try dsimp only); omega) | exact cndF h (by (try dsimp only); omega) | (exfalso; simp at h; omega) | simp at h | skip)) | refine side2 ?_ | refine sideL2 ?_ | refine xi _ (And.intro rfl rfl) ?_ | refine xi _ (i_at hwa (by omega)) ?_ | fail)
      refine ⟨i, ⟨by omega, by omega⟩, ?_, ?_, rfl⟩
      · dsimp only
        rw [← eQ]
        ((repeat' (first | exact trivial | exact rfl | refine And.intro ?_ ?_)) <;> (try (conv => whnf)) <;> (try simp only [SV.real, SV.r2, SV.r1]))
        all_goals exact congrArg (Value.int .i64) (by omega)
      · dsimp only
        ((repeat' (first | exact trivial | exact rfl | refine And.intro ?_ ?_)) <;> (try (conv => whnf)) <;> (try simp only [SV.real, SV.r2, SV.r1]))
    · have hr : r = (0, 3) := by rw [er, floorE_pos hrf rfl hW, if_neg h2]
      rw [hr]
      refine called_at (.v (.bool false)) rfl (fun w' hh => by have h := rless_any 9223372036854775808 W (some (g32, 0)) A 4 c w' (by rw [dg_2_63]; exact ro_of_blk hh (id := 32) rfl 0 4 1 (by decide)) (ro_of_row hh (id := 400) rfl) (by rw [dg_2_63]; decide) (by omega); rw [decide_eq_false h1, dg_2_63] at h; exact h) ?_
      repeat' ((conv => whnf); first | refine side2 ?_ | refine sideL2 ?_ | refine xi _ (fun _ => And.intro rfl rfl) ?_ | fail)
      refine calledQ_at (.v (.bool false)) rfl (fun _ w' hh => by have h := rless_any W 9223372036854775808 A (some (g32, 0)) c 4 w' (ro_of_row hh (id := 400) rfl) (by rw [dg_2_63]; exact ro_of_blk hh (id := 32) rfl 0 4 1 (by decide)) (by omega) (by rw [dg_2_63]; decide); rw [decide_eq_false h2, dg_2_63] at h; exact h) ?_
      repeat' ((conv => whnf); first | refine walk (Tryz.ok ..) ?_ | (refine Cnd.mk (fun h => ?_) (fun h => ?_) <;> (first | exact cndT h (by (try dsimp only); omega) | exact cndF h (by (try dsimp only); omega) | (exfalso; simp at h; omega) | simp at h | skip)) | refine side2 ?_ | fail)
      exact done_pure rfl rfl rfl
  · refine called_row2 400 401 (m1 := (dg b6 (f.num / f.den)).length) (m2 := (dg b6 (f.num % f.den)).length) (xs1 := iv (dg b6 (f.num / f.den))) (xs2 := iv (dg b6 (f.num % f.den))) (fun v u => .tuple #[v, u]) (fun A c A' c' => .t [.o 400 A (dg b6 (f.num / f.den)).length c, .o 401 A' (dg b6 (f.num % f.den)).length c']) (fun _ _ _ _ => rfl) (fun w' hh => rdiv_any f.num f.den A15 A18 c15 c18 w' (by omega) hd0 (ro_of_row hh (id := 15) rfl) (ro_of_row hh (id := 18) rfl) (by omega) (row_cap6 hh (id := 15) rfl)) ?_
    intro A c A' c'
    have hql : (dg b6 (f.num / f.den)).length ≤ 16 := Nat.le_trans (len_le b6_2 (Nat.div_le_self _ _)) hn
    obtain ⟨W, eW⟩ : ∃ W, W = f.num / f.den := ⟨_, rfl⟩
    rw [← eW] at hql ⊢
    have hW : W = wholeF f := by rw [eW]; unfold wholeF; rw [if_neg (by rw [hng]; simp)]
    obtain ⟨fn, fu, fd⟩ := f
    dsimp only at *
    subst hng
    repeat' ((conv => whnf); first | refine walk (Tryz.ok ..) ?_ | (refine Cnd.mk (fun h => ?_) (fun h => ?_) <;> (first | exact cndT h (by (try dsimp only); omega) | exact cndF h (by (try dsimp only); omega) | (exfalso; simp at h; omega) | simp at h | skip)) | refine kp ?_ ?_ | exact trivial | refine side2 ?_ | refine xi _ (And.intro rfl rfl) ?_ | fail)
    (conv => whnf)
    intro g32 hg32
    repeat' ((conv => whnf); first | refine walk (Tryz.ok ..) ?_ | fail)
    by_cases h1 : 9223372036854775808 < W
    · have hr : r = (0, 3) := by rw [er, floorE_pos hrf rfl hW, if_neg (by omega)]
      rw [hr]
      refine called_at (.v (.bool true)) rfl (fun w' hh => by have h := rless_any 9223372036854775808 W (some (g32, 0)) A 4 c w' (by rw [dg_2_63]; exact ro_of_blk hh (id := 32) rfl 0 4 1 (by decide)) (ro_of_row hh (id := 400) rfl) (by rw [dg_2_63]; decide) (by omega); rw [decide_eq_true h1, dg_2_63] at h; exact h) ?_
      repeat' ((conv => whnf); first | refine side2 ?_ | refine sideL2 ?_ | refine xi _ (fun _ => And.intro rfl rfl) ?_ | fail)
      refine calledQ_pure (v := .bool true) (.v (.bool true)) rfl (fun hc _ => absurd (show (!!false) = true from hc) (by decide)) ?_
      repeat' ((conv => whnf); first | refine walk (Tryz.ok ..) ?_ | (refine Cnd.mk (fun h => ?_) (fun h => ?_) <;> (first | exact cndT h (by (try dsimp only); omega) | exact cndF h (by (try dsimp only); omega) | (exfalso; simp at h; omega) | simp at h | skip)) | refine side2 ?_ | fail)
      exact done_pure rfl rfl rfl
    by_cases h2 : W < 9223372036854775808
    · have hr : r = ((W : Int), 0) := by rw [er, floorE_pos hrf rfl hW, if_pos h2]
      rw [hr]
      refine called_at (.v (.bool false)) rfl (fun w' hh => by have h := rless_any 9223372036854775808 W (some (g32, 0)) A 4 c w' (by rw [dg_2_63]; exact ro_of_blk hh (id := 32) rfl 0 4 1 (by decide)) (ro_of_row hh (id := 400) rfl) (by rw [dg_2_63]; decide) (by omega); rw [decide_eq_false h1, dg_2_63] at h; exact h) ?_
      repeat' ((conv => whnf); first | refine side2 ?_ | refine sideL2 ?_ | refine xi _ (fun _ => And.intro rfl rfl) ?_ | fail)
      refine calledQ_at (.v (.bool true)) rfl (fun _ w' hh => by have h := rless_any W 9223372036854775808 A (some (g32, 0)) c 4 w' (ro_of_row hh (id := 400) rfl) (by rw [dg_2_63]; exact ro_of_blk hh (id := 32) rfl 0 4 1 (by decide)) (by omega) (by rw [dg_2_63]; decide); rw [decide_eq_true h2, dg_2_63] at h; exact h) ?_
      repeat' ((conv => whnf); first | refine walk (Tryz.ok ..) ?_ | (refine Cnd.mk (fun h => ?_) (fun h => ?_) <;> (first | exact cndT h (by (try dsimp only); omega) | exact cndF h (by (try dsimp only); omega) | (exfalso; simp at h; omega) | simp at h | skip)) | refine side2 ?_ | refine sideL2 ?_ | fail)
      refine sat_loop (Tryz.ok ..) (α := Nat) (fun k => ([(1, .yes, .p 1 g1 0 0), (4, .yes, .o 400 A (dg b6 W).length c), (7, .yes, .v (.int .i64 (((W / b6 ^ k : Nat) : Int)))), (8, .yes, .v (.int .i64 ((k : Int) - 1)))], [(1, .blk g1 37 (frC ⟨false, fu, fd⟩)), (400, .row A 3 1 (dg b6 W).length c (iv (dg b6 W)))])) (fun k => k ≤ (dg b6 W).length) (fun k => k) (fun _ => rfl) ?_ ?_
      · refine ⟨(dg b6 W).length, Nat.le_refl _, ?_, ?_, rfl⟩
        · dsimp only
          rw [Nat.div_eq_of_lt (dg_upper b6_2 W)]
          ((repeat' (first | exact trivial | exact rfl | refine And.intro ?_ ?_)) <;> (try (conv => whnf)) <;> (try simp only [SV.real, SV.r2, SV.r1]))
        · ((repeat' (first | exact trivial | exact rfl | refine And.intro ?_ ?_)) <;> (try (conv => whnf)) <;> (try simp only [SV.real, SV.r2, SV.r1]))
      intro k hk
      by_cases hk0 : k = 0
      · subst hk0
        rw [Nat.pow_zero, Nat.div_one]
        repeat' ((conv => whnf); first | refine walk (Tryz.ok ..) ?_ | (refine Cnd.mk (fun h => ?_) (fun h => ?_) <;> (first | exact cndT h (by (try dsimp only); omega) | exact cndF h (by (try dsimp only); omega) | (exfalso; simp at h; omega) | simp at h | skip)) | fail)
        exact done_pure rfl rfl rfl
      obtain ⟨i, rfl⟩ : ∃ i, k = i + 1 := ⟨k - 1, by omega⟩
      have hwa := dg_get b6_2 i W (by omega)
      have hsp := div_split b6 W i
      have hle : W / b6 ^ i ≤ W := Nat.div_le_self _ _
      have ld : W / b6 ^ i % b6 < 65536 := Nat.mod_lt _ (by decide)
      obtain ⟨d, ed⟩ : ∃ d, d = W / b6 ^ i % b6 := ⟨_, rfl⟩
      obtain ⟨P, eP⟩ : ∃ d, d = W / b6 ^ (i + 1) := ⟨_, rfl⟩
      obtain ⟨Q, eQ⟩ : ∃ d, d = W / b6 ^ i := ⟨_, rfl⟩
      rw [← ed] at hwa hsp ld
      rw [← eP] at hsp ⊢
      rw [← eQ] at hsp hle
      have hsp : Q = 65536 * P + d := hsp
      repeat' ((conv => whnf); first | refine walk (Tryz.ok ..) ?_ | (refine Cnd.mk (fun h => ?_) (fun h => ?_) <;> (first | exact cndT h (by (try dsimp only); omega) | exact cndF h (by (try dsimp only); omega) | (exfalso; simp at h; omega) | simp at h | skip)) | refine side2 ?_ | refine sideL2 ?_ | refine xi _ (And.intro rfl rfl) ?_ | refine xi _ (i_at hwa (by omega)) ?_ | fail)
      refine ⟨i, ⟨by omega, by omega⟩, ?_, ?_, rfl⟩
      · dsimp only
        rw [← eQ]
        ((repeat' (first | exact trivial | exact rfl | refine And.intro ?_ ?_)) <;> (try (conv => whnf)) <;> (try simp only [SV.real, SV.r2, SV.r1]))
        all_goals exact congrArg (Value.int .i64) (by omega)
      · dsimp only
        ((repeat' (first | exact trivial | exact rfl | refine And.intro ?_ ?_)) <;> (try (conv => whnf)) <;> (try simp only [SV.real, SV.r2, SV.r1]))
    · have hr : r = (0, 3) := by rw [er, floorE_pos hrf rfl hW, if_neg h2]
      rw [hr]
      refine called_at (.v (.bool false)) rfl (fun w' hh => by have h := rless_any 9223372036854775808 W (some (g32, 0)) A 4 c w' (by rw [dg_2_63]; exact ro_of_blk hh (id := 32) rfl 0 4 1 (by decide)) (ro_of_row hh (id := 400) rfl) (by rw [dg_2_63]; decide) (by omega); rw [decide_eq_false h1, dg_2_63] at h; exact h) ?_
      repeat' ((conv => whnf); first | refine side2 ?_ | refine sideL2 ?_ | refine xi _ (fun _ => And.intro rfl rfl) ?_ | fail)
      refine calledQ_at (.v (.bool false)) rfl (fun _ w' hh => by have h := rless_any W 9223372036854775808 A (some (g32, 0)) c 4 w' (ro_of_row hh (id := 400) rfl) (by rw [dg_2_63]; exact ro_of_blk hh (id := 32) rfl 0 4 1 (by decide)) (by omega) (by rw [dg_2_63]; decide); rw [decide_eq_false h2, dg_2_63] at h; exact h) ?_
      repeat' ((conv => whnf); first | refine walk (Tryz.ok ..) ?_ | (refine Cnd.mk (fun h => ?_) (fun h => ?_) <;> (first | exact cndT h (by (try dsimp only); omega) | exact cndF h (by (try dsimp only); omega) | (exfalso; simp at h; omega) | simp at h | skip)) | refine side2 ?_ | fail)
      exact done_pure rfl rfl rfl
theorem one_len6 {V n : Nat} (h : (dg b6 V).length ≤ n) : (dg b6 (V + 1)).length ≤ n + 1 := by
  refine (dg_len b6_2 (n + 1) (V + 1)).2 ?_
  have h1 := (dg_len b6_2 n V).1 h
  have hp : 1 ≤ b6 ^ n := Nat.pow_pos (by decide)
  have : b6 ^ (n + 1) = b6 ^ n * 65536 := Nat.pow_succ ..
  omega
set_option maxRecDepth 100000 in
set_option maxHeartbeats 8000000 in
theorem rfloor_neg (f : Fr) (w : World) (hf : Big f) (hrf : rightF f = true) (hd0 : 0 < f.den) (hng : f.neg = true) (hn0 : f.num ≠ 0) :
    Calls Tryz.prog 32 #[frV f] w fun e w' => e = .returned (.tuple #[.int .i64 (floorE f).1, .int .i64 (floorE f).2]) ∧ Below w.heap.size w w' := by
  have hn := dg_big6 hf.num
  have hd := dg_big6 hf.den
  have lf := frC_len f
  obtain ⟨r, er⟩ : ∃ r, r = floorE f := ⟨_, rfl⟩
  rw [← er]
  refine calls_sat (cx := Tryz.cx 71 [3] [] [] w) (Tryz.ok ..) Tryz.func32 rfl [.a (frC f)] rfl (by show 1 ≤ 71; omega) [] (holds_nil (Nat.le_refl _)) ?_
  repeat' ((conv => whnf); first | refine walk (Tryz.ok ..) ?_ | fail)
  (conv => whnf)
  intro g1 hg1
  repeat' ((conv => whnf); first | refine walk (Tryz.ok ..) ?_ | refine side2 ?_ | fail)
  refine called_pure (.v (.bool true)) rfl (fun w' => by rw [← hrf]; exact rright_any f w' hf) ?_
  repeat' ((conv => whnf); first | refine walk (Tryz.ok ..) ?_ | (refine Cnd.mk (fun h => ?_) (fun h => ?_) <;> (first | exact cndT h (by (try dsimp only); omega) | exact cndF h (by (try dsimp only); omega) | (exfalso; simp at h; omega) | simp at h | skip)) | fail)
  refine sat_draw (Tryz.ok ..) [] [(1, .blk g1 37 (frC f))] (by kernel_rfl) (fun w hw => hw.sub ?_) ?_
  · ((repeat' (first | exact trivial | exact rfl | refine And.intro ?_ ?_)) <;> (try (conv => whnf)) <;> (try simp only [SV.real, SV.r2, SV.r1]))
  repeat' ((conv => whnf); first | refine side2 ?_ | fail)
  refine called_row 15 (xs := iv (dg b6 f.num)) (m := (dg b6 f.num).length) (fun v => v) (fun A cap => .o 15 A (dg b6 f.num).length cap) (fun _ _ => rfl) (fun w' hh => by exact rdig_num f w' hf) ?_
  intro A15 c15
  repeat' ((conv => whnf); first | refine kp ?_ ?_ | exact trivial | refine side2 ?_ | fail)
  refine called_row 18 (xs := iv (dg b6 f.den)) (m := (dg b6 f.den).length) (fun v => v) (fun A cap => .o 18 A (dg b6 f.den).length cap) (fun _ _ => rfl) (fun w' hh => by exact rdig_den f w' hf) ?_
  intro A18 c18
  repeat' ((conv => whnf); first | refine kp ?_ ?_ | exact trivial | refine side2 ?_ | fail)
  rcases Nat.lt_or_ge f.num f.den with hlt | hlt
  · have hr0 : f.num % f.den ≠ 0 := by rw [Nat.mod_eq_of_lt hlt]; exact hn0
    have hl5 : 0 < (dg b6 f.num).length := Nat.pos_of_ne_zero fun h => hn0 (len_zero.1 h)
    refine called_row 400 (xs := iv (dg b6 (f.num / f.den))) (m := (dg b6 (f.num / f.den)).length) (fun v => .tuple #[v, .slice (adr A15) (dg b6 f.num).length c15]) (fun A cap => .t [.o 400 A (dg b6 (f.num / f.den)).length cap, .o 15 A15 (dg b6 f.num).length c15]) (fun _ _ => rfl) (fun w' hh => rdiv_less2 f.num f.den A15 A18 c15 c18 w' hlt (ro_of_row hh (id := 15) rfl) (ro_of_row hh (id := 18) rfl) (by omega) (by omega)) ?_
    intro A c
    have hql : (dg b6 (f.num / f.den)).length ≤ 16 := Nat.le_trans (len_le b6_2 (Nat.div_le_self _ _)) hn
    obtain ⟨V, eV⟩ : ∃ W, W = f.num / f.den := ⟨_, rfl⟩
    rw [← eV] at hql ⊢
    obtain ⟨fn, fu, fd⟩ := f
    dsimp only at *
    subst hng
    repeat' ((conv => whnf); first | refine walk (Tryz.ok ..) ?_ | (refine Cnd.mk (fun h => ?_) (fun h => ?_) <;> (first | exact cndT h (by (try dsimp only); omega) | exact cndF h (by (try dsimp only); omega) | (exfalso; simp at h; omega) | simp at h | skip)) | refine kp ?_ ?_ | exact trivial | refine side2 ?_ | refine xi _ (And.intro rfl rfl) ?_ | fail)
    (conv => whnf)
    intro g30 hg30
    skip
    refine called_row 402 (xs := iv (dg b6 (V + 1))) (m := (dg b6 (V + 1)).length) (fun v => v) (fun A cap => .o 402 A (dg b6 (V + 1)).length cap) (fun _ _ => rfl) (fun w' hh => by have h := radd_any V 1 A (some (g30, 0)) c 1 w' (ro_of_row hh (id := 400) rfl) (by rw [dg6_one]; exact ro_of_blk hh (id := 30) rfl 0 1 1 (by decide)) (by omega) (by rw [dg6_one]; decide); rw [dg6_one] at h; exact h) ?_
    intro B cB
    have hal := one_len6 hql
    have hW : V + 1 = wholeF ⟨true, fu, fd⟩ := by rw [eV]; unfold wholeF; rw [if_pos ⟨rfl, hr0⟩]
    obtain ⟨W, eW⟩ : ∃ W, W = V + 1 := ⟨_, rfl⟩
    rw [← eW] at hal hW ⊢
    repeat' ((conv => whnf); first | refine walk (Tryz.ok ..) ?_ | fail)
    (conv => whnf)
    intro g32 hg32
    repeat' ((conv => whnf); first | refine walk (Tryz.ok ..) ?_ | fail)
    by_cases h1 : 9223372036854775808 < W
    · have hr : r = (0, 3) := by rw [er, floorE_neg hrf rfl hW, if_neg (by omega)]
      rw [hr]
      refine called_at (.v (.bool true)) rfl (fun w' hh => by have h := rless_any 9223372036854775808 W (some (g32, 0)) B 4 cB w' (by rw [dg_2_63]; exact ro_of_blk hh (id := 32) rfl 0 4 1 (by decide)) (ro_of_row hh (id := 402) rfl) (by rw [dg_2_63]; decide) (by omega); rw [decide_eq_true h1, dg_2_63] at h; exact h) ?_
      repeat' ((conv => whnf); first | refine side2 ?_ | refine sideL2 ?_ | refine xi _ (fun _ => And.intro rfl rfl) ?_ | fail)
      refine calledQ_pure (v := .bool true) (.v (.bool true)) rfl (fun hc _ => absurd (show (!!false) = true from hc) (by decide)) ?_
      repeat' ((conv => whnf); first | refine walk (Tryz.ok ..) ?_ | (refine Cnd.mk (fun h => ?_) (fun h => ?_) <;> (first | exact cndT h (by (try dsimp only); omega) | exact cndF h (by (try dsimp only); omega) | (exfalso; simp at h; omega) | simp at h | skip)) | refine side2 ?_ | fail)
      exact done_pure rfl rfl rfl
    have hr : r = (-(W : Int), 0) := by rw [er, floorE_neg hrf rfl hW, if_pos (by omega)]
    rw [hr]
    refine called_at (.v (.bool false)) rfl (fun w' hh => by have h := rless_any 9223372036854775808 W (some (g32, 0)) B 4 cB w' (by rw [dg_2_63]; exact ro_of_blk hh (id := 32) rfl 0 4 1 (by decide)) (ro_of_row hh (id := 402) rfl) (by rw [dg_2_63]; decide) (by omega); rw [decide_eq_false h1, dg_2_63] at h; exact h) ?_
    repeat' ((conv => whnf); first | refine side2 ?_ | refine sideL2 ?_ | refine xi _ (fun _ => And.intro rfl rfl) ?_ | fail)
    refine calledQ_pure (v := .bool true) (.v (.bool true)) rfl (fun hc _ => absurd (show (!!false) = true from hc) (by decide)) ?_
    repeat' ((conv => whnf); first | refine walk (Tryz.ok ..) ?_ | (refine Cnd.mk (fun h => ?_) (fun h => ?_) <;> (first | exact cndT h (by (try dsimp only); omega) | exact cndF h (by (try dsimp only); omega) | (exfalso; simp at h; omega) | simp at h | skip)) | refine side2 ?_ | refine sideL2 ?_ | fail)
    refine sat_loop (Tryz.ok ..) (α := Nat) (fun k => ([(1, .yes, .p 1 g1 0 0), (4, .yes, .o 402 B (dg b6 W).length cB), (7, .yes, .v (.int .i64 (-((W / b6 ^ k : Nat) : Int)))), (8, .yes, .v (.int .i64 ((k : Int) - 1)))], [(1, .blk g1 37 (frC ⟨true, fu, fd⟩)), (402, .row B 3 1 (dg b6 W).length cB (iv (dg b6 W)))])) (fun k => k ≤ (dg b6 W).length) (fun k => k) (fun _ => rfl) ?_ ?_
    · refine ⟨(dg b6 W).length, Nat.le_refl _, ?_, ?_, rfl⟩
      · dsimp only
        rw [Nat.div_eq_of_lt (dg_upper b6_2 W)]
        ((repeat' (first | exact trivial | exact rfl | refine And.intro ?_ ?_)) <;> (try (conv => whnf)) <;> (try simp only [SV.real, SV.r2, SV.r1]))
      · ((repeat' (first | exact trivial | exact rfl | refine And.intro ?_ ?_)) <;> (try (conv => whnf)) <;> (try simp only [SV.real, SV.r2, SV.r1]))
    intro k hk
    by_cases hk0 : k = 0
    · subst hk0
      rw [Nat.pow_zero, Nat.div_one]
      repeat' ((conv => whnf); first | refine walk (Tryz.ok ..) ?_ | (refine Cnd.mk (fun h => ?_) (fun h => ?_) <;> (first | exact cndT h (by (try dsimp only); omega) | exact cndF h (by (try dsimp only); omega) | (exfalso; simp at h; omega) | simp at h | skip)) | fail)
      exact done_pure rfl rfl rfl
    obtain ⟨i, rfl⟩ : ∃ i, k = i + 1 := ⟨k - 1, by omega⟩
    have hwa := dg_get b6_2 i W (by omega)
    have hsp := div_split b6 W i
    have hle : W / b6 ^ i ≤ W := Nat.div_le_self _ _
    have ld : W / b6 ^ i % b6 < 65536 := Nat.mod_lt _ (by decide)
    obtain ⟨d, ed⟩ : ∃ d, d = W / b6 ^ i % b6 := ⟨_, rfl⟩
    obtain ⟨P, eP⟩ : ∃ d, d = W / b6 ^ (i + 1) := ⟨_, rfl⟩
    obtain ⟨Q, eQ⟩ : ∃ d, d = W / b6 ^ i := ⟨_, rfl⟩
    rw [← ed] at hwa hsp ld
    rw [← eP] at hsp ⊢
    rw [← eQ] at hsp hle
    have hsp : Q = 65536 * P + d := hsp
    repeat' ((conv => whnf); first | refine walk (Tryz.ok ..) ?_ | (refine Cnd.mk (fun h => ?_) (fun h => ?_) <;> (first | exact cndT h (by (try dsimp only); omega) | exact cndF h (by (try dsimp only); omega) | (exfalso; simp at h; omega) | simp at h | skip)) | refine side2 ?_ | refine sideL2 ?_ | refine xi _ (And.intro rfl rfl) ?_ | refine xi _ (i_at hwa (by omega)) ?_ | fail)
    refine ⟨i, ⟨by omega, by omega⟩, ?_, ?_, rfl⟩
    · dsimp only
      rw [← eQ]
      ((repeat' (first | exact trivial | exact rfl | refine And.intro ?_ ?_)) <;> (try (conv => whnf)) <;> (try simp only [SV.real, SV.r2, SV.r1]))
      all_goals exact congrArg (Value.int .i64) (by omega)
    · dsimp only
      ((repeat' (first | exact trivial | exact rfl | refine And.intro ?_ ?_)) <;> (try (conv => whnf)) <;> (try simp only [SV.real, SV.r2, SV.r1]))
  · by_cases hr0 : f.num % f.den = 0
    · have hl5 : (dg b6 (f.num % f.den)).length = 0 := len_zero.2 hr0
      refine called_row2 400 401 (m1 := (dg b6 (f.num / f.den)).length) (m2 := (dg b6 (f.num % f.den)).length) (xs1 := iv (dg b6 (f.num / f.den))) (xs2 := iv (dg b6 (f.num % f.den))) (fun v u => .tuple #[v, u]) (fun A c A' c' => .t [.o 400 A (dg b6 (f.num / f.den)).length c, .o 401 A' (dg b6 (f.num % f.den)).length c']) (fun _ _ _ _ => rfl) (fun w' hh => rdiv_any f.num f.den A15 A18 c15 c18 w' (by omega) hd0 (ro_of_row hh (id := 15) rfl) (ro_of_row hh (id := 18) rfl) (by omega) (row_cap6 hh (id := 15) rfl)) ?_
      intro A c A' c'
      have hql : (dg b6 (f.num / f.den)).length ≤ 16 := Nat.le_trans (len_le b6_2 (Nat.div_le_self _ _)) hn
      obtain ⟨V, eV⟩ : ∃ W, W = f.num / f.den := ⟨_, rfl⟩
      rw [← eV] at hql ⊢
      have hW : V = wholeF f := by rw [eV]; unfold wholeF; rw [if_neg (fun h => h.2 hr0)]
      obtain ⟨W, eW⟩ : ∃ W, W = V := ⟨_, rfl⟩
      rw [← eW] at hql hW ⊢
      obtain ⟨fn, fu, fd⟩ := f
      dsimp only at *
      subst hng
      repeat' ((conv => whnf); first | refine walk (Tryz.ok ..) ?_ | (refine Cnd.mk (fun h => ?_) (fun h => ?_) <;> (first | exact cndT h (by (try dsimp only); omega) | exact cndF h (by (try dsimp only); omega) | (exfalso; simp at h; omega) | simp at h | skip)) | refine kp ?_ ?_ | exact trivial | refine side2 ?_ | refine xi _ (And.intro rfl rfl) ?_ | fail)
      (conv => whnf)
      intro g32 hg32
      repeat' ((conv => whnf); first | refine walk (Tryz.ok ..) ?_ | fail)
      by_cases h1 : 9223372036854775808 < W
      · have hr : r = (0, 3) := by rw [er, floorE_neg hrf rfl hW, if_neg (by omega)]
        rw [hr]
        refine called_at (.v (.bool true)) rfl (fun w' hh => by have h := rless_any 9223372036854775808 W (some (g32, 0)) A 4 c w' (by rw [dg_2_63]; exact ro_of_blk hh (id := 32) rfl 0 4 1 (by decide)) (ro_of_row hh (id := 400) rfl) (by rw [dg_2_63]; decide) (by omega); rw [decide_eq_true h1, dg_2_63] at h; exact h) ?_
        repeat' ((conv => whnf); first | refine side2 ?_ | refine sideL2 ?_ | refine xi _ (fun _ => And.intro rfl rfl) ?_ | fail)
        refine calledQ_pure (v := .bool true) (.v (.bool true)) rfl (fun hc _ => absurd (show (!!false) = true from hc) (by decide)) ?_
        repeat' ((conv => whnf); first | refine walk (Tryz.ok ..) ?_ | (refine Cnd.mk (fun h => ?_) (fun h => ?_) <;> (first | exact cndT h (by (try dsimp only); omega) | exact cndF h (by (try dsimp only); omega) | (exfalso; simp at h; omega) | simp at h | skip)) | refine side2 ?_ | fail)
        exact done_pure rfl rfl rfl
      have hr : r = (-(W : Int), 0) := by rw [er, floorE_neg hrf rfl hW, if_pos (by omega)]
      rw [hr]
      refine called_at (.v (.bool false)) rfl (fun w' hh => by have h := rless_any 9223372036854775808 W (some (g32, 0)) A 4 c w' (by rw [dg_2_63]; exact ro_of_blk hh (id := 32) rfl 0 4 1 (by decide)) (ro_of_row hh (id := 400) rfl) (by rw [dg_2_63]; decide) (by omega); rw [decide_eq_false h1, dg_2_63] at h; exact h) ?_
      repeat' ((conv => whnf); first | refine side2 ?_ | refine sideL2 ?_ | refine xi _ (fun _ => And.intro rfl rfl) ?_ | fail)
      refine calledQ_pure (v := .bool true) (.v (.bool true)) rfl (fun hc _ => absurd (show (!!false) = true from hc) (by decide)) ?_
      repeat' ((conv => whnf); first | refine walk (Tryz.ok ..) ?_ | (refine Cnd.mk (fun h => ?_) (fun h => ?_) <;> (first | exact cndT h (by (try dsimp only); omega) | exact cndF h (by (try dsimp only); omega) | (exfalso; simp at h; omega) | simp at h | skip)) | refine side2 ?_ | refine sideL2 ?_ | fail)
      refine sat_loop (Tryz.ok ..) (α := Nat) (fun k => ([(1, .yes, .p 1 g1 0 0), (4, .yes, .o 400 A (dg b6 W).length c), (7, .yes, .v (.int .i64 (-((W / b6 ^ k : Nat) : Int)))), (8, .yes, .v (.int .i64 ((k : Int) - 1)))], [(1, .blk g1 37 (frC ⟨true, fu, fd⟩)), (400, .row A 3 1 (dg b6 W).length c (iv (dg b6 W)))])) (fun k => k ≤ (dg b6 W).length) (fun k => k) (fun _ => rfl) ?_ ?_
      · refine ⟨(dg b6 W).length, Nat.le_refl _, ?_, ?_, rfl⟩
        · dsimp only
          rw [Nat.div_eq_of_lt (dg_upper b6_2 W)]
          ((repeat' (first | exact trivial | exact rfl | refine And.intro ?_ ?_)) <;> (try (conv => whnf)) <;> (try simp only [SV.real, SV.r2, SV.r1]))
        · ((repeat' (first | exact trivial | exact rfl | refine And.intro ?_ ?_)) <;> (try (conv => whnf)) <;> (try simp only [SV.real, SV.r2, SV.r1]))
      intro k hk
      by_cases hk0 : k = 0
      · subst hk0
        rw [Nat.pow_zero, Nat.div_one]
        repeat' ((conv => whnf); first | refine walk (Tryz.ok ..) ?_ | (refine Cnd.mk (fun h => ?_) (fun h => ?_) <;> (first | exact cndT h (by (try dsimp only); omega) | exact cndF h (by (try dsimp only); omega) | (exfalso; simp at h; omega) | simp at h | skip)) | fail)
        exact done_pure rfl rfl rfl
      obtain ⟨i, rfl⟩ : ∃ i, k = i + 1 := ⟨k - 1, by omega⟩
      have hwa := dg_get b6_2 i W (by omega)
      have hsp := div_split b6 W i
      have hle : W / b6 ^ i ≤ W := Nat.div_le_self _ _
      have ld : W / b6 ^ i % b6 < 65536 := Nat.mod_lt _ (by decide)
      obtain ⟨d, ed⟩ : ∃ d, d = W / b6 ^ i % b6 := ⟨_, rfl⟩
      obtain ⟨P, eP⟩ : ∃ d, d = W / b6 ^ (i + 1) := ⟨_, rfl⟩
      obtain ⟨Q, eQ⟩ : ∃ d, d = W / b6 ^ i := ⟨_, rfl⟩
      rw [← ed] at hwa hsp ld
      rw [← eP] at hsp ⊢
      rw [← eQ] at hsp hle
      have hsp : Q = 65536 * P + d := hsp
      repeat' ((conv => whnf); first | refine walk (Tryz.ok ..) ?_ | (refine Cnd.mk (fun h => ?_) (fun h => ?_) <;> (first | exact cndT h (by (try dsimp only); omega) | exact cndF h (by (try dsimp only); omega) | (exfalso; simp at h; omega) | simp at h | skip)) | refine side2 ?_ | refine sideL2 ?_ | refine xi _ (And.intro rfl rfl) ?_ | refine xi _ (i_at hwa (by omega)) ?_ | fail)
      refine ⟨i, ⟨by omega, by omega⟩, ?_, ?_, rfl⟩
      · dsimp only
        rw [← eQ]
        ((repeat' (first | exact trivial | exact rfl | refine And.intro ?_ ?_)) <;> (try (conv => whnf)) <;> (try simp only [SV.real, SV.r2, SV.r1]))
        all_goals exact congrArg (Value.int .i64) (by omega)
      · dsimp only
        ((repeat' (first | exact trivial | exact rfl | refine And.intro ?_ ?_)) <;> (try (conv => whnf)) <;> (try simp only [SV.real, SV.r2, SV.r1]))
    · have hl5 : 0 < (dg b6 (f.num % f.den)).length := Nat.pos_of_ne_zero fun h => hr0 (len_zero.1 h)
      refine called_row2 400 401 (m1 := (dg b6 (f.num / f.den)).length) (m2 := (dg b6 (f.num % f.den)).length) (xs1 := iv (dg b6 (f.num / f.den))) (xs2 := iv (dg b6 (f.num % f.den))) (fun v u => .tuple #[v, u]) (fun A c A' c' => .t [.o 400 A (dg b6 (f.num / f.den)).length c, .o 401 A' (dg b6 (f.num % f.den)).length c']) (fun _ _ _ _ => rfl) (fun w' hh => rdiv_any f.num f.den A15 A18 c15 c18 w' (by omega) hd0 (ro_of_row hh (id := 15) rfl) (ro_of_row hh (id := 18) rfl) (by omega) (row_cap6 hh (id := 15) rfl)) ?_
      intro A c A' c'
      have hql : (dg b6 (f.num / f.den)).length ≤ 16 := Nat.le_trans (len_le b6_2 (Nat.div_le_self _ _)) hn
      obtain ⟨V, eV⟩ : ∃ W, W = f.num / f.den := ⟨_, rfl⟩
      rw [← eV] at hql ⊢
      obtain ⟨fn, fu, fd⟩ := f
      dsimp only at *
      subst hng
      repeat' ((conv => whnf); first | refine walk (Tryz.ok ..) ?_ | (refine Cnd.mk (fun h => ?_) (fun h => ?_) <;> (first | exact cndT h (by (try dsimp only); omega) | exact cndF h (by (try dsimp only); omega) | (exfalso; simp at h; omega) | simp at h | skip)) | refine kp ?_ ?_ | exact trivial | refine side2 ?_ | refine xi _ (And.intro rfl rfl) ?_ | fail)
      (conv => whnf)
      intro g30 hg30
      skip
      refine called_row 402 (xs := iv (dg b6 (V + 1))) (m := (dg b6 (V + 1)).length) (fun v => v) (fun A cap => .o 402 A (dg b6 (V + 1)).length cap) (fun _ _ => rfl) (fun w' hh => by have h := radd_any V 1 A (some (g30, 0)) c 1 w' (ro_of_row hh (id := 400) rfl) (by rw [dg6_one]; exact ro_of_blk hh (id := 30) rfl 0 1 1 (by decide)) (by omega) (by rw [dg6_one]; decide); rw [dg6_one] at h; exact h) ?_
      intro B cB
      have hal := one_len6 hql
      have hW : V + 1 = wholeF ⟨true, fu, fd⟩ := by rw [eV]; unfold wholeF; rw [if_pos ⟨rfl, hr0⟩]
      obtain ⟨W, eW⟩ : ∃ W, W = V + 1 := ⟨_, rfl⟩
      rw [← eW] at hal hW ⊢
      repeat' ((conv => whnf); first | refine walk (Tryz.ok ..) ?_ | fail)
      (conv => whnf)
      intro g32 hg32
      repeat' ((conv => whnf); first | refine walk (Tryz.ok ..) ?_ | fail)
      by_cases h1 : 9223372036854775808 < W
      · have hr : r = (0, 3) := by rw [er, floorE_neg hrf rfl hW, if_neg (by omega)]
        rw [hr]
        refine called_at (.v (.bool true)) rfl (fun w' hh => by have h := rless_any 9223372036854775808 W (some (g32, 0)) B 4 cB w' (by rw [dg_2_63]; exact ro_of_blk hh (id := 32) rfl 0 4 1 (by decide)) (ro_of_row hh (id := 402) rfl) (by rw [dg_2_63]; decide) (by omega); rw [decide_eq_true h1, dg_2_63] at h; exact h) ?_
        repeat' ((conv => whnf); first | refine side2 ?_ | refine sideL2 ?_ | refine xi _ (fun _ => And.intro rfl rfl) ?_ | fail)
        refine calledQ_pure (v := .bool true) (.v (.bool true)) rfl (fun hc _ => absurd (show (!!false) = true from hc) (by decide)) ?_
        repeat' ((conv => whnf); first | refine walk (Tryz.ok ..) ?_ | (refine Cnd.mk (fun h => ?_) (fun h => ?_) <;> (first | exact cndT h (by (try dsimp only); omega) | exact cndF h (by (try dsimp only); omega) | (exfalso; simp at h; omega) | simp at h | skip)) | refine side2 ?_ | fail)
        exact done_pure rfl rfl rfl
      have hr : r = (-(W : Int), 0) := by rw [er, floorE_neg hrf rfl hW, if_pos (by omega)]
      rw [hr]
      refine called_at (.v (.bool false)) rfl (fun w' hh => by have h := rless_any 9223372036854775808 W (some (g32, 0)) B 4 cB w' (by rw [dg_2_63]; exact ro_of_blk hh (id := 32) rfl 0 4 1 (by decide)) (ro_of_row hh (id := 402) rfl) (by rw [dg_2_63]; decide) (by omega); rw [decide_eq_false h1, dg_2_63] at h; exact h) ?_
      repeat' ((conv => whnf); first | refine side2 ?_ | refine sideL2 ?_ | refine xi _ (fun _ => And.intro rfl rfl) ?_ | fail)
      refine calledQ_pure (v := .bool true) (.v (.bool true)) rfl (fun hc _ => absurd (show (!!false) = true from hc) (by decide)) ?_
      repeat' ((conv => whnf); first | refine walk (Tryz.ok ..) ?_ | (refine Cnd.mk (fun h => ?_) (fun h => ?_) <;> (first | exact cndT h (by (try dsimp only); omega) | exact cndF h (by (try dsimp only); omega) | (exfalso; simp at h; omega) | simp at h | skip)) | refine side2 ?_ | refine sideL2 ?_ | fail)
      refine sat_loop (Tryz.ok ..) (α := Nat) (fun k => ([(1, .yes, .p 1 g1 0 0), (4, .yes, .o 402 B (dg b6 W).length cB), (7, .yes, .v (.int .i64 (-((W / b6 ^ k : Nat) : Int)))), (8, .yes, .v (.int .i64 ((k : Int) - 1)))], [(1, .blk g1 37 (frC ⟨true, fu, fd⟩)), (402, .row B 3 1 (dg b6 W).length cB (iv (dg b6 W)))])) (fun k => k ≤ (dg b6 W).length) (fun k => k) (fun _ => rfl) ?_ ?_
      · refine ⟨(dg b6 W).length, Nat.le_refl _, ?_, ?_, rfl⟩
        · dsimp only
          rw [Nat.div_eq_of_lt (dg_upper b6_2 W)]
          ((repeat' (first | exact trivial | exact rfl | refine And.intro ?_ ?_)) <;> (try (conv => whnf)) <;> (try simp only [SV.real, SV.r2, SV.r1]))
        · ((repeat' (first | exact trivial | exact rfl | refine And.intro ?_ ?_)) <;> (try (conv => whnf)) <;> (try simp only [SV.real, SV.r2, SV.r1]))
      intro k hk
      by_cases hk0 : k = 0
      · subst hk0
        rw [Nat.pow_zero, Nat.div_one]
        repeat' ((conv => whnf); first | refine walk (Tryz.ok ..) ?_ | (refine Cnd.mk (fun h => ?_) (fun h => ?_) <;> (first | exact cndT h (by (try dsimp only); omega) | exact cndF h (by (try dsimp only); omega) | (exfalso; simp at h; omega) | simp at h | skip)) | fail)
        exact done_pure rfl rfl rfl
      obtain ⟨i, rfl⟩ : ∃ i, k = i + 1 := ⟨k - 1, by omega⟩
      have hwa := dg_get b6_2 i W (by omega)
      have hsp := div_split b6 W i
      have hle : W / b6 ^ i ≤ W := Nat.div_le_self _ _
      have ld : W / b6 ^ i % b6 < 65536 := Nat.mod_lt _ (by decide)
      obtain ⟨d, ed⟩ : ∃ d, d = W / b6 ^ i % b6 := ⟨_, rfl⟩
      obtain ⟨P, eP⟩ : ∃ d, d = W / b6 ^ (i + 1) := ⟨_, rfl⟩
      obtain ⟨Q, eQ⟩ : ∃ d, d = W / b6 ^ i := ⟨_, rfl⟩
      rw [← ed] at hwa hsp ld
      rw [← eP] at hsp ⊢
      rw [← eQ] at hsp hle
      have hsp : Q = 65536 * P + d := hsp
      repeat' ((conv => whnf); first | refine walk (Tryz.ok ..) ?_ | (refine Cnd.mk (fun h => ?_) (fun h => ?_) <;> (first | exact cndT h (by (try dsimp only); omega) | exact cndF h (by (try dsimp only); omega) | (exfalso; simp at h; omega) | simp at h | skip)) | refine side2 ?_ | refine sideL2 ?_ | refine xi _ (And.intro rfl rfl) ?_ | refine xi _ (i_at hwa (by omega)) ?_ | fail)
      refine ⟨i, ⟨by omega, by omega⟩, ?_, ?_, rfl⟩
      · dsimp only
        rw [← eQ]
        ((repeat' (first | exact trivial | exact rfl | refine And.intro ?_ ?_)) <;> (try (conv => whnf)) <;> (try simp only [SV.real, SV.r2, SV.r1]))
        all_goals exact congrArg (Value.int .i64) (by omega)
      · dsimp only
        ((repeat' (first | exact trivial | exact rfl | refine And.intro ?_ ?_)) <;> (try (conv => whnf)) <;> (try simp only [SV.real, SV.r2, SV.r1]))
set_option maxRecDepth 100000 in
set_option maxHeartbeats 8000000 in
theorem rfloor_any (f : Fr) (w : World) (hf : Big f) :
    Calls Tryz.prog 32 #[frV f] w fun e w' => e = .returned (.tuple #[.int .i64 (floorE f).1, .int .i64 (floorE f).2]) ∧ Below w.heap.size w w' := by
  by_cases hrf : rightF f = true
  · have hd0 : 0 < f.den := by
      rcases Nat.eq_zero_or_pos f.den with h | h
      · unfold rightF at hrf
        rw [h] at hrf
        simp at hrf
      · exact h
    cases hng : f.neg
    · exact rfloor_pos f w hf hrf hd0 hng
    · refine rfloor_neg f w hf hrf hd0 hng fun h => ?_
      unfold rightF at hrf
      rw [h, hng] at hrf
      simp at hrf
  · have hrf2 : rightF f = false := by simpa using hrf
    have lf := frC_len f
    rw [floor_no hrf2]
    refine calls_sat (cx := Tryz.cx 71 [3] [] [] w) (Tryz.ok ..) Tryz.func32 rfl [.a (frC f)] rfl (by show 1 ≤ 71; omega) [] (holds_nil (Nat.le_refl _)) ?_
    repeat' ((conv => whnf); first | refine walk (Tryz.ok ..) ?_ | fail)
    (conv => whnf)
    intro g1 hg1
    repeat' ((conv => whnf); first | refine walk (Tryz.ok ..) ?_ | refine side2 ?_ | fail)
    refine called_pure (.v (.bool false)) rfl (fun w' => by rw [← hrf2]; exact rright_any f w' hf) ?_
    repeat' ((conv => whnf); first | refine walk (Tryz.ok ..) ?_ | (refine Cnd.mk (fun h => ?_) (fun h => ?_) <;> (first | exact cndT h (by (try dsimp only); omega) | exact cndF h (by (try dsimp only); omega) | (exfalso; simp at h; omega) | simp at h | skip)) | fail)
    exact done_pure rfl rfl rfl
end Go.Proofs.YtmekcdjaafegaaaGreatDoor
