/-
  The law HydroTurns, walked.
-/
import Derived.Test.YtomhfakkebaciaaH19
import Derived.Test.YtomhfakkebaciaaH24
set_option linter.unusedSimpArgs false
set_option linter.unusedVariables false
namespace Go.Proofs.Ytomhfakkebaciaa
open Go Sat Go.RowKit Go.PlainAid
/-- the cells of values whose draught is X -/
structure Vals (C : List SV) (X : Fr) : Prop where
  len : C.length = 68
  all : allV (C.map SV.r1) = true
  fst : List.take 17 (List.drop 0 C) = frC X
theorem at_vals {l : List HRow} {x : Int} {X : Fr} (h : ∃ b c d, atH l x = ([X, b, c, d], 0)) (hl : l.length ≤ 9223372036854775807) (hx : I64 x) : ∃ C, Vals C X ∧ ∀ A cap w, Ro w A l.length 5 (rwL l) →
    Calls Try.prog 17 #[.slice (adr A) l.length cap, .int .i64 x] w fun e w' => e = .returned (.tuple #[(SV.a C).real, .int .i64 0]) ∧ Below w.heap.size w w' := by
  obtain ⟨b, c, d, h⟩ := h
  refine ⟨v4C [X, b, c, d], ⟨v4_len _, v4_all _, v4_at (i := 0) rfl⟩, fun A cap w hA => ?_⟩
  have := at_any l x A cap w hA hl hx
  rw [h] at this
  exact this
set_option maxRecDepth 100000 in
set_option maxHeartbeats 16000000 in
theorem hydroTurns_any (l0 : List St) (one two part of : Int) (A : Option (Nat × Nat)) (cap : Nat) (w : World) (hA : Ro w A l0.length 5 (stL l0)) (hok : ∀ x ∈ l0, StOk x) (hl : l0.length ≤ 9223372036854775807) (hc : l0.length ≤ cap) (h1 : 0 ≤ one ∧ one ≤ 4294967295) (h2 : 0 ≤ two ∧ two ≤ 4294967295) (h3 : 0 ≤ part ∧ part ≤ 4294967295) (h4 : 0 ≤ of ∧ of ≤ 255) :
    Calls Try.prog 8 #[.slice (adr A) l0.length cap, .int .u32 one, .int .u32 two, .int .u32 part, .int .u8 of] w fun e w' => e = .returned (.bool true) ∧ Below w.heap.size w w' := by
  refine calls_sat (cx := Try.cx 218 [12, 13] [] [] w) (Try.ok ..) Try.func8 rfl [.o 300 A l0.length cap, .v (.int .u32 one), .v (.int .u32 two), .v (.int .u32 part), .v (.int .u8 of)] rfl (by show 5 ≤ 218; omega) [(300, .ro A l0.length 5 (stL l0))] (holds_ros rfl rfl ⟨hA, trivial⟩) ?_
  repeat' ((conv => whnf); first | refine walk (Try.ok ..) ?_ | (refine Cnd.mk (fun h => ?_) (fun h => ?_) <;> (first | exact cndT h (by (try dsimp only); omega) | exact cndF h (by (try dsimp only); omega) | (exfalso; simp at h; omega) | simp at h | skip)) | refine kp ?_ ?_ | refine tw ?_ ?_ | exact trivial | refine side2 ?_ | refine sideL2 ?_ | refine Or.inr ?_ | refine sat_drawH (Try.ok ..) (by kernel_rfl) ?_ | refine xi _ (And.intro rfl rfl) ?_ | refine xi _ (fun _ => And.intro rfl rfl) ?_ | refine xi _ rfl ?_)
  (conv => whnf)
  refine called_pure (.v (.bool true)) rfl (fun w' => by exact hawake_any w') ?_
  repeat' ((conv => whnf); first | refine walk (Try.ok ..) ?_ | (refine Cnd.mk (fun h => ?_) (fun h => ?_) <;> (first | exact cndT h (by (try dsimp only); omega) | exact cndF h (by (try dsimp only); omega) | (exfalso; simp at h; omega) | simp at h | skip)) | refine kp ?_ ?_ | refine tw ?_ ?_ | exact trivial | refine side2 ?_ | refine sideL2 ?_ | refine Or.inr ?_ | refine sat_drawH (Try.ok ..) (by kernel_rfl) ?_ | refine xi _ (And.intro rfl rfl) ?_ | refine xi _ (fun _ => And.intro rfl rfl) ?_ | refine xi _ rfl ?_)
  (conv => whnf)
  have hM := fun w' (h : Ro w' A l0.length 5 (stL l0)) => made_any l0 A cap w' h hok hl hc
  have hMr := made_right hok
  have hMl := madeH_len l0
  obtain ⟨M, eM⟩ : ∃ M, M = madeH l0 := ⟨_, rfl⟩
  rw [← eM] at hM hMr hMl
  refine called_row 34 (xs := rwL M) (m := M.length) (fun v => v) (fun A cap => .o 34 A M.length cap) (fun _ _ => rfl) (fun w' hh => by exact hM w' (ro_of_ro hh (id := 300) rfl)) ?_
  intro A9 c9
  obtain ⟨f, hf⟩ : ∃ a, M[0]? = some a := ⟨_, List.getElem?_eq_getElem (by omega)⟩
  obtain ⟨g, hg⟩ : ∃ b, M[M.length - 1]? = some b := ⟨_, List.getElem?_eq_getElem (by omega)⟩
  obtain ⟨⟨_, _⟩, ⟨_, _⟩, _, _, _⟩ := ok_row ((right_is hMr).row _ f hf)
  obtain ⟨⟨_, _⟩, ⟨_, _⟩, _, _, _⟩ := ok_row ((right_is hMr).row _ g hg)
  obtain ⟨hfgd, hfgk⟩ := (right_is hMr).lt_of (by omega) hf hg
  have hM9 : M.length ≤ 9223372036854775807 := by omega
  have hwin : ∀ n : Int, f.k ≤ withinH M n ∧ withinH M n ≤ g.k := by
    intro n
    unfold withinH
    rw [range_yes hMr hf hg]
    dsimp only
    have e1 := Int.emod_nonneg n (show g.k - f.k + 1 ≠ 0 by omega)
    have e2 := Int.emod_lt_of_pos n (show 0 < g.k - f.k + 1 by omega)
    omega
  have hW1 := fun A cap w' hA => hwithin_any M A cap one w' hA hMr h1
  have hW2 := fun A cap w' hA => hwithin_any M A cap two w' hA hMr h2
  have hx := hwin one
  have hy := hwin two
  obtain ⟨x, ex⟩ : ∃ x, x = withinH M one := ⟨_, rfl⟩
  obtain ⟨y, ey⟩ : ∃ x, x = withinH M two := ⟨_, rfl⟩
  rw [← ex] at hW1 hx
  rw [← ey] at hW2 hy
  obtain ⟨X, D, tx⟩ := turn_at hMr (x := x) (fun a ha => by rw [hf] at ha; cases ha; exact hx.1) (fun b hb => by rw [hg] at hb; cases hb; exact hx.2)
  obtain ⟨Y, E, ty⟩ := turn_at hMr (x := y) (fun a ha => by rw [hf] at ha; cases ha; exact hy.1) (fun b hb => by rw [hg] at hb; cases hb; exact hy.2)
  obtain ⟨n0, hcmp, hn0, hn1, hn2⟩ := turn_cmp tx ty
  have bX : Big X := ⟨tx.rq.big'.1, tx.rq.big'.2⟩
  have bY : Big Y := ⟨ty.rq.big'.1, ty.rq.big'.2⟩
  obtain ⟨C1, ⟨lC1, aC1, fC1⟩, hA1⟩ := at_vals tx.at_ hM9 (by refine ⟨?_, ?_⟩ <;> omega)
  obtain ⟨C2, ⟨lC2, aC2, fC2⟩, hA2⟩ := at_vals ty.at_ hM9 (by refine ⟨?_, ?_⟩ <;> omega)
  have hWx := fun A cap w' hA => weight_any M X A cap w' hA hM9 bX
  rw [tx.back] at hWx
  have hCmp := fun w' => cmpE_any X Y w' bX bY
  rw [hcmp] at hCmp
  have hRt := fun A cap w' hA => hRight_any M A cap w' hA hM9
  rw [hMr] at hRt
  have lox := frC_len (ofF x)
  repeat' ((conv => whnf); first | refine walk (Try.ok ..) ?_ | (refine Cnd.mk (fun h => ?_) (fun h => ?_) <;> (first | exact cndT h (by (try dsimp only); omega) | exact cndF h (by (try dsimp only); omega) | (exfalso; simp at h; omega) | simp at h | skip)) | refine kp ?_ ?_ | refine tw ?_ ?_ | exact trivial | refine side2 ?_ | refine sideL2 ?_ | refine Or.inr ?_ | refine sat_drawH (Try.ok ..) (by kernel_rfl) ?_ | refine xi _ (And.intro rfl rfl) ?_ | refine xi _ (fun _ => And.intro rfl rfl) ?_ | refine xi _ rfl ?_)
  (conv => whnf)
  refine called_at (.v (.int .i64 x)) rfl (fun w' hh => by exact hW1 A9 c9 w' (ro_of_row hh (id := 34) rfl)) ?_
  repeat' ((conv => whnf); first | refine walk (Try.ok ..) ?_ | (refine Cnd.mk (fun h => ?_) (fun h => ?_) <;> (first | exact cndT h (by (try dsimp only); omega) | exact cndF h (by (try dsimp only); omega) | (exfalso; simp at h; omega) | simp at h | skip)) | refine kp ?_ ?_ | refine tw ?_ ?_ | exact trivial | refine side2 ?_ | refine sideL2 ?_ | refine Or.inr ?_ | refine sat_drawH (Try.ok ..) (by kernel_rfl) ?_ | refine xi _ (And.intro rfl rfl) ?_ | refine xi _ (fun _ => And.intro rfl rfl) ?_ | refine xi _ rfl ?_)
  (conv => whnf)
  refine called_at (.v (.int .i64 y)) rfl (fun w' hh => by exact hW2 A9 c9 w' (ro_of_row hh (id := 34) rfl)) ?_
  repeat' ((conv => whnf); first | refine walk (Try.ok ..) ?_ | (refine Cnd.mk (fun h => ?_) (fun h => ?_) <;> (first | exact cndT h (by (try dsimp only); omega) | exact cndF h (by (try dsimp only); omega) | (exfalso; simp at h; omega) | simp at h | skip)) | refine kp ?_ ?_ | refine tw ?_ ?_ | exact trivial | refine side2 ?_ | refine sideL2 ?_ | refine Or.inr ?_ | refine sat_drawH (Try.ok ..) (by kernel_rfl) ?_ | refine xi _ (And.intro rfl rfl) ?_ | refine xi _ (fun _ => And.intro rfl rfl) ?_ | refine xi _ rfl ?_)
  (conv => whnf)
  refine called_at (.t [.a C1, .v (.int .i64 0)]) rfl (fun w' hh => by exact hA1 A9 c9 w' (ro_of_row hh (id := 34) rfl)) ?_
  repeat' ((conv => whnf); first | refine walk (Try.ok ..) ?_ | (refine Cnd.mk (fun h => ?_) (fun h => ?_) <;> (first | exact cndT h (by (try dsimp only); omega) | exact cndF h (by (try dsimp only); omega) | (exfalso; simp at h; omega) | simp at h | skip)) | refine kp ?_ ?_ | refine tw ?_ ?_ | exact trivial | refine side2 ?_ | refine sideL2 ?_ | refine Or.inr ?_ | refine sat_drawH (Try.ok ..) (by kernel_rfl) ?_ | refine xi _ (And.intro rfl rfl) ?_ | refine xi _ (fun _ => And.intro rfl rfl) ?_ | refine xi _ rfl ?_)
  (conv => whnf)
  intro g14 hg14
  repeat' ((conv => whnf); first | refine walk (Try.ok ..) ?_ | (refine Cnd.mk (fun h => ?_) (fun h => ?_) <;> (first | exact cndT h (by (try dsimp only); omega) | exact cndF h (by (try dsimp only); omega) | (exfalso; simp at h; omega) | simp at h | skip)) | refine kp ?_ ?_ | refine tw ?_ ?_ | exact trivial | refine side2 ?_ | refine sideL2 ?_ | refine Or.inr ?_ | refine sat_drawH (Try.ok ..) (by kernel_rfl) ?_ | refine xi _ (And.intro rfl rfl) ?_ | refine xi _ (fun _ => And.intro rfl rfl) ?_ | refine xi _ rfl ?_ | (refine And.intro ⟨rfl, lC1, lC1, aC1⟩ ?_))
  (conv => whnf)
  refine called_at (.t [.a C2, .v (.int .i64 0)]) rfl (fun w' hh => by exact hA2 A9 c9 w' (ro_of_row hh (id := 34) rfl)) ?_
  repeat' ((conv => whnf); first | refine walk (Try.ok ..) ?_ | (refine Cnd.mk (fun h => ?_) (fun h => ?_) <;> (first | exact cndT h (by (try dsimp only); omega) | exact cndF h (by (try dsimp only); omega) | (exfalso; simp at h; omega) | simp at h | skip)) | refine kp ?_ ?_ | refine tw ?_ ?_ | exact trivial | refine side2 ?_ | refine sideL2 ?_ | refine Or.inr ?_ | refine sat_drawH (Try.ok ..) (by kernel_rfl) ?_ | refine xi _ (And.intro rfl rfl) ?_ | refine xi _ (fun _ => And.intro rfl rfl) ?_ | refine xi _ rfl ?_)
  (conv => whnf)
  intro g16 hg16
  repeat' ((conv => whnf); first | refine walk (Try.ok ..) ?_ | (refine Cnd.mk (fun h => ?_) (fun h => ?_) <;> (first | exact cndT h (by (try dsimp only); omega) | exact cndF h (by (try dsimp only); omega) | (exfalso; simp at h; omega) | simp at h | skip)) | refine kp ?_ ?_ | refine tw ?_ ?_ | exact trivial | refine side2 ?_ | refine sideL2 ?_ | refine Or.inr ?_ | refine sat_drawH (Try.ok ..) (by kernel_rfl) ?_ | refine xi _ (And.intro rfl rfl) ?_ | refine xi _ (fun _ => And.intro rfl rfl) ?_ | refine xi _ rfl ?_ | (refine And.intro ⟨rfl, lC2, lC2, aC2⟩ ?_))
  (conv => whnf)
  refine called_at (.t [.a (frC (ofF x)), .v (.int .i64 0)]) rfl (fun w' hh => by rw [fC1]; exact hWx A9 c9 w' (ro_of_row hh (id := 34) rfl)) ?_
  repeat' ((conv => whnf); first | refine walk (Try.ok ..) ?_ | (refine Cnd.mk (fun h => ?_) (fun h => ?_) <;> (first | exact cndT h (by (try dsimp only); omega) | exact cndF h (by (try dsimp only); omega) | (exfalso; simp at h; omega) | simp at h | skip)) | refine kp ?_ ?_ | refine tw ?_ ?_ | exact trivial | refine side2 ?_ | refine sideL2 ?_ | refine Or.inr ?_ | refine sat_drawH (Try.ok ..) (by kernel_rfl) ?_ | refine xi _ (And.intro rfl rfl) ?_ | refine xi _ (fun _ => And.intro rfl rfl) ?_ | refine xi _ rfl ?_)
  (conv => whnf)
  intro g18 hg18
  repeat' ((conv => whnf); first | refine walk (Try.ok ..) ?_ | (refine Cnd.mk (fun h => ?_) (fun h => ?_) <;> (first | exact cndT h (by (try dsimp only); omega) | exact cndF h (by (try dsimp only); omega) | (exfalso; simp at h; omega) | simp at h | skip)) | refine kp ?_ ?_ | refine tw ?_ ?_ | exact trivial | refine side2 ?_ | refine sideL2 ?_ | refine Or.inr ?_ | refine sat_drawH (Try.ok ..) (by kernel_rfl) ?_ | refine xi _ (And.intro rfl rfl) ?_ | refine xi _ (fun _ => And.intro rfl rfl) ?_ | refine xi _ rfl ?_)
  (conv => whnf)
  refine called_pure (.t [.v (.int .i64 n0), .v (.int .i64 0)]) rfl (fun w' => by rw [fC1, fC2]; exact hCmp w') ?_
  repeat' ((conv => whnf); first | refine walk (Try.ok ..) ?_ | (refine Cnd.mk (fun h => ?_) (fun h => ?_) <;> (first | exact cndT h (by (try dsimp only); omega) | exact cndF h (by (try dsimp only); omega) | (exfalso; simp at h; omega) | simp at h | skip)) | refine kp ?_ ?_ | refine tw ?_ ?_ | exact trivial | refine side2 ?_ | refine sideL2 ?_ | refine Or.inr ?_ | refine sat_drawH (Try.ok ..) (by kernel_rfl) ?_ | refine xi _ (And.intro rfl rfl) ?_ | refine xi _ (fun _ => And.intro rfl rfl) ?_ | refine xi _ rfl ?_)
  (conv => whnf)
  refine calledQ_at (.v (.bool true)) rfl (fun _ w' hh => by exact hRt A9 c9 w' (ro_of_row hh (id := 34) rfl)) ?_
  repeat' ((conv => whnf); first | refine walk (Try.ok ..) ?_ | (refine Cnd.mk (fun h => ?_) (fun h => ?_) <;> (first | exact cndT h (by (try dsimp only); omega) | exact cndF h (by (try dsimp only); omega) | (exfalso; simp at h; omega) | simp at h | skip)) | refine kp ?_ ?_ | refine tw ?_ ?_ | exact trivial | refine side2 ?_ | refine sideL2 ?_ | refine Or.inr ?_ | refine sat_drawH (Try.ok ..) (by kernel_rfl) ?_ | refine xi _ (And.intro rfl rfl) ?_ | refine xi _ (fun _ => And.intro rfl rfl) ?_ | refine xi _ rfl ?_)
  refine calledQ_pure (.a (frC (ofF x))) rfl (fun _ w' => by exact of_frac x w' (by refine ⟨?_, ?_⟩ <;> omega)) ?_
  repeat' ((conv => whnf); first | refine walk (Try.ok ..) ?_ | (refine Cnd.mk (fun h => ?_) (fun h => ?_) <;> (first | exact cndT h (by (try dsimp only); omega) | exact cndF h (by (try dsimp only); omega) | (exfalso; simp at h; omega) | simp at h | skip)) | refine kp ?_ ?_ | refine tw ?_ ?_ | exact trivial | refine side2 ?_ | refine sideL2 ?_ | refine Or.inr ?_ | refine sat_drawH (Try.ok ..) (by kernel_rfl) ?_ | refine xi _ (And.intro rfl rfl) ?_ | refine xi _ (fun _ => And.intro rfl rfl) ?_ | refine xi _ rfl ?_)
  refine eqAgg_neq true eqgFr1 (fun w => by exact fr_same (ofF_big _) w) ?_
  repeat' ((conv => whnf); first | refine walk (Try.ok ..) ?_ | (refine Cnd.mk (fun h => ?_) (fun h => ?_) <;> (first | exact cndT h (by (try dsimp only); omega) | exact cndF h (by (try dsimp only); omega) | (exfalso; simp at h; omega) | simp at h | skip)) | refine kp ?_ ?_ | refine tw ?_ ?_ | exact trivial | refine side2 ?_ | refine sideL2 ?_ | refine Or.inr ?_ | refine xi _ (And.intro rfl rfl) ?_ | refine xi _ (fun _ => And.intro rfl rfl) ?_ | refine xi _ rfl ?_)
  obtain ⟨dd, edd, hdd⟩ : ∃ d : Int, 1 + of % 20 = d ∧ 1 ≤ d ∧ d ≤ 20 := ⟨_, rfl, by omega, by omega⟩
  (conv => whnf)
  refine sat_to ([(3, .yes, .v (.int .u32 part)), (10, .yes, .v (.bool false)), (11, .yes, .o 34 A9 M.length c9), (14, .yes, .p 14 g14 0 0), (16, .yes, .p 16 g16 0 0), (22, .yes, .v (.int .i64 dd))], [(14, .blk g14 45 C1), (16, .blk g16 45 C2), (34, .row A9 31 5 M.length c9 (rwL M))]) rfl ?_ ?_ rfl ?_
  · ((repeat' (first | exact trivial | exact rfl | refine And.intro ?_ ?_)) <;> (try (conv => whnf)) <;> (try simp only [SV.real, SV.r2, SV.r1]))
    rw [edd]
  · ((repeat' (first | exact trivial | exact rfl | refine And.intro ?_ ?_)) <;> (try (conv => whnf)) <;> (try simp only [SV.real, SV.r2, SV.r1]))
  have cf := (rw_cells hf (i := 0) rfl).2 0 (by omega)
  have cg := (rw_cells hg (i := (M.length : Int) - 1) (by omega)).2 0 (by omega)
  have hlow : 0 ≤ f.d * dd ∧ f.d * dd ≤ 1000000 := ⟨Int.mul_nonneg (by omega) (by omega), Int.le_trans (Int.mul_le_mul (b := dd) (c := 50000) (d := 20) (by omega) (by omega) (by omega) (by omega)) (by decide)⟩
  have hhigh : 0 ≤ g.d * dd ∧ g.d * dd ≤ 1000000 := ⟨Int.mul_nonneg (by omega) (by omega), Int.le_trans (Int.mul_le_mul (b := dd) (c := 50000) (d := 20) (by omega) (by omega) (by omega) (by omega)) (by decide)⟩
  have hlh : f.d * dd ≤ g.d * dd := Int.mul_le_mul_of_nonneg_right (by omega) (by omega)
  obtain ⟨u, eu⟩ : ∃ u, f.d * dd = u := ⟨_, rfl⟩
  obtain ⟨v, ev⟩ : ∃ v, g.d * dd = v := ⟨_, rfl⟩
  have hI : InR .i64 (f.d * dd) ∧ InR .i64 (g.d * dd) := by simp only [InR]; omega
  refine sat_drawH (Try.ok ..) (by kernel_rfl) ?_
  repeat' ((conv => whnf); first | refine walk (Try.ok ..) ?_ | (refine Cnd.mk (fun h => ?_) (fun h => ?_) <;> (first | exact cndT h (by (try dsimp only); omega) | exact cndF h (by (try dsimp only); omega) | (exfalso; simp at h; omega) | simp at h | skip)) | refine kp ?_ ?_ | refine tw ?_ ?_ | exact trivial | refine side2 ?_ | refine sideL2 ?_ | refine Or.inr ?_ | refine xi _ (And.intro rfl rfl) ?_ | refine xi _ (fun _ => And.intro rfl rfl) ?_ | refine xi _ rfl ?_ | refine xi _ (fun _ => cf) ?_ | refine xi _ cf ?_ | refine xi _ (fun _ => cg) ?_ | refine xi _ cg ?_)
  (conv => whnf)
  refine sat_to ([(3, .yes, .v (.int .u32 part)), (10, .yes, .v (.bool false)), (11, .yes, .o 34 A9 M.length c9), (14, .yes, .p 14 g14 0 0), (16, .yes, .p 16 g16 0 0), (22, .yes, .v (.int .i64 dd)), (23, .yes, .v (.int .i64 u)), (24, .yes, .v (.int .i64 v))], [(14, .blk g14 45 C1), (16, .blk g16 45 C2), (34, .row A9 31 5 M.length c9 (rwL M))]) rfl ?_ ?_ rfl ?_
  · ((repeat' (first | exact trivial | exact rfl | refine And.intro ?_ ?_)) <;> (try (conv => whnf)) <;> (try simp only [SV.real, SV.r2, SV.r1]))
    · rw [eu]
    · rw [ev]
  · ((repeat' (first | exact trivial | exact rfl | refine And.intro ?_ ?_)) <;> (try (conv => whnf)) <;> (try simp only [SV.real, SV.r2, SV.r1]))
  obtain ⟨num, enum, hnum⟩ : ∃ n : Int, u + part % (v - u + 1) = n ∧ u ≤ n ∧ n ≤ v := by
    have e1 := Int.emod_nonneg part (show v - u + 1 ≠ 0 by omega)
    have e2 := Int.emod_lt_of_pos part (show 0 < v - u + 1 by omega)
    exact ⟨_, rfl, by omega, by omega⟩
  have hmod : 0 ≤ part % (v - u + 1) ∧ part % (v - u + 1) ≤ 1000000 := by omega
  obtain ⟨T, n, Z, c, hD⟩ := draught_ok hMr (num := num) (dd := dd) hdd (fun a ha => by rw [hf] at ha; cases ha; omega) (fun b hb => by rw [hg] at hb; cases hb; omega)
  have bQ : Big (ratioE num dd).1 := ratio_big' _ _
  have bT : Big T := ⟨hD.right.2.1, hD.right.2.2⟩
  have hn := hD.bd
  have hQ := fun w' => hratio_any num dd w' (by refine ⟨?_, ?_⟩ <;> omega) (by refine ⟨?_, ?_⟩ <;> omega)
  have hWq := fun A cap w' hA => weight_any M (ratioE num dd).1 A cap w' hA hM9 bQ
  rw [hD.weight] at hWq
  have hFl := fun w' => floorE_any T w' bT
  rw [hD.floor] at hFl
  obtain ⟨C3, ⟨lC3, aC3, fC3⟩, hA3⟩ := at_vals hD.at_ hM9 (by refine ⟨?_, ?_⟩ <;> omega)
  have bZ : Big Z := by
    obtain ⟨b', c', d', e⟩ := hD.at_
    obtain ⟨q0, q1, q2, q3, e4, hb4⟩ := at_four M n
    rw [e] at e4
    have := hb4 Z
    simp at e4
    exact this (by rw [← e4.1]; simp)
  have hC2 := fun w' => cmpE_any Z (ratioE num dd).1 w' bZ bQ
  rw [hD.cmp] at hC2
  obtain ⟨Q, eQ⟩ : ∃ Q, Q = (ratioE num dd).1 := ⟨_, rfl⟩
  have hnext := hD.next
  rw [← eQ] at bQ hQ hWq hC2 hnext
  have lQ := frC_len Q
  have lT := frC_len T
  refine sat_ops (Try.ok ..) ?_
  repeat' ((conv => whnf); first | refine walk (Try.ok ..) ?_ | (refine Cnd.mk (fun h => ?_) (fun h => ?_) <;> (first | exact cndT h (by (try dsimp only); omega) | exact cndF h (by (try dsimp only); omega) | (exfalso; simp at h; omega) | simp at h | skip)) | refine kp ?_ ?_ | refine tw ?_ ?_ | exact trivial | refine side2 ?_ | refine sideL2 ?_ | refine Or.inr ?_ | refine sat_drawH (Try.ok ..) (by kernel_rfl) ?_ | refine xi _ (And.intro rfl rfl) ?_ | refine xi _ (fun _ => And.intro rfl rfl) ?_ | refine xi _ rfl ?_)
  (conv => whnf)
  refine called_pure (.a (frC Q)) rfl (fun w' => by rw [enum]; exact hQ w') ?_
  repeat' ((conv => whnf); first | refine walk (Try.ok ..) ?_ | (refine Cnd.mk (fun h => ?_) (fun h => ?_) <;> (first | exact cndT h (by (try dsimp only); omega) | exact cndF h (by (try dsimp only); omega) | (exfalso; simp at h; omega) | simp at h | skip)) | refine kp ?_ ?_ | refine tw ?_ ?_ | exact trivial | refine side2 ?_ | refine sideL2 ?_ | refine Or.inr ?_ | refine sat_drawH (Try.ok ..) (by kernel_rfl) ?_ | refine xi _ (And.intro rfl rfl) ?_ | refine xi _ (fun _ => And.intro rfl rfl) ?_ | refine xi _ rfl ?_)
  (conv => whnf)
  intro g25 hg25
  repeat' ((conv => whnf); first | refine walk (Try.ok ..) ?_ | (refine Cnd.mk (fun h => ?_) (fun h => ?_) <;> (first | exact cndT h (by (try dsimp only); omega) | exact cndF h (by (try dsimp only); omega) | (exfalso; simp at h; omega) | simp at h | skip)) | refine kp ?_ ?_ | refine tw ?_ ?_ | exact trivial | refine side2 ?_ | refine sideL2 ?_ | refine Or.inr ?_ | refine sat_drawH (Try.ok ..) (by kernel_rfl) ?_ | refine xi _ (And.intro rfl rfl) ?_ | refine xi _ (fun _ => And.intro rfl rfl) ?_ | refine xi _ rfl ?_)
  (conv => whnf)
  refine called_at (.t [.a (frC T), .v (.int .i64 0)]) rfl (fun w' hh => by rw [tk1]; exact hWq A9 c9 w' (ro_of_row hh (id := 34) rfl)) ?_
  repeat' ((conv => whnf); first | refine walk (Try.ok ..) ?_ | (refine Cnd.mk (fun h => ?_) (fun h => ?_) <;> (first | exact cndT h (by (try dsimp only); omega) | exact cndF h (by (try dsimp only); omega) | (exfalso; simp at h; omega) | simp at h | skip)) | refine kp ?_ ?_ | refine tw ?_ ?_ | exact trivial | refine side2 ?_ | refine sideL2 ?_ | refine Or.inr ?_ | refine sat_drawH (Try.ok ..) (by kernel_rfl) ?_ | refine xi _ (And.intro rfl rfl) ?_ | refine xi _ (fun _ => And.intro rfl rfl) ?_ | refine xi _ rfl ?_)
  (conv => whnf)
  intro g26 hg26
  repeat' ((conv => whnf); first | refine walk (Try.ok ..) ?_ | (refine Cnd.mk (fun h => ?_) (fun h => ?_) <;> (first | exact cndT h (by (try dsimp only); omega) | exact cndF h (by (try dsimp only); omega) | (exfalso; simp at h; omega) | simp at h | skip)) | refine kp ?_ ?_ | refine tw ?_ ?_ | exact trivial | refine side2 ?_ | refine sideL2 ?_ | refine Or.inr ?_ | refine sat_drawH (Try.ok ..) (by kernel_rfl) ?_ | refine xi _ (And.intro rfl rfl) ?_ | refine xi _ (fun _ => And.intro rfl rfl) ?_ | refine xi _ rfl ?_)
  (conv => whnf)
  refine called_pure (.t [.v (.int .i64 n), .v (.int .i64 0)]) rfl (fun w' => by rw [tk1]; exact hFl w') ?_
  repeat' ((conv => whnf); first | refine walk (Try.ok ..) ?_ | (refine Cnd.mk (fun h => ?_) (fun h => ?_) <;> (first | exact cndT h (by (try dsimp only); omega) | exact cndF h (by (try dsimp only); omega) | (exfalso; simp at h; omega) | simp at h | skip)) | refine kp ?_ ?_ | refine tw ?_ ?_ | exact trivial | refine side2 ?_ | refine sideL2 ?_ | refine Or.inr ?_ | refine sat_drawH (Try.ok ..) (by kernel_rfl) ?_ | refine xi _ (And.intro rfl rfl) ?_ | refine xi _ (fun _ => And.intro rfl rfl) ?_ | refine xi _ rfl ?_)
  (conv => whnf)
  refine called_at (.t [.a C3, .v (.int .i64 0)]) rfl (fun w' hh => by exact hA3 A9 c9 w' (ro_of_row hh (id := 34) rfl)) ?_
  repeat' ((conv => whnf); first | refine walk (Try.ok ..) ?_ | (refine Cnd.mk (fun h => ?_) (fun h => ?_) <;> (first | exact cndT h (by (try dsimp only); omega) | exact cndF h (by (try dsimp only); omega) | (exfalso; simp at h; omega) | simp at h | skip)) | refine kp ?_ ?_ | refine tw ?_ ?_ | exact trivial | refine side2 ?_ | refine sideL2 ?_ | refine Or.inr ?_ | refine sat_drawH (Try.ok ..) (by kernel_rfl) ?_ | refine xi _ (And.intro rfl rfl) ?_ | refine xi _ (fun _ => And.intro rfl rfl) ?_ | refine xi _ rfl ?_ | (refine And.intro ⟨rfl, lC3, lC3.trans lC1.symm, aC3⟩ ?_))
  (conv => whnf)
  refine called_pure (.t [.v (.int .i64 c), .v (.int .i64 0)]) rfl (fun w' => by rw [fC3, tk1]; exact hC2 w') ?_
  have hle := hD.le
  have hz := hD.zero
  have hEq : ∀ w, (Op.equal 26 (SV.a (List.take 17 (List.drop 0 (frC T)))).real (SV.a (frC (ofF n))).real).run Try.prog w = .ok (decide (c = 0)) w := fun w => by
    rw [tk1, eqFr1 T (ofF n) bT (ofF_big _) w]
    by_cases h : c = 0
    · rw [eqFr_iff.2 (hz.1 h), decide_eq_true h]
    · have e : eqFr T (ofF n) = false := by
        cases e : eqFr T (ofF n) with
        | false => rfl
        | true => exact absurd (hz.2 (eqFr_iff.1 e)) h
      rw [e, decide_eq_false h]
  have hOn := fun w' => of_frac n w' (by refine ⟨?_, ?_⟩ <;> omega)
  by_cases hc0 : c = 0
  · rw [decide_eq_true hc0] at hEq
    repeat' ((conv => whnf); first | refine walk (Try.ok ..) ?_ | (refine Cnd.mk (fun h => ?_) (fun h => ?_) <;> (first | exact cndT h (by (try dsimp only); omega) | exact cndF h (by (try dsimp only); omega) | (exfalso; simp at h; omega) | simp at h | skip)) | refine kp ?_ ?_ | refine tw ?_ ?_ | exact trivial | refine side2 ?_ | refine sideL2 ?_ | refine Or.inr ?_ | refine sat_drawH (Try.ok ..) (by kernel_rfl) ?_ | refine xi _ (And.intro rfl rfl) ?_ | refine xi _ (fun _ => And.intro rfl rfl) ?_ | refine xi _ rfl ?_)
    refine calledQ_pure (.a (frC (ofF n))) rfl (fun _ w' => by exact hOn w') ?_
    repeat' ((conv => whnf); first | refine walk (Try.ok ..) ?_ | (refine Cnd.mk (fun h => ?_) (fun h => ?_) <;> (first | exact cndT h (by (try dsimp only); omega) | exact cndF h (by (try dsimp only); omega) | (exfalso; simp at h; omega) | simp at h | skip)) | refine kp ?_ ?_ | refine tw ?_ ?_ | exact trivial | refine side2 ?_ | refine sideL2 ?_ | refine Or.inr ?_ | refine sat_drawH (Try.ok ..) (by kernel_rfl) ?_ | refine xi _ (And.intro rfl rfl) ?_ | refine xi _ (fun _ => And.intro rfl rfl) ?_ | refine xi _ rfl ?_)
    refine eqAgg_eql true eqgFr1 (fun w => by exact hEq w) ?_
    repeat' ((conv => whnf); first | refine walk (Try.ok ..) ?_ | (refine Cnd.mk (fun h => ?_) (fun h => ?_) <;> (first | exact cndT h (by (try dsimp only); omega) | exact cndF h (by (try dsimp only); omega) | (exfalso; simp at h; omega) | simp at h | skip)) | refine kp ?_ ?_ | refine tw ?_ ?_ | exact trivial | refine side2 ?_ | refine sideL2 ?_ | refine Or.inr ?_ | refine sat_drawH (Try.ok ..) (by kernel_rfl) ?_ | refine xi _ (And.intro rfl rfl) ?_ | refine xi _ (fun _ => And.intro rfl rfl) ?_ | refine xi _ rfl ?_)
    exact done_pure rfl rfl rfl
  rw [decide_eq_false hc0] at hEq
  obtain ⟨Y2, hY2, hcY, hwY⟩ := hnext hc0
  obtain ⟨C4, ⟨lC4, aC4, fC4⟩, hA4⟩ := at_vals hY2 hM9 (by refine ⟨?_, ?_⟩ <;> omega)
  have bY2 : Big Y2 := by
    obtain ⟨b', c', d', e⟩ := hY2
    obtain ⟨q0, q1, q2, q3, e4, hb4⟩ := at_four M (n + 1)
    rw [e] at e4
    have := hb4 Y2
    simp at e4
    exact this (by rw [← e4.1]; simp)
  have hC4 := fun w' => cmpE_any Y2 Q w' bY2 bQ
  rw [hcY] at hC4
  have hWy := fun A cap w' hA => weight_any M Y2 A cap w' hA hM9 bY2
  rw [hwY] at hWy
  have lon := frC_len (ofF (n + 1))
  repeat' ((conv => whnf); first | refine walk (Try.ok ..) ?_ | (refine Cnd.mk (fun h => ?_) (fun h => ?_) <;> (first | exact cndT h (by (try dsimp only); omega) | exact cndF h (by (try dsimp only); omega) | (exfalso; simp at h; omega) | simp at h | skip)) | refine kp ?_ ?_ | refine tw ?_ ?_ | exact trivial | refine side2 ?_ | refine sideL2 ?_ | refine Or.inr ?_ | refine sat_drawH (Try.ok ..) (by kernel_rfl) ?_ | refine xi _ (And.intro rfl rfl) ?_ | refine xi _ (fun _ => And.intro rfl rfl) ?_ | refine xi _ rfl ?_)
  refine calledQ_pure (.a (frC (ofF n))) rfl (fun _ w' => by exact hOn w') ?_
  repeat' ((conv => whnf); first | refine walk (Try.ok ..) ?_ | (refine Cnd.mk (fun h => ?_) (fun h => ?_) <;> (first | exact cndT h (by (try dsimp only); omega) | exact cndF h (by (try dsimp only); omega) | (exfalso; simp at h; omega) | simp at h | skip)) | refine kp ?_ ?_ | refine tw ?_ ?_ | exact trivial | refine side2 ?_ | refine sideL2 ?_ | refine Or.inr ?_ | refine sat_drawH (Try.ok ..) (by kernel_rfl) ?_ | refine xi _ (And.intro rfl rfl) ?_ | refine xi _ (fun _ => And.intro rfl rfl) ?_ | refine xi _ rfl ?_)
  refine eqAgg_eql false eqgFr1 (fun w => by exact hEq w) ?_
  repeat' ((conv => whnf); first | refine walk (Try.ok ..) ?_ | (refine Cnd.mk (fun h => ?_) (fun h => ?_) <;> (first | exact cndT h (by (try dsimp only); omega) | exact cndF h (by (try dsimp only); omega) | (exfalso; simp at h; omega) | simp at h | skip)) | refine kp ?_ ?_ | refine tw ?_ ?_ | exact trivial | refine side2 ?_ | refine sideL2 ?_ | refine Or.inr ?_ | refine sat_drawH (Try.ok ..) (by kernel_rfl) ?_ | refine xi _ (And.intro rfl rfl) ?_ | refine xi _ (fun _ => And.intro rfl rfl) ?_ | refine xi _ rfl ?_)
  (conv => whnf)
  refine called_at (.t [.a C4, .v (.int .i64 0)]) rfl (fun w' hh => by exact hA4 A9 c9 w' (ro_of_row hh (id := 34) rfl)) ?_
  repeat' ((conv => whnf); first | refine walk (Try.ok ..) ?_ | (refine Cnd.mk (fun h => ?_) (fun h => ?_) <;> (first | exact cndT h (by (try dsimp only); omega) | exact cndF h (by (try dsimp only); omega) | (exfalso; simp at h; omega) | simp at h | skip)) | refine kp ?_ ?_ | refine tw ?_ ?_ | exact trivial | refine side2 ?_ | refine sideL2 ?_ | refine Or.inr ?_ | refine sat_drawH (Try.ok ..) (by kernel_rfl) ?_ | refine xi _ (And.intro rfl rfl) ?_ | refine xi _ (fun _ => And.intro rfl rfl) ?_ | refine xi _ rfl ?_ | (refine And.intro ⟨rfl, lC4, lC4.trans lC2.symm, aC4⟩ ?_))
  (conv => whnf)
  refine called_pure (.t [.v (.int .i64 1), .v (.int .i64 0)]) rfl (fun w' => by rw [fC4, tk1]; exact hC4 w') ?_
  repeat' ((conv => whnf); first | refine walk (Try.ok ..) ?_ | (refine Cnd.mk (fun h => ?_) (fun h => ?_) <;> (first | exact cndT h (by (try dsimp only); omega) | exact cndF h (by (try dsimp only); omega) | (exfalso; simp at h; omega) | simp at h | skip)) | refine kp ?_ ?_ | refine tw ?_ ?_ | exact trivial | refine side2 ?_ | refine sideL2 ?_ | refine Or.inr ?_ | refine sat_drawH (Try.ok ..) (by kernel_rfl) ?_ | refine xi _ (And.intro rfl rfl) ?_ | refine xi _ (fun _ => And.intro rfl rfl) ?_ | refine xi _ rfl ?_)
  (conv => whnf)
  refine called_at (.t [.a (frC (ofF (n + 1))), .v (.int .i64 0)]) rfl (fun w' hh => by rw [fC4]; exact hWy A9 c9 w' (ro_of_row hh (id := 34) rfl)) ?_
  repeat' ((conv => whnf); first | refine walk (Try.ok ..) ?_ | (refine Cnd.mk (fun h => ?_) (fun h => ?_) <;> (first | exact cndT h (by (try dsimp only); omega) | exact cndF h (by (try dsimp only); omega) | (exfalso; simp at h; omega) | simp at h | skip)) | refine kp ?_ ?_ | refine tw ?_ ?_ | exact trivial | refine side2 ?_ | refine sideL2 ?_ | refine Or.inr ?_ | refine sat_drawH (Try.ok ..) (by kernel_rfl) ?_ | refine xi _ (And.intro rfl rfl) ?_ | refine xi _ (fun _ => And.intro rfl rfl) ?_ | refine xi _ rfl ?_)
  (conv => whnf)
  intro g29 hg29
  repeat' ((conv => whnf); first | refine walk (Try.ok ..) ?_ | (refine Cnd.mk (fun h => ?_) (fun h => ?_) <;> (first | exact cndT h (by (try dsimp only); omega) | exact cndF h (by (try dsimp only); omega) | (exfalso; simp at h; omega) | simp at h | skip)) | refine kp ?_ ?_ | refine tw ?_ ?_ | exact trivial | refine side2 ?_ | refine sideL2 ?_ | refine Or.inr ?_ | refine sat_drawH (Try.ok ..) (by kernel_rfl) ?_ | refine xi _ (And.intro rfl rfl) ?_ | refine xi _ (fun _ => And.intro rfl rfl) ?_ | refine xi _ rfl ?_)
  refine calledQ_pure (.a (frC (ofF (n + 1)))) rfl (fun _ w' => by exact of_frac (n + 1) w' (by refine ⟨?_, ?_⟩ <;> omega)) ?_
  repeat' ((conv => whnf); first | refine walk (Try.ok ..) ?_ | (refine Cnd.mk (fun h => ?_) (fun h => ?_) <;> (first | exact cndT h (by (try dsimp only); omega) | exact cndF h (by (try dsimp only); omega) | (exfalso; simp at h; omega) | simp at h | skip)) | refine kp ?_ ?_ | refine tw ?_ ?_ | exact trivial | refine side2 ?_ | refine sideL2 ?_ | refine Or.inr ?_ | refine sat_drawH (Try.ok ..) (by kernel_rfl) ?_ | refine xi _ (And.intro rfl rfl) ?_ | refine xi _ (fun _ => And.intro rfl rfl) ?_ | refine xi _ rfl ?_)
  refine eqAgg_eql true eqgFr1 (fun w => by exact fr_same (ofF_big _) w) ?_
  repeat' ((conv => whnf); first | refine walk (Try.ok ..) ?_ | (refine Cnd.mk (fun h => ?_) (fun h => ?_) <;> (first | exact cndT h (by (try dsimp only); omega) | exact cndF h (by (try dsimp only); omega) | (exfalso; simp at h; omega) | simp at h | skip)) | refine kp ?_ ?_ | refine tw ?_ ?_ | exact trivial | refine side2 ?_ | refine sideL2 ?_ | refine Or.inr ?_ | refine sat_drawH (Try.ok ..) (by kernel_rfl) ?_ | refine xi _ (And.intro rfl rfl) ?_ | refine xi _ (fun _ => And.intro rfl rfl) ?_ | refine xi _ rfl ?_)
  exact done_pure rfl rfl rfl
end Go.Proofs.Ytomhfakkebaciaa
