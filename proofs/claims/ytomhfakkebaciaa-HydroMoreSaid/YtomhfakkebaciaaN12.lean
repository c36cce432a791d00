/-
  The walks of the frac package: sums and differences of fractions, their order.
-/
import Derived.Test.YtomhfakkebaciaaN11
namespace Go.Proofs.Ytomhfakkebaciaa
open Go Sat Go.RowKit Go.PlainAid
set_option linter.unusedSimpArgs false
set_option linter.unusedVariables false
set_option maxRecDepth 100000 in
set_option maxHeartbeats 8000000 in
theorem equal_any (x y : Nat) (X Y : Option (Nat × Nat)) (capX capY : Nat) (w : World) (hx : Ro w X (dg bb x).length 1 (us (dg bb x))) (hy : Ro w Y (dg bb y).length 1 (us (dg bb y))) (hxl : (dg bb x).length ≤ 10000) (hyl : (dg bb y).length ≤ 10000) :
    Calls Try.prog 64 #[.slice (adr X) (dg bb x).length capX, .slice (adr Y) (dg bb y).length capY] w fun e w' => e = .returned (.bool (decide (x = y))) ∧ Below w.heap.size w w' := by
  have hb2 : (2 : Nat) ≤ bb := by decide
  have hxy : x = y ↔ dg bb x = dg bb y := ⟨fun h => by rw [h], fun h => by rw [← nv_dg hb2 x, h, nv_dg hb2 y]⟩
  obtain ⟨l, el⟩ : ∃ l, l = dg bb x := ⟨_, rfl⟩
  obtain ⟨m, em⟩ : ∃ l, l = dg bb y := ⟨_, rfl⟩
  rw [← el] at hx hxl hxy ⊢
  rw [← em] at hy hyl hxy ⊢
  rw [show decide (x = y) = decide (l = m) from decide_eq_decide.2 hxy]
  refine calls_sat (cx := Try.cx 26 [] [] [] w) (Try.ok ..) Try.func64 rfl [.o 100 X l.length capX, .o 101 Y m.length capY] rfl (by show 2 ≤ 26; omega) [(100, .ro X l.length 1 (us l)), (101, .ro Y m.length 1 (us m))] (holds_ros rfl rfl ⟨hx, hy, trivial⟩) ?_
  repeat' ((conv => whnf); first | refine walk (Try.ok ..) ?_ | (refine Cnd.mk (fun h => ?_) (fun h => ?_) <;> (first | exact cndT h (by (try dsimp only); omega) | exact cndF h (by (try dsimp only); omega) | (exfalso; simp at h; omega) | simp at h | skip)) | fail)
  · rw [decide_eq_false (fun h9 => by subst h9; simp at h)]
    exact done_pure rfl rfl rfl
  have hlm : l.length = m.length := by omega
  refine sat_loop (Try.ok ..) (α := Nat) (fun i => ([(0, .yes, .o 100 X l.length capX), (1, .yes, .o 101 Y m.length capY), (12, .yes, .v (.int .i64 l.length)), (13, .yes, .v (.int .i64 i))], [(100, .ro X l.length 1 (us l)), (101, .ro Y m.length 1 (us m))])) (fun i => i ≤ l.length ∧ ∀ q, q < i → l[q]? = m[q]?) (fun i => l.length - i) (fun _ => rfl) ?_ ?_
  · refine ⟨0, ⟨Nat.zero_le _, fun q hq => absurd hq (by omega)⟩, ?_, ?_, rfl⟩
    all_goals ((repeat' (first | exact trivial | exact rfl | refine And.intro ?_ ?_)) <;> (try (conv => whnf)) <;> (try simp only [SV.real, SV.r2, SV.r1]))
  rintro i ⟨hi, hq⟩
  by_cases hin : i < l.length
  · obtain ⟨a, ha⟩ := us_at (l := l) (k := i) hin
    obtain ⟨b, hb⟩ := us_at (l := m) (k := i) (by omega)
    repeat' ((conv => whnf); first | refine walk (Try.ok ..) ?_ | (refine Cnd.mk (fun h => ?_) (fun h => ?_) <;> (first | exact cndT h (by (try dsimp only); omega) | exact cndF h (by (try dsimp only); omega) | (exfalso; simp at h; omega) | simp at h | skip)) | refine side2 ?_ | refine sideL2 ?_ | refine xi _ (u_at ha rfl) ?_ | refine xi _ (u_at hb rfl) ?_ | fail)
    · rw [decide_eq_false (fun h9 => by subst h9; rw [ha] at hb; injection hb with hb; subst hb; exact absurd rfl h)]
      exact done_pure rfl rfl rfl
    · refine ⟨i + 1, ⟨⟨by omega, fun q h9 => ?_⟩, by omega⟩, ?_, ?_, rfl⟩
      · rcases Nat.lt_or_ge q i with h8 | h8
        · exact hq q h8
        · obtain rfl : q = i := by omega
          rw [ha, hb, show a = b by omega]
      all_goals ((repeat' (first | exact trivial | exact rfl | refine And.intro ?_ ?_)) <;> (try (conv => whnf)) <;> (try simp only [SV.real, SV.r2, SV.r1]))
  · have hll : l = m := by
      apply List.ext_getElem?
      intro q
      rcases Nat.lt_or_ge q i with h8 | h8
      · exact hq q h8
      · rw [List.getElem?_eq_none (by omega), List.getElem?_eq_none (by omega)]
    repeat' ((conv => whnf); first | refine walk (Try.ok ..) ?_ | (refine Cnd.mk (fun h => ?_) (fun h => ?_) <;> (first | exact cndT h (by (try dsimp only); omega) | exact cndF h (by (try dsimp only); omega) | (exfalso; simp at h; omega) | simp at h | skip)) | fail)
    rw [decide_eq_true hll]
    exact done_pure rfl rfl rfl
theorem num_at (f : Fr) : (List.take 8 (List.drop 1 (frC f))) = (us (lim f.num)).map SV.v := by
  have e : (frC f).drop 1 = (us (lim f.num)).map SV.v ++ (us (lim f.den)).map SV.v := rfl
  have l : ((us (lim f.num)).map SV.v).length = 8 := by rw [List.length_map, us_len, lim_len]
  rw [e, ← l, List.take_left]
set_option maxRecDepth 100000 in
set_option maxHeartbeats 8000000 in
theorem turned_any (f : Fr) (w : World) (hf : Big f) :
    Calls Try.prog 72 #[frV f] w fun e w' => e = .returned (frV (turnF f)) ∧ Below w.heap.size w w' := by
  refine calls_sat (cx := Try.cx 14 [] [] [] w) (Try.ok ..) Try.func72 rfl [.a (frC f)] rfl (by show 1 ≤ 14; omega) [] (holds_nil (Nat.le_refl _)) ?_
  have h17 := frC_len f
  repeat' ((conv => whnf); first | refine walk (Try.ok ..) ?_ | fail)
  intro g1 hg1
  skip
  intro g2 hg2
  repeat' ((conv => whnf); first | refine walk (Try.ok ..) ?_ | refine side2 ?_ | refine xi _ (And.intro rfl rfl) ?_ | fail)
  refine eqAgg_neq (decide (f.num = 0)) eqgNum (eqNum f hf) ?_
  have ht : frC (turnF f) = (frC f).set 0 (.v (.bool (!f.neg && !decide (f.num = 0)))) := by
    have : turnF f = ⟨!f.neg && !decide (f.num = 0), f.num, f.den⟩ := by
      unfold turnF
      congr 2
      exact (decide_not (p := f.num = 0))
    rw [this]
    rfl
  have hfin : ∀ cs, cs = frC (turnF f) → (SV.a (List.take 17 (List.drop 0 (List.take 17 (List.drop 0 cs))))).real = frV (turnF f) := fun cs h => by rw [h, tk2]; rfl
  repeat' ((conv => whnf); first | refine walk (Try.ok ..) ?_ | refine side2 ?_ | fail)
  exact done_pure rfl rfl (hfin _ ht.symm)
theorem add_len {n m : Nat} (h : (dg bb n).length ≤ 100) (h' : (dg bb m).length ≤ 100) : (dg bb (n + m)).length ≤ 101 := by
  have h1 := (dg_len (B := bb) (by decide) 100 n).1 h
  have h2 := (dg_len (B := bb) (by decide) 100 m).1 h'
  refine (dg_len (by decide) 101 _).2 ?_
  rw [Nat.pow_succ]
  have h3 : 2 ≤ bb := by decide
  have h4 : bb ^ 100 * 2 ≤ bb ^ 100 * bb := Nat.mul_le_mul_left _ h3
  generalize bb ^ 100 = q at h1 h2 h4 ⊢
  omega
theorem big_mul' {n m : Nat} (h : n < big) (h' : m < big) : (dg bb (n * m)).length ≤ 100 := by
  have h1 : n * m < bb ^ 16 := by
    have h2 : n * m ≤ n * big := Nat.mul_le_mul_left _ (Nat.le_of_lt h')
    have h3 : n * big < big * big := Nat.mul_lt_mul_of_pos_right h (by decide)
    have h4 : big * big = bb ^ 16 := by decide
    omega
  have := (dg_len (B := bb) (by decide) 16 (n * m)).2 h1
  omega
theorem big_len' {n : Nat} (h : n < big) : (dg bb n).length ≤ 100 := by have := dg_big h; omega
/-- what a sum is, by its parts -/
structure SumOf (f g : Fr) (x y z : Nat) : Prop where
  s1 : f.neg = g.neg → addF f g = fitF f.neg (x + y) z
  s2 : f.neg ≠ g.neg → x < y → addF f g = fitF g.neg (y - x) z
  s3 : f.neg ≠ g.neg → ¬ x < y → addF f g = fitF f.neg (x - y) z
theorem sumOf (f g : Fr) : SumOf f g (f.num * g.den) (g.num * f.den) (f.den * g.den) :=
  ⟨fun h => by unfold addF; rw [if_pos h], fun h h' => by unfold addF; rw [if_neg h, if_pos h'], fun h h' => by unfold addF; rw [if_neg h, if_neg h']⟩
theorem sumOf2 {f g : Fr} (h : f.den = g.den) (h0 : 0 < f.den) : SumOf f g f.num g.num f.den :=
  ⟨fun h1 => by rw [addF_same h h0, if_pos h1], fun h1 h2 => by rw [addF_same h h0, if_neg h1, if_pos h2], fun h1 h2 => by rw [addF_same h h0, if_neg h1, if_neg h2]⟩
set_option maxRecDepth 100000 in
set_option maxHeartbeats 8000000 in
theorem add_any (f g : Fr) (w : World) (hf : Big f) (hg : Big g) (hdf : 0 < f.den) (hdg : 0 < g.den) :
    Calls Try.prog 36 #[frV f, frV g] w fun e w' => e = .returned (.tuple #[frV (addF f g).1, .int .i64 (addF f g).2]) ∧ Below w.heap.size w w' := by
  refine calls_sat (cx := Try.cx 76 [7, 9, 10] [] [] w) (Try.ok ..) Try.func36 rfl [.a (frC f), .a (frC g)] rfl (by show 2 ≤ 76; omega) [] (holds_nil (Nat.le_refl _)) ?_
  have h17 := frC_len f
  have h17' := frC_len g
  obtain ⟨r, er⟩ : ∃ r, r = (addF f g).1 := ⟨_, rfl⟩
  obtain ⟨e0, ee⟩ : ∃ r, r = (addF f g).2 := ⟨_, rfl⟩
  rw [← er, ← ee]
  have b1 := big_len' hf.num
  have b2 := big_len' hf.den
  have b3 := big_len' hg.num
  have b4 := big_len' hg.den
  have c1 := big_mul' hf.num hg.den
  have c2 := big_mul' hg.num hf.den
  have c3 := big_mul' hf.den hg.den
  repeat' ((conv => whnf); first | refine walk (Try.ok ..) ?_ | fail)
  intro g2 hg2
  skip
  intro g3 hg3
  skip
  intro g4 hg4
  repeat' ((conv => whnf); first | refine walk (Try.ok ..) ?_ | refine side2 ?_ | fail)
  refine called_newblk 15 (ty := 26) (cs := frC f) (fun g' => .t [.s 15 g' 0 1 (dg bb f.num).length 8, .s 15 g' 0 9 (dg bb f.den).length 8]) (fun w' hh => parts_any f w' hf) ?_
  intro ga hga
  repeat' ((conv => whnf); first | refine walk (Try.ok ..) ?_ | refine side2 ?_ | fail)
  refine called_newblk 20 (ty := 26) (cs := frC g) (fun g' => .t [.s 20 g' 0 1 (dg bb g.num).length 8, .s 20 g' 0 9 (dg bb g.den).length 8]) (fun w' hh => parts_any g w' hg) ?_
  intro gc hgc
  repeat' ((conv => whnf); first | refine walk (Try.ok ..) ?_ | fail)
  refine called_row 25 (xs := us (dg bb (f.num * g.den))) (m := (dg bb (f.num * g.den)).length) (fun v => v) (fun A cap => .o 25 A (dg bb (f.num * g.den)).length cap) (fun A cap => rfl) (fun w' hh => times_any f.num g.den (some (ga, 1)) (some (gc, 9)) 8 8 w' (ro_num hh hf (id := 15) rfl) (ro_den hh hg (id := 20) rfl) (by omega) (by omega)) ?_
  intro A1 k1
  skip
  refine called_row 28 (xs := us (dg bb (g.num * f.den))) (m := (dg bb (g.num * f.den)).length) (fun v => v) (fun A cap => .o 28 A (dg bb (g.num * f.den)).length cap) (fun A cap => rfl) (fun w' hh => times_any g.num f.den (some (gc, 1)) (some (ga, 9)) 8 8 w' (ro_num hh hg (id := 20) rfl) (ro_den hh hf (id := 15) rfl) (by omega) (by omega)) ?_
  intro A2 k2
  skip
  refine called_row 31 (xs := us (dg bb (f.den * g.den))) (m := (dg bb (f.den * g.den)).length) (fun v => v) (fun A cap => .o 31 A (dg bb (f.den * g.den)).length cap) (fun A cap => rfl) (fun w' hh => times_any f.den g.den (some (ga, 9)) (some (gc, 9)) 8 8 w' (ro_den hh hf (id := 15) rfl) (ro_den hh hg (id := 20) rfl) (by omega) (by omega)) ?_
  intro A3 k3
  repeat' ((conv => whnf); first | refine walk (Try.ok ..) ?_ | fail)
  refine called_at (.v (.bool (decide (f.den = g.den)))) rfl (fun w' hh => equal_any f.den g.den (some (ga, 9)) (some (gc, 9)) 8 8 w' (ro_den hh hf (id := 15) rfl) (ro_den hh hg (id := 20) rfl) (by omega) (by omega)) ?_
  by_cases hde : f.den = g.den
  · have hsum := sumOf2 hde hdf
    rw [decide_eq_true hde]
    have hz0 := hdf
    repeat' ((conv => whnf); first | refine walk (Try.ok ..) ?_ | (refine Cnd.mk (fun h => ?_) (fun h => ?_) <;> (first | exact cndT h (by (try dsimp only); omega) | exact cndF h (by (try dsimp only); omega) | (exfalso; simp at h; omega) | simp at h | skip)) | refine side2 ?_ | refine xi _ (And.intro rfl rfl) ?_ | fail)
    · have hs := hsum.s1 h
      refine sat_draw (Try.ok ..) [] [(2, .blk g2 26 (frC f)), (3, .blk g3 26 (frC g)), (15, .blk ga 26 (frC f)), (20, .blk gc 26 (frC g))] (by kernel_rfl) (fun w hw => hw.sub ?_) ?_
      · ((repeat' (first | exact trivial | exact rfl | refine And.intro ?_ ?_)) <;> (try (conv => whnf)) <;> (try simp only [SV.real, SV.r2, SV.r1]))
      repeat' ((conv => whnf); first | refine side2 ?_ | refine xi _ (And.intro rfl rfl) ?_ | fail)
      refine called_row 48 (xs := us (dg bb (f.num + g.num))) (m := (dg bb (f.num + g.num)).length) (fun v => v) (fun A cap => .o 48 A (dg bb (f.num + g.num)).length cap) (fun A cap => rfl) (fun w' hh => plus_any (f.num) (g.num) (some (ga, 1)) (some (gc, 1)) 8 8 w' (ro_num hh hf (id := 15) rfl) (ro_num hh hg (id := 20) rfl) (by omega) (by omega)) ?_
      intro A5 k5
      have hal := add_len (n := f.num) (m := g.num) (by omega) (by omega)
      repeat' ((conv => whnf); first | refine kp ?_ ?_ | exact trivial | refine side2 ?_ | fail)
      refine called_at (.t [.a (frC r), .v (.int .i64 e0)]) rfl (fun w' hh => by
        rw [er, ee, hs]
        exact fit_any f.neg (f.num + g.num) (f.den) A5 (some (ga, 9)) k5 8 w' (ro_of_row hh (id := 48) rfl) (ro_den hh hf (id := 15) rfl) (by omega) (by omega) hz0) ?_
      repeat' ((conv => whnf); first | refine walk (Try.ok ..) ?_ | refine kp ?_ ?_ | exact trivial | refine side2 ?_ | fail)
      exact done_pure rfl rfl (congrArg (fun l => (SV.t [.a l, .v (.int .i64 e0)]).real) (tk1 r))
    refine called_at (.v (.int .i64 (cmpN (f.num) (g.num)))) rfl (fun w' hh => cmp_any (f.num) (g.num) (some (ga, 1)) (some (gc, 1)) 8 8 w' (ro_num hh hf (id := 15) rfl) (ro_num hh hg (id := 20) rfl) (by omega) (by omega)) ?_
    by_cases hlt : f.num < g.num
    · have hs := hsum.s2 h hlt
      have hml : (dg bb (g.num - f.num)).length ≤ 100 := Nat.le_trans (len_le (by decide) (Nat.sub_le _ _)) (show (dg bb (g.num)).length ≤ 100 by omega)
      rw [cmp_lt hlt]
      repeat' ((conv => whnf); first | refine walk (Try.ok ..) ?_ | (refine Cnd.mk (fun h => ?_) (fun h => ?_) <;> (first | exact cndT h (by (try dsimp only); omega) | exact cndF h (by (try dsimp only); omega) | (exfalso; simp at h; omega) | simp at h | skip)) | fail)
      refine sat_draw (Try.ok ..) [] [(2, .blk g2 26 (frC f)), (3, .blk g3 26 (frC g)), (15, .blk ga 26 (frC f)), (20, .blk gc 26 (frC g))] (by kernel_rfl) (fun w hw => hw.sub ?_) ?_
      · ((repeat' (first | exact trivial | exact rfl | refine And.intro ?_ ?_)) <;> (try (conv => whnf)) <;> (try simp only [SV.real, SV.r2, SV.r1]))
      repeat' ((conv => whnf); first | refine side2 ?_ | refine xi _ (And.intro rfl rfl) ?_ | fail)
      refine called_row 62 (xs := us (dg bb (g.num - f.num))) (m := (dg bb (g.num - f.num)).length) (fun v => v) (fun A cap => .o 62 A (dg bb (g.num - f.num)).length cap) (fun A cap => rfl) (fun w' hh => minus_any (g.num) (f.num) (some (gc, 1)) (some (ga, 1)) 8 8 w' (by omega) (ro_num hh hg (id := 20) rfl) (ro_num hh hf (id := 15) rfl) (by omega) (by omega)) ?_
      intro A5 k5
      repeat' ((conv => whnf); first | refine kp ?_ ?_ | exact trivial | refine side2 ?_ | fail)
      refine called_at (.t [.a (frC r), .v (.int .i64 e0)]) rfl (fun w' hh => by
        rw [er, ee, hs]
        exact fit_any g.neg (g.num - f.num) (f.den) A5 (some (ga, 9)) k5 8 w' (ro_of_row hh (id := 62) rfl) (ro_den hh hf (id := 15) rfl) (by omega) (by omega) hz0) ?_
      repeat' ((conv => whnf); first | refine walk (Try.ok ..) ?_ | refine kp ?_ ?_ | exact trivial | refine side2 ?_ | fail)
      exact done_pure rfl rfl (congrArg (fun l => (SV.t [.a l, .v (.int .i64 e0)]).real) (tk1 r))
    · have hs := hsum.s3 h hlt
      have hcg := cmp_ge hlt
      have hml : (dg bb (f.num - g.num)).length ≤ 100 := Nat.le_trans (len_le (by decide) (Nat.sub_le _ _)) (show (dg bb (f.num)).length ≤ 100 by omega)
      repeat' ((conv => whnf); first | refine walk (Try.ok ..) ?_ | (refine Cnd.mk (fun h => ?_) (fun h => ?_) <;> (first | exact cndT h (by (try dsimp only); omega) | exact cndF h (by (try dsimp only); omega) | (exfalso; simp at h; omega) | simp at h | skip)) | fail)
      refine sat_draw (Try.ok ..) [] [(2, .blk g2 26 (frC f)), (3, .blk g3 26 (frC g)), (15, .blk ga 26 (frC f)), (20, .blk gc 26 (frC g))] (by kernel_rfl) (fun w hw => hw.sub ?_) ?_
      · ((repeat' (first | exact trivial | exact rfl | refine And.intro ?_ ?_)) <;> (try (conv => whnf)) <;> (try simp only [SV.real, SV.r2, SV.r1]))
      repeat' ((conv => whnf); first | refine side2 ?_ | refine xi _ (And.intro rfl rfl) ?_ | fail)
      refine called_row 71 (xs := us (dg bb (f.num - g.num))) (m := (dg bb (f.num - g.num)).length) (fun v => v) (fun A cap => .o 71 A (dg bb (f.num - g.num)).length cap) (fun A cap => rfl) (fun w' hh => minus_any (f.num) (g.num) (some (ga, 1)) (some (gc, 1)) 8 8 w' (by omega) (ro_num hh hf (id := 15) rfl) (ro_num hh hg (id := 20) rfl) (by omega) (by omega)) ?_
      intro A5 k5
      repeat' ((conv => whnf); first | refine kp ?_ ?_ | exact trivial | refine side2 ?_ | fail)
      refine called_at (.t [.a (frC r), .v (.int .i64 e0)]) rfl (fun w' hh => by
        rw [er, ee, hs]
        exact fit_any f.neg (f.num - g.num) (f.den) A5 (some (ga, 9)) k5 8 w' (ro_of_row hh (id := 71) rfl) (ro_den hh hf (id := 15) rfl) (by omega) (by omega) hz0) ?_
      repeat' ((conv => whnf); first | refine walk (Try.ok ..) ?_ | refine kp ?_ ?_ | exact trivial | refine side2 ?_ | fail)
      exact done_pure rfl rfl (congrArg (fun l => (SV.t [.a l, .v (.int .i64 e0)]).real) (tk1 r))
  · have hsum := sumOf f g
    rw [decide_eq_false hde]
    have hz0 : 0 < f.den * g.den := Nat.mul_pos hdf hdg
    repeat' ((conv => whnf); first | refine walk (Try.ok ..) ?_ | (refine Cnd.mk (fun h => ?_) (fun h => ?_) <;> (first | exact cndT h (by (try dsimp only); omega) | exact cndF h (by (try dsimp only); omega) | (exfalso; simp at h; omega) | simp at h | skip)) | refine side2 ?_ | refine xi _ (And.intro rfl rfl) ?_ | fail)
    · have hs := hsum.s1 h
      refine sat_draw (Try.ok ..) [] [(2, .blk g2 26 (frC f)), (3, .blk g3 26 (frC g)), (25, .row A1 23 1 (dg bb (f.num * g.den)).length k1 (us (dg bb (f.num * g.den)))), (28, .row A2 23 1 (dg bb (g.num * f.den)).length k2 (us (dg bb (g.num * f.den)))), (31, .row A3 23 1 (dg bb (f.den * g.den)).length k3 (us (dg bb (f.den * g.den))))] (by kernel_rfl) (fun w hw => hw.sub ?_) ?_
      · ((repeat' (first | exact trivial | exact rfl | refine And.intro ?_ ?_)) <;> (try (conv => whnf)) <;> (try simp only [SV.real, SV.r2, SV.r1]))
      repeat' ((conv => whnf); first | refine side2 ?_ | refine xi _ (And.intro rfl rfl) ?_ | fail)
      refine called_row 48 (xs := us (dg bb (f.num * g.den + g.num * f.den))) (m := (dg bb (f.num * g.den + g.num * f.den)).length) (fun v => v) (fun A cap => .o 48 A (dg bb (f.num * g.den + g.num * f.den)).length cap) (fun A cap => rfl) (fun w' hh => plus_any (f.num * g.den) (g.num * f.den) A1 A2 k1 k2 w' (ro_of_row hh (id := 25) rfl) (ro_of_row hh (id := 28) rfl) (by omega) (by omega)) ?_
      intro A5 k5
      have hal := add_len (n := f.num * g.den) (m := g.num * f.den) (by omega) (by omega)
      repeat' ((conv => whnf); first | refine kp ?_ ?_ | exact trivial | refine side2 ?_ | fail)
      refine called_at (.t [.a (frC r), .v (.int .i64 e0)]) rfl (fun w' hh => by
        rw [er, ee, hs]
        exact fit_any f.neg (f.num * g.den + g.num * f.den) (f.den * g.den) A5 A3 k5 k3 w' (ro_of_row hh (id := 48) rfl) (ro_of_row hh (id := 31) rfl) (by omega) (by omega) hz0) ?_
      repeat' ((conv => whnf); first | refine walk (Try.ok ..) ?_ | refine kp ?_ ?_ | exact trivial | refine side2 ?_ | fail)
      exact done_pure rfl rfl (congrArg (fun l => (SV.t [.a l, .v (.int .i64 e0)]).real) (tk1 r))
    refine called_at (.v (.int .i64 (cmpN (f.num * g.den) (g.num * f.den)))) rfl (fun w' hh => cmp_any (f.num * g.den) (g.num * f.den) A1 A2 k1 k2 w' (ro_of_row hh (id := 25) rfl) (ro_of_row hh (id := 28) rfl) (by omega) (by omega)) ?_
    by_cases hlt : f.num * g.den < g.num * f.den
    · have hs := hsum.s2 h hlt
      have hml : (dg bb (g.num * f.den - f.num * g.den)).length ≤ 100 := Nat.le_trans (len_le (by decide) (Nat.sub_le _ _)) (show (dg bb (g.num * f.den)).length ≤ 100 by omega)
      rw [cmp_lt hlt]
      repeat' ((conv => whnf); first | refine walk (Try.ok ..) ?_ | (refine Cnd.mk (fun h => ?_) (fun h => ?_) <;> (first | exact cndT h (by (try dsimp only); omega) | exact cndF h (by (try dsimp only); omega) | (exfalso; simp at h; omega) | simp at h | skip)) | fail)
      refine sat_draw (Try.ok ..) [] [(2, .blk g2 26 (frC f)), (3, .blk g3 26 (frC g)), (25, .row A1 23 1 (dg bb (f.num * g.den)).length k1 (us (dg bb (f.num * g.den)))), (28, .row A2 23 1 (dg bb (g.num * f.den)).length k2 (us (dg bb (g.num * f.den)))), (31, .row A3 23 1 (dg bb (f.den * g.den)).length k3 (us (dg bb (f.den * g.den))))] (by kernel_rfl) (fun w hw => hw.sub ?_) ?_
      · ((repeat' (first | exact trivial | exact rfl | refine And.intro ?_ ?_)) <;> (try (conv => whnf)) <;> (try simp only [SV.real, SV.r2, SV.r1]))
      repeat' ((conv => whnf); first | refine side2 ?_ | refine xi _ (And.intro rfl rfl) ?_ | fail)
      refine called_row 62 (xs := us (dg bb (g.num * f.den - f.num * g.den))) (m := (dg bb (g.num * f.den - f.num * g.den)).length) (fun v => v) (fun A cap => .o 62 A (dg bb (g.num * f.den - f.num * g.den)).length cap) (fun A cap => rfl) (fun w' hh => minus_any (g.num * f.den) (f.num * g.den) A2 A1 k2 k1 w' (by omega) (ro_of_row hh (id := 28) rfl) (ro_of_row hh (id := 25) rfl) (by omega) (by omega)) ?_
      intro A5 k5
      repeat' ((conv => whnf); first | refine kp ?_ ?_ | exact trivial | refine side2 ?_ | fail)
      refine called_at (.t [.a (frC r), .v (.int .i64 e0)]) rfl (fun w' hh => by
        rw [er, ee, hs]
        exact fit_any g.neg (g.num * f.den - f.num * g.den) (f.den * g.den) A5 A3 k5 k3 w' (ro_of_row hh (id := 62) rfl) (ro_of_row hh (id := 31) rfl) (by omega) (by omega) hz0) ?_
      repeat' ((conv => whnf); first | refine walk (Try.ok ..) ?_ | refine kp ?_ ?_ | exact trivial | refine side2 ?_ | fail)
      exact done_pure rfl rfl (congrArg (fun l => (SV.t [.a l, .v (.int .i64 e0)]).real) (tk1 r))
    · have hs := hsum.s3 h hlt
      have hcg := cmp_ge hlt
      have hml : (dg bb (f.num * g.den - g.num * f.den)).length ≤ 100 := Nat.le_trans (len_le (by decide) (Nat.sub_le _ _)) (show (dg bb (f.num * g.den)).length ≤ 100 by omega)
      repeat' ((conv => whnf); first | refine walk (Try.ok ..) ?_ | (refine Cnd.mk (fun h => ?_) (fun h => ?_) <;> (first | exact cndT h (by (try dsimp only); omega) | exact cndF h (by (try dsimp only); omega) | (exfalso; simp at h; omega) | simp at h | skip)) | fail)
      refine sat_draw (Try.ok ..) [] [(2, .blk g2 26 (frC f)), (3, .blk g3 26 (frC g)), (25, .row A1 23 1 (dg bb (f.num * g.den)).length k1 (us (dg bb (f.num * g.den)))), (28, .row A2 23 1 (dg bb (g.num * f.den)).length k2 (us (dg bb (g.num * f.den)))), (31, .row A3 23 1 (dg bb (f.den * g.den)).length k3 (us (dg bb (f.den * g.den))))] (by kernel_rfl) (fun w hw => hw.sub ?_) ?_
      · ((repeat' (first | exact trivial | exact rfl | refine And.intro ?_ ?_)) <;> (try (conv => whnf)) <;> (try simp only [SV.real, SV.r2, SV.r1]))
      repeat' ((conv => whnf); first | refine side2 ?_ | refine xi _ (And.intro rfl rfl) ?_ | fail)
      refine called_row 71 (xs := us (dg bb (f.num * g.den - g.num * f.den))) (m := (dg bb (f.num * g.den - g.num * f.den)).length) (fun v => v) (fun A cap => .o 71 A (dg bb (f.num * g.den - g.num * f.den)).length cap) (fun A cap => rfl) (fun w' hh => minus_any (f.num * g.den) (g.num * f.den) A1 A2 k1 k2 w' (by omega) (ro_of_row hh (id := 25) rfl) (ro_of_row hh (id := 28) rfl) (by omega) (by omega)) ?_
      intro A5 k5
      repeat' ((conv => whnf); first | refine kp ?_ ?_ | exact trivial | refine side2 ?_ | fail)
      refine called_at (.t [.a (frC r), .v (.int .i64 e0)]) rfl (fun w' hh => by
        rw [er, ee, hs]
        exact fit_any f.neg (f.num * g.den - g.num * f.den) (f.den * g.den) A5 A3 k5 k3 w' (ro_of_row hh (id := 71) rfl) (ro_of_row hh (id := 31) rfl) (by omega) (by omega) hz0) ?_
      repeat' ((conv => whnf); first | refine walk (Try.ok ..) ?_ | refine kp ?_ ?_ | exact trivial | refine side2 ?_ | fail)
      exact done_pure rfl rfl (congrArg (fun l => (SV.t [.a l, .v (.int .i64 e0)]).real) (tk1 r))
end Go.Proofs.Ytomhfakkebaciaa
