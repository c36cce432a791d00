/-
  The walks of the frac package: the whole part of a fraction.
-/
import Derived.Test.YtomhfakkebaciaaN13
namespace Go.Proofs.Ytomhfakkebaciaa
open Go Sat Go.RowKit Go.PlainAid
set_option linter.unusedSimpArgs false
set_option linter.unusedVariables false
theorem len_two {n : Nat} : 2 < (dg bb n).length ↔ 18446744073709551616 ≤ n := by
  have := dg_len (B := bb) (by decide) 2 n
  rw [show bb ^ 2 = 18446744073709551616 from rfl] at this
  omega
theorem floor_no {f : Fr} (h : rightF f = false) : floorE f = (0, 2) := by unfold floorE; rw [h]; rfl
theorem floor_neg {f : Fr} (h : rightF f = true) (hn : f.neg = true) (hq : wholeF f ≤ 9223372036854775808) : floorE f = (-(wholeF f : Int), 0) := by
  unfold floorE; rw [if_pos h, if_pos hn, if_pos hq]
theorem floor_pos {f : Fr} (h : rightF f = true) (hn : f.neg = false) (hq : wholeF f < 9223372036854775808) : floorE f = ((wholeF f : Int), 0) := by
  unfold floorE; rw [if_pos h, hn, if_neg (by simp), if_pos hq]
theorem floor_long {f : Fr} (h : rightF f = true) (hq : ¬ (f.neg = true ∧ wholeF f ≤ 9223372036854775808)) (hq2 : ¬ (f.neg = false ∧ wholeF f < 9223372036854775808)) : floorE f = (0, 3) := by
  unfold floorE
  rw [if_pos h]
  cases hn : f.neg
  · rw [if_neg (by simp), if_neg (fun hc => hq2 ⟨hn, hc⟩)]
  · rw [if_pos rfl, if_neg (fun hc => hq ⟨hn, hc⟩)]
theorem neg_wrap {Q : Nat} (h : (Q : Int) ≤ 9223372036854775808) : IntKind.i64.wrap (IntKind.u64.wrap (0 - (Q : Int))) = -(Q : Int) := by
  rw [IntKind.wrap_u64, IntKind.wrap_i64]
  omega
set_option maxRecDepth 100000 in
set_option maxHeartbeats 8000000 in
theorem floorE_any (f : Fr) (w : World) (hf : Big f) :
    Calls Try.prog 24 #[frV f] w fun e w' => e = .returned (.tuple #[.int .i64 (floorE f).1, .int .i64 (floorE f).2]) ∧ Below w.heap.size w w' := by
  refine calls_sat (cx := Try.cx 55 [] [] [] w) (Try.ok ..) Try.func24 rfl [.a (frC f)] rfl (by show 1 ≤ 55; omega) [] (holds_nil (Nat.le_refl _)) ?_
  have h17 := frC_len f
  cases hrf : rightF f
  · rw [floor_no hrf]
    repeat' ((conv => whnf); first | refine walk (Try.ok ..) ?_ | fail)
    intro g1 hg1
    repeat' ((conv => whnf); first | refine walk (Try.ok ..) ?_ | refine side2 ?_ | fail)
    refine called_at (.v (.bool false)) rfl (fun w' hh => by rw [← hrf]; exact right_any f w' hf) ?_
    repeat' ((conv => whnf); first | refine walk (Try.ok ..) ?_ | (refine Cnd.mk (fun h => ?_) (fun h => ?_) <;> (first | exact cndT h (by (try dsimp only); omega) | exact cndF h (by (try dsimp only); omega) | (exfalso; simp at h; omega) | simp at h | skip)) | fail)
    exact done_pure rfl rfl rfl
  have hd := den_pos hrf
  have b1 := big_len' hf.num
  have b2 := big_len' hf.den
  obtain ⟨q, eq⟩ : ∃ q, q = f.num / f.den := ⟨_, rfl⟩
  obtain ⟨s, es⟩ : ∃ q, q = f.num % f.den := ⟨_, rfl⟩
  have hql : (dg bb q).length ≤ 100 := Nat.le_trans (len_le (by decide) (by rw [eq]; exact Nat.div_le_self _ _)) b1
  have hs0 : ((0 : Int) < ((dg bb s).length : Int)) ↔ s ≠ 0 := by
    rw [Ne, ← dg_nil (B := bb) (by decide), ← List.length_eq_zero_iff]
    omega
  obtain ⟨Q, hQ⟩ : ∃ Q, Q = wholeF f := ⟨_, rfl⟩
  have hQ2 : Q = if f.neg = true ∧ s ≠ 0 then q + 1 else q := by rw [hQ, es, eq]; rfl
  repeat' ((conv => whnf); first | refine walk (Try.ok ..) ?_ | fail)
  intro g1 hg1
  repeat' ((conv => whnf); first | refine walk (Try.ok ..) ?_ | refine side2 ?_ | fail)
  refine called_at (.v (.bool true)) rfl (fun w' hh => by rw [← hrf]; exact right_any f w' hf) ?_
  repeat' ((conv => whnf); first | refine walk (Try.ok ..) ?_ | (refine Cnd.mk (fun h => ?_) (fun h => ?_) <;> (first | exact cndT h (by (try dsimp only); omega) | exact cndF h (by (try dsimp only); omega) | (exfalso; simp at h; omega) | simp at h | skip)) | refine side2 ?_ | fail)
  refine called_newblk 12 (ty := 26) (cs := frC f) (fun g' => .t [.s 12 g' 0 1 (dg bb f.num).length 8, .s 12 g' 0 9 (dg bb f.den).length 8]) (fun w' hh => parts_any f w' hf) ?_
  intro ga hga
  skip
  refine called_row2 300 301 (m1 := (dg bb q).length) (m2 := (dg bb s).length) (xs1 := us (dg bb q)) (xs2 := us (dg bb s)) (fun v u => .tuple #[v, u]) (fun A c A' c' => .t [.o 300 A (dg bb q).length c, .o 301 A' (dg bb s).length c']) (fun _ _ _ _ => rfl) (fun w' hh => by
    rw [eq, es]
    exact divide_any f.num f.den (some (ga, 1)) (some (ga, 9)) 8 8 w' (ro_num hh hf (id := 12) rfl) (ro_den hh hf (id := 12) rfl) (by omega) (by omega) hd) ?_
  intro A1 c1 A2 c2
  repeat' ((conv => whnf); first | refine walk (Try.ok ..) ?_ | (refine Cnd.mk (fun h => ?_) (fun h => ?_) <;> (first | exact cndT h (by (try dsimp only); omega) | exact cndF h (by (try dsimp only); omega) | (exfalso; simp at h; omega) | simp at h | skip)) | refine side2 ?_ | refine xi _ (And.intro rfl rfl) ?_ | fail)
  · have hQq : Q = q + 1 := by rw [hQ2, if_pos ⟨h.1, hs0.1 (by omega)⟩]
    have hal := add_len (n := q) (m := 1) (by omega) (by rw [dg_1]; show 1 ≤ _; omega)
    rw [← hQq] at hal
    refine called_row 26 (xs := us (dg bb 1)) (m := (dg bb 1).length) (fun v => v) (fun A cap => .o 26 A (dg bb 1).length cap) (fun A cap => rfl) (fun w' hh => of_any 1 w' (by omega)) ?_
    intro A3 c3
    skip
    refine called_row 27 (xs := us (dg bb Q)) (m := (dg bb Q).length) (fun v => v) (fun A cap => .o 27 A (dg bb Q).length cap) (fun A cap => rfl) (fun w' hh => by
      rw [hQq]
      exact plus_any q 1 A1 A3 c1 c3 w' (ro_of_row hh (id := 300) rfl) (ro_of_row hh (id := 26) rfl) (by omega) (by rw [dg_1]; show 1 ≤ _; omega)) ?_
    intro A4 c4
    repeat' ((conv => whnf); first | refine walk (Try.ok ..) ?_ | fail)
    refine called_at (.v (.int .u64 ((Q % 18446744073709551616 : Nat) : Int))) rfl (fun w' hh => low_any Q A4 c4 w' (ro_of_row hh (id := 27) rfl) (by omega)) ?_
    obtain ⟨n, en⟩ : ∃ n, n = Q % 18446744073709551616 := ⟨_, rfl⟩
    have hnb : n < 18446744073709551616 := by omega
    rw [← en]
    cases hfn : f.neg
    · by_cases hq : Q < 9223372036854775808
      · rw [floor_pos hrf hfn (by rw [← hQ]; exact hq), ← hQ]
        have h2 := len_two (n := Q)
        have hnq : n = Q := by omega
        rw [hnq]
        repeat' ((conv => whnf); first | refine walk (Try.ok ..) ?_ | (refine Cnd.mk (fun h => ?_) (fun h => ?_) <;> (first | exact cndT h (by (try dsimp only); omega) | exact cndF h (by (try dsimp only); omega) | (exfalso; simp at h; omega) | simp at h | skip)) | refine side2 ?_ | refine sideL2 ?_ | refine Or.inr ?_ | refine xi _ (And.intro rfl rfl) ?_ | refine xi _ (fun _ => And.intro rfl rfl) ?_ | fail)
        all_goals first
          | exact done_pure rfl rfl rfl
          | exact Bool.noConfusion (hfn.symm.trans h)
          | exact done_pure rfl rfl (real_2 (neg_wrap (by omega)) rfl)
          | (exfalso; omega)
          | (rename_i h9; exact Bool.noConfusion (hfn.symm.trans (h9.2 (by omega))))
          | (rcases h with h8 | h8; exact absurd h8 (by omega); exact Bool.noConfusion (hfn.symm.trans h8.2))
      · rw [floor_long hrf (by rw [hfn]; simp) (by rw [← hQ]; exact fun hc => hq hc.2)]
        have h2 := len_two (n := Q)
        repeat' ((conv => whnf); first | refine walk (Try.ok ..) ?_ | (refine Cnd.mk (fun h => ?_) (fun h => ?_) <;> (first | exact cndT h (by (try dsimp only); omega) | exact cndF h (by (try dsimp only); omega) | (exfalso; simp at h; omega) | simp at h | skip)) | refine side2 ?_ | refine Or.inr ?_ | refine xi _ (And.intro rfl rfl) ?_ | refine xi _ (fun _ => And.intro rfl rfl) ?_ | fail)
        all_goals first
          | exact done_pure rfl rfl rfl
          | exact Bool.noConfusion (hfn.symm.trans h)
          | exact done_pure rfl rfl (real_2 (neg_wrap (by omega)) rfl)
          | (exfalso; omega)
          | (rename_i h9; exact Bool.noConfusion (hfn.symm.trans (h9.2 (by omega))))
          | (rcases h with h8 | h8; exact absurd h8 (by omega); exact Bool.noConfusion (hfn.symm.trans h8.2))
    · by_cases hq : Q ≤ 9223372036854775808
      · rw [floor_neg hrf hfn (by rw [← hQ]; exact hq), ← hQ]
        have h2 := len_two (n := Q)
        have hnq : n = Q := by omega
        rw [hnq]
        repeat' ((conv => whnf); first | refine walk (Try.ok ..) ?_ | (refine Cnd.mk (fun h => ?_) (fun h => ?_) <;> (first | exact cndT h (by (try dsimp only); omega) | exact cndF h (by (try dsimp only); omega) | (exfalso; simp at h; omega) | simp at h | skip)) | refine side2 ?_ | refine Or.inr ?_ | refine xi _ (And.intro rfl rfl) ?_ | refine xi _ (fun _ => And.intro rfl rfl) ?_ | fail)
        all_goals first
          | exact done_pure rfl rfl rfl
          | exact Bool.noConfusion (hfn.symm.trans h)
          | exact done_pure rfl rfl (real_2 (neg_wrap (by omega)) rfl)
          | (exfalso; omega)
          | (rename_i h9; exact Bool.noConfusion (hfn.symm.trans (h9.2 (by omega))))
          | (rcases h with h8 | h8; exact absurd h8 (by omega); exact Bool.noConfusion (hfn.symm.trans h8.2))
      · rw [floor_long hrf (by rw [← hQ]; exact fun hc => hq hc.2) (by rw [hfn]; simp)]
        have h2 := len_two (n := Q)
        repeat' ((conv => whnf); first | refine walk (Try.ok ..) ?_ | (refine Cnd.mk (fun h => ?_) (fun h => ?_) <;> (first | exact cndT h (by (try dsimp only); omega) | exact cndF h (by (try dsimp only); omega) | (exfalso; simp at h; omega) | simp at h | skip)) | refine side2 ?_ | refine xi _ (fun _ => And.intro rfl rfl) ?_ | fail)
        all_goals first
          | exact done_pure rfl rfl rfl
          | exact Bool.noConfusion (hfn.symm.trans h)
          | exact done_pure rfl rfl (real_2 (neg_wrap (by omega)) rfl)
          | (exfalso; omega)
          | (rename_i h9; exact Bool.noConfusion (hfn.symm.trans (h9.2 (by omega))))
          | (rcases h with h8 | h8; exact absurd h8 (by omega); exact Bool.noConfusion (hfn.symm.trans h8.2))
  · have hQq : Q = q := by
      rw [hQ2, if_neg]
      rintro ⟨h8, h9⟩
      rw [h h8] at hs0
      exact absurd (hs0.2 h9) (by simp)
    rw [← hQq] at hql ⊢
    refine called_at (.v (.int .u64 ((Q % 18446744073709551616 : Nat) : Int))) rfl (fun w' hh => low_any Q A1 c1 w' (ro_of_row hh (id := 300) rfl) (by omega)) ?_
    obtain ⟨n, en⟩ : ∃ n, n = Q % 18446744073709551616 := ⟨_, rfl⟩
    have hnb : n < 18446744073709551616 := by omega
    rw [← en]
    cases hfn : f.neg
    · by_cases hq : Q < 9223372036854775808
      · rw [floor_pos hrf hfn (by rw [← hQ]; exact hq), ← hQ]
        have h2 := len_two (n := Q)
        have hnq : n = Q := by omega
        rw [hnq]
        repeat' ((conv => whnf); first | refine walk (Try.ok ..) ?_ | (refine Cnd.mk (fun h => ?_) (fun h => ?_) <;> (first | exact cndT h (by (try dsimp only); omega) | exact cndF h (by (try dsimp only); omega) | (exfalso; simp at h; omega) | simp at h | skip)) | refine side2 ?_ | refine sideL2 ?_ | refine Or.inr ?_ | refine xi _ (And.intro rfl rfl) ?_ | refine xi _ (fun _ => And.intro rfl rfl) ?_ | fail)
        all_goals first
          | exact done_pure rfl rfl rfl
          | exact Bool.noConfusion (hfn.symm.trans h)
          | exact done_pure rfl rfl (real_2 (neg_wrap (by omega)) rfl)
          | (exfalso; omega)
          | (rename_i h9; exact Bool.noConfusion (hfn.symm.trans (h9.2 (by omega))))
          | (rcases h with h8 | h8; exact absurd h8 (by omega); exact Bool.noConfusion (hfn.symm.trans h8.2))
      · rw [floor_long hrf (by rw [hfn]; simp) (by rw [← hQ]; exact fun hc => hq hc.2)]
        have h2 := len_two (n := Q)
        repeat' ((conv => whnf); first | refine walk (Try.ok ..) ?_ | (refine Cnd.mk (fun h => ?_) (fun h => ?_) <;> (first | exact cndT h (by (try dsimp only); omega) | exact cndF h (by (try dsimp only); omega) | (exfalso; simp at h; omega) | simp at h | skip)) | refine side2 ?_ | refine Or.inr ?_ | refine xi _ (And.intro rfl rfl) ?_ | refine xi _ (fun _ => And.intro rfl rfl) ?_ | fail)
        all_goals first
          | exact done_pure rfl rfl rfl
          | exact Bool.noConfusion (hfn.symm.trans h)
          | exact done_pure rfl rfl (real_2 (neg_wrap (by omega)) rfl)
          | (exfalso; omega)
          | (rename_i h9; exact Bool.noConfusion (hfn.symm.trans (h9.2 (by omega))))
          | (rcases h with h8 | h8; exact absurd h8 (by omega); exact Bool.noConfusion (hfn.symm.trans h8.2))
    · by_cases hq : Q ≤ 9223372036854775808
      · rw [floor_neg hrf hfn (by rw [← hQ]; exact hq), ← hQ]
        have h2 := len_two (n := Q)
        have hnq : n = Q := by omega
        rw [hnq]
        repeat' ((conv => whnf); first | refine walk (Try.ok ..) ?_ | (refine Cnd.mk (fun h => ?_) (fun h => ?_) <;> (first | exact cndT h (by (try dsimp only); omega) | exact cndF h (by (try dsimp only); omega) | (exfalso; simp at h; omega) | simp at h | skip)) | refine side2 ?_ | refine Or.inr ?_ | refine xi _ (And.intro rfl rfl) ?_ | refine xi _ (fun _ => And.intro rfl rfl) ?_ | fail)
        all_goals first
          | exact done_pure rfl rfl rfl
          | exact Bool.noConfusion (hfn.symm.trans h)
          | exact done_pure rfl rfl (real_2 (neg_wrap (by omega)) rfl)
          | (exfalso; omega)
          | (rename_i h9; exact Bool.noConfusion (hfn.symm.trans (h9.2 (by omega))))
          | (rcases h with h8 | h8; exact absurd h8 (by omega); exact Bool.noConfusion (hfn.symm.trans h8.2))
      · rw [floor_long hrf (by rw [← hQ]; exact fun hc => hq hc.2) (by rw [hfn]; simp)]
        have h2 := len_two (n := Q)
        repeat' ((conv => whnf); first | refine walk (Try.ok ..) ?_ | (refine Cnd.mk (fun h => ?_) (fun h => ?_) <;> (first | exact cndT h (by (try dsimp only); omega) | exact cndF h (by (try dsimp only); omega) | (exfalso; simp at h; omega) | simp at h | skip)) | refine side2 ?_ | refine xi _ (fun _ => And.intro rfl rfl) ?_ | fail)
        all_goals first
          | exact done_pure rfl rfl rfl
          | exact Bool.noConfusion (hfn.symm.trans h)
          | exact done_pure rfl rfl (real_2 (neg_wrap (by omega)) rfl)
          | (exfalso; omega)
          | (rename_i h9; exact Bool.noConfusion (hfn.symm.trans (h9.2 (by omega))))
          | (rcases h with h8 | h8; exact absurd h8 (by omega); exact Bool.noConfusion (hfn.symm.trans h8.2))
end Go.Proofs.Ytomhfakkebaciaa
