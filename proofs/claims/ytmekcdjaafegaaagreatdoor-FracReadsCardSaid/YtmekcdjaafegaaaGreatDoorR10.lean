/-
  The walks of the reference: which fractions are right; the other sign.
-/
import Derived.Test.YtmekcdjaafegaaaGreatDoorR9
import Derived.Test.YtmekcdjaafegaaaGreatDoorN12
namespace Go.Proofs.YtmekcdjaafegaaaGreatDoor
open Go Sat Go.RowKit Go.PlainAid
set_option linter.unusedSimpArgs false
set_option linter.unusedVariables false
theorem uc_num (f : Fr) : List.take 8 (List.drop 1 (frC f)) = uc (lim f.num) := num_at f
theorem uc_den (f : Fr) : List.take 8 (List.drop 9 (frC f)) = uc (lim f.den) := by
  have h : (List.map SV.v (us (lim f.num))).length = 8 := by rw [List.length_map, us_len, lim_len]
  unfold frC
  rw [show (9 : Nat) = 8 + 1 from rfl, List.drop_succ_cons, ← h, List.drop_left, List.take_of_length_le]
  · rfl
  · rw [h, List.length_map, us_len, lim_len]; omega
theorem rdig_num (f : Fr) (w : World) (hf : Big f) :
    Calls Tryz.prog 64 #[(SV.a (List.take 8 (List.drop 1 (frC f)))).real] w fun e w' => ∃ v, e = .returned v ∧ w'.ownsRow w.heap.size 3 1 v (dg b6 f.num).length (iv (dg b6 f.num)) ∧ Below w.heap.size w w' := by
  rw [uc_num]; exact rdigits_any f.num w hf.num
theorem rdig_den (f : Fr) (w : World) (hf : Big f) :
    Calls Tryz.prog 64 #[(SV.a (List.take 8 (List.drop 9 (frC f)))).real] w fun e w' => ∃ v, e = .returned v ∧ w'.ownsRow w.heap.size 3 1 v (dg b6 f.den).length (iv (dg b6 f.den)) ∧ Below w.heap.size w w' := by
  rw [uc_den]; exact rdigits_any f.den w hf.den
theorem dg_big6 {n : Nat} (h : n < big) : (dg b6 n).length ≤ 16 := (dg_len b6_2 16 n).2 (by rw [← big_b6]; exact h)
theorem len_zero {n : Nat} : (dg b6 n).length = 0 ↔ n = 0 := by rw [List.length_eq_zero_iff, dg_nil b6_2]
set_option maxRecDepth 100000 in
set_option maxHeartbeats 8000000 in
theorem rright_any (f : Fr) (w : World) (hf : Big f) :
    Calls Tryz.prog 26 #[frV f] w fun e w' => e = .returned (.bool (rightF f)) ∧ Below w.heap.size w w' := by
  have hn := dg_big6 hf.num
  have hd := dg_big6 hf.den
  have zn := len_zero (n := f.num)
  have zd := len_zero (n := f.den)
  have l17 := frC_len f
  obtain ⟨r, er⟩ : ∃ r, r = rightF f := ⟨_, rfl⟩
  rw [← er]
  have er2 : r = (decide (f.den ≠ 0) && decide (Nat.gcd f.num f.den = 1) && !(f.neg && decide (f.num = 0))) := er
  refine calls_sat (cx := Tryz.cx 27 [1] [] [] w) (Tryz.ok ..) Tryz.func26 rfl [.a (frC f)] rfl (by show 1 ≤ 27; omega) [] (holds_nil (Nat.le_refl _)) ?_
  repeat' ((conv => whnf); first | refine walk (Tryz.ok ..) ?_ | fail)
  (conv => whnf)
  intro g1 hg1
  repeat' ((conv => whnf); first | refine walk (Tryz.ok ..) ?_ | fail)
  refine sat_draw (Tryz.ok ..) [] [(1, .blk g1 37 (frC f))] (by kernel_rfl) (fun w hw => hw.sub ?_) ?_
  · ((repeat' (first | exact trivial | exact rfl | refine And.intro ?_ ?_)) <;> (try (conv => whnf)) <;> (try simp only [SV.real, SV.r2, SV.r1]))
  repeat' ((conv => whnf); first | refine side2 ?_ | fail)
  refine called_row 7 (xs := iv (dg b6 f.num)) (m := (dg b6 f.num).length) (fun v => v) (fun A cap => .o 7 A (dg b6 f.num).length cap) (fun _ _ => rfl) (fun w' hh => by exact rdig_num f w' hf) ?_
  intro A7 c7
  repeat' ((conv => whnf); first | refine kp ?_ ?_ | exact trivial | refine side2 ?_ | fail)
  refine called_row 10 (xs := iv (dg b6 f.den)) (m := (dg b6 f.den).length) (fun v => v) (fun A cap => .o 10 A (dg b6 f.den).length cap) (fun _ _ => rfl) (fun w' hh => by exact rdig_den f w' hf) ?_
  intro A10 c10
  repeat' ((conv => whnf); first | refine walk (Tryz.ok ..) ?_ | (refine Cnd.mk (fun h => ?_) (fun h => ?_) <;> (first | exact cndT h (by (try dsimp only); omega) | exact cndF h (by (try dsimp only); omega) | (exfalso; simp at h; omega) | simp at h | skip)) | refine kp ?_ ?_ | exact trivial | refine side2 ?_ | refine xi _ (fun _ => And.intro rfl rfl) ?_ | fail)
  · have h0 : r = false := by
      rw [er2]
      rcases h with h | ⟨h, k⟩
      · rw [(dg_nil b6_2).1 h]; simp
      · rw [(dg_nil b6_2).1 k, h]; simp
    rw [h0]
    exact done_pure rfl rfl rfl
  have hdn : f.den ≠ 0 := fun k => h.1 ((dg_nil b6_2).2 k)
  have hr : r = decide (Nat.gcd f.num f.den = 1) := by
    rw [er2, decide_eq_true hdn]
    cases hneg : f.neg
    · simp
    · have := h.2 hneg
      rw [dg_nil b6_2] at this
      rw [decide_eq_false this]; simp
  rw [hr]
  clear h er2 er
  refine called_alt3 25 (e := 3) (s := 1) (m := (dg b6 (Nat.gcd f.num f.den)).length) (xs := iv (dg b6 (Nat.gcd f.num f.den))) (.o 7 A7 (dg b6 f.num).length c7) (.o 10 A10 (dg b6 f.den).length c10) (p1 := Nat.gcd f.num f.den = f.num) (p2 := Nat.gcd f.num f.den = f.den) (fun w' hh => ?_) ?_ ?_ ?_
  · rcases Nat.lt_or_ge f.num f.den with h | h
    · exact (rcommon_lt f.num f.den A7 A10 c7 c10 w' (ro_of_row hh (id := 7) rfl) (ro_of_row hh (id := 10) rfl) (by omega) (by omega) (row_cap6 hh (id := 7) rfl) (row_cap6 hh (id := 10) rfl) h).mono fun e w'' hp => hp.elim (fun a => .inr (.inl a)) (fun b => b.elim (fun c => .inl c) (fun c => .inr (.inr c)))
    · exact rcommon_ge f.num f.den A7 A10 c7 c10 w' (ro_of_row hh (id := 7) rfl) (ro_of_row hh (id := 10) rfl) (by omega) (by omega) (row_cap6 hh (id := 7) rfl) (row_cap6 hh (id := 10) rfl) h (by omega)
  · intro e
    skip
    refine called_at (.v (.bool (decide (f.num = 1)))) rfl (fun w' hh => rone_any f.num A7 c7 w' (ro_of_row hh (id := 7) rfl) (by omega)) ?_
    repeat' ((conv => whnf); first | refine walk (Tryz.ok ..) ?_ | fail)
    exact done_pure rfl rfl (congrArg Value.bool (decide_eq_decide.2 (by rw [e])))
  · intro e
    skip
    refine called_at (.v (.bool (decide (f.den = 1)))) rfl (fun w' hh => rone_any f.den A10 c10 w' (ro_of_row hh (id := 10) rfl) (by omega)) ?_
    repeat' ((conv => whnf); first | refine walk (Tryz.ok ..) ?_ | fail)
    exact done_pure rfl rfl (congrArg Value.bool (decide_eq_decide.2 (by rw [e])))
  · intro A1 cap1
    have hgl : (dg b6 (Nat.gcd f.num f.den)).length ≤ 100000 := Nat.le_trans (len_le b6_2 (Nat.le_of_dvd (by omega) (Nat.gcd_dvd_right _ _))) (by omega)
    skip
    refine called_at (.v (.bool (decide (Nat.gcd f.num f.den = 1)))) rfl (fun w' hh => rone_any (Nat.gcd f.num f.den) A1 cap1 w' (ro_of_row hh (id := 25) rfl) hgl) ?_
    repeat' ((conv => whnf); first | refine walk (Tryz.ok ..) ?_ | fail)
    exact done_pure rfl rfl rfl
def negR (f : Fr) : Fr := if f.num = 0 then f else ⟨!f.neg, f.num, f.den⟩
set_option maxRecDepth 100000 in
set_option maxHeartbeats 8000000 in
theorem rneg_any (f : Fr) (w : World) (hf : Big f) :
    Calls Tryz.prog 72 #[frV f] w fun e w' => e = .returned (frV (negR f)) ∧ Below w.heap.size w w' := by
  have zn := len_zero (n := f.num)
  have l17 := frC_len f
  refine calls_sat (cx := Tryz.cx 13 [] [] [] w) (Tryz.ok ..) Tryz.func72 rfl [.a (frC f)] rfl (by show 1 ≤ 13; omega) [] (holds_nil (Nat.le_refl _)) ?_
  repeat' ((conv => whnf); first | refine walk (Tryz.ok ..) ?_ | fail)
  (conv => whnf)
  intro g1 hg1
  skip
  (conv => whnf)
  intro g2 hg2
  repeat' ((conv => whnf); first | refine walk (Tryz.ok ..) ?_ | refine side2 ?_ | fail)
  refine called_row 5 (xs := iv (dg b6 f.num)) (m := (dg b6 f.num).length) (fun v => v) (fun A cap => .o 5 A (dg b6 f.num).length cap) (fun _ _ => rfl) (fun w' hh => by exact rdig_num f w' hf) ?_
  intro A5 c5
  by_cases h0 : f.num = 0
  · have hl : (dg b6 f.num).length = 0 := zn.2 h0
    rw [show negR f = f from if_pos h0]
    repeat' ((conv => whnf); first | refine walk (Tryz.ok ..) ?_ | (refine Cnd.mk (fun h => ?_) (fun h => ?_) <;> (first | exact cndT h (by (try dsimp only); omega) | exact cndF h (by (try dsimp only); omega) | (exfalso; simp at h; omega) | simp at h | skip)) | refine side2 ?_ | fail)
    exact done_pure rfl rfl (congrArg (fun l => (SV.a l).real) (tk2 f))
  · have hl : 0 < (dg b6 f.num).length := Nat.pos_of_ne_zero fun h => h0 (zn.1 h)
    rw [show negR f = ⟨!f.neg, f.num, f.den⟩ from if_neg h0]
    repeat' ((conv => whnf); first | refine walk (Tryz.ok ..) ?_ | (refine Cnd.mk (fun h => ?_) (fun h => ?_) <;> (first | exact cndT h (by (try dsimp only); omega) | exact cndF h (by (try dsimp only); omega) | (exfalso; simp at h; omega) | simp at h | skip)) | refine side2 ?_ | refine xi _ (And.intro rfl rfl) ?_ | fail)
    exact done_pure rfl rfl (congrArg (fun l => (SV.a l).real) (tk2 ⟨!f.neg, f.num, f.den⟩))
theorem negR_big {f : Fr} (h : Big f) : Big (negR f) := by
  unfold negR
  split
  · exact h
  · exact ⟨h.num, h.den⟩
theorem negR_right (f : Fr) : rightF (negR f) = rightF f := by
  unfold negR
  split
  · rfl
  · rename_i h
    unfold rightF
    dsimp only
    rw [decide_eq_false h, Bool.and_false, Bool.and_false]
theorem negR_turn {f : Fr} (h : rightF f = true) : negR f = turnF f := by
  unfold negR turnF
  split
  · rename_i h0
    unfold rightF at h
    simp only [Bool.and_eq_true, Bool.not_eq_true', h0, decide_true, Bool.and_true] at h
    cases f with
    | mk a b c =>
      dsimp only at h h0
      subst h0
      rw [h.2]
      rfl
  · rename_i h0
    rw [decide_eq_true h0, Bool.and_true]
/-- the reference subtracts by a sum -/
theorem subE_neg (f g : Fr) : addE f (negR g) = subE f g := by
  unfold addE subE bothF
  rw [negR_right]
  split
  · rename_i h
    simp only [Bool.and_eq_true] at h
    rw [negR_turn h.2]
  · rfl
end Go.Proofs.YtmekcdjaafegaaaGreatDoor
