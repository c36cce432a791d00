/-
  Fractions as rational numbers. No program in sight.
-/
import Derived.Test.YtomhfakkebaciaaFD
set_option linter.unusedSimpArgs false
set_option linter.unusedVariables false
namespace Go.Proofs.Ytomhfakkebaciaa
open Go.RowKit Go.PlainAid
def sg (neg : Bool) (n : Nat) : Int := if neg = true then -(n : Int) else n
def toR (f : Fr) : Rat := mkRat (sg f.neg f.num) f.den
def ofR (q : Rat) : Fr := ⟨decide (q.num < 0), q.num.natAbs, q.den⟩
def Small (q : Rat) : Prop := q.num.natAbs < big ∧ q.den < big
instance (q : Rat) : Decidable (Small q) := by unfold Small; infer_instance
def fitR (q : Rat) : Fr × Int := if Small q then (ofR q, 0) else (zeroF, 3)
theorem sg_abs (neg : Bool) (n : Nat) : (sg neg n).natAbs = n := by
  unfold sg
  cases neg
  · rw [if_neg (by simp)]; omega
  · rw [if_pos rfl]; omega
theorem sg_div (neg : Bool) {n g : Nat} (h : g ∣ n) : sg neg n / (g : Int) = sg neg (n / g) := by
  unfold sg
  have h' : (g : Int) ∣ (n : Int) := Int.natCast_dvd_natCast.2 h
  split
  · rw [Int.neg_ediv_of_dvd h', Int.natCast_ediv]
  · rw [Int.natCast_ediv]
theorem sg_neg (neg : Bool) (n : Nat) : decide (sg neg n < 0) = (neg && decide (n ≠ 0)) := by
  unfold sg
  cases neg
  · simp
  · rcases Nat.eq_zero_or_pos n with h0 | h0
    · subst h0; rfl
    · rw [if_pos rfl, decide_eq_true (show -(n : Int) < 0 by omega), decide_eq_true (show n ≠ 0 by omega)]; rfl
theorem fitF_R (neg : Bool) {n d : Nat} (hd : 0 < d) : fitF neg n d = fitR (mkRat (sg neg n) d) := by
  have hg : 0 < Nat.gcd n d := Nat.gcd_pos_of_pos_right _ hd
  have e1 : (mkRat (sg neg n) d).num = sg neg (n / Nat.gcd n d) := by
    rw [Rat.num_mkRat, if_neg (by omega), sg_abs, Nat.gcd_comm, sg_div neg (Nat.gcd_dvd_left n d)]
  have e2 : (mkRat (sg neg n) d).den = d / Nat.gcd n d := by
    rw [Rat.den_mkRat, if_neg (by omega), sg_abs, Nat.gcd_comm]
  have e3 : decide (n ≠ 0) = decide (n / Nat.gcd n d ≠ 0) := by
    rcases Nat.eq_zero_or_pos n with h0 | h0
    · subst h0; simp
    · have := Nat.div_pos (Nat.le_of_dvd h0 (Nat.gcd_dvd_left n d)) hg
      rw [decide_eq_true (show n ≠ 0 by omega), decide_eq_true (show n / Nat.gcd n d ≠ 0 by omega)]
  have e4 : ofR (mkRat (sg neg n) d) = ⟨neg && decide (n ≠ 0), n / Nat.gcd n d, d / Nat.gcd n d⟩ := by
    unfold ofR
    rw [e1, e2, sg_abs, sg_neg, e3]
  have e5 : Small (mkRat (sg neg n) d) ↔ (n / Nat.gcd n d < big ∧ d / Nat.gcd n d < big) := by
    unfold Small
    rw [e1, e2, sg_abs]
  unfold fitF fitR
  rw [e4]
  by_cases h : n / Nat.gcd n d < big ∧ d / Nat.gcd n d < big
  · rw [if_pos h, if_pos (e5.2 h)]
  · rw [if_neg h, if_neg (fun hc => h (e5.1 hc))]
structure RightP (f : Fr) : Prop where
  den : 0 < f.den
  cop : Nat.gcd f.num f.den = 1
  zero : f.neg = true → f.num ≠ 0
theorem right_iff {f : Fr} : rightF f = true ↔ RightP f := by
  unfold rightF
  simp only [Bool.and_eq_true, decide_eq_true_eq, Bool.not_eq_true', Bool.and_eq_false_iff, decide_eq_false_iff_not]
  constructor
  · rintro ⟨⟨h1, h2⟩, h3⟩
    refine ⟨by omega, h2, fun h => ?_⟩
    rcases h3 with h3 | h3
    · rw [h] at h3; cases h3
    · exact h3
  · rintro ⟨h1, h2, h3⟩
    refine ⟨⟨by omega, h2⟩, ?_⟩
    cases hn : f.neg
    · left; rfl
    · right; exact h3 hn
theorem RightP.num_ {f : Fr} (h : RightP f) : (toR f).num = sg f.neg f.num := by
  unfold toR
  rw [Rat.num_mkRat, if_neg (by have := h.den; omega), sg_abs, Nat.gcd_comm, h.cop]
  simp
theorem RightP.den_ {f : Fr} (h : RightP f) : (toR f).den = f.den := by
  unfold toR
  rw [Rat.den_mkRat, if_neg (by have := h.den; omega), sg_abs, Nat.gcd_comm, h.cop]
  simp
theorem RightP.of_to {f : Fr} (h : RightP f) : ofR (toR f) = f := by
  unfold ofR
  rw [h.num_, h.den_, sg_abs, sg_neg]
  obtain ⟨neg, num, den⟩ := f
  cases neg
  · rfl
  · have := h.zero rfl
    simp only [Fr.mk.injEq, and_true]
    simpa using this
theorem right_ofR (q : Rat) : RightP (ofR q) := by
  refine ⟨q.den_pos, q.reduced, fun h => ?_⟩
  simp only [ofR, decide_eq_true_eq] at h ⊢
  omega
theorem to_of (q : Rat) : toR (ofR q) = q := by
  unfold toR ofR sg
  simp only [decide_eq_true_eq]
  split
  · rw [show (-(q.num.natAbs : Int)) = q.num by omega, Rat.mkRat_self]
  · rw [show ((q.num.natAbs : Int)) = q.num by omega, Rat.mkRat_self]
theorem ofR_inj {p q : Rat} : ofR p = ofR q ↔ p = q := ⟨fun h => by rw [← to_of p, h, to_of], fun h => by rw [h]⟩
theorem addF_R {f g : Fr} (hf : RightP f) (hg : RightP g) : addF f g = fitR (toR f + toR g) := by
  have h1 := hf.den
  have h2 := hg.den
  have hd : 0 < f.den * g.den := Nat.mul_pos h1 h2
  unfold toR
  rw [Rat.mkRat_add_mkRat _ _ (by omega) (by omega)]
  have key : ∀ neg n, sg neg n = sg f.neg f.num * (g.den : Int) + sg g.neg g.num * (f.den : Int) → fitF neg n (f.den * g.den) = fitR (mkRat (sg f.neg f.num * (g.den : Int) + sg g.neg g.num * (f.den : Int)) (f.den * g.den)) := by
    intro neg n e
    rw [fitF_R neg hd, e]
  have e1 : ((f.num * g.den : Nat) : Int) = (f.num : Int) * (g.den : Int) := Int.natCast_mul ..
  have e2 : ((g.num * f.den : Nat) : Int) = (g.num : Int) * (f.den : Int) := Int.natCast_mul ..
  unfold addF
  split
  · rename_i h
    refine key _ _ ?_
    rw [← h]
    unfold sg
    split
    · rw [Int.neg_mul, Int.neg_mul, ← e1, ← e2]; omega
    · rw [← e1, ← e2]; omega
  · rename_i h
    split
    · refine key _ _ ?_
      unfold sg
      cases hfn : f.neg <;> cases hgn : g.neg <;> simp only [hfn, hgn, not_true_eq_false, Bool.false_eq_true, if_false, if_true, Int.neg_mul] at h ⊢ <;> rw [← e1, ← e2] <;> omega
    · refine key _ _ ?_
      unfold sg
      cases hfn : f.neg <;> cases hgn : g.neg <;> simp only [hfn, hgn, not_true_eq_false, Bool.false_eq_true, if_false, if_true, Int.neg_mul] at h ⊢ <;> rw [← e1, ← e2] <;> omega
theorem turn_right {g : Fr} (h : RightP g) : RightP (turnF g) := by
  refine ⟨h.den, h.cop, fun e => ?_⟩
  unfold turnF at e ⊢
  simp at e
  exact e.2
theorem turn_R {g : Fr} : toR (turnF g) = -toR g := by
  unfold toR turnF
  rw [Rat.neg_mkRat]
  congr 1
  unfold sg
  dsimp only
  rcases Nat.eq_zero_or_pos g.num with h0 | h0
  · rw [h0]; cases g.neg <;> rfl
  · rw [decide_eq_true (show g.num ≠ 0 by omega)]
    cases g.neg <;> simp
theorem subF_R {f g : Fr} (hf : RightP f) (hg : RightP g) : addF f (turnF g) = fitR (toR f - toR g) := by
  rw [addF_R hf (turn_right hg), turn_R, Rat.sub_eq_add_neg]
theorem sg_mul (a b : Bool) (n m : Nat) : sg (a != b) (n * m) = sg a n * sg b m := by
  unfold sg
  cases a <;> cases b <;> simp [Int.natCast_mul, Int.mul_neg, Int.neg_mul]
theorem mulF_R {f g : Fr} (hf : RightP f) (hg : RightP g) : fitF (f.neg != g.neg) (f.num * g.num) (f.den * g.den) = fitR (toR f * toR g) := by
  rw [fitF_R _ (Nat.mul_pos hf.den hg.den), sg_mul]
  unfold toR
  rw [Rat.mkRat_mul_mkRat]
theorem num_ne {g : Fr} (hg : RightP g) : g.num ≠ 0 ↔ toR g ≠ 0 := by
  rw [Ne, Ne, ← Rat.num_eq_zero, hg.num_, ← Int.natAbs_eq_zero, sg_abs]
theorem divF_R {f g : Fr} (hf : RightP f) (hg : RightP g) (h0 : g.num ≠ 0) : fitF (f.neg != g.neg) (f.num * g.den) (f.den * g.num) = fitR (toR f / toR g) := by
  have hd : 0 < f.den * g.num := Nat.mul_pos hf.den (by omega)
  have hn := (num_ne hg).1 h0
  rw [fitF_R _ hd]
  congr 1
  have e : mkRat (sg (f.neg != g.neg) (f.num * g.den)) (f.den * g.num) * toR g = toR f := by
    unfold toR
    rw [Rat.mkRat_mul_mkRat, ← sg_mul]
    have e1 : ((f.neg != g.neg) != g.neg) = f.neg := by cases f.neg <;> cases g.neg <;> rfl
    have e2 : f.num * g.den * g.num = (g.den * g.num) * f.num := by
      rw [Nat.mul_assoc, Nat.mul_comm]
    have e3 : f.den * g.num * g.den = (g.den * g.num) * f.den := by
      rw [Nat.mul_assoc, Nat.mul_comm, Nat.mul_comm g.num]
    rw [e1, e2, e3]
    have e4 : sg f.neg (g.den * g.num * f.num) = ((g.den * g.num : Nat) : Int) * sg f.neg f.num := by
      unfold sg
      split
      · rw [Int.natCast_mul (g.den * g.num), Int.mul_neg]
      · rw [Int.natCast_mul (g.den * g.num)]
    rw [e4, Rat.mkRat_mul_left (by have := Nat.mul_pos hg.den (show 0 < g.num by omega); omega)]
  rw [← e, Rat.mul_div_cancel hn]
def cmpR (p q : Rat) : Int := if p < q then -1 else if q < p then 1 else 0
theorem cmpF_R {f g : Fr} (hf : RightP f) (hg : RightP g) : cmpF f g = cmpR (toR f) (toR g) := by
  unfold cmpR
  simp only [Rat.lt_iff, hf.num_, hf.den_, hg.num_, hg.den_]
  have e1 : ((f.num * g.den : Nat) : Int) = (f.num : Int) * (g.den : Int) := Int.natCast_mul ..
  have e2 : ((g.num * f.den : Nat) : Int) = (g.num : Int) * (f.den : Int) := Int.natCast_mul ..
  have p1 : f.num ≠ 0 → 0 < f.num * g.den := fun h => Nat.mul_pos (by omega) hg.den
  have p2 : g.num ≠ 0 → 0 < g.num * f.den := fun h => Nat.mul_pos (by omega) hf.den
  have z1 := hf.zero
  have z2 := hg.zero
  unfold cmpF cmpN sg
  cases hfn : f.neg <;> cases hgn : g.neg <;> simp only [hfn, hgn, Bool.false_eq_true, if_false, if_true, Int.neg_mul, reduceCtorEq, ← e1, ← e2] at z1 z2 ⊢
  · repeat' split
    all_goals first | rfl | omega
  · have := p2 (z2 trivial)
    repeat' split
    all_goals first | rfl | omega
  · have := p1 (z1 trivial)
    repeat' split
    all_goals first | rfl | omega
  · repeat' split
    all_goals first | rfl | omega
theorem whole_R {f : Fr} (hf : RightP f) : sg f.neg (wholeF f) = (toR f).floor := by
  rw [Rat.floor_def, hf.num_, hf.den_]
  have hd := hf.den
  unfold sg wholeF
  cases hn : f.neg
  · simp
  · simp only [if_true, true_and]
    have h1 := Nat.div_add_mod f.num f.den
    have h2 := Nat.mod_lt f.num hd
    split
    · rename_i h
      have h3 : (-(f.num : Int)) / (f.den : Int) = -(((f.num / f.den + 1 : Nat)) : Int) ∧ (-(f.num : Int)) % (f.den : Int) = (f.den : Int) - ((f.num % f.den : Nat) : Int) := by
        rw [Int.ediv_emod_unique (by omega)]
        refine ⟨?_, by omega, by omega⟩
        have e : (f.den : Int) * ((f.num / f.den : Nat) : Int) = ((f.den * (f.num / f.den) : Nat) : Int) := (Int.natCast_mul ..).symm
        rw [Int.natCast_add, Int.neg_add, Int.mul_add, Int.mul_neg, e]
        omega
      exact h3.1.symm
    · rename_i h
      have h3 : f.den ∣ f.num := Nat.dvd_of_mod_eq_zero (by omega)
      rw [Int.neg_ediv_of_dvd (Int.natCast_dvd_natCast.2 h3), Int.natCast_ediv]
theorem ratioE_R {a b : Int} (hb : 0 < b) : ratioE a b = fitR (mkRat a b.natAbs) := by
  unfold ratioE
  rw [if_neg (by omega), fitF_R _ (show 0 < b.natAbs by omega)]
  congr 2
  unfold sg
  rw [decide_eq_false (show ¬ b < 0 by omega)]
  by_cases h : a < 0
  · rw [decide_eq_true h]; simp; omega
  · rw [decide_eq_false h]; simp; omega
theorem ofF_R (n : Int) : ofF n = (fitR (n : Rat)).1 := by
  unfold ofF
  rw [fitF_R _ (by omega)]
  congr 2
  have : sg (decide (n < 0)) n.natAbs = n := by
    unfold sg
    simp only [decide_eq_true_eq]
    split <;> omega
  rw [this]
  exact Rat.ext (by rw [Rat.num_mkRat]; simp) (by rw [Rat.den_mkRat]; simp)
end Go.Proofs.Ytomhfakkebaciaa
