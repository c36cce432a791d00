/-
  How long sums and products of fractions are, and what the laws ask of rational numbers. No program in sight.
-/
import Derived.Test.YtomhfakkebaciaaFE
set_option linter.unusedSimpArgs false
set_option linter.unusedVariables false
namespace Go.Proofs.Ytomhfakkebaciaa
open Go.RowKit Go.PlainAid
def Bd (q : Rat) (N D : Nat) : Prop := q.num.natAbs ≤ N ∧ q.den ≤ D
theorem bd_mk {n : Int} {d N D : Nat} (hd : 0 < d) (hn : n.natAbs ≤ N) (hD : d ≤ D) : Bd (mkRat n d) N D := by
  have hg : 0 < Nat.gcd d n.natAbs := Nat.gcd_pos_of_pos_left _ hd
  refine ⟨?_, ?_⟩
  · rw [Rat.num_mkRat, if_neg (by omega)]
    have h1 : ((Nat.gcd n.natAbs d : Nat) : Int) ∣ n := Int.dvd_natAbs.1 (Int.natCast_dvd_natCast.2 (Nat.gcd_dvd_left _ _))
    obtain ⟨k, hk⟩ := h1
    have h2 : (n / ((Nat.gcd n.natAbs d : Nat) : Int)).natAbs ≤ n.natAbs := by
      have hg' : ((Nat.gcd n.natAbs d : Nat) : Int) ≠ 0 := by rw [Nat.gcd_comm]; omega
      have e : n / ((Nat.gcd n.natAbs d : Nat) : Int) = k := by
        conv => lhs; lhs; rw [hk]
        exact Int.mul_ediv_cancel_left _ hg'
      rw [e]
      conv => rhs; rw [hk]
      rw [Int.natAbs_mul]
      exact Nat.le_mul_of_pos_left _ (by rw [Nat.gcd_comm]; omega)
    rw [Nat.gcd_comm] at h2
    omega
  · rw [Rat.den_mkRat, if_neg (by omega)]
    exact Nat.le_trans (Nat.div_le_self _ _) hD
theorem Bd.small {q : Rat} {N D : Nat} (h : Bd q N D) (hN : N < big) (hD : D < big) : Small q := ⟨Nat.lt_of_le_of_lt h.1 hN, Nat.lt_of_le_of_lt h.2 hD⟩
theorem abs_mul_le {a : Int} {b A B : Nat} (h : a.natAbs ≤ A) (k : b ≤ B) : (a * (b : Int)).natAbs ≤ A * B := by
  rw [Int.natAbs_mul]
  exact Nat.mul_le_mul h k
theorem Bd.add {p q : Rat} {N D M E : Nat} (h : Bd p N D) (k : Bd q M E) : Bd (p + q) (N * E + M * D) (D * E) := by
  rw [Rat.add_def']
  refine bd_mk (Nat.mul_pos p.den_pos q.den_pos) ?_ (Nat.mul_le_mul h.2 k.2)
  have h1 := abs_mul_le h.1 k.2
  have h2 := abs_mul_le k.1 h.2
  exact Nat.le_trans (Int.natAbs_add_le _ _) (Nat.add_le_add h1 h2)
theorem Bd.neg {p : Rat} {N D : Nat} (h : Bd p N D) : Bd (-p) N D := ⟨by rw [Rat.neg_num, Int.natAbs_neg]; exact h.1, h.2⟩
theorem Bd.sub {p q : Rat} {N D M E : Nat} (h : Bd p N D) (k : Bd q M E) : Bd (p - q) (N * E + M * D) (D * E) := by
  rw [Rat.sub_eq_add_neg]
  exact h.add k.neg
theorem Bd.mul {p q : Rat} {N D M E : Nat} (h : Bd p N D) (k : Bd q M E) : Bd (p * q) (N * M) (D * E) := by
  rw [Rat.mul_def']
  refine bd_mk (Nat.mul_pos p.den_pos q.den_pos) ?_ (Nat.mul_le_mul h.2 k.2)
  rw [Int.natAbs_mul]
  exact Nat.mul_le_mul h.1 k.1
theorem Bd.inv {p : Rat} {N D : Nat} (h : Bd p N D) (h0 : p ≠ 0) : Bd p⁻¹ D N := by
  have hn : p.num ≠ 0 := fun e => h0 (Rat.num_eq_zero.1 e)
  have e : p⁻¹ = mkRat (p.num.sign * p.den) p.num.natAbs := by
    have e1 : p * mkRat (p.num.sign * p.den) p.num.natAbs = 1 := by
      rw [Rat.mul_def']
      have e2 : mkRat p.num p.den * mkRat (p.num.sign * p.den) p.num.natAbs = 1 := by
        rw [Rat.mkRat_mul_mkRat]
        have e3 : p.num * (p.num.sign * (p.den : Int)) = ((p.den * p.num.natAbs : Nat) : Int) * 1 := by
          rw [← Int.mul_assoc, Int.mul_sign_self, Int.natCast_mul, Int.mul_comm, Int.mul_one]
        have hm : p.den * p.num.natAbs ≠ 0 := Nat.mul_ne_zero p.den_nz (by omega)
        rw [e3]
        have := Rat.mkRat_mul_left (n := 1) (d := 1) (a := p.den * p.num.natAbs) hm
        rw [Nat.mul_one] at this
        rw [this]
        rfl
      rw [Rat.mkRat_self, Rat.mul_def'] at e2
      exact e2
    have h2 : p⁻¹ * (p * mkRat (p.num.sign * p.den) p.num.natAbs) = p⁻¹ * 1 := by rw [e1]
    rw [← Rat.mul_assoc, Rat.inv_mul_cancel p h0, Rat.one_mul, Rat.mul_one] at h2
    exact h2.symm
  rw [e]
  refine bd_mk (by omega) ?_ h.1
  rw [Int.natAbs_mul, Int.natAbs_natCast]
  have : p.num.sign.natAbs = 1 := Int.natAbs_sign_of_ne_zero hn
  rw [this, Nat.one_mul]
  exact h.2
theorem Bd.div {p q : Rat} {N D M E : Nat} (h : Bd p N D) (k : Bd q M E) (h0 : q ≠ 0) : Bd (p / q) (N * E) (D * M) := by
  rw [Rat.div_def]
  exact h.mul (k.inv h0)
theorem Bd.int (n : Int) {N : Nat} (h : n.natAbs ≤ N) : Bd (n : Rat) N 1 := ⟨by simpa using h, by simp⟩
/-- a fraction that is right, and its value -/
structure Rq (X : Fr) (q : Rat) : Prop where
  eq : X = ofR q
  small : Small q
theorem Rq.ex {q : Rat} (h : Small q) : ∃ X, Rq X q := ⟨_, rfl, h⟩
theorem Rq.fit {X : Fr} {q : Rat} (h : Rq X q) : fitR q = (X, 0) := by
  unfold fitR
  rw [if_pos h.small, h.eq]
theorem Rq.right {X : Fr} {q : Rat} (h : Rq X q) : RightP X := by rw [h.eq]; exact right_ofR q
theorem Rq.rightF_ {X : Fr} {q : Rat} (h : Rq X q) : rightF X = true := right_iff.2 h.right
theorem Rq.toR_ {X : Fr} {q : Rat} (h : Rq X q) : toR X = q := by rw [h.eq, to_of]
theorem Rq.both {X Y : Fr} {p q : Rat} (h : Rq X p) (k : Rq Y q) : bothF X Y = true := by
  unfold bothF
  rw [h.rightF_, k.rightF_]
  rfl
theorem Rq.add {X Y Z : Fr} {p q : Rat} (h : Rq X p) (k : Rq Y q) (l : Rq Z (p + q)) : addE X Y = (Z, 0) := by
  unfold addE
  rw [if_pos (h.both k), addF_R h.right k.right, h.toR_, k.toR_, l.fit]
theorem Rq.sub {X Y Z : Fr} {p q : Rat} (h : Rq X p) (k : Rq Y q) (l : Rq Z (p - q)) : subE X Y = (Z, 0) := by
  unfold subE
  rw [if_pos (h.both k), subF_R h.right k.right, h.toR_, k.toR_, l.fit]
theorem Rq.mul {X Y Z : Fr} {p q : Rat} (h : Rq X p) (k : Rq Y q) (l : Rq Z (p * q)) : mulE X Y = (Z, 0) := by
  unfold mulE
  rw [if_pos (h.both k), mulF_R h.right k.right, h.toR_, k.toR_, l.fit]
theorem Rq.div {X Y Z : Fr} {p q : Rat} (h : Rq X p) (k : Rq Y q) (l : Rq Z (p / q)) (h0 : q ≠ 0) : divE X Y = (Z, 0) := by
  have hn : Y.num ≠ 0 := (num_ne k.right).2 (by rw [k.toR_]; exact h0)
  unfold divE
  rw [if_pos ⟨h.both k, hn⟩, divF_R h.right k.right hn, h.toR_, k.toR_, l.fit]
theorem Rq.div_zero {X Y : Fr} {p : Rat} (k : Rq Y 0) : divE X Y = (zeroF, 2) := by
  have hn : ¬ Y.num ≠ 0 := fun h => (num_ne k.right).1 h k.toR_
  unfold divE
  rw [if_neg fun h => hn h.2]
theorem Rq.cmp {X Y : Fr} {p q : Rat} (h : Rq X p) (k : Rq Y q) : cmpE X Y = (cmpR p q, 0) := by
  unfold cmpE
  rw [if_pos (h.both k), cmpF_R h.right k.right, h.toR_, k.toR_]
theorem Rq.eq_iff {X Y : Fr} {p q : Rat} (h : Rq X p) (k : Rq Y q) : X = Y ↔ p = q := by rw [h.eq, k.eq, ofR_inj]
theorem Rq.of {n : Int} {X : Fr} (h : Rq X (n : Rat)) : ofF n = X := by rw [ofF_R, h.fit]
theorem Rq.ratio {a b : Int} {X : Fr} (hb : 0 < b) (h : Rq X (mkRat a b.natAbs)) : ratioE a b = (X, 0) := by rw [ratioE_R hb, h.fit]
theorem cmpR_same {p q : Rat} (h : p = q) : cmpR p q = 0 := by
  subst h
  unfold cmpR
  rw [if_neg Rat.lt_irrefl, if_neg Rat.lt_irrefl]
end Go.Proofs.Ytomhfakkebaciaa
