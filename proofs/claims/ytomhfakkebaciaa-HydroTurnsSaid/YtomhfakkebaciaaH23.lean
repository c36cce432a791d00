/-
  Weights at draughts and draughts at weights are each other's inverse, plain. No program in sight.
-/
import Derived.Test.YtomhfakkebaciaaHD
set_option linter.unusedSimpArgs false
set_option linter.unusedVariables false
namespace Go.Proofs.Ytomhfakkebaciaa
open Go
def BdX (q : Rat) : Prop := Bd q 10000000000000000000 500000000
/-- a line at a fraction -/
theorem line_q {a b p q : Int} {X : Fr} {x : Rat} (hX : Rq X x) (hx : BdX x) (ha : a.natAbs ≤ 500000000) (hb : b.natAbs ≤ 500000000) (hp : p.natAbs ≤ 500000000) (hq : q.natAbs ≤ 500000000) (hpq : p < q) :
    ∃ Y, lineE a b X p q = (Y, 0) ∧ Rq Y ((x - (p : Rat)) * ((b - a : Int) : Rat) / ((q - p : Int) : Rat) + (a : Rat)) := by
  obtain ⟨P, hP, eP⟩ := rq_int (n := p) (N := 500000000) hp (by decide)
  obtain ⟨B, hBB, eB⟩ := rq_int (n := b - a) (N := 1000000000) (by omega) (by decide)
  obtain ⟨Q, hQ, eQ⟩ := rq_int (n := q - p) (N := 1000000000) (by omega) (by decide)
  obtain ⟨A, hA, eA⟩ := rq_int (n := a) (N := 500000000) ha (by decide)
  have hq0 : ((q - p : Int) : Rat) ≠ 0 := by
    intro h
    have : q - p = 0 := by exact_mod_cast h
    omega
  have b1 : Bd (x - (p : Rat)) _ _ := Bd.sub hx (Bd.int p (N := 500000000) hp)
  have b2 := b1.mul (Bd.int (b - a) (N := 1000000000) (by omega))
  have b3 := b2.div (Bd.int (q - p) (N := 1000000000) (by omega)) hq0
  have b4 := b3.add (Bd.int a (N := 500000000) ha)
  obtain ⟨S, hS⟩ := Rq.ex (b1.small (by decide) (by decide))
  obtain ⟨M, hM⟩ := Rq.ex (b2.small (by decide) (by decide))
  obtain ⟨D, hD⟩ := Rq.ex (b3.small (by decide) (by decide))
  obtain ⟨R, hR⟩ := Rq.ex (b4.small (by decide) (by decide))
  refine ⟨R, ?_, hR⟩
  unfold lineE
  rw [eP, eB, eQ, eA, hX.sub hP hS]
  dsimp only
  rw [if_pos rfl, hS.mul hBB hM]
  dsimp only
  rw [if_pos rfl, hM.div hQ hD hq0]
  dsimp only
  rw [if_pos rfl, hD.add hA hR]
  rfl
def dQ (a b : HRow) (x : Int) : Rat := linQ a.d b.d a.k b.k x
def wQ (a b : HRow) (q : Rat) : Rat := (q - (a.d : Rat)) * ((b.k - a.k : Int) : Rat) / ((b.d - a.d : Int) : Rat) + (a.k : Rat)
theorem Pair.d {l : List HRow} {i : Nat} {a b : HRow} (h : Pair l i a b) : a.d < b.d ∧ 0 ≤ a.d ∧ b.d ≤ 50000 := by
  have hR := right_is h.right
  obtain ⟨⟨_, _⟩, _, _, _, _⟩ := ok_row (hR.row _ a h.a)
  obtain ⟨⟨_, _⟩, _, _, _, _⟩ := ok_row (hR.row _ b h.b)
  have := (hR.lt_of (by omega) h.a h.b).1
  omega
theorem int_le {a b : Int} (h : a ≤ b) : (a : Rat) ≤ (b : Rat) := Rat.intCast_le_intCast.2 h
theorem int_lt {a b : Int} (h : a < b) : (a : Rat) < (b : Rat) := Rat.intCast_lt_intCast.2 h
/-- how steep a pair of rows is -/
structure Steep (a b : HRow) (S : Rat) : Prop where
  pos : 0 < S
  d : ∀ x : Int, dQ a b x = (a.d : Rat) + S * ((x : Rat) - (a.k : Rat))
  w : ∀ q : Rat, q = (a.d : Rat) + S * (wQ a b q - (a.k : Rat))
  top : (b.d : Rat) = (a.d : Rat) + S * ((b.k : Rat) - (a.k : Rat))
theorem Pair.steep {l : List HRow} {i : Nat} {a b : HRow} (h : Pair l i a b) : ∃ S, Steep a b S := by
  have hk := h.k.1
  have hd := h.d.1
  have k0 := sub_ne hk
  have d0 := sub_ne hd
  have hkp : (0 : Rat) < (b.k : Rat) - (a.k : Rat) := by have := int_lt hk; grind
  have hdp : (0 : Rat) < (b.d : Rat) - (a.d : Rat) := by have := int_lt hd; grind
  refine ⟨((b.d : Rat) - (a.d : Rat)) * ((b.k : Rat) - (a.k : Rat))⁻¹, Rat.mul_pos hdp (Rat.inv_pos.2 hkp), fun x => ?_, fun q => ?_, ?_⟩
  · unfold dQ linQ
    rw [Rat.div_def]
    grind
  · unfold wQ
    rw [Rat.div_def]
    simp only [Rat.intCast_sub]
    have e1 : ((b.k : Rat) - (a.k : Rat)) * ((b.k : Rat) - (a.k : Rat))⁻¹ = 1 := Rat.mul_inv_cancel _ k0
    have e2 : ((b.d : Rat) - (a.d : Rat)) * ((b.d : Rat) - (a.d : Rat))⁻¹ = 1 := Rat.mul_inv_cancel _ d0
    grind
  · have e1 : ((b.k : Rat) - (a.k : Rat)) * ((b.k : Rat) - (a.k : Rat))⁻¹ = 1 := Rat.mul_inv_cancel _ k0
    grind
theorem mul_lt {S x y : Rat} (hS : 0 < S) (h : x < y) : S * x < S * y := by
  have := Rat.mul_pos hS (show 0 < y - x by grind)
  grind
theorem mul_le {S x y : Rat} (hS : 0 < S) (h : x ≤ y) : S * x ≤ S * y := by
  have := Rat.mul_nonneg (Rat.le_of_lt hS) (show 0 ≤ y - x by grind)
  grind
theorem Steep.lt {a b : HRow} {S : Rat} (h : Steep a b S) {x y : Int} (hxy : x < y) : dQ a b x < dQ a b y := by
  have := mul_lt h.pos (show (x : Rat) - (a.k : Rat) < (y : Rat) - (a.k : Rat) by have := int_lt hxy; grind)
  rw [h.d, h.d]
  grind
theorem Steep.le {a b : HRow} {S : Rat} (h : Steep a b S) {x y : Int} (hxy : x ≤ y) : dQ a b x ≤ dQ a b y := by
  have := mul_le h.pos (show (x : Rat) - (a.k : Rat) ≤ (y : Rat) - (a.k : Rat) by have := int_le hxy; grind)
  rw [h.d, h.d]
  grind
theorem Steep.cmp {a b : HRow} {S : Rat} (h : Steep a b S) (x : Int) (q : Rat) : ((x : Rat) < wQ a b q → dQ a b x < q) ∧ ((x : Rat) = wQ a b q → dQ a b x = q) ∧ (wQ a b q < (x : Rat) → q < dQ a b x) := by
  have e1 := h.d x
  have e2 := h.w q
  refine ⟨fun hx => ?_, fun hx => ?_, fun hx => ?_⟩
  · have := mul_lt h.pos (show (x : Rat) - (a.k : Rat) < wQ a b q - (a.k : Rat) by grind)
    grind
  · rw [hx] at e1
    grind
  · have := mul_lt h.pos (show wQ a b q - (a.k : Rat) < (x : Rat) - (a.k : Rat) by grind)
    grind
theorem Steep.back {a b : HRow} {S : Rat} (h : Steep a b S) (x : Int) : wQ a b (dQ a b x) = (x : Rat) := by
  obtain ⟨h1, h2, h3⟩ := h.cmp x (dQ a b x)
  refine Classical.byContradiction fun hne => ?_
  rcases (Rat.le_total : wQ a b (dQ a b x) ≤ (x : Rat) ∨ (x : Rat) ≤ wQ a b (dQ a b x)) with h4 | h4
  · have := h3 (by grind)
    grind
  · have := h1 (by grind)
    grind
theorem Steep.in_ {a b : HRow} {S : Rat} (h : Steep a b S) {q : Rat} (h1 : (a.d : Rat) ≤ q) (h2 : q ≤ (b.d : Rat)) : (a.k : Rat) ≤ wQ a b q ∧ wQ a b q ≤ (b.k : Rat) := by
  obtain ⟨c1, c2, c3⟩ := h.cmp a.k q
  obtain ⟨e1, e2, e3⟩ := h.cmp b.k q
  have ea := h.d a.k
  have eb := h.d b.k
  have et := h.top
  refine ⟨?_, ?_⟩
  · refine Classical.byContradiction fun hn => ?_
    have := c3 (by grind)
    grind
  · refine Classical.byContradiction fun hn => ?_
    have := e1 (by grind)
    grind
/-- the weight at a draught between two rows -/
theorem Pair.weight {l : List HRow} {i : Nat} {a b : HRow} (h : Pair l i a b) {X : Fr} {q : Rat} (hX : Rq X q) (hx : BdX q) (h1 : (a.d : Rat) ≤ q) (h2 : q ≤ (b.d : Rat)) : ∃ Y, weightH l X = (Y, 0) ∧ Rq Y (wQ a b q) := by
  have hR := right_is h.right
  have oa := hR.row _ a h.a
  have ob := hR.row _ b h.b
  obtain ⟨S, hS⟩ := h.steep
  have hdeep : ∀ (c : HRow), okR c = true → deepC X c = cmpR (c.d : Rat) q := fun c hc => by
    unfold deepC
    rw [(rq_of (cols_d.bd _ hc)).cmp hX]
  have hlow : ∀ (j : Nat) (c : HRow), j < i → l[j]? = some c → deepC X c < 0 := by
    intro j c hj hc
    rw [hdeep c (hR.row _ c hc)]
    have := int_lt (hR.lt_of hj hc h.a).1
    unfold cmpR
    rw [if_pos (by grind)]
    decide
  have hwt : ∀ (n : Nat) (r : HRow), l[n]? = some r → 0 ≤ deepC X r → (∀ (j : Nat) (c : HRow), j < n → l[j]? = some c → deepC X c < 0) → deepI l X = n := by
    intro n r hr h0 hno
    have hi := (List.getElem?_eq_some_iff.1 hr).1
    unfold deepI
    rcases Nat.lt_trichotomy (l.findIdx fun r => decide (0 ≤ deepC X r)) n with h' | h' | h'
    · have e1 : (l.findIdx fun r => decide (0 ≤ deepC X r)) < l.length := by omega
      have e2 := List.findIdx_getElem (p := fun r => decide (0 ≤ deepC X r)) (xs := l) (w := e1)
      have e3 := hno _ _ h' (List.getElem?_eq_getElem e1)
      have e4 := of_decide_eq_true e2
      omega
    · exact h'
    · have e2 := List.not_of_lt_findIdx h'
      rw [List.getElem?_eq_getElem hi] at hr
      cases hr
      simp at e2
      omega
  have hk := fun (r : HRow) (hr : okR r = true) => rq_of (cols_k.bd _ hr)
  by_cases e1 : q = (a.d : Rat)
  · have hc : deepC X a = 0 := by rw [hdeep a oa]; exact cmpR_same e1.symm
    refine ⟨ofF a.k, ?_, ?_⟩
    · unfold weightH
      rw [if_pos ⟨h.right, hX.rightF_⟩, hwt i a h.a (by omega) hlow, h.a]
      dsimp only
      rw [if_pos hc]
    · have : wQ a b q = (a.k : Rat) := by
        rw [e1]
        unfold wQ
        rw [Rat.sub_self, Rat.zero_mul, Rat.div_def, Rat.zero_mul, Rat.zero_add]
      rw [this]
      exact hk a oa
  have hlow2 : ∀ (j : Nat) (c : HRow), j < i + 1 → l[j]? = some c → deepC X c < 0 := by
    intro j c hj hc
    rcases Nat.lt_or_eq_of_le (Nat.le_of_lt_succ hj) with h3 | h3
    · exact hlow j c h3 hc
    · subst h3
      rw [h.a] at hc
      cases hc
      rw [hdeep a oa]
      unfold cmpR
      rw [if_pos (by grind)]
      decide
  by_cases e2 : q = (b.d : Rat)
  · have hc : deepC X b = 0 := by rw [hdeep b ob]; exact cmpR_same e2.symm
    refine ⟨ofF b.k, ?_, ?_⟩
    · unfold weightH
      rw [if_pos ⟨h.right, hX.rightF_⟩, hwt (i + 1) b h.b (by omega) hlow2, h.b]
      dsimp only
      rw [if_pos hc]
    · have : wQ a b q = (b.k : Rat) := by
        have et : dQ a b b.k = (b.d : Rat) := by rw [hS.d, ← hS.top]
        rw [e2, ← et]
        exact hS.back b.k
      rw [this]
      exact hk b ob
  have hc : deepC X b = 1 := by
    rw [hdeep b ob]
    unfold cmpR
    rw [if_neg (by grind), if_pos (by grind)]
  obtain ⟨k1, k2, k3⟩ := h.k
  obtain ⟨d1, d2, d3⟩ := h.d
  obtain ⟨Y, hY, hq⟩ := line_q (a := a.k) (b := b.k) (p := a.d) (q := b.d) hX hx (by omega) (by omega) (by omega) (by omega) d1
  refine ⟨Y, ?_, hq⟩
  unfold weightH
  rw [if_pos ⟨h.right, hX.rightF_⟩, hwt (i + 1) b h.b (by omega) hlow2, h.b]
  dsimp only
  rw [if_neg (by omega), if_neg (by omega), Nat.add_sub_cancel, h.a]
  exact hY
end Go.Proofs.Ytomhfakkebaciaa
