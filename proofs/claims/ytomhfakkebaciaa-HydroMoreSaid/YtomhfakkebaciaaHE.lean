/-
  Weights at draughts and draughts at weights are each other's inverse, plain. No program in sight. What the stage's theorem needs of a table, plain. No program in sight. A row more in the middle of two rows changes nothing, plain. No program in sight.
-/
import Derived.Test.YtomhfakkebaciaaHD
set_option linter.unusedSimpArgs false
set_option linter.unusedVariables false
namespace Go.Proofs.Ytomhfakkebaciaa
section
open Go
def BdX (q : Rat) : Prop := Bd q 10000000000000000000 500000000
/-- a line at a fraction -/
theorem line_q {a b p q : Int} {X : Fr} {x : Rat} (hX : Rq X x) (hx : BdX x) (ha : a.natAbs ≤ 500000000) (hb : b.natAbs ≤ 500000000) (hp : p.natAbs ≤ 500000000) (hq : q.natAbs ≤ 500000000) (hpq : p < q) :
    ∃ Y, lineE a b X p q = (Y, 0) ∧ Rq Y ((x - (p : Rat)) * ((b - a : Int) : Rat) / ((q - p : Int) : Rat) + (a : Rat)) := by
  obtain ⟨P, hP, eP⟩ := rq_int (n := p) (N := 500000000) hp (by decide)
  obtain ⟨B, hBB, eB⟩ := rq_int (n := b - a) (N := 1000000000) (by omega) (by decide)
  obtain ⟨Q, hQ, eQ⟩ := rq_int (n := q - p) (N := 1000000000) (by omega) (by decide)
  obtain ⟨A, hA, eA⟩ := rq_int (n := a) (N := 500000000) ha (by decide)
  have hq0 : ((q - p : Int) : Rat) ≠ 0 := by
    intro h
    have : q - p = 0 := by exact_mod_cast h
    omega
  have b1 : Bd (x - (p : Rat)) _ _ := Bd.sub hx (Bd.int p (N := 500000000) hp)
  have b2 := b1.mul (Bd.int (b - a) (N := 1000000000) (by omega))
  have b3 := b2.div (Bd.int (q - p) (N := 1000000000) (by omega)) hq0
  have b4 := b3.add (Bd.int a (N := 500000000) ha)
  obtain ⟨S, hS⟩ := Rq.ex (b1.small (by decide) (by decide))
  obtain ⟨M, hM⟩ := Rq.ex (b2.small (by decide) (by decide))
  obtain ⟨D, hD⟩ := Rq.ex (b3.small (by decide) (by decide))
  obtain ⟨R, hR⟩ := Rq.ex (b4.small (by decide) (by decide))
  refine ⟨R, ?_, hR⟩
  unfold lineE
  rw [eP, eB, eQ, eA, hX.sub hP hS]
  dsimp only
  rw [if_pos rfl, hS.mul hBB hM]
  dsimp only
  rw [if_pos rfl, hM.div hQ hD hq0]
  dsimp only
  rw [if_pos rfl, hD.add hA hR]
  rfl
def dQ (a b : HRow) (x : Int) : Rat := linQ a.d b.d a.k b.k x
def wQ (a b : HRow) (q : Rat) : Rat := (q - (a.d : Rat)) * ((b.k - a.k : Int) : Rat) / ((b.d - a.d : Int) : Rat) + (a.k : Rat)
theorem Pair.d {l : List HRow} {i : Nat} {a b : HRow} (h : Pair l i a b) : a.d < b.d ∧ 0 ≤ a.d ∧ b.d ≤ 50000 := by
  have hR := right_is h.right
  obtain ⟨⟨_, _⟩, _, _, _, _⟩ := ok_row (hR.row _ a h.a)
  obtain ⟨⟨_, _⟩, _, _, _, _⟩ := ok_row (hR.row _ b h.b)
  have := (hR.lt_of (by omega) h.a h.b).1
  omega
theorem int_le {a b : Int} (h : a ≤ b) : (a : Rat) ≤ (b : Rat) := Rat.intCast_le_intCast.2 h
theorem int_lt {a b : Int} (h : a < b) : (a : Rat) < (b : Rat) := Rat.intCast_lt_intCast.2 h
/-- how steep a pair of rows is -/
structure Steep (a b : HRow) (S : Rat) : Prop where
  pos : 0 < S
  d : ∀ x : Int, dQ a b x = (a.d : Rat) + S * ((x : Rat) - (a.k : Rat))
  w : ∀ q : Rat, q = (a.d : Rat) + S * (wQ a b q - (a.k : Rat))
  top : (b.d : Rat) = (a.d : Rat) + S * ((b.k : Rat) - (a.k : Rat))
theorem Pair.steep {l : List HRow} {i : Nat} {a b : HRow} (h : Pair l i a b) : ∃ S, Steep a b S := by
  have hk := h.k.1
  have hd := h.d.1
  have k0 := sub_ne hk
  have d0 := sub_ne hd
  have hkp : (0 : Rat) < (b.k : Rat) - (a.k : Rat) := by have := int_lt hk; grind
  have hdp : (0 : Rat) < (b.d : Rat) - (a.d : Rat) := by have := int_lt hd; grind
  refine ⟨((b.d : Rat) - (a.d : Rat)) * ((b.k : Rat) - (a.k : Rat))⁻¹, Rat.mul_pos hdp (Rat.inv_pos.2 hkp), fun x => ?_, fun q => ?_, ?_⟩
  · unfold dQ linQ
    rw [Rat.div_def]
    grind
  · unfold wQ
    rw [Rat.div_def]
    simp only [Rat.intCast_sub]
    have e1 : ((b.k : Rat) - (a.k : Rat)) * ((b.k : Rat) - (a.k : Rat))⁻¹ = 1 := Rat.mul_inv_cancel _ k0
    have e2 : ((b.d : Rat) - (a.d : Rat)) * ((b.d : Rat) - (a.d : Rat))⁻¹ = 1 := Rat.mul_inv_cancel _ d0
    grind
  · have e1 : ((b.k : Rat) - (a.k : Rat)) * ((b.k : Rat) - (a.k : Rat))⁻¹ = 1 := Rat.mul_inv_cancel _ k0
    grind
theorem mul_lt {S x y : Rat} (hS : 0 < S) (h : x < y) : S * x < S * y := by
  have := Rat.mul_pos hS (show 0 < y - x by grind)
  grind
theorem mul_le {S x y : Rat} (hS : 0 < S) (h : x ≤ y) : S * x ≤ S * y := by
  have := Rat.mul_nonneg (Rat.le_of_lt hS) (show 0 ≤ y - x by grind)
  grind
theorem Steep.lt {a b : HRow} {S : Rat} (h : Steep a b S) {x y : Int} (hxy : x < y) : dQ a b x < dQ a b y := by
  have := mul_lt h.pos (show (x : Rat) - (a.k : Rat) < (y : Rat) - (a.k : Rat) by have := int_lt hxy; grind)
  rw [h.d, h.d]
  grind
theorem Steep.le {a b : HRow} {S : Rat} (h : Steep a b S) {x y : Int} (hxy : x ≤ y) : dQ a b x ≤ dQ a b y := by
  have := mul_le h.pos (show (x : Rat) - (a.k : Rat) ≤ (y : Rat) - (a.k : Rat) by have := int_le hxy; grind)
  rw [h.d, h.d]
  grind
theorem Steep.cmp {a b : HRow} {S : Rat} (h : Steep a b S) (x : Int) (q : Rat) : ((x : Rat) < wQ a b q → dQ a b x < q) ∧ ((x : Rat) = wQ a b q → dQ a b x = q) ∧ (wQ a b q < (x : Rat) → q < dQ a b x) := by
  have e1 := h.d x
  have e2 := h.w q
  refine ⟨fun hx => ?_, fun hx => ?_, fun hx => ?_⟩
  · have := mul_lt h.pos (show (x : Rat) - (a.k : Rat) < wQ a b q - (a.k : Rat) by grind)
    grind
  · rw [hx] at e1
    grind
  · have := mul_lt h.pos (show wQ a b q - (a.k : Rat) < (x : Rat) - (a.k : Rat) by grind)
    grind
theorem Steep.back {a b : HRow} {S : Rat} (h : Steep a b S) (x : Int) : wQ a b (dQ a b x) = (x : Rat) := by
  obtain ⟨h1, h2, h3⟩ := h.cmp x (dQ a b x)
  refine Classical.byContradiction fun hne => ?_
  rcases (Rat.le_total : wQ a b (dQ a b x) ≤ (x : Rat) ∨ (x : Rat) ≤ wQ a b (dQ a b x)) with h4 | h4
  · have := h3 (by grind)
    grind
  · have := h1 (by grind)
    grind
theorem Steep.in_ {a b : HRow} {S : Rat} (h : Steep a b S) {q : Rat} (h1 : (a.d : Rat) ≤ q) (h2 : q ≤ (b.d : Rat)) : (a.k : Rat) ≤ wQ a b q ∧ wQ a b q ≤ (b.k : Rat) := by
  obtain ⟨c1, c2, c3⟩ := h.cmp a.k q
  obtain ⟨e1, e2, e3⟩ := h.cmp b.k q
  have ea := h.d a.k
  have eb := h.d b.k
  have et := h.top
  refine ⟨?_, ?_⟩
  · refine Classical.byContradiction fun hn => ?_
    have := c3 (by grind)
    grind
  · refine Classical.byContradiction fun hn => ?_
    have := e1 (by grind)
    grind
/-- the weight at a draught between two rows -/
theorem Pair.weight {l : List HRow} {i : Nat} {a b : HRow} (h : Pair l i a b) {X : Fr} {q : Rat} (hX : Rq X q) (hx : BdX q) (h1 : (a.d : Rat) ≤ q) (h2 : q ≤ (b.d : Rat)) : ∃ Y, weightH l X = (Y, 0) ∧ Rq Y (wQ a b q) := by
  have hR := right_is h.right
  have oa := hR.row _ a h.a
  have ob := hR.row _ b h.b
  obtain ⟨S, hS⟩ := h.steep
  have hdeep : ∀ (c : HRow), okR c = true → deepC X c = cmpR (c.d : Rat) q := fun c hc => by
    unfold deepC
    rw [(rq_of (cols_d.bd _ hc)).cmp hX]
  have hlow : ∀ (j : Nat) (c : HRow), j < i → l[j]? = some c → deepC X c < 0 := by
    intro j c hj hc
    rw [hdeep c (hR.row _ c hc)]
    have := int_lt (hR.lt_of hj hc h.a).1
    unfold cmpR
    rw [if_pos (by grind)]
    decide
  have hwt : ∀ (n : Nat) (r : HRow), l[n]? = some r → 0 ≤ deepC X r → (∀ (j : Nat) (c : HRow), j < n → l[j]? = some c → deepC X c < 0) → deepI l X = n := by
    intro n r hr h0 hno
    have hi := (List.getElem?_eq_some_iff.1 hr).1
    unfold deepI
    rcases Nat.lt_trichotomy (l.findIdx fun r => decide (0 ≤ deepC X r)) n with h' | h' | h'
    · have e1 : (l.findIdx fun r => decide (0 ≤ deepC X r)) < l.length := by omega
      have e2 := List.findIdx_getElem (p := fun r => decide (0 ≤ deepC X r)) (xs := l) (w := e1)
      have e3 := hno _ _ h' (List.getElem?_eq_getElem e1)
      have e4 := of_decide_eq_true e2
      omega
    · exact h'
    · have e2 := List.not_of_lt_findIdx h'
      rw [List.getElem?_eq_getElem hi] at hr
      cases hr
      simp at e2
      omega
  have hk := fun (r : HRow) (hr : okR r = true) => rq_of (cols_k.bd _ hr)
  by_cases e1 : q = (a.d : Rat)
  · have hc : deepC X a = 0 := by rw [hdeep a oa]; exact cmpR_same e1.symm
    refine ⟨ofF a.k, ?_, ?_⟩
    · unfold weightH
      rw [if_pos ⟨h.right, hX.rightF_⟩, hwt i a h.a (by omega) hlow, h.a]
      dsimp only
      rw [if_pos hc]
    · have : wQ a b q = (a.k : Rat) := by
        rw [e1]
        unfold wQ
        rw [Rat.sub_self, Rat.zero_mul, Rat.div_def, Rat.zero_mul, Rat.zero_add]
      rw [this]
      exact hk a oa
  have hlow2 : ∀ (j : Nat) (c : HRow), j < i + 1 → l[j]? = some c → deepC X c < 0 := by
    intro j c hj hc
    rcases Nat.lt_or_eq_of_le (Nat.le_of_lt_succ hj) with h3 | h3
    · exact hlow j c h3 hc
    · subst h3
      rw [h.a] at hc
      cases hc
      rw [hdeep a oa]
      unfold cmpR
      rw [if_pos (by grind)]
      decide
  by_cases e2 : q = (b.d : Rat)
  · have hc : deepC X b = 0 := by rw [hdeep b ob]; exact cmpR_same e2.symm
    refine ⟨ofF b.k, ?_, ?_⟩
    · unfold weightH
      rw [if_pos ⟨h.right, hX.rightF_⟩, hwt (i + 1) b h.b (by omega) hlow2, h.b]
      dsimp only
      rw [if_pos hc]
    · have : wQ a b q = (b.k : Rat) := by
        have et : dQ a b b.k = (b.d : Rat) := by rw [hS.d, ← hS.top]
        rw [e2, ← et]
        exact hS.back b.k
      rw [this]
      exact hk b ob
  have hc : deepC X b = 1 := by
    rw [hdeep b ob]
    unfold cmpR
    rw [if_neg (by grind), if_pos (by grind)]
  obtain ⟨k1, k2, k3⟩ := h.k
  obtain ⟨d1, d2, d3⟩ := h.d
  obtain ⟨Y, hY, hq⟩ := line_q (a := a.k) (b := b.k) (p := a.d) (q := b.d) hX hx (by omega) (by omega) (by omega) (by omega) d1
  refine ⟨Y, ?_, hq⟩
  unfold weightH
  rw [if_pos ⟨h.right, hX.rightF_⟩, hwt (i + 1) b h.b (by omega) hlow2, h.b]
  dsimp only
  rw [if_neg (by omega), if_neg (by omega), Nat.add_sub_cancel, h.a]
  exact hY
end
section
open Go
theorem cross {l : List HRow} (lo hi : HRow → Prop) (tot : ∀ c, lo c ∨ hi c) (h2 : 2 ≤ l.length) (h0 : ∀ a, l[0]? = some a → lo a) (hn : ∀ b, l[l.length - 1]? = some b → hi b) :
    ∃ i a b, l[i]? = some a ∧ l[i + 1]? = some b ∧ lo a ∧ hi b := by
  have key : ∀ n, n < l.length → (∃ i a b, l[i]? = some a ∧ l[i + 1]? = some b ∧ lo a ∧ hi b) ∨ ∀ c, l[n]? = some c → lo c := by
    intro n
    induction n with
    | zero => intro _; exact .inr h0
    | succ n ih =>
      intro hl
      rcases ih (by omega) with h | h
      · exact .inl h
      · obtain ⟨c, hc⟩ : ∃ c, l[n]? = some c := ⟨_, List.getElem?_eq_getElem (by omega)⟩
        obtain ⟨d, hd⟩ : ∃ d, l[n + 1]? = some d := ⟨_, List.getElem?_eq_getElem hl⟩
        rcases tot d with h1 | h1
        · exact .inr fun e he => by rw [hd] at he; cases he; exact h1
        · exact .inl ⟨n, c, d, hc, hd, h c hc, h1⟩
  obtain ⟨c, hc⟩ : ∃ c, l[l.length - 2]? = some c := ⟨_, List.getElem?_eq_getElem (by omega)⟩
  obtain ⟨d, hd⟩ : ∃ d, l[l.length - 1]? = some d := ⟨_, List.getElem?_eq_getElem (by omega)⟩
  rcases key (l.length - 2) (by omega) with h | h
  · exact h
  · exact ⟨l.length - 2, c, d, hc, by rw [show l.length - 2 + 1 = l.length - 1 from by omega]; exact hd, h c hc, hn d hd⟩
theorem pair_k {l : List HRow} (hr : rightH l = true) {x : Int} (h0 : ∀ a, l[0]? = some a → a.k ≤ x) (hn : ∀ b, l[l.length - 1]? = some b → x ≤ b.k) : ∃ i a b, Pair l i a b ∧ a.k ≤ x ∧ x ≤ b.k := by
  obtain ⟨i, a, b, h1, h2, h3, h4⟩ := cross (fun c => c.k ≤ x) (fun c => x ≤ c.k) (fun c => Int.le_total _ _) (right_is hr).two h0 hn
  exact ⟨i, a, b, ⟨hr, h1, h2⟩, h3, h4⟩
theorem pair_d {l : List HRow} (hr : rightH l = true) {q : Rat} (h0 : ∀ a, l[0]? = some a → (a.d : Rat) ≤ q) (hn : ∀ b, l[l.length - 1]? = some b → q ≤ (b.d : Rat)) : ∃ i a b, Pair l i a b ∧ (a.d : Rat) ≤ q ∧ q ≤ (b.d : Rat) := by
  obtain ⟨i, a, b, h1, h2, h3, h4⟩ := cross (fun c => (c.d : Rat) ≤ q) (fun c => q ≤ (c.d : Rat)) (fun c => Rat.le_total) (right_is hr).two h0 hn
  exact ⟨i, a, b, ⟨hr, h1, h2⟩, h3, h4⟩
/-- a weight of a table, its draught, and back -/
structure Turn (l : List HRow) (x : Int) (X : Fr) (D : Rat) : Prop where
  at_ : ∃ b c d, atH l x = ([X, b, c, d], 0)
  rq : Rq X D
  back : weightH l X = (ofF x, 0)
  pair : ∃ i a b, Pair l i a b ∧ (a.k ≤ x ∧ x ≤ b.k) ∧ D = dQ a b x
theorem Pair.bdx {l : List HRow} {i : Nat} {a b : HRow} (h : Pair l i a b) {x : Int} (h1 : a.k ≤ x) (h2 : x ≤ b.k) : BdX (dQ a b x) := by
  obtain ⟨k1, k2, k3⟩ := h.k
  obtain ⟨d1, d2, d3⟩ := h.d
  exact linQ_bd k1 (by omega) (by omega) h1 h2 (by omega) k3
theorem Pair.turn {l : List HRow} {i : Nat} {a b : HRow} (h : Pair l i a b) {x : Int} (h1 : a.k ≤ x) (h2 : x ≤ b.k) : Turn l x (colH HRow.d a b x) (dQ a b x) := by
  obtain ⟨S, hS⟩ := h.steep
  obtain ⟨k1, k2, k3⟩ := h.k
  have hq : Rq (colH HRow.d a b x) (dQ a b x) := h.col cols_d h1 h2
  have e1 : (a.d : Rat) ≤ dQ a b x := by
    have := hS.le h1
    have e := hS.d a.k
    grind
  have e2 : dQ a b x ≤ (b.d : Rat) := by
    have := hS.le h2
    have e := hS.d b.k
    have t := hS.top
    grind
  obtain ⟨Y, hY, hy⟩ := h.weight hq (h.bdx h1 h2) e1 e2
  rw [hS.back] at hy
  refine ⟨⟨_, _, _, h.at_ h1 h2⟩, hq, ?_, i, a, b, h, ⟨h1, h2⟩, rfl⟩
  rw [hY, (hy.eq_iff (rq_of (n := x) (by omega))).2 rfl]
theorem turn_at {l : List HRow} (hr : rightH l = true) {x : Int} (h0 : ∀ a, l[0]? = some a → a.k ≤ x) (hn : ∀ b, l[l.length - 1]? = some b → x ≤ b.k) : ∃ X D, Turn l x X D := by
  obtain ⟨i, a, b, h, h1, h2⟩ := pair_k hr h0 hn
  exact ⟨_, _, h.turn h1 h2⟩
theorem Turn.lt {l : List HRow} {x y : Int} {X Y : Fr} {D E : Rat} (hx : Turn l x X D) (hy : Turn l y Y E) (h : x < y) : D < E := by
  obtain ⟨i, a, b, hp, ⟨x1, x2⟩, rfl⟩ := hx.pair
  obtain ⟨j, c, d, hq, ⟨y1, y2⟩, rfl⟩ := hy.pair
  have hR := right_is hp.right
  obtain ⟨S, hS⟩ := hp.steep
  obtain ⟨T, hT⟩ := hq.steep
  rcases Nat.lt_trichotomy i j with hij | hij | hij
  · -- the pair of x lies before that of y
    have hbc : b.k ≤ c.k ∧ b.d ≤ c.d ∧ (b.k < c.k → b.d < c.d) := by
      rcases Nat.lt_or_eq_of_le (show i + 1 ≤ j by omega) with h3 | h3
      · have := hR.lt_of h3 hp.b hq.a; omega
      · have e := hp.b
        rw [h3, hq.a] at e
        cases e
        exact ⟨Int.le_refl _, Int.le_refl _, fun h => absurd h (by omega)⟩
    have e1 : dQ a b b.k = (b.d : Rat) := by rw [hS.d, ← hS.top]
    have e2 : dQ c d c.k = (c.d : Rat) := by rw [hT.d]; grind
    have e3 := int_le hbc.2.1
    rcases Int.lt_or_eq_of_le x2 with h3 | h3
    · have := hS.lt h3
      have := hT.le y1
      grind
    · rcases Int.lt_or_eq_of_le y1 with h4 | h4
      · have := hT.lt h4
        rw [h3]
        grind
      · have := int_lt (hbc.2.2 (by omega))
        rw [h3, ← h4]
        grind
  · subst hij
    have e := hp.a
    rw [hq.a] at e
    cases e
    have e := hp.b
    rw [hq.b] at e
    cases e
    exact hS.lt h
  · exfalso
    have hbc : d.k ≤ a.k := by
      rcases Nat.lt_or_eq_of_le (show j + 1 ≤ i by omega) with h3 | h3
      · have := (hR.lt_of h3 hq.b hp.a).2; omega
      · have e := hq.b
        rw [h3, hp.a] at e
        cases e
        exact Int.le_refl _
    omega
theorem Turn.same {l : List HRow} {x : Int} {X Y : Fr} {D E : Rat} (hx : Turn l x X D) (hy : Turn l x Y E) : D = E := by
  obtain ⟨b, c, d, h1⟩ := hx.at_
  obtain ⟨b', c', d', h2⟩ := hy.at_
  rw [h1] at h2
  have : X = Y := by
    have := congrArg (fun p => p.1[0]?) h2
    simpa using this
  subst this
  exact (hx.rq.eq_iff hy.rq).1 rfl
/-- more weight lies deeper -/
theorem turn_cmp {l : List HRow} {x y : Int} {X Y : Fr} {D E : Rat} (hx : Turn l x X D) (hy : Turn l y Y E) : ∃ n, cmpE X Y = (n, 0) ∧ (-1 ≤ n ∧ n ≤ 1) ∧ (n < 0 ↔ x < y) ∧ (0 < n ↔ y < x) := by
  refine ⟨cmpR D E, hx.rq.cmp hy.rq, cmpR_bd _ _, ?_⟩
  rcases Int.lt_trichotomy x y with h | h | h
  · have := hx.lt hy h
    have e : cmpR D E = -1 := by unfold cmpR; rw [if_pos this]
    rw [e]
    omega
  · subst h
    rw [cmpR_same (hx.same hy)]
    omega
  · have := hy.lt hx h
    have e : cmpR D E = 1 := by unfold cmpR; rw [if_neg (by grind), if_pos this]
    rw [e]
    omega
theorem floor_q {X : Fr} {p : Rat} (hx : Rq X p) (hb : -9223372036854775808 ≤ p.floor ∧ p.floor ≤ 9223372036854775807) : floorE X = (p.floor, 0) := by
  have h1 := whole_R hx.right
  rw [hx.toR_] at h1
  rw [← h1] at hb ⊢
  unfold floorE sg at *
  rw [if_pos hx.rightF_]
  cases hn : X.neg
  · rw [hn] at hb
    simp only [Bool.false_eq_true, if_false] at hb ⊢
    rw [if_pos (by omega)]
  · rw [hn] at hb
    simp only [if_true] at hb ⊢
    rw [if_pos (by omega)]
theorem weigh_q {num dd : Int} (hd : 1 ≤ dd ∧ dd ≤ 20) (hn : 0 ≤ num ∧ num ≤ 1000000) : Rq (ratioE num dd).1 ((num : Rat) / (dd : Rat)) ∧ BdX ((num : Rat) / (dd : Rat)) := by
  have e : (num : Rat) / (dd : Rat) = mkRat num dd.natAbs := by
    rw [Rat.mkRat_eq_div]
    congr 1
    have : ((dd.natAbs : Nat) : Int) = dd := by omega
    exact_mod_cast this.symm
  have hb : Bd ((num : Rat) / (dd : Rat)) 1000000 20 := by rw [e]; exact bd_mk (by omega) (by omega) (by omega)
  obtain ⟨X, hX⟩ := Rq.ex (hb.small (by decide) (by decide))
  have := Rq.ratio (a := num) (b := dd) (by omega) (e ▸ hX)
  rw [this]
  exact ⟨hX, ⟨Nat.le_trans hb.1 (by decide), Nat.le_trans hb.2 (by decide)⟩⟩
theorem div_ge {num dd a : Int} (hd : 0 < dd) (h : a * dd ≤ num) : (a : Rat) ≤ (num : Rat) / (dd : Rat) := by
  have d0 : (0 : Rat) < (dd : Rat) := int_lt hd
  have e : (num : Rat) / (dd : Rat) * (dd : Rat) = (num : Rat) := by
    rw [Rat.div_def, Rat.mul_assoc, Rat.inv_mul_cancel _ (by grind), Rat.mul_one]
  have h' : (a : Rat) * (dd : Rat) ≤ (num : Rat) := by have := int_le h; rw [Rat.intCast_mul] at this; exact this
  refine Classical.byContradiction fun hn => ?_
  have := mul_lt d0 (show (num : Rat) / (dd : Rat) < (a : Rat) by grind)
  grind
theorem div_le' {num dd b : Int} (hd : 0 < dd) (h : num ≤ b * dd) : (num : Rat) / (dd : Rat) ≤ (b : Rat) := by
  have d0 : (0 : Rat) < (dd : Rat) := int_lt hd
  have e : (num : Rat) / (dd : Rat) * (dd : Rat) = (num : Rat) := by
    rw [Rat.div_def, Rat.mul_assoc, Rat.inv_mul_cancel _ (by grind), Rat.mul_one]
  have h' : (num : Rat) ≤ (b : Rat) * (dd : Rat) := by have := int_le h; rw [Rat.intCast_mul] at this; exact this
  refine Classical.byContradiction fun hn => ?_
  have := mul_lt d0 (show (b : Rat) < (num : Rat) / (dd : Rat) by grind)
  grind
/-- a draught of a table, its weight, and the whole weights about it -/
structure Draught (l : List HRow) (Q : Fr) (T : Fr) (n : Int) (X : Fr) (c : Int) : Prop where
  weight : weightH l Q = (T, 0)
  right : (Q.num < big ∧ Q.den < big) ∧ T.num < big ∧ T.den < big
  floor : floorE T = (n, 0)
  bd : 0 ≤ n ∧ n ≤ 500000000
  at_ : ∃ b c d, atH l n = ([X, b, c, d], 0)
  cmp : cmpE X Q = (c, 0)
  le : -1 ≤ c ∧ c ≤ 0
  zero : c = 0 ↔ T = ofF n
  next : c ≠ 0 → ∃ Y, (∃ b c d, atH l (n + 1) = ([Y, b, c, d], 0)) ∧ cmpE Y Q = (1, 0) ∧ weightH l Y = (ofF (n + 1), 0)
theorem Rq.big' {X : Fr} {q : Rat} (h : Rq X q) : X.num < big ∧ X.den < big := by
  have h2 := h.small
  rw [h.eq]
  exact ⟨h2.1, h2.2⟩
theorem draught_ok {l : List HRow} (hr : rightH l = true) {num dd : Int} (hd : 1 ≤ dd ∧ dd ≤ 20) (h0 : ∀ a, l[0]? = some a → a.d * dd ≤ num) (hn : ∀ b, l[l.length - 1]? = some b → num ≤ b.d * dd) :
    ∃ T n X c, Draught l (ratioE num dd).1 T n X c := by
  have hR := right_is hr
  have h2 := hR.two
  obtain ⟨f, hf⟩ : ∃ f, l[0]? = some f := ⟨_, List.getElem?_eq_getElem (by omega)⟩
  obtain ⟨g, hg⟩ : ∃ g, l[l.length - 1]? = some g := ⟨_, List.getElem?_eq_getElem (by omega)⟩
  obtain ⟨⟨f1, f2⟩, _, _, _, _⟩ := ok_row (hR.row _ f hf)
  obtain ⟨⟨g1, g2⟩, _, _, _, _⟩ := ok_row (hR.row _ g hg)
  have hnum : 0 ≤ num ∧ num ≤ 1000000 := by
    have e1 := h0 f hf
    have e2 := hn g hg
    have e3 : 0 ≤ f.d * dd := Int.mul_nonneg f1 (by omega)
    have e4 : g.d * dd ≤ 50000 * 20 := Int.mul_le_mul g2 hd.2 (by omega) (by omega)
    omega
  obtain ⟨hQ, hB⟩ := weigh_q hd hnum
  obtain ⟨i, a, b, hp, q1, q2⟩ := pair_d hr (q := (num : Rat) / (dd : Rat)) (fun a ha => div_ge (by omega) (h0 a ha)) (fun b hb => div_le' (by omega) (hn b hb))
  obtain ⟨S, hS⟩ := hp.steep
  obtain ⟨k1, k2, k3⟩ := hp.k
  obtain ⟨T, hT, hw⟩ := hp.weight hQ hB q1 q2
  obtain ⟨w1, w2⟩ := hS.in_ q1 q2
  have n1 : a.k ≤ (wQ a b ((num : Rat) / (dd : Rat))).floor := Rat.le_floor_iff.2 w1
  have hle := Rat.floor_le (wQ a b ((num : Rat) / (dd : Rat)))
  have hlt := Rat.lt_floor_add_one (wQ a b ((num : Rat) / (dd : Rat)))
  have n2 : (wQ a b ((num : Rat) / (dd : Rat))).floor ≤ b.k := by
    refine Rat.intCast_le_intCast.1 ?_
    grind
  have hfl := floor_q hw (by omega)
  obtain ⟨n, en⟩ : ∃ n, n = (wQ a b ((num : Rat) / (dd : Rat))).floor := ⟨_, rfl⟩
  rw [← en] at n1 n2 hle hlt hfl
  have t1 := hp.turn n1 n2
  obtain ⟨c1, c2, c3⟩ := hS.cmp n ((num : Rat) / (dd : Rat))
  refine ⟨T, n, colH HRow.d a b n, cmpR (dQ a b n) ((num : Rat) / (dd : Rat)), hT, ⟨hQ.big', hw.big'⟩, hfl, by omega, t1.at_, t1.rq.cmp hQ, ?_, ?_, fun hne => ?_⟩
  · by_cases he : (n : Rat) = wQ a b ((num : Rat) / (dd : Rat))
    · rw [cmpR_same (c2 he)]; omega
    · have := c1 (by grind)
      unfold cmpR
      rw [if_pos this]
      omega
  · have hi := hw.eq_iff (rq_of (n := n) (by omega))
    rw [hi]
    by_cases he : (n : Rat) = wQ a b ((num : Rat) / (dd : Rat))
    · rw [cmpR_same (c2 he)]
      exact ⟨fun _ => he.symm, fun _ => rfl⟩
    · have := c1 (by grind)
      unfold cmpR
      rw [if_pos this]
      exact ⟨fun h => by omega, fun h => absurd h.symm he⟩
  · have he : (n : Rat) < wQ a b ((num : Rat) / (dd : Rat)) := by
      refine Classical.byContradiction fun hn => hne ?_
      exact cmpR_same (c2 (by grind))
    have n3 : n + 1 ≤ b.k := by
      have : n < b.k := by
        refine Rat.intCast_lt_intCast.1 ?_
        grind
      omega
    have t2 := hp.turn (x := n + 1) (by omega) n3
    obtain ⟨_, _, e3⟩ := hS.cmp (n + 1) ((num : Rat) / (dd : Rat))
    have := e3 hlt
    refine ⟨_, t2.at_, ?_, t2.back⟩
    rw [t2.rq.cmp hQ]
    unfold cmpR
    rw [if_neg (by grind), if_pos this]
end
section
open Go
def dblH (r : HRow) : HRow := ⟨2 * r.d / 3 * 2, 2 * r.k, 2 * r.b, 2 * r.m, 2 * r.t⟩
def midH (a b : HRow) : HRow := ⟨(a.d + b.d) / 2, (a.k + b.k) / 2, (a.b + b.b).tdiv 2, (a.m + b.m) / 2, (a.t + b.t) / 2⟩
/-- all numbers of a row are even -/
structure Even (r : HRow) : Prop where
  d : r.d % 2 = 0
  k : r.k % 2 = 0
  b : r.b % 2 = 0
  m : r.m % 2 = 0
  t : r.t % 2 = 0
theorem dbl_even (r : HRow) : Even (dblH r) := by
  constructor <;> unfold dblH <;> dsimp only <;> omega
structure Mid (x y z : HRow) : Prop where
  d : 2 * z.d = x.d + y.d
  k : 2 * z.k = x.k + y.k
  b : 2 * z.b = x.b + y.b
  m : 2 * z.m = x.m + y.m
  t : 2 * z.t = x.t + y.t
theorem tdiv2 {x : Int} (h : x % 2 = 0) : 2 * x.tdiv 2 = x := by
  have := Int.mul_tdiv_cancel' (show (2 : Int) ∣ x by omega)
  exact this
theorem mid_is {a b : HRow} (ha : Even a) (hb : Even b) : Mid a b (midH a b) := by
  obtain ⟨_, _, _, _, _⟩ := ha
  obtain ⟨_, _, _, _, _⟩ := hb
  constructor <;> unfold midH <;> dsimp only
  · omega
  · omega
  · exact tdiv2 (by omega)
  · omega
  · omega
def moreH (l : List HRow) (i : Nat) (m : HRow) : List HRow := l.take (i + 1) ++ [m] ++ l.drop (i + 1)
theorem more_len {l : List HRow} {i : Nat} {m : HRow} (hi : i + 1 < l.length) : (moreH l i m).length = l.length + 1 := by
  unfold moreH
  rw [List.length_append, List.length_append, List.length_take, List.length_drop, List.length_singleton]
  omega
theorem more_lo {l : List HRow} {i : Nat} {m : HRow} (hi : i + 1 < l.length) {j : Nat} (h : j ≤ i) : (moreH l i m)[j]? = l[j]? := by
  unfold moreH
  rw [List.append_assoc, List.getElem?_append_left (by rw [List.length_take]; omega), List.getElem?_take_of_lt (by omega)]
theorem more_mid {l : List HRow} {i : Nat} {m : HRow} (hi : i + 1 < l.length) : (moreH l i m)[i + 1]? = some m := by
  unfold moreH
  rw [List.append_assoc, List.getElem?_append_right (by rw [List.length_take]; omega), List.length_take, show i + 1 - min (i + 1) l.length = 0 from by omega]
  rfl
theorem more_hi {l : List HRow} {i : Nat} {m : HRow} (hi : i + 1 < l.length) {j : Nat} (h : i + 1 ≤ j) : (moreH l i m)[j + 1]? = l[j]? := by
  unfold moreH
  rw [List.getElem?_append_right (by rw [List.length_append, List.length_take, List.length_singleton]; omega), List.length_append, List.length_take, List.length_singleton, List.getElem?_drop]
  congr 1
  omega
theorem ltR_iff {a b : HRow} : ltR a b = true ↔ a.d < b.d ∧ a.k < b.k := by
  unfold ltR
  simp
theorem ok_mid {a b m : HRow} (ha : okR a = true) (hb : okR b = true) (h : Mid a b m) : okR m = true := by
  obtain ⟨⟨_, _⟩, ⟨_, _⟩, ⟨_, _⟩, ⟨_, _⟩, _, _⟩ := ok_row ha
  obtain ⟨⟨_, _⟩, ⟨_, _⟩, ⟨_, _⟩, ⟨_, _⟩, _, _⟩ := ok_row hb
  obtain ⟨_, _, _, _, _⟩ := h
  unfold okR inB
  simp only [Bool.and_eq_true, decide_eq_true_eq]
  omega
theorem right_of {l : List HRow} (hrow : ∀ (i : Nat) (r : HRow), l[i]? = some r → okR r = true) (hlt : ∀ (i : Nat) (a b : HRow), l[i]? = some a → l[i + 1]? = some b → ltR a b = true) (h2 : 2 ≤ l.length) (h100 : l.length ≤ 100) : rightH l = true := by
  unfold rightH
  simp only [Bool.and_eq_true, List.all_eq_true, List.mem_range, decide_eq_true_eq]
  refine ⟨fun i hi => ?_, h2, h100⟩
  obtain ⟨r, hr⟩ : ∃ r, l[i]? = some r := ⟨_, List.getElem?_eq_getElem hi⟩
  unfold okAt
  rw [hr]
  dsimp only
  rw [hrow i r hr, Bool.true_and, Bool.or_eq_true]
  rcases Nat.eq_zero_or_pos i with h | h
  · exact .inl (by subst h; rfl)
  · refine .inr ?_
    obtain ⟨a, ha⟩ : ∃ a, l[i - 1]? = some a := ⟨_, List.getElem?_eq_getElem (by omega)⟩
    rw [ha]
    exact hlt (i - 1) a r ha (by rw [show i - 1 + 1 = i from by omega]; exact hr)
theorem Pair.mid_lt {l : List HRow} {i : Nat} {a b : HRow} (h : Pair l i a b) (ha : Even a) (hb : Even b) {m : HRow} (hm : Mid a b m) : ltR a m = true ∧ ltR m b = true := by
  have := h.d.1
  have := h.k.1
  obtain ⟨_, _, _, _, _⟩ := ha
  obtain ⟨_, _, _, _, _⟩ := hb
  obtain ⟨_, _, _, _, _⟩ := hm
  rw [ltR_iff, ltR_iff]
  omega
theorem more_right {l : List HRow} {i : Nat} {a b : HRow} (h : Pair l i a b) (ha : Even a) (hb : Even b) {m : HRow} (hm : Mid a b m) (hl : l.length ≤ 99) : rightH (moreH l i m) = true := by
  have hR := right_is h.right
  have hi : i + 1 < l.length := (List.getElem?_eq_some_iff.1 h.b).1
  have h2 := hR.two
  obtain ⟨m1, m2⟩ := h.mid_lt ha hb hm
  refine right_of ?_ ?_ (by rw [more_len hi]; omega) (by rw [more_len hi]; omega)
  · intro j r hr
    rcases Nat.lt_trichotomy j (i + 1) with h1 | h1 | h1
    · rw [more_lo hi (by omega)] at hr
      exact hR.row j r hr
    · subst h1
      rw [more_mid hi] at hr
      cases hr
      exact ok_mid (hR.row _ a h.a) (hR.row _ b h.b) hm
    · obtain ⟨k, rfl⟩ : ∃ k, j = k + 1 := ⟨j - 1, by omega⟩
      rw [more_hi hi (by omega)] at hr
      exact hR.row k r hr
  · intro j c d hc hd
    rcases Nat.lt_trichotomy j i with h1 | h1 | h1
    · rw [more_lo hi (by omega)] at hc hd
      exact hR.lt j c d hc hd
    · subst h1
      rw [more_lo hi (Nat.le_refl _), h.a] at hc
      rw [more_mid hi] at hd
      cases hc
      cases hd
      exact m1
    · rcases Nat.lt_or_eq_of_le (show i + 1 ≤ j by omega) with h3 | h3
      · obtain ⟨k, rfl⟩ : ∃ k, j = k + 1 := ⟨j - 1, by omega⟩
        rw [more_hi hi (by omega)] at hc hd
        exact hR.lt k c d hc hd
      · subst h3
        rw [more_mid hi] at hc
        rw [more_hi hi (Nat.le_refl _), h.b] at hd
        cases hc
        cases hd
        exact m2
theorem lin_mid {u v p q x : Int} {n k : Int} (hk : 2 * k = p + q) (hn : 2 * n = u + v) (h1 : p < k) (h2 : k < q) : linQ u n p k x = linQ u v p q x ∧ linQ n v k q x = linQ u v p q x := by
  have hk' : 2 * (k : Rat) = (p : Rat) + (q : Rat) := by exact_mod_cast hk
  have hn' : 2 * (n : Rat) = (u : Rat) + (v : Rat) := by exact_mod_cast hn
  have e1 := sub_ne h1
  have e2 := sub_ne h2
  have e3 := sub_ne (show p < q by omega)
  unfold linQ
  constructor <;> grind
theorem col_same {l l' : List HRow} {i j : Nat} {a b c d : HRow} (h : Pair l i a b) (h' : Pair l' j c d) {f : HRow → Int} (hf : Cols f) {x : Int} (h1 : a.k ≤ x) (h2 : x ≤ b.k) (h3 : c.k ≤ x) (h4 : x ≤ d.k) (e : linQ (f a) (f b) a.k b.k x = linQ (f c) (f d) c.k d.k x) : colH f a b x = colH f c d x :=
  ((h.col hf h1 h2).eq_iff (h'.col hf h3 h4)).2 e
theorem val_same {l l' : List HRow} {i j : Nat} {a b c d : HRow} (h : Pair l i a b) (h' : Pair l' j c d) {x : Int} (h1 : a.k ≤ x) (h2 : x ≤ b.k) (h3 : c.k ≤ x) (h4 : x ≤ d.k) (e : ∀ f, (f = HRow.d ∨ f = HRow.b ∨ f = HRow.m ∨ f = HRow.t) → linQ (f a) (f b) a.k b.k x = linQ (f c) (f d) c.k d.k x) : valH a b x = valH c d x := by
  unfold valH
  rw [col_same h h' cols_d h1 h2 h3 h4 (e _ (.inl rfl)), col_same h h' cols_b h1 h2 h3 h4 (e _ (.inr (.inl rfl))), col_same h h' cols_m h1 h2 h3 h4 (e _ (.inr (.inr (.inl rfl)))), col_same h h' cols_t h1 h2 h3 h4 (e _ (.inr (.inr (.inr rfl))))]
/-- what HydroMore asks of a weight -/
structure More (l m : List HRow) (x : Int) (X b c d : Fr) : Prop where
  one : atH l x = ([X, b, c, d], 0)
  two : atH m x = ([X, b, c, d], 0)
  back : weightH l X = (ofF x, 0)
  back2 : weightH m X = (ofF x, 0)
theorem more_ok {l : List HRow} {i : Nat} {a b m : HRow} (h : Pair l i a b) (ha : Even a) (hb : Even b) (hm : Mid a b m) (hl : l.length ≤ 99) {x : Int} (h0 : ∀ a, l[0]? = some a → a.k ≤ x) (hn : ∀ b, l[l.length - 1]? = some b → x ≤ b.k) :
    ∃ X y z t, More l (moreH l i m) x X y z t := by
  have hi : i + 1 < l.length := (List.getElem?_eq_some_iff.1 h.b).1
  have hr := more_right h ha hb hm hl
  obtain ⟨m1, m2⟩ := h.mid_lt ha hb hm
  rw [ltR_iff] at m1 m2
  obtain ⟨j, c, d, hp, x1, x2⟩ := pair_k h.right h0 hn
  have fin : ∀ (j' : Nat) (c' d' : HRow), Pair (moreH l i m) j' c' d' → c'.k ≤ x → x ≤ d'.k → (∀ f, (f = HRow.d ∨ f = HRow.b ∨ f = HRow.m ∨ f = HRow.t) → linQ (f c) (f d) c.k d.k x = linQ (f c') (f d') c'.k d'.k x) → ∃ X y z t, More l (moreH l i m) x X y z t := by
    intro j' c' d' hq y1 y2 e
    have hv := val_same hp hq x1 x2 y1 y2 e
    have t1 := hp.turn x1 x2
    have t2 := hq.turn y1 y2
    have e1 := hp.at_ x1 x2
    have e2 := hq.at_ y1 y2
    rw [← hv] at e2
    have hX : colH HRow.d c' d' x = colH HRow.d c d x := (col_same hp hq cols_d x1 x2 y1 y2 (e _ (.inl rfl))).symm
    have := t2.back
    rw [hX] at this
    exact ⟨_, _, _, _, e1, e2, t1.back, this⟩
  rcases Nat.lt_trichotomy j i with h1 | h1 | h1
  · exact fin j c d ⟨hr, by rw [more_lo hi (by omega)]; exact hp.a, by rw [more_lo hi (by omega)]; exact hp.b⟩ x1 x2 fun f _ => rfl
  · subst h1
    have e := hp.a
    rw [h.a] at e
    cases e
    have e := hp.b
    rw [h.b] at e
    cases e
    have hf : ∀ f : HRow → Int, (f = HRow.d ∨ f = HRow.b ∨ f = HRow.m ∨ f = HRow.t) → 2 * f m = f a + f b := by
      intro f hf
      rcases hf with rfl | rfl | rfl | rfl
      · exact hm.d
      · exact hm.b
      · exact hm.m
      · exact hm.t
    rcases Int.le_total x m.k with h3 | h3
    · exact fin j a m ⟨hr, by rw [more_lo hi (Nat.le_refl _)]; exact h.a, more_mid hi⟩ x1 h3 fun f h => (lin_mid hm.k (hf f h) m1.2 m2.2).1.symm
    · exact fin (j + 1) m b ⟨hr, more_mid hi, by rw [more_hi hi (Nat.le_refl _)]; exact h.b⟩ h3 x2 fun f h => (lin_mid hm.k (hf f h) m1.2 m2.2).2.symm
  · exact fin (j + 1) c d ⟨hr, by rw [more_hi hi (by omega)]; exact hp.a, by rw [more_hi hi (by omega)]; exact hp.b⟩ x1 x2 fun f _ => rfl
end
end Go.Proofs.Ytomhfakkebaciaa
