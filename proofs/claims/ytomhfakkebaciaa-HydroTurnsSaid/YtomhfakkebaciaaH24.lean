/-
  What the stage's theorem needs of a table, plain. No program in sight.
-/
import Derived.Test.YtomhfakkebaciaaH23
set_option linter.unusedSimpArgs false
set_option linter.unusedVariables false
namespace Go.Proofs.Ytomhfakkebaciaa
open Go
theorem cross {l : List HRow} (lo hi : HRow → Prop) (tot : ∀ c, lo c ∨ hi c) (h2 : 2 ≤ l.length) (h0 : ∀ a, l[0]? = some a → lo a) (hn : ∀ b, l[l.length - 1]? = some b → hi b) :
    ∃ i a b, l[i]? = some a ∧ l[i + 1]? = some b ∧ lo a ∧ hi b := by
  have key : ∀ n, n < l.length → (∃ i a b, l[i]? = some a ∧ l[i + 1]? = some b ∧ lo a ∧ hi b) ∨ ∀ c, l[n]? = some c → lo c := by
    intro n
    induction n with
    | zero => intro _; exact .inr h0
    | succ n ih =>
      intro hl
      rcases ih (by omega) with h | h
      · exact .inl h
      · obtain ⟨c, hc⟩ : ∃ c, l[n]? = some c := ⟨_, List.getElem?_eq_getElem (by omega)⟩
        obtain ⟨d, hd⟩ : ∃ d, l[n + 1]? = some d := ⟨_, List.getElem?_eq_getElem hl⟩
        rcases tot d with h1 | h1
        · exact .inr fun e he => by rw [hd] at he; cases he; exact h1
        · exact .inl ⟨n, c, d, hc, hd, h c hc, h1⟩
  obtain ⟨c, hc⟩ : ∃ c, l[l.length - 2]? = some c := ⟨_, List.getElem?_eq_getElem (by omega)⟩
  obtain ⟨d, hd⟩ : ∃ d, l[l.length - 1]? = some d := ⟨_, List.getElem?_eq_getElem (by omega)⟩
  rcases key (l.length - 2) (by omega) with h | h
  · exact h
  · exact ⟨l.length - 2, c, d, hc, by rw [show l.length - 2 + 1 = l.length - 1 from by omega]; exact hd, h c hc, hn d hd⟩
theorem pair_k {l : List HRow} (hr : rightH l = true) {x : Int} (h0 : ∀ a, l[0]? = some a → a.k ≤ x) (hn : ∀ b, l[l.length - 1]? = some b → x ≤ b.k) : ∃ i a b, Pair l i a b ∧ a.k ≤ x ∧ x ≤ b.k := by
  obtain ⟨i, a, b, h1, h2, h3, h4⟩ := cross (fun c => c.k ≤ x) (fun c => x ≤ c.k) (fun c => Int.le_total _ _) (right_is hr).two h0 hn
  exact ⟨i, a, b, ⟨hr, h1, h2⟩, h3, h4⟩
theorem pair_d {l : List HRow} (hr : rightH l = true) {q : Rat} (h0 : ∀ a, l[0]? = some a → (a.d : Rat) ≤ q) (hn : ∀ b, l[l.length - 1]? = some b → q ≤ (b.d : Rat)) : ∃ i a b, Pair l i a b ∧ (a.d : Rat) ≤ q ∧ q ≤ (b.d : Rat) := by
  obtain ⟨i, a, b, h1, h2, h3, h4⟩ := cross (fun c => (c.d : Rat) ≤ q) (fun c => q ≤ (c.d : Rat)) (fun c => Rat.le_total) (right_is hr).two h0 hn
  exact ⟨i, a, b, ⟨hr, h1, h2⟩, h3, h4⟩
/-- a weight of a table, its draught, and back -/
structure Turn (l : List HRow) (x : Int) (X : Fr) (D : Rat) : Prop where
  at_ : ∃ b c d, atH l x = ([X, b, c, d], 0)
  rq : Rq X D
  back : weightH l X = (ofF x, 0)
  pair : ∃ i a b, Pair l i a b ∧ (a.k ≤ x ∧ x ≤ b.k) ∧ D = dQ a b x
theorem Pair.bdx {l : List HRow} {i : Nat} {a b : HRow} (h : Pair l i a b) {x : Int} (h1 : a.k ≤ x) (h2 : x ≤ b.k) : BdX (dQ a b x) := by
  obtain ⟨k1, k2, k3⟩ := h.k
  obtain ⟨d1, d2, d3⟩ := h.d
  exact linQ_bd k1 (by omega) (by omega) h1 h2 (by omega) k3
theorem Pair.turn {l : List HRow} {i : Nat} {a b : HRow} (h : Pair l i a b) {x : Int} (h1 : a.k ≤ x) (h2 : x ≤ b.k) : Turn l x (colH HRow.d a b x) (dQ a b x) := by
  obtain ⟨S, hS⟩ := h.steep
  obtain ⟨k1, k2, k3⟩ := h.k
  have hq : Rq (colH HRow.d a b x) (dQ a b x) := h.col cols_d h1 h2
  have e1 : (a.d : Rat) ≤ dQ a b x := by
    have := hS.le h1
    have e := hS.d a.k
    grind
  have e2 : dQ a b x ≤ (b.d : Rat) := by
    have := hS.le h2
    have e := hS.d b.k
    have t := hS.top
    grind
  obtain ⟨Y, hY, hy⟩ := h.weight hq (h.bdx h1 h2) e1 e2
  rw [hS.back] at hy
  refine ⟨⟨_, _, _, h.at_ h1 h2⟩, hq, ?_, i, a, b, h, ⟨h1, h2⟩, rfl⟩
  rw [hY, (hy.eq_iff (rq_of (n := x) (by omega))).2 rfl]
theorem turn_at {l : List HRow} (hr : rightH l = true) {x : Int} (h0 : ∀ a, l[0]? = some a → a.k ≤ x) (hn : ∀ b, l[l.length - 1]? = some b → x ≤ b.k) : ∃ X D, Turn l x X D := by
  obtain ⟨i, a, b, h, h1, h2⟩ := pair_k hr h0 hn
  exact ⟨_, _, h.turn h1 h2⟩
theorem Turn.lt {l : List HRow} {x y : Int} {X Y : Fr} {D E : Rat} (hx : Turn l x X D) (hy : Turn l y Y E) (h : x < y) : D < E := by
  obtain ⟨i, a, b, hp, ⟨x1, x2⟩, rfl⟩ := hx.pair
  obtain ⟨j, c, d, hq, ⟨y1, y2⟩, rfl⟩ := hy.pair
  have hR := right_is hp.right
  obtain ⟨S, hS⟩ := hp.steep
  obtain ⟨T, hT⟩ := hq.steep
  rcases Nat.lt_trichotomy i j with hij | hij | hij
  · -- the pair of x lies before that of y
    have hbc : b.k ≤ c.k ∧ b.d ≤ c.d ∧ (b.k < c.k → b.d < c.d) := by
      rcases Nat.lt_or_eq_of_le (show i + 1 ≤ j by omega) with h3 | h3
      · have := hR.lt_of h3 hp.b hq.a; omega
      · have e := hp.b
        rw [h3, hq.a] at e
        cases e
        exact ⟨Int.le_refl _, Int.le_refl _, fun h => absurd h (by omega)⟩
    have e1 : dQ a b b.k = (b.d : Rat) := by rw [hS.d, ← hS.top]
    have e2 : dQ c d c.k = (c.d : Rat) := by rw [hT.d]; grind
    have e3 := int_le hbc.2.1
    rcases Int.lt_or_eq_of_le x2 with h3 | h3
    · have := hS.lt h3
      have := hT.le y1
      grind
    · rcases Int.lt_or_eq_of_le y1 with h4 | h4
      · have := hT.lt h4
        rw [h3]
        grind
      · have := int_lt (hbc.2.2 (by omega))
        rw [h3, ← h4]
        grind
  · subst hij
    have e := hp.a
    rw [hq.a] at e
    cases e
    have e := hp.b
    rw [hq.b] at e
    cases e
    exact hS.lt h
  · exfalso
    have hbc : d.k ≤ a.k := by
      rcases Nat.lt_or_eq_of_le (show j + 1 ≤ i by omega) with h3 | h3
      · have := (hR.lt_of h3 hq.b hp.a).2; omega
      · have e := hq.b
        rw [h3, hp.a] at e
        cases e
        exact Int.le_refl _
    omega
theorem Turn.same {l : List HRow} {x : Int} {X Y : Fr} {D E : Rat} (hx : Turn l x X D) (hy : Turn l x Y E) : D = E := by
  obtain ⟨b, c, d, h1⟩ := hx.at_
  obtain ⟨b', c', d', h2⟩ := hy.at_
  rw [h1] at h2
  have : X = Y := by
    have := congrArg (fun p => p.1[0]?) h2
    simpa using this
  subst this
  exact (hx.rq.eq_iff hy.rq).1 rfl
/-- more weight lies deeper -/
theorem turn_cmp {l : List HRow} {x y : Int} {X Y : Fr} {D E : Rat} (hx : Turn l x X D) (hy : Turn l y Y E) : ∃ n, cmpE X Y = (n, 0) ∧ (-1 ≤ n ∧ n ≤ 1) ∧ (n < 0 ↔ x < y) ∧ (0 < n ↔ y < x) := by
  refine ⟨cmpR D E, hx.rq.cmp hy.rq, cmpR_bd _ _, ?_⟩
  rcases Int.lt_trichotomy x y with h | h | h
  · have := hx.lt hy h
    have e : cmpR D E = -1 := by unfold cmpR; rw [if_pos this]
    rw [e]
    omega
  · subst h
    rw [cmpR_same (hx.same hy)]
    omega
  · have := hy.lt hx h
    have e : cmpR D E = 1 := by unfold cmpR; rw [if_neg (by grind), if_pos this]
    rw [e]
    omega
theorem floor_q {X : Fr} {p : Rat} (hx : Rq X p) (hb : -9223372036854775808 ≤ p.floor ∧ p.floor ≤ 9223372036854775807) : floorE X = (p.floor, 0) := by
  have h1 := whole_R hx.right
  rw [hx.toR_] at h1
  rw [← h1] at hb ⊢
  unfold floorE sg at *
  rw [if_pos hx.rightF_]
  cases hn : X.neg
  · rw [hn] at hb
    simp only [Bool.false_eq_true, if_false] at hb ⊢
    rw [if_pos (by omega)]
  · rw [hn] at hb
    simp only [if_true] at hb ⊢
    rw [if_pos (by omega)]
theorem weigh_q {num dd : Int} (hd : 1 ≤ dd ∧ dd ≤ 20) (hn : 0 ≤ num ∧ num ≤ 1000000) : Rq (ratioE num dd).1 ((num : Rat) / (dd : Rat)) ∧ BdX ((num : Rat) / (dd : Rat)) := by
  have e : (num : Rat) / (dd : Rat) = mkRat num dd.natAbs := by
    rw [Rat.mkRat_eq_div]
    congr 1
    have : ((dd.natAbs : Nat) : Int) = dd := by omega
    exact_mod_cast this.symm
  have hb : Bd ((num : Rat) / (dd : Rat)) 1000000 20 := by rw [e]; exact bd_mk (by omega) (by omega) (by omega)
  obtain ⟨X, hX⟩ := Rq.ex (hb.small (by decide) (by decide))
  have := Rq.ratio (a := num) (b := dd) (by omega) (e ▸ hX)
  rw [this]
  exact ⟨hX, ⟨Nat.le_trans hb.1 (by decide), Nat.le_trans hb.2 (by decide)⟩⟩
theorem div_ge {num dd a : Int} (hd : 0 < dd) (h : a * dd ≤ num) : (a : Rat) ≤ (num : Rat) / (dd : Rat) := by
  have d0 : (0 : Rat) < (dd : Rat) := int_lt hd
  have e : (num : Rat) / (dd : Rat) * (dd : Rat) = (num : Rat) := by
    rw [Rat.div_def, Rat.mul_assoc, Rat.inv_mul_cancel _ (by grind), Rat.mul_one]
  have h' : (a : Rat) * (dd : Rat) ≤ (num : Rat) := by have := int_le h; rw [Rat.intCast_mul] at this; exact this
  refine Classical.byContradiction fun hn => ?_
  have := mul_lt d0 (show (num : Rat) / (dd : Rat) < (a : Rat) by grind)
  grind
theorem div_le' {num dd b : Int} (hd : 0 < dd) (h : num ≤ b * dd) : (num : Rat) / (dd : Rat) ≤ (b : Rat) := by
  have d0 : (0 : Rat) < (dd : Rat) := int_lt hd
  have e : (num : Rat) / (dd : Rat) * (dd : Rat) = (num : Rat) := by
    rw [Rat.div_def, Rat.mul_assoc, Rat.inv_mul_cancel _ (by grind), Rat.mul_one]
  have h' : (num : Rat) ≤ (b : Rat) * (dd : Rat) := by have := int_le h; rw [Rat.intCast_mul] at this; exact this
  refine Classical.byContradiction fun hn => ?_
  have := mul_lt d0 (show (b : Rat) < (num : Rat) / (dd : Rat) by grind)
  grind
/-- a draught of a table, its weight, and the whole weights about it -/
structure Draught (l : List HRow) (Q : Fr) (T : Fr) (n : Int) (X : Fr) (c : Int) : Prop where
  weight : weightH l Q = (T, 0)
  right : (Q.num < big ∧ Q.den < big) ∧ T.num < big ∧ T.den < big
  floor : floorE T = (n, 0)
  bd : 0 ≤ n ∧ n ≤ 500000000
  at_ : ∃ b c d, atH l n = ([X, b, c, d], 0)
  cmp : cmpE X Q = (c, 0)
  le : -1 ≤ c ∧ c ≤ 0
  zero : c = 0 ↔ T = ofF n
  next : c ≠ 0 → ∃ Y, (∃ b c d, atH l (n + 1) = ([Y, b, c, d], 0)) ∧ cmpE Y Q = (1, 0) ∧ weightH l Y = (ofF (n + 1), 0)
theorem Rq.big' {X : Fr} {q : Rat} (h : Rq X q) : X.num < big ∧ X.den < big := by
  have h2 := h.small
  rw [h.eq]
  exact ⟨h2.1, h2.2⟩
theorem draught_ok {l : List HRow} (hr : rightH l = true) {num dd : Int} (hd : 1 ≤ dd ∧ dd ≤ 20) (h0 : ∀ a, l[0]? = some a → a.d * dd ≤ num) (hn : ∀ b, l[l.length - 1]? = some b → num ≤ b.d * dd) :
    ∃ T n X c, Draught l (ratioE num dd).1 T n X c := by
  have hR := right_is hr
  have h2 := hR.two
  obtain ⟨f, hf⟩ : ∃ f, l[0]? = some f := ⟨_, List.getElem?_eq_getElem (by omega)⟩
  obtain ⟨g, hg⟩ : ∃ g, l[l.length - 1]? = some g := ⟨_, List.getElem?_eq_getElem (by omega)⟩
  obtain ⟨⟨f1, f2⟩, _, _, _, _⟩ := ok_row (hR.row _ f hf)
  obtain ⟨⟨g1, g2⟩, _, _, _, _⟩ := ok_row (hR.row _ g hg)
  have hnum : 0 ≤ num ∧ num ≤ 1000000 := by
    have e1 := h0 f hf
    have e2 := hn g hg
    have e3 : 0 ≤ f.d * dd := Int.mul_nonneg f1 (by omega)
    have e4 : g.d * dd ≤ 50000 * 20 := Int.mul_le_mul g2 hd.2 (by omega) (by omega)
    omega
  obtain ⟨hQ, hB⟩ := weigh_q hd hnum
  obtain ⟨i, a, b, hp, q1, q2⟩ := pair_d hr (q := (num : Rat) / (dd : Rat)) (fun a ha => div_ge (by omega) (h0 a ha)) (fun b hb => div_le' (by omega) (hn b hb))
  obtain ⟨S, hS⟩ := hp.steep
  obtain ⟨k1, k2, k3⟩ := hp.k
  obtain ⟨T, hT, hw⟩ := hp.weight hQ hB q1 q2
  obtain ⟨w1, w2⟩ := hS.in_ q1 q2
  have n1 : a.k ≤ (wQ a b ((num : Rat) / (dd : Rat))).floor := Rat.le_floor_iff.2 w1
  have hle := Rat.floor_le (wQ a b ((num : Rat) / (dd : Rat)))
  have hlt := Rat.lt_floor_add_one (wQ a b ((num : Rat) / (dd : Rat)))
  have n2 : (wQ a b ((num : Rat) / (dd : Rat))).floor ≤ b.k := by
    refine Rat.intCast_le_intCast.1 ?_
    grind
  have hfl := floor_q hw (by omega)
  obtain ⟨n, en⟩ : ∃ n, n = (wQ a b ((num : Rat) / (dd : Rat))).floor := ⟨_, rfl⟩
  rw [← en] at n1 n2 hle hlt hfl
  have t1 := hp.turn n1 n2
  obtain ⟨c1, c2, c3⟩ := hS.cmp n ((num : Rat) / (dd : Rat))
  refine ⟨T, n, colH HRow.d a b n, cmpR (dQ a b n) ((num : Rat) / (dd : Rat)), hT, ⟨hQ.big', hw.big'⟩, hfl, by omega, t1.at_, t1.rq.cmp hQ, ?_, ?_, fun hne => ?_⟩
  · by_cases he : (n : Rat) = wQ a b ((num : Rat) / (dd : Rat))
    · rw [cmpR_same (c2 he)]; omega
    · have := c1 (by grind)
      unfold cmpR
      rw [if_pos this]
      omega
  · have hi := hw.eq_iff (rq_of (n := n) (by omega))
    rw [hi]
    by_cases he : (n : Rat) = wQ a b ((num : Rat) / (dd : Rat))
    · rw [cmpR_same (c2 he)]
      exact ⟨fun _ => he.symm, fun _ => rfl⟩
    · have := c1 (by grind)
      unfold cmpR
      rw [if_pos this]
      exact ⟨fun h => by omega, fun h => absurd h.symm he⟩
  · have he : (n : Rat) < wQ a b ((num : Rat) / (dd : Rat)) := by
      refine Classical.byContradiction fun hn => hne ?_
      exact cmpR_same (c2 (by grind))
    have n3 : n + 1 ≤ b.k := by
      have : n < b.k := by
        refine Rat.intCast_lt_intCast.1 ?_
        grind
      omega
    have t2 := hp.turn (x := n + 1) (by omega) n3
    obtain ⟨_, _, e3⟩ := hS.cmp (n + 1) ((num : Rat) / (dd : Rat))
    have := e3 hlt
    refine ⟨_, t2.at_, ?_, t2.back⟩
    rw [t2.rq.cmp hQ]
    unfold cmpR
    rw [if_neg (by grind), if_pos this]
end Go.Proofs.Ytomhfakkebaciaa
