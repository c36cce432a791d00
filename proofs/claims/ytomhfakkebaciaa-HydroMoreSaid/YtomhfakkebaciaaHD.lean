/-
  The laws' own tables, plain: rows made of steps are right. No program in sight. The lines of a table as rational numbers, plain. No program in sight. The means of a table's values, plain. No program in sight.
-/
import Derived.Test.YtomhfakkebaciaaHP
set_option linter.unusedSimpArgs false
set_option linter.unusedVariables false
namespace Go.Proofs.Ytomhfakkebaciaa
section
open Go
structure St where
  d : Int
  k : Int
  b : Int
  m : Int
  t : Int
structure StOk (x : St) : Prop where
  d : 0 ≤ x.d ∧ x.d ≤ 65535
  k : 0 ≤ x.k ∧ x.k ≤ 65535
  b : -32768 ≤ x.b ∧ x.b ≤ 32767
  m : -32768 ≤ x.m ∧ x.m ≤ 32767
  t : -32768 ≤ x.t ∧ x.t ≤ 32767
def stepE (r : HRow) (x : St) : HRow := ⟨r.d + (1 + x.d % 3000), r.k + (1 + 10 * x.k), r.b + x.b.tdiv 10, max (r.m + x.m.tdiv 20) 0, max (r.t + x.t) 1⟩
def runM : HRow → List St → List HRow
  | r, [] => [r]
  | r, x :: l => r :: runM (stepE r x) l
def row0 : HRow := ⟨1000, 500000, 0, 40000, 50000⟩
def stepsM (l : List St) : List St := l.take 10 ++ [⟨999, 4999, 0, 0, 77⟩]
def madeH (l : List St) : List HRow := runM row0 (stepsM l)
theorem runM_len : ∀ (l : List St) (r : HRow), (runM r l).length = l.length + 1 := by
  intro l
  induction l with
  | nil => intro r; rfl
  | cons x l ih => intro r; show (runM _ l).length + 1 = _; rw [ih]; rfl
theorem stepsM_len (l : List St) : (stepsM l).length = min 10 l.length + 1 := by
  unfold stepsM
  rw [List.length_append, List.length_take]
  rfl
theorem madeH_len (l : List St) : (madeH l).length = min 10 l.length + 2 := by
  unfold madeH
  rw [runM_len, stepsM_len]
theorem runM_zero (l : List St) (r : HRow) : (runM r l)[0]? = some r := by cases l <;> rfl
theorem runM_succ : ∀ (l : List St) (r a : HRow) (k : Nat) (x : St), (runM r l)[k]? = some a → l[k]? = some x → (runM r l)[k + 1]? = some (stepE a x) := by
  intro l
  induction l with
  | nil => intro r a k x _ h; simp at h
  | cons y l ih =>
    intro r a k x h1 h2
    cases k with
    | zero =>
      simp at h2
      subst h2
      have : r = a := by simpa [runM] using h1
      subst this
      show (runM (stepE r y) l)[0]? = _
      exact runM_zero _ _
    | succ k =>
      show (runM (stepE r y) l)[k + 1]? = _
      exact ih (stepE r y) a k x (by simpa [runM] using h1) (by simpa using h2)
theorem steps_ok {l : List St} (h : ∀ x ∈ l, StOk x) : ∀ x ∈ stepsM l, StOk x := by
  intro x hx
  unfold stepsM at hx
  rcases List.mem_append.1 hx with h1 | h1
  · exact h x (List.mem_of_mem_take h1)
  · simp at h1
    subst h1
    refine ⟨?_, ?_, ?_, ?_, ?_⟩ <;> constructor <;> decide
/-- how far the rows are after some steps -/
structure At (n : Nat) (r : HRow) : Prop where
  d : 1000 ≤ r.d ∧ r.d ≤ 1000 + 3000 * n
  k : 500000 ≤ r.k ∧ r.k ≤ 500000 + 655351 * n
  b : -3277 * n ≤ r.b ∧ r.b ≤ 3277 * n
  m : 0 ≤ r.m ∧ r.m ≤ 40000 + 1639 * n
  t : 1 ≤ r.t ∧ r.t ≤ 50000 + 32767 * n
theorem tdiv_neg {x q : Int} (h : x ≤ 0) : x.tdiv q = -((-x) / q) := by
  have e : x.tdiv q = -((-x).tdiv q) := by rw [Int.neg_tdiv, Int.neg_neg]
  rw [e, Int.tdiv_eq_ediv_of_nonneg (by omega)]
theorem tdiv10 {x : Int} (h : -32768 ≤ x ∧ x ≤ 32767) : -3277 ≤ x.tdiv 10 ∧ x.tdiv 10 ≤ 3277 := by
  rcases Int.le_total 0 x with h0 | h0
  · rw [Int.tdiv_eq_ediv_of_nonneg h0]; omega
  · rw [tdiv_neg h0]; omega
theorem tdiv20 {x : Int} (h : -32768 ≤ x ∧ x ≤ 32767) : -1639 ≤ x.tdiv 20 ∧ x.tdiv 20 ≤ 1639 := by
  rcases Int.le_total 0 x with h0 | h0
  · rw [Int.tdiv_eq_ediv_of_nonneg h0]; omega
  · rw [tdiv_neg h0]; omega
theorem At.step {n : Nat} {r : HRow} (h : At n r) {x : St} (hx : StOk x) : At (n + 1) (stepE r x) := by
  obtain ⟨⟨_, _⟩, ⟨_, _⟩, ⟨_, _⟩, ⟨_, _⟩, _, _⟩ := h
  obtain ⟨⟨_, _⟩, ⟨_, _⟩, ⟨_, _⟩, ⟨_, _⟩, _, _⟩ := hx
  have h1 := tdiv10 (x := x.b) (by omega)
  have h2 := tdiv20 (x := x.m) (by omega)
  unfold stepE
  constructor <;> dsimp only <;> (try simp only [Int.max_def]) <;> constructor <;> (repeat' split) <;> omega
theorem run_at {l : List St} (h : ∀ x ∈ l, StOk x) : ∀ (r : HRow) (n : Nat), At n r → ∀ (k : Nat) (a : HRow), (runM r l)[k]? = some a → At (n + k) a := by
  intro r n hr k
  induction k with
  | zero =>
    intro a ha
    rw [runM_zero] at ha
    cases ha
    exact hr
  | succ k ih =>
    intro a ha
    have hl := (List.getElem?_eq_some_iff.1 ha).1
    rw [runM_len] at hl
    obtain ⟨b, hb⟩ : ∃ b, (runM r l)[k]? = some b := ⟨_, List.getElem?_eq_getElem (by rw [runM_len]; omega)⟩
    obtain ⟨x, hx⟩ : ∃ x, l[k]? = some x := ⟨_, List.getElem?_eq_getElem (by omega)⟩
    rw [runM_succ l r b k x hb hx] at ha
    cases ha
    exact (ih b hb).step (h x (List.mem_of_getElem? hx))
theorem row0_at : At 0 row0 := by constructor <;> decide
theorem made_at {l : List St} (h : ∀ x ∈ l, StOk x) {k : Nat} {a : HRow} (ha : (madeH l)[k]? = some a) : At k a := by
  have := run_at (steps_ok h) row0 0 row0_at k a ha
  rw [Nat.zero_add] at this
  exact this
theorem made_right {l : List St} (h : ∀ x ∈ l, StOk x) : rightH (madeH l) = true := by
  have hl := madeH_len l
  unfold rightH
  simp only [Bool.and_eq_true, List.all_eq_true, List.mem_range, decide_eq_true_eq]
  refine ⟨fun i hi => ?_, by omega, by omega⟩
  obtain ⟨a, ha⟩ : ∃ a, (madeH l)[i]? = some a := ⟨_, List.getElem?_eq_getElem hi⟩
  obtain ⟨⟨_, _⟩, ⟨_, _⟩, ⟨_, _⟩, ⟨_, _⟩, _, _⟩ := made_at h ha
  unfold okAt
  rw [ha]
  dsimp only
  rw [Bool.and_eq_true]
  refine ⟨?_, ?_⟩
  · unfold okR inB
    simp only [Bool.and_eq_true, decide_eq_true_eq]
    omega
  · rcases Nat.eq_zero_or_pos i with h0 | h0
    · subst h0; rfl
    · rw [Bool.or_eq_true]
      refine .inr ?_
      obtain ⟨b, hb⟩ : ∃ b, (madeH l)[i - 1]? = some b := ⟨_, List.getElem?_eq_getElem (by omega)⟩
      obtain ⟨x, hx⟩ : ∃ x, (stepsM l)[i - 1]? = some x := ⟨_, List.getElem?_eq_getElem (by rw [stepsM_len]; omega)⟩
      have e := runM_succ _ _ _ _ _ hb hx
      rw [show i - 1 + 1 = i from by omega] at e
      rw [show (runM row0 (stepsM l))[i]? = some a from ha] at e
      cases e
      rw [hb]
      dsimp only
      obtain ⟨⟨_, _⟩, ⟨_, _⟩, _, _, _⟩ := steps_ok h x (List.mem_of_getElem? hx)
      unfold ltR stepE
      simp only [Bool.and_eq_true, decide_eq_true_eq]
      omega
end
section
open Go
def linQ (u v p q x : Int) : Rat := (u : Rat) + ((v : Rat) - (u : Rat)) * ((x : Rat) - (p : Rat)) / ((q : Rat) - (p : Rat))
theorem sub_ne {p q : Int} (h : p < q) : ((q : Rat) - (p : Rat)) ≠ 0 := by
  intro e
  have : ((q - p : Int) : Rat) = 0 := by rw [Rat.intCast_sub]; exact e
  have : q - p = 0 := by exact_mod_cast this
  omega
theorem linQ_mk {u v p q x : Int} (h : p < q) : linQ u v p q x = mkRat (u * (q - x) + v * (x - p)) (q - p).natAbs := by
  rw [Rat.mkRat_eq_div]
  have h1 : (((q - p).natAbs : Nat) : Rat) = ((q - p : Int) : Rat) := by
    have : (((q - p).natAbs : Nat) : Int) = q - p := by omega
    exact_mod_cast this
  have hq := sub_ne h
  rw [h1]
  unfold linQ
  simp only [Rat.intCast_sub, Rat.intCast_add, Rat.intCast_mul]
  grind
theorem linQ_bd {u v p q x : Int} (h : p < q) (hu : u.natAbs ≤ 10000000000) (hv : v.natAbs ≤ 10000000000) (hp : p ≤ x) (hx : x ≤ q) (h0 : 0 ≤ p) (hq : q ≤ 500000000) : Bd (linQ u v p q x) 10000000000000000000 500000000 := by
  rw [linQ_mk h]
  refine bd_mk (by omega) ?_ (by omega)
  have a1 : (u * (q - x)).natAbs ≤ 10000000000 * 500000000 := by rw [Int.natAbs_mul]; exact Nat.mul_le_mul hu (by omega)
  have a2 : (v * (x - p)).natAbs ≤ 10000000000 * 500000000 := by rw [Int.natAbs_mul]; exact Nat.mul_le_mul hv (by omega)
  omega
theorem col_q (f : HRow → Int) {a b : HRow} {x : Int} (h : a.k < b.k) (hu : (f a).natAbs ≤ 10000000000) (hv : (f b).natAbs ≤ 10000000000) (hp : a.k ≤ x) (hx : x ≤ b.k) (h0 : 0 ≤ a.k) (hq : b.k ≤ 500000000) :
    Rq (colH f a b x) (linQ (f a) (f b) a.k b.k x) := by
  obtain ⟨X, hX⟩ := Rq.ex ((linQ_bd h hu hv hp hx h0 hq).small (by decide) (by decide))
  have h2 := hX
  rw [linQ_mk h] at h2
  have := Rq.ratio (by omega) h2
  unfold colH
  rw [this]
  exact hX
theorem linQ_lo {u v p q : Int} : linQ u v p q p = u := by
  unfold linQ
  rw [Rat.sub_self, Rat.mul_zero, Rat.div_def, Rat.zero_mul, Rat.add_zero]
theorem linQ_hi {u v p q : Int} (h : p < q) : linQ u v p q q = v := by
  have := sub_ne h
  unfold linQ
  grind
theorem rq_of {n : Int} (h : n.natAbs ≤ 10000000000) : Rq (ofF n) (n : Rat) := by
  obtain ⟨X, h1, h2⟩ := rq_int h (show 10000000000 < big by decide)
  rw [h2]
  exact h1
structure Cols (f : HRow → Int) : Prop where
  bd : ∀ r, okR r = true → (f r).natAbs ≤ 10000000000
theorem cols_d : Cols HRow.d := ⟨fun r h => by obtain ⟨⟨_, _⟩, ⟨_, _⟩, ⟨_, _⟩, ⟨_, _⟩, _, _⟩ := ok_row h; omega⟩
theorem cols_k : Cols HRow.k := ⟨fun r h => by obtain ⟨⟨_, _⟩, ⟨_, _⟩, ⟨_, _⟩, ⟨_, _⟩, _, _⟩ := ok_row h; omega⟩
theorem cols_b : Cols HRow.b := ⟨fun r h => by obtain ⟨⟨_, _⟩, ⟨_, _⟩, ⟨_, _⟩, ⟨_, _⟩, _, _⟩ := ok_row h; omega⟩
theorem cols_m : Cols HRow.m := ⟨fun r h => by obtain ⟨⟨_, _⟩, ⟨_, _⟩, ⟨_, _⟩, ⟨_, _⟩, _, _⟩ := ok_row h; omega⟩
theorem cols_t : Cols HRow.t := ⟨fun r h => by obtain ⟨⟨_, _⟩, ⟨_, _⟩, ⟨_, _⟩, ⟨_, _⟩, _, _⟩ := ok_row h; omega⟩
/-- two rows of a right table, one behind the other -/
structure Pair (l : List HRow) (i : Nat) (a b : HRow) : Prop where
  right : rightH l = true
  a : l[i]? = some a
  b : l[i + 1]? = some b
theorem Pair.k {l : List HRow} {i : Nat} {a b : HRow} (h : Pair l i a b) : a.k < b.k ∧ 1 ≤ a.k ∧ b.k ≤ 500000000 := by
  have hR := right_is h.right
  obtain ⟨_, ⟨_, _⟩, _, _, _⟩ := ok_row (hR.row _ a h.a)
  obtain ⟨_, ⟨_, _⟩, _, _, _⟩ := ok_row (hR.row _ b h.b)
  have := (hR.lt_of (by omega) h.a h.b).2
  omega
theorem Pair.col {l : List HRow} {i : Nat} {a b : HRow} (h : Pair l i a b) {f : HRow → Int} (hf : Cols f) {x : Int} (h1 : a.k ≤ x) (h2 : x ≤ b.k) : Rq (colH f a b x) (linQ (f a) (f b) a.k b.k x) := by
  have hR := right_is h.right
  have := h.k
  exact col_q f this.1 (hf.bd _ (hR.row _ a h.a)) (hf.bd _ (hR.row _ b h.b)) h1 h2 (by omega) (by omega)
theorem Pair.lo {l : List HRow} {i : Nat} {a b : HRow} (h : Pair l i a b) {f : HRow → Int} (hf : Cols f) : colH f a b a.k = ofF (f a) := by
  have h1 := h.col hf (Int.le_refl _) (by have := h.k; omega)
  rw [linQ_lo] at h1
  exact (h1.eq_iff (rq_of (hf.bd _ ((right_is h.right).row _ a h.a)))).2 rfl
theorem Pair.hi {l : List HRow} {i : Nat} {a b : HRow} (h : Pair l i a b) {f : HRow → Int} (hf : Cols f) : colH f a b b.k = ofF (f b) := by
  have h1 := h.col hf (by have := h.k; omega) (Int.le_refl _)
  rw [linQ_hi h.k.1] at h1
  exact (h1.eq_iff (rq_of (hf.bd _ ((right_is h.right).row _ b h.b)))).2 rfl
def rowF (r : HRow) : List Fr := [ofF r.d, ofF r.b, ofF r.m, ofF r.t]
theorem Pair.vlo {l : List HRow} {i : Nat} {a b : HRow} (h : Pair l i a b) : valH a b a.k = rowF a := by
  unfold valH rowF
  rw [h.lo cols_d, h.lo cols_b, h.lo cols_m, h.lo cols_t]
theorem Pair.vhi {l : List HRow} {i : Nat} {a b : HRow} (h : Pair l i a b) : valH a b b.k = rowF b := by
  unfold valH rowF
  rw [h.hi cols_d, h.hi cols_b, h.hi cols_m, h.hi cols_t]
/-- between two rows the values are on their line -/
theorem Pair.at_ {l : List HRow} {i : Nat} {a b : HRow} (h : Pair l i a b) {x : Int} (h1 : a.k ≤ x) (h2 : x ≤ b.k) : atH l x = (valH a b x, 0) := by
  have hR := right_is h.right
  by_cases hno : ∀ (j : Nat) (c d : HRow), j < i → l[j]? = some c → l[j + 1]? = some d → ¬ (c.k ≤ x ∧ x ≤ d.k)
  · exact at_found h.right h.a h.b h1 h2 hno
  · have hx : x = a.k ∧ 0 < i := by
      refine Classical.byContradiction fun hn => hno fun j c d hj hc hd hx => hn ?_
      have hl := (List.getElem?_eq_some_iff.1 hd).1
      rcases Nat.lt_or_eq_of_le (show j + 1 ≤ i by omega) with h3 | h3
      · have := (hR.lt_of h3 hd h.a).2
        omega
      · rw [h3, h.a] at hd
        cases hd
        exact ⟨by omega, by omega⟩
    obtain ⟨rfl, hi⟩ := hx
    have hl := (List.getElem?_eq_some_iff.1 h.a).1
    obtain ⟨c, hc⟩ : ∃ c, l[i - 1]? = some c := ⟨_, List.getElem?_eq_getElem (by omega)⟩
    have hp : Pair l (i - 1) c a := ⟨h.right, hc, by rw [show i - 1 + 1 = i from by omega]; exact h.a⟩
    have := at_found h.right hc hp.b (by have := hp.k; omega) (Int.le_refl a.k) (fun j e d hj he hd hx => by
      have h3 := (hR.lt_of (show j + 1 < i by omega) hd h.a).2
      omega)
    rw [this, hp.vhi, h.vlo]
theorem cmpR_le {p q : Rat} (h : p ≤ q) : cmpR p q ≤ 0 := by
  unfold cmpR
  split
  · decide
  · rw [if_neg (by grind)]; decide
theorem cmpR_ge {p q : Rat} (h : q ≤ p) : 0 ≤ cmpR p q := by
  unfold cmpR
  rw [if_neg (by grind)]
  split <;> decide
end
section
open Go
theorem frac_01 {p q x : Int} (h : p < q) (h1 : p ≤ x) (h2 : x ≤ q) : 0 ≤ ((x : Rat) - (p : Rat)) / ((q : Rat) - (p : Rat)) ∧ ((x : Rat) - (p : Rat)) / ((q : Rat) - (p : Rat)) ≤ 1 := by
  have hq := sub_ne h
  have a1 : (p : Rat) ≤ (x : Rat) := Rat.intCast_le_intCast.2 h1
  have a2 : (x : Rat) ≤ (q : Rat) := Rat.intCast_le_intCast.2 h2
  have a3 : (p : Rat) < (q : Rat) := Rat.intCast_lt_intCast.2 h
  have hpos : 0 < ((q : Rat) - (p : Rat)) := by grind
  have hinv : 0 ≤ ((q : Rat) - (p : Rat))⁻¹ := Rat.le_of_lt (Rat.inv_pos.2 hpos)
  have e1 := Rat.mul_nonneg (show 0 ≤ (x : Rat) - (p : Rat) by grind) hinv
  have e2 := Rat.mul_nonneg (show 0 ≤ (q : Rat) - (x : Rat) by grind) hinv
  have e3 : ((q : Rat) - (p : Rat)) * ((q : Rat) - (p : Rat))⁻¹ = 1 := Rat.mul_inv_cancel _ hq
  rw [Rat.div_def]
  refine ⟨e1, ?_⟩
  grind
theorem linQ_T (u v p q x : Int) : linQ u v p q x = (u : Rat) + ((v : Rat) - (u : Rat)) * (((x : Rat) - (p : Rat)) / ((q : Rat) - (p : Rat))) := by
  unfold linQ
  rw [Rat.div_def, Rat.div_def, Rat.mul_assoc]
theorem lin_up {u v p q x : Int} (h : p < q) (h1 : p ≤ x) (h2 : x ≤ q) (huv : u ≤ v) : (u : Rat) ≤ linQ u v p q x ∧ linQ u v p q x ≤ (v : Rat) := by
  obtain ⟨t1, t2⟩ := frac_01 h h1 h2
  have hv : (0 : Rat) ≤ (v : Rat) - (u : Rat) := by
    have : (u : Rat) ≤ (v : Rat) := Rat.intCast_le_intCast.2 huv
    grind
  rw [linQ_T]
  have e1 := Rat.mul_nonneg hv t1
  have e2 := Rat.mul_nonneg hv (show 0 ≤ 1 - ((x : Rat) - (p : Rat)) / ((q : Rat) - (p : Rat)) by grind)
  constructor <;> grind
theorem lin_dn {u v p q x : Int} (h : p < q) (h1 : p ≤ x) (h2 : x ≤ q) (huv : v ≤ u) : linQ u v p q x ≤ (u : Rat) ∧ (v : Rat) ≤ linQ u v p q x := by
  obtain ⟨t1, t2⟩ := frac_01 h h1 h2
  have hv : (0 : Rat) ≤ (u : Rat) - (v : Rat) := by
    have : (v : Rat) ≤ (u : Rat) := Rat.intCast_le_intCast.2 huv
    grind
  rw [linQ_T]
  have e1 := Rat.mul_nonneg hv t1
  have e2 := Rat.mul_nonneg hv (show 0 ≤ 1 - ((x : Rat) - (p : Rat)) / ((q : Rat) - (p : Rat)) by grind)
  constructor <;> grind
theorem lin_mean {u v p q x y m : Int} (hm : 2 * m = x + y) : (linQ u v p q x + linQ u v p q y) / ((2 : Int) : Rat) = linQ u v p q m := by
  have hm' : 2 * (m : Rat) = (x : Rat) + (y : Rat) := by exact_mod_cast hm
  have h2 : ((2 : Int) : Rat) = 2 := rfl
  rw [linQ_T, linQ_T, linQ_T, h2]
  simp only [Rat.div_def]
  grind
structure MeanOk (P Q M R S : Fr) (Z : Fr) (c1 c2 : Int) : Prop where
  add : addE P Q = (Z, 0)
  div : divE Z (ofF 2) = (M, 0)
  lo : cmpE R M = (c1, 0)
  hi : cmpE M S = (c2, 0)
  bd1 : -1 ≤ c1 ∧ c1 ≤ 1
  bd2 : -1 ≤ c2 ∧ c2 ≤ 1
  pos : 0 ≤ c1 * c2
theorem cmpR_bd (p q : Rat) : -1 ≤ cmpR p q ∧ cmpR p q ≤ 1 := by
  unfold cmpR
  split
  · decide
  · split <;> decide
theorem mean_ok {l : List HRow} {i : Nat} {a b : HRow} (h : Pair l i a b) {f : HRow → Int} (hf : Cols f) {u v : Int} (hu : 0 ≤ u ∧ u ≤ b.k - a.k) (hv : 0 ≤ v ∧ v ≤ b.k - a.k) (he : (u + v) % 2 = 0) :
    ∃ Z c1 c2, MeanOk (colH f a b (a.k + u)) (colH f a b (a.k + v)) (colH f a b (a.k + (u + v) / 2)) (ofF (f a)) (ofF (f b)) Z c1 c2 := by
  obtain ⟨k1, k2, k3⟩ := h.k
  have hR := right_is h.right
  have ba := hf.bd _ (hR.row _ a h.a)
  have bb := hf.bd _ (hR.row _ b h.b)
  have rP := h.col hf (x := a.k + u) (by omega) (by omega)
  have rQ := h.col hf (x := a.k + v) (by omega) (by omega)
  have rM := h.col hf (x := a.k + (u + v) / 2) (by omega) (by omega)
  have b1 := linQ_bd (u := f a) (v := f b) (p := a.k) (q := b.k) (x := a.k + u) k1 ba bb (by omega) (by omega) (by omega) k3
  have b2 := linQ_bd (u := f a) (v := f b) (p := a.k) (q := b.k) (x := a.k + v) k1 ba bb (by omega) (by omega) (by omega) k3
  obtain ⟨Z, rZ⟩ := Rq.ex ((b1.add b2).small (by decide) (by decide))
  have r2 := rq_of (n := 2) (by decide)
  have hmean := lin_mean (u := f a) (v := f b) (p := a.k) (q := b.k) (x := a.k + u) (y := a.k + v) (m := a.k + (u + v) / 2) (by omega)
  rw [← hmean] at rM
  refine ⟨Z, _, _, rP.add rQ rZ, rZ.div r2 rM (by decide), (rq_of ba).cmp rM, rM.cmp (rq_of bb), cmpR_bd _ _, cmpR_bd _ _, ?_⟩
  rw [hmean]
  rcases Int.le_total (f a) (f b) with hab | hab
  · obtain ⟨e1, e2⟩ := lin_up (u := f a) (v := f b) (p := a.k) (q := b.k) (x := a.k + (u + v) / 2) k1 (by omega) (by omega) hab
    exact Int.mul_nonneg_of_nonpos_of_nonpos (cmpR_le e1) (cmpR_le e2)
  · obtain ⟨e1, e2⟩ := lin_dn (u := f a) (v := f b) (p := a.k) (q := b.k) (x := a.k + (u + v) / 2) k1 (by omega) (by omega) hab
    exact Int.mul_nonneg (cmpR_ge e1) (cmpR_ge e2)
end
end Go.Proofs.Ytomhfakkebaciaa
