/-
  Fractions: what the document says of them, in plain numbers. No program in sight.
-/
import Derived.Test.YtomhfakkebaciaaFB
set_option linter.unusedSimpArgs false
set_option linter.unusedVariables false
namespace Go.Proofs.Ytomhfakkebaciaa
open Go.RowKit Go.PlainAid
def bb : Nat := 4294967296
def big : Nat := 115792089237316195423570985008687907853269984665640564039457584007913129639936
theorem big_pow : big = bb ^ 8 := by decide
structure Fr where
  neg : Bool
  num : Nat
  den : Nat

def zeroF : Fr := ⟨false, 0, 0⟩
def fitF (neg : Bool) (n d : Nat) : Fr × Int :=
  if n / Nat.gcd n d < big ∧ d / Nat.gcd n d < big then (⟨neg && decide (n ≠ 0), n / Nat.gcd n d, d / Nat.gcd n d⟩, 0) else (zeroF, 3)
def rightF (f : Fr) : Bool := decide (f.den ≠ 0) && decide (Nat.gcd f.num f.den = 1) && !(f.neg && decide (f.num = 0))
def addF (f g : Fr) : Fr × Int :=
  if f.neg = g.neg then fitF f.neg (f.num * g.den + g.num * f.den) (f.den * g.den)
  else if f.num * g.den < g.num * f.den then fitF g.neg (g.num * f.den - f.num * g.den) (f.den * g.den)
  else fitF f.neg (f.num * g.den - g.num * f.den) (f.den * g.den)
def turnF (g : Fr) : Fr := ⟨!g.neg && decide (g.num ≠ 0), g.num, g.den⟩
def bothF (f g : Fr) : Bool := rightF f && rightF g
def addE (f g : Fr) : Fr × Int := if bothF f g = true then addF f g else (zeroF, 2)
def subE (f g : Fr) : Fr × Int := if bothF f g = true then addF f (turnF g) else (zeroF, 2)
def mulE (f g : Fr) : Fr × Int := if bothF f g = true then fitF (f.neg != g.neg) (f.num * g.num) (f.den * g.den) else (zeroF, 2)
def divE (f g : Fr) : Fr × Int := if bothF f g = true ∧ g.num ≠ 0 then fitF (f.neg != g.neg) (f.num * g.den) (f.den * g.num) else (zeroF, 2)
def cmpN (a b : Nat) : Int := if a < b then -1 else if b < a then 1 else 0
def cmpF (f g : Fr) : Int :=
  if f.neg = g.neg then (if f.neg = true then cmpN (g.num * f.den) (f.num * g.den) else cmpN (f.num * g.den) (g.num * f.den))
  else if f.neg = true then -1 else 1
def cmpE (f g : Fr) : Int × Int := if bothF f g = true then (cmpF f g, 0) else (0, 2)
def wholeF (f : Fr) : Nat := if f.neg = true ∧ f.num % f.den ≠ 0 then f.num / f.den + 1 else f.num / f.den
def floorE (f : Fr) : Int × Int :=
  if rightF f = true then (if f.neg = true then (if wholeF f ≤ 9223372036854775808 then (-(wholeF f : Int), 0) else (0, 3)) else (if wholeF f < 9223372036854775808 then ((wholeF f : Int), 0) else (0, 3))) else (0, 2)
def ratioE (a b : Int) : Fr × Int := if b = 0 then (zeroF, 2) else fitF (decide (a < 0) != decide (b < 0)) a.natAbs b.natAbs
def ofF (n : Int) : Fr := (fitF (decide (n < 0)) n.natAbs 1).1
def sumF : Fr → List Fr → Fr × Int
  | s, [] => (s, 0)
  | s, f :: l => if (addF s f).2 = 0 then sumF (addF s f).1 l else (zeroF, (addF s f).2)
def sumE (l : List Fr) : Fr × Int := if l.all rightF = true then sumF (ofF 0) l else (zeroF, 2)
theorem fitF_mul {neg : Bool} {k n d : Nat} (hk : 0 < k) : fitF neg (k * n) (k * d) = fitF neg n d := by
  unfold fitF
  rw [Nat.gcd_mul_left, Nat.mul_div_mul_left _ _ hk, Nat.mul_div_mul_left _ _ hk]
  have : (k * n ≠ 0) = (n ≠ 0) := by
    apply propext
    constructor
    · intro h e; subst e; simp at h
    · intro h e
      rcases Nat.mul_eq_zero.1 e with h1 | h1 <;> omega
  simp only [this]
/-- if the denominators are equal there is a shorter way -/
theorem addF_same {f g : Fr} (h : f.den = g.den) (h0 : 0 < f.den) : addF f g = (if f.neg = g.neg then fitF f.neg (f.num + g.num) f.den
  else if f.num < g.num then fitF g.neg (g.num - f.num) f.den else fitF f.neg (f.num - g.num) f.den) := by
  unfold addF
  rw [← h]
  have e1 : f.num * f.den + g.num * f.den = f.den * (f.num + g.num) := by rw [Nat.mul_add, Nat.mul_comm f.num, Nat.mul_comm g.num]
  have e2 : g.num * f.den - f.num * f.den = f.den * (g.num - f.num) := by rw [Nat.mul_sub, Nat.mul_comm f.num, Nat.mul_comm g.num]
  have e3 : f.num * f.den - g.num * f.den = f.den * (f.num - g.num) := by rw [Nat.mul_sub, Nat.mul_comm f.num, Nat.mul_comm g.num]
  have e4 : (f.num * f.den < g.num * f.den) = (f.num < g.num) := propext (Nat.mul_lt_mul_right h0)
  rw [e1, e2, e3, fitF_mul h0, fitF_mul h0, fitF_mul h0]
  simp only [e4]
theorem fitF_ok {neg : Bool} {n d : Nat} (hd : 0 < d) (h : (fitF neg n d).2 = 0) : rightF (fitF neg n d).1 = true ∧ (fitF neg n d).1.num < big ∧ (fitF neg n d).1.den < big := by
  unfold fitF at h ⊢
  split at h
  · rename_i hb
    rw [if_pos hb]
    refine ⟨?_, hb.1, hb.2⟩
    have hg : 0 < Nat.gcd n d := Nat.gcd_pos_of_pos_right _ hd
    have h1 : 0 < d / Nat.gcd n d := Nat.div_pos (Nat.le_of_dvd hd (Nat.gcd_dvd_right _ _)) hg
    unfold rightF
    simp only [Bool.and_eq_true, decide_eq_true_eq, Bool.not_eq_true', Bool.and_eq_false_iff, decide_eq_false_iff_not]
    refine ⟨⟨by omega, (by rw [Nat.gcd_div (Nat.gcd_dvd_left n d) (Nat.gcd_dvd_right n d), Nat.div_self hg])⟩, ?_⟩
    rcases Nat.eq_zero_or_pos n with h0 | h0
    · subst h0; left; right; simp
    · right
      have := Nat.div_pos (Nat.le_of_dvd h0 (Nat.gcd_dvd_left n d)) hg
      omega
  · exact absurd h (by decide)
theorem fitF_small (neg : Bool) (n d : Nat) : (fitF neg n d).1.num < big ∧ (fitF neg n d).1.den < big := by
  unfold fitF
  split
  · rename_i hb; exact hb
  · decide
def lim (n : Nat) : List Nat := (List.range 8).map fun i => n / bb ^ i % bb
theorem lim_len (n : Nat) : (lim n).length = 8 := by simp [lim]
theorem lim_lt (n : Nat) : ∀ x ∈ lim n, x < bb := by
  intro x hx
  simp only [lim, List.mem_map] at hx
  obtain ⟨i, _, rfl⟩ := hx
  exact Nat.mod_lt _ (by decide)
theorem nv_lim {n : Nat} (h : n < big) : nv bb (lim n) = n := by
  have key : ∀ k : Nat, nv bb ((List.range k).map fun i => n / bb ^ i % bb) = n % bb ^ k := by
    intro k
    induction k with
    | zero => simp [nv, Nat.mod_one]
    | succ k ih => rw [List.range_succ, List.map_append, nv_app, ih, mod_split]; simp [nv]
  unfold lim
  rw [key, ← big_pow, Nat.mod_eq_of_lt h]
theorem nv_inj {B : Nat} : ∀ {l m : List Nat}, l.length = m.length → (∀ x ∈ l, x < B) → (∀ x ∈ m, x < B) → nv B l = nv B m → l = m := by
  intro l
  induction l with
  | nil => intro m h _ _ _; cases m with
    | nil => rfl
    | cons _ _ => cases h
  | cons a l ih =>
    intro m h h1 h2 h3
    cases m with
    | nil => cases h
    | cons b m =>
      have ha := h1 a List.mem_cons_self
      have hb := h2 b List.mem_cons_self
      rw [nv, nv] at h3
      have e1 : (a + B * nv B l) % B = (b + B * nv B m) % B := by rw [h3]
      rw [Nat.add_mul_mod_self_left, Nat.add_mul_mod_self_left, Nat.mod_eq_of_lt ha, Nat.mod_eq_of_lt hb] at e1
      subst e1
      have h4 : B * nv B l = B * nv B m := by omega
      have h5 : nv B l = nv B m := Nat.eq_of_mul_eq_mul_left (by omega) h4
      rw [ih (by simpa using h) (fun x hx => h1 x (List.mem_cons_of_mem _ hx)) (fun x hx => h2 x (List.mem_cons_of_mem _ hx)) h5]
theorem lim_nv {l : List Nat} (hl : l.length = 8) (h : ∀ x ∈ l, x < bb) : lim (nv bb l) = l ∧ nv bb l < big := by
  have hb : nv bb l < big := by
    rw [big_pow, ← hl]; exact nv_lt h
  refine ⟨nv_inj (B := bb) (by rw [lim_len, hl]) (lim_lt _) h (nv_lim hb), hb⟩
theorem lim_dg {n : Nat} (h : n < big) : trimL (lim n) = dg bb n := by
  rw [← trim_nil (B := bb) (by decide) (lim_lt n), nv_lim h]
theorem lim_inj {n m : Nat} (h : n < big) (h' : m < big) : lim n = lim m ↔ n = m := by
  constructor
  · intro e; rw [← nv_lim h, e, nv_lim h']
  · rintro rfl; rfl
/-- digits, filled up with zeros -/
theorem lim_fill {n : Nat} (h : n < big) : lim n = dg bb n ++ List.replicate (8 - (dg bb n).length) 0 := by
  have hl : (dg bb n).length ≤ 8 := (dg_len (by decide) 8 n).2 (by rw [← big_pow]; exact h)
  refine nv_inj (B := bb) ?_ (lim_lt n) ?_ ?_
  · rw [lim_len, List.length_append, List.length_replicate]; omega
  · intro x hx
    rcases List.mem_append.1 hx with h1 | h1
    · exact dg_lt (by decide) n x h1
    · rw [(List.mem_replicate.1 h1).2]; decide
  · rw [nv_lim h, nv_app, nv_rep, nv_dg (by decide)]; omega
end Go.Proofs.Ytomhfakkebaciaa
