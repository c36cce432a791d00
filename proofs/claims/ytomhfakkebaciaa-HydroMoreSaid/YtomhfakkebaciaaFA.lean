/-
  Numbers as lists of digits to a base, the lowest one first: values, digits, what is cut off the end. No program in sight.
-/
import Derived.RowKit3
import Derived.PlainAid
set_option linter.unusedSimpArgs false
set_option linter.unusedVariables false
namespace Go.Proofs.Ytomhfakkebaciaa
open Go.RowKit Go.PlainAid
def nv (B : Nat) : List Nat → Nat
  | [] => 0
  | a :: l => a + B * nv B l
def dgF (B : Nat) : Nat → Nat → List Nat
  | 0, _ => []
  | k + 1, n => if n = 0 then [] else n % B :: dgF B k (n / B)
/-- the digits of a number -/
def dg (B n : Nat) : List Nat := dgF B n n
theorem dgF_enough {B : Nat} (hB : 2 ≤ B) : ∀ (k n : Nat), n ≤ k → dgF B k n = dgF B n n := by
  intro k
  induction k using Nat.strongRecOn with
  | _ k ih =>
    intro n hn
    rcases Nat.eq_zero_or_pos n with h0 | h0
    · subst h0
      cases k <;> simp [dgF]
    · obtain ⟨m, rfl⟩ : ∃ m, n = m + 1 := ⟨n - 1, by omega⟩
      obtain ⟨j, rfl⟩ : ∃ j, k = j + 1 := ⟨k - 1, by omega⟩
      have hlt : (m + 1) / B < m + 1 := Nat.div_lt_self (by omega) (by omega)
      simp only [dgF, if_neg (show ¬ m + 1 = 0 by omega)]
      congr 1
      rw [ih j (by omega) _ (by omega)]
      rcases Nat.lt_or_ge m j with h1 | h1
      · rw [ih m (by omega) _ (by omega)]
      · obtain rfl : m = j := by omega
        rw [ih m (by omega) _ (by omega)]
theorem dg_zero (B : Nat) : dg B 0 = [] := rfl
theorem dg_pos {B n : Nat} (hB : 2 ≤ B) (h : 0 < n) : dg B n = n % B :: dg B (n / B) := by
  obtain ⟨m, rfl⟩ : ∃ m, n = m + 1 := ⟨n - 1, by omega⟩
  have hlt : (m + 1) / B < m + 1 := Nat.div_lt_self (by omega) (by omega)
  unfold dg
  conv => lhs; unfold dgF
  rw [if_neg (by omega), dgF_enough hB m _ (by omega)]
theorem nv_dg {B : Nat} (hB : 2 ≤ B) (n : Nat) : nv B (dg B n) = n := by
  induction n using Nat.strongRecOn with
  | _ n ih =>
    rcases Nat.eq_zero_or_pos n with h0 | h0
    · subst h0; rfl
    · rw [dg_pos hB h0, nv, ih _ (Nat.div_lt_self h0 (by omega)), Nat.mod_add_div]
theorem dg_lt {B : Nat} (hB : 2 ≤ B) (n : Nat) : ∀ x ∈ dg B n, x < B := by
  induction n using Nat.strongRecOn with
  | _ n ih =>
    rcases Nat.eq_zero_or_pos n with h0 | h0
    · subst h0; intro x hx; cases hx
    · rw [dg_pos hB h0]
      intro x hx
      rcases List.mem_cons.1 hx with rfl | hx
      · exact Nat.mod_lt _ (by omega)
      · exact ih _ (Nat.div_lt_self h0 (by omega)) x hx
theorem dg_nil {B : Nat} (hB : 2 ≤ B) {n : Nat} : dg B n = [] ↔ n = 0 := by
  constructor
  · intro h
    rcases Nat.eq_zero_or_pos n with h0 | h0
    · exact h0
    · rw [dg_pos hB h0] at h; cases h
  · rintro rfl; rfl
theorem dg_len {B : Nat} (hB : 2 ≤ B) : ∀ (k n : Nat), (dg B n).length ≤ k ↔ n < B ^ k := by
  intro k
  induction k with
  | zero =>
    intro n
    rw [Nat.pow_zero, Nat.le_zero, List.length_eq_zero_iff, dg_nil hB]
    omega
  | succ k ih =>
    intro n
    rcases Nat.eq_zero_or_pos n with h0 | h0
    · subst h0
      have : 0 < B ^ (k + 1) := Nat.pow_pos (by omega)
      simp [dg_zero, this]
    · rw [dg_pos hB h0, List.length_cons, Nat.add_le_add_iff_right, ih, Nat.div_lt_iff_lt_mul (by omega), Nat.pow_succ]
theorem nv_lt {B : Nat} {l : List Nat} (h : ∀ x ∈ l, x < B) : nv B l < B ^ l.length := by
  induction l with
  | nil => simp [nv]
  | cons a l ih =>
    have h1 := ih fun x hx => h x (List.mem_cons_of_mem _ hx)
    have h2 := h a List.mem_cons_self
    rw [nv, List.length_cons, Nat.pow_succ]
    have : B * nv B l + B ≤ B ^ l.length * B := by rw [← Nat.mul_succ, Nat.mul_comm]; exact Nat.mul_le_mul_right _ h1
    omega
theorem nv_app (B : Nat) (a b : List Nat) : nv B (a ++ b) = nv B a + B ^ a.length * nv B b := by
  induction a with
  | nil => simp [nv]
  | cons x a ih => rw [List.cons_append, nv, nv, ih, List.length_cons, Nat.pow_succ, Nat.mul_add, ← Nat.mul_assoc, Nat.mul_comm B (B ^ _)]; omega
/-- without zeros at the end -/
def trimL : List Nat → List Nat
  | [] => []
  | a :: l => match trimL l with
    | [] => if a = 0 then [] else [a]
    | b :: r => a :: b :: r
theorem trim_nil {B : Nat} (hB : 2 ≤ B) {l : List Nat} (h : ∀ x ∈ l, x < B) : dg B (nv B l) = trimL l := by
  induction l with
  | nil => rfl
  | cons a l ih =>
    have ih := ih fun x hx => h x (List.mem_cons_of_mem _ hx)
    have ha := h a List.mem_cons_self
    rw [nv, trimL]
    rcases Nat.eq_zero_or_pos (a + B * nv B l) with h0 | h0
    · have h1 : a = 0 := by omega
      have h2 : nv B l = 0 := by
        rcases Nat.eq_zero_or_pos (nv B l) with h3 | h3
        · exact h3
        · have := Nat.mul_pos (show 0 < B by omega) h3; omega
      rw [h2, dg_zero] at ih
      rw [← ih, h0, h1]
      rfl
    · rw [dg_pos hB h0, Nat.add_mul_mod_self_left, Nat.mod_eq_of_lt ha, Nat.add_mul_div_left _ _ (by omega), Nat.div_eq_of_lt ha, Nat.zero_add, ih]
      cases ht : trimL l with
      | nil =>
        rw [ht] at ih
        rw [dg_nil hB] at ih
        rw [ih] at h0
        rw [if_neg (by omega)]
      | cons b r => rfl
theorem trim_snoc (l : List Nat) (a : Nat) : trimL (l ++ [a]) = if a = 0 then trimL l else l ++ [a] := by
  induction l with
  | nil => simp [trimL]
  | cons x l ih =>
    rw [List.cons_append, trimL, ih]
    by_cases h : a = 0
    · simp only [if_pos h]
      conv => rhs; rw [trimL]
    · simp only [if_neg h]
      cases l <;> rfl
theorem trim_step {l : List Nat} {k : Nat} (h : l[k]? = some 0) : trimL (l.take (k + 1)) = trimL (l.take k) := by
  rw [List.take_add_one, h, Option.toList_some, trim_snoc, if_pos rfl]
theorem trim_stop {l : List Nat} {k a : Nat} (h : l[k]? = some a) (ha : a ≠ 0) : trimL (l.take (k + 1)) = l.take (k + 1) := by
  rw [List.take_add_one, h, Option.toList_some, trim_snoc, if_neg ha]
theorem trim_len (l : List Nat) : (trimL l).length ≤ l.length := by
  induction l with
  | nil => simp [trimL]
  | cons a l ih =>
    rw [trimL]
    cases h : trimL l with
    | nil => dsimp only; split <;> simp
    | cons b r => rw [h] at ih; simp at ih ⊢; omega
/-- the highest digit is not 0 -/
theorem dg_last {B : Nat} (hB : 2 ≤ B) {n : Nat} (h : 0 < n) : ∃ a, (dg B n)[(dg B n).length - 1]? = some a ∧ a ≠ 0 := by
  induction n using Nat.strongRecOn with
  | _ n ih =>
    rw [dg_pos hB h]
    rcases Nat.eq_zero_or_pos (n / B) with h0 | h0
    · refine ⟨n % B, ?_, ?_⟩
      · rw [h0]; rfl
      · have := Nat.mod_add_div n B
        rw [h0] at this
        omega
    · obtain ⟨a, h1, h2⟩ := ih _ (Nat.div_lt_self h (by omega)) h0
      refine ⟨a, ?_, h2⟩
      have hl : 0 < (dg B (n / B)).length := by
        rcases Nat.eq_zero_or_pos (dg B (n / B)).length with h3 | h3
        · rw [List.length_eq_zero_iff, dg_nil hB] at h3; omega
        · exact h3
      rw [List.length_cons, Nat.add_sub_cancel, show (dg B (n / B)).length = (dg B (n / B)).length - 1 + 1 by omega, List.getElem?_cons_succ]
      exact h1
theorem trim_dg {B : Nat} (hB : 2 ≤ B) (n : Nat) : trimL (dg B n) = dg B n := by
  rw [← trim_nil hB (dg_lt hB n), nv_dg hB]
/-- a list whose highest digit is not 0 holds the digits of its value -/
theorem dg_nv {B : Nat} (hB : 2 ≤ B) {l : List Nat} (h : ∀ x ∈ l, x < B) (hl : ∀ a, l.getLast? = some a → a ≠ 0) : dg B (nv B l) = l := by
  rw [trim_nil hB h]
  rcases List.eq_nil_or_concat l with rfl | ⟨m, a, rfl⟩
  · rfl
  · rw [List.concat_eq_append] at hl ⊢
    rw [trim_snoc, if_neg (hl a (by simp))]
theorem dg_lower {B : Nat} (hB : 2 ≤ B) {n k : Nat} (h : k < (dg B n).length) : B ^ k ≤ n := by
  rcases Nat.lt_or_ge n (B ^ k) with h1 | h1
  · have := (dg_len hB k n).2 h1
    omega
  · exact h1
theorem dg_upper {B : Nat} (hB : 2 ≤ B) (n : Nat) : n < B ^ (dg B n).length := (dg_len hB _ n).1 (Nat.le_refl _)
theorem dg_get {B : Nat} (hB : 2 ≤ B) : ∀ (k n : Nat), k < (dg B n).length → (dg B n)[k]? = some (n / B ^ k % B) := by
  intro k
  induction k with
  | zero =>
    intro n h
    rcases Nat.eq_zero_or_pos n with h0 | h0
    · subst h0; simp [dg_zero] at h
    · rw [dg_pos hB h0, Nat.pow_zero, Nat.div_one]; rfl
  | succ k ih =>
    intro n h
    rcases Nat.eq_zero_or_pos n with h0 | h0
    · subst h0; simp [dg_zero] at h
    · rw [dg_pos hB h0] at h ⊢
      rw [List.getElem?_cons_succ, ih _ (by simpa using h), Nat.div_div_eq_div_mul, Nat.pow_succ, Nat.mul_comm B]
theorem dg_past {B : Nat} (hB : 2 ≤ B) {k n : Nat} (h : (dg B n).length ≤ k) : n / B ^ k % B = 0 := by
  rw [Nat.div_eq_of_lt ((dg_len hB k n).1 h), Nat.zero_mod]
theorem nv_take {B : Nat} {l : List Nat} {k a : Nat} (h : l[k]? = some a) : nv B (l.take (k + 1)) = nv B (l.take k) + B ^ k * a := by
  have hk : k < l.length := (List.getElem?_eq_some_iff.1 h).1
  rw [List.take_add_one, h, Option.toList_some, nv_app, List.length_take, Nat.min_eq_left (by omega)]
  simp [nv]
theorem nv_split (B : Nat) (l : List Nat) (k : Nat) (h : k ≤ l.length) : nv B l = nv B (l.take k) + B ^ k * nv B (l.drop k) := by
  conv => lhs; rw [← List.take_append_drop k l]
  rw [nv_app, List.length_take, Nat.min_eq_left h]
end Go.Proofs.Ytomhfakkebaciaa
