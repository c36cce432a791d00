/-
  Numbers as lists of digits: what one store changes; sums, differences, products, quotients, step by step. No program in sight.
-/
import Derived.Test.YtomhfakkebaciaaFA
set_option linter.unusedSimpArgs false
set_option linter.unusedVariables false
namespace Go.Proofs.Ytomhfakkebaciaa
open Go.RowKit Go.PlainAid
theorem div_split (B n k : Nat) : n / B ^ k = B * (n / B ^ (k + 1)) + n / B ^ k % B := by
  rw [Nat.pow_succ, ← Nat.div_div_eq_div_mul, Nat.div_add_mod]
theorem mod_split (B n k : Nat) : n % B ^ (k + 1) = n % B ^ k + B ^ k * (n / B ^ k % B) := by
  rw [Nat.pow_succ, Nat.mod_mul]
theorem pow_div (B i s : Nat) : B ^ i * (s % B) + B ^ (i + 1) * (s / B) = B ^ i * s := by
  rw [Nat.pow_succ, Nat.mul_assoc, ← Nat.mul_add, Nat.mod_add_div]
theorem pow_mul (B i s : Nat) : B ^ (i + 1) * s = B ^ i * (B * s) := by
  rw [Nat.pow_succ, Nat.mul_assoc]
theorem nv_set {B : Nat} {l : List Nat} {k x a : Nat} (h : l[k]? = some a) : nv B (l.set k x) + B ^ k * a = nv B l + B ^ k * x := by
  induction l generalizing k with
  | nil => simp at h
  | cons y l ih =>
    cases k with
    | zero => simp at h; subst h; simp [nv]; omega
    | succ k =>
      have := ih (by simpa using h)
      have h2 : B * (nv B (l.set k x) + B ^ k * a) = B * (nv B l + B ^ k * x) := by rw [this]
      have e : ∀ z, B ^ (k + 1) * z = B * (B ^ k * z) := by
        intro z
        rw [Nat.pow_succ, Nat.mul_comm (B ^ k) B, Nat.mul_assoc]
      rw [Nat.mul_add, Nat.mul_add] at h2
      rw [List.set_cons_succ, nv, nv, e, e]
      omega
theorem nv_rep (B k : Nat) : nv B (List.replicate k 0) = 0 := by
  induction k with
  | zero => rfl
  | succ k ih => rw [List.replicate_succ, nv, ih, Nat.mul_zero]
theorem all_set {B : Nat} {l : List Nat} {k x : Nat} (h : ∀ y ∈ l, y < B) (hx : x < B) : ∀ y ∈ l.set k x, y < B := by
  intro y hy
  rcases List.mem_or_eq_of_mem_set hy with h1 | rfl
  · exact h y h1
  · exact hx
theorem drop_set {l : List Nat} {j d : Nat} (h : j < l.length) : (l.set j d).drop j = d :: l.drop (j + 1) := by
  rw [List.drop_eq_getElem_cons (by rw [List.length_set]; exact h), List.getElem_set_self, List.drop_set_of_lt (by omega)]
/-- the digits of a sum, one more -/
theorem add_step {B a b i v c : Nat} (h : v + B ^ i * c = a % B ^ i + b % B ^ i) :
    (v + B ^ i * ((c + a / B ^ i % B + b / B ^ i % B) % B)) + B ^ (i + 1) * ((c + a / B ^ i % B + b / B ^ i % B) / B) = a % B ^ (i + 1) + b % B ^ (i + 1) := by
  have h1 := pow_div B i (c + a / B ^ i % B + b / B ^ i % B)
  rw [mod_split, mod_split]
  rw [Nat.mul_add, Nat.mul_add] at h1
  omega
/-- the digits of a difference, one more -/
theorem sub_step {B a b i v v' o o' d x : Nat} (h : v + b % B ^ i = a + B ^ i * o) (hs : v' + B ^ i * x = v + B ^ i * d) (hd : d + b / B ^ i % B + o = x + B * o') :
    v' + b % B ^ (i + 1) = a + B ^ (i + 1) * o' := by
  have h1 : B ^ i * (d + b / B ^ i % B + o) = B ^ i * (x + B * o') := by rw [hd]
  rw [mod_split, pow_mul]
  rw [Nat.mul_add, Nat.mul_add, Nat.mul_add] at h1
  omega
/-- a multiple is taken away, one digit more -/
theorem take_step {B u m b i v v' c o o' d x : Nat} (h : v + m * (b % B ^ i) = u + B ^ i * (c + o)) (hs : v' + B ^ i * x = v + B ^ i * d) (hd : d + (c + m * (b / B ^ i % B)) % B + o = x + B * o') :
    v' + m * (b % B ^ (i + 1)) = u + B ^ (i + 1) * ((c + m * (b / B ^ i % B)) / B + o') := by
  have h1 : B ^ i * (d + (c + m * (b / B ^ i % B)) % B + o) = B ^ i * (x + B * o') := by rw [hd]
  have h2 := pow_div B i (c + m * (b / B ^ i % B))
  have h3 : m * (B ^ i * (b / B ^ i % B)) = B ^ i * (m * (b / B ^ i % B)) := Nat.mul_left_comm _ _ _
  rw [mod_split, Nat.mul_add, h3, Nat.mul_add, pow_mul B i o']
  rw [Nat.mul_add, Nat.mul_add, Nat.mul_add] at h1
  rw [Nat.mul_add] at h2 h
  omega
/-- a number is added in place, one digit more -/
theorem give_step {B u b i v v' c x : Nat} (h : v + B ^ i * c = u + b % B ^ i) (hs : v' + B ^ i * x = v + B ^ i * ((c + x + b / B ^ i % B) % B)) :
    v' + B ^ (i + 1) * ((c + x + b / B ^ i % B) / B) = u + b % B ^ (i + 1) := by
  have h1 := pow_div B i (c + x + b / B ^ i % B)
  rw [mod_split]
  rw [Nat.mul_add, Nat.mul_add] at h1
  omega
/-- a product by one digit, one digit more -/
theorem mul_step {B n b i k v v' c x y : Nat} (h : v + B ^ (i + k) * c = n + B ^ i * (x * (b % B ^ k))) (hs : v' + B ^ (i + k) * y = v + B ^ (i + k) * ((c + x * (b / B ^ k % B) + y) % B)) :
    v' + B ^ (i + k + 1) * ((c + x * (b / B ^ k % B) + y) / B) = n + B ^ i * (x * (b % B ^ (k + 1))) := by
  have h1 := pow_div B (i + k) (c + x * (b / B ^ k % B) + y)
  have h2 : B ^ i * (x * (B ^ k * (b / B ^ k % B))) = B ^ (i + k) * (x * (b / B ^ k % B)) := by
    rw [Nat.pow_add, Nat.mul_left_comm x, ← Nat.mul_assoc]
  rw [mod_split, Nat.mul_add, Nat.mul_add, h2]
  rw [Nat.mul_add, Nat.mul_add] at h1
  omega
/-- a quotient by one digit, one digit more -/
theorem small_step {B q r x p by' : Nat} (h : by' * q + r = p) : by' * ((r * B + x) / by' + B * q) + (r * B + x) % by' = x + B * p := by
  have h1 := Nat.div_add_mod (r * B + x) by'
  rw [← h, Nat.mul_add, Nat.mul_add, Nat.mul_left_comm by' B q, Nat.mul_comm B r]
  omega
theorem small_lt {B r x by' : Nat} (hr : r < by') (hx : x < B) : (r * B + x) / by' < B := by
  rw [Nat.div_lt_iff_lt_mul (by omega)]
  have : (r + 1) * B ≤ by' * B := Nat.mul_le_mul_right _ hr
  rw [Nat.add_mul, Nat.one_mul] at this
  rw [Nat.mul_comm B]
  omega
/-- a digit of a quotient, estimated by two digits, is not too small -/
theorem guess_ge {P W V vt T : Nat} (hV : vt * P ≤ V) (hW : W < (T + 1) * P) (hv : 0 < vt) : W / V ≤ T / vt := by
  rw [Nat.le_div_iff_mul_le hv]
  have h1 := Nat.div_mul_le_self W V
  have h2 : W / V * (vt * P) ≤ W / V * V := Nat.mul_le_mul_left _ hV
  rw [← Nat.mul_assoc] at h2
  have h3 : W / V * vt * P < (T + 1) * P := by omega
  have h4 : W / V * vt < T + 1 := Nat.lt_of_mul_lt_mul_right h3
  omega
/-- by a number that makes the highest digit great the length stays -/
theorem norm_lt {B P b bt y : Nat} (hb : b < (bt + 1) * P) (hy : y = B / (bt + 1)) (h0 : bt + 1 ≤ B) : b * y < B * P ∧ 0 < y := by
  have h1 : 0 < y := by rw [hy]; exact Nat.div_pos h0 (by omega)
  have h2 : y * (bt + 1) ≤ B := by rw [hy]; exact Nat.div_mul_le_self _ _
  refine ⟨?_, h1⟩
  have h3 : b * y < (bt + 1) * P * y := Nat.mul_lt_mul_of_pos_right hb h1
  have h4 : (bt + 1) * P * y = y * (bt + 1) * P := by rw [Nat.mul_comm, Nat.mul_assoc]
  have h5 : y * (bt + 1) * P ≤ B * P := Nat.mul_le_mul_right _ h2
  omega
/-- what is left behind a digit of a quotient -/
theorem rest_step {B R V j : Nat} (hB : 0 < B) (h : R < V * B ^ (j + 1)) : R / B ^ j < V * B ∧ R = B ^ j * (R / B ^ j / V * V) + (R % B ^ j + B ^ j * (R / B ^ j % V)) ∧ R % B ^ j + B ^ j * (R / B ^ j % V) < V * B ^ j := by
  have hP : 0 < B ^ j := Nat.pow_pos hB
  have h1 : R / B ^ j < V * B := by
    rw [Nat.div_lt_iff_lt_mul hP, Nat.mul_assoc, ← Nat.pow_succ']
    exact h
  have hV : 0 < V := by
    rcases Nat.eq_zero_or_pos V with h0 | h0
    · subst h0; omega
    · exact h0
  refine ⟨h1, ?_, ?_⟩
  · have e1 := Nat.div_add_mod R (B ^ j)
    have e2 := Nat.div_add_mod (R / B ^ j) V
    have e3 : B ^ j * (V * (R / B ^ j / V) + R / B ^ j % V) = B ^ j * (R / B ^ j) := by rw [e2]
    rw [Nat.mul_add, Nat.mul_comm V] at e3
    omega
  · have e1 := Nat.mod_lt (R / B ^ j) hV
    have e2 := Nat.mod_lt R hP
    have e3 : B ^ j * (R / B ^ j % V + 1) ≤ B ^ j * V := Nat.mul_le_mul_left _ e1
    rw [Nat.mul_add, Nat.mul_one, Nat.mul_comm _ V] at e3
    omega
/-- the number whose digits are those from one on -/
theorem nv_drop {B : Nat} (hB : 2 ≤ B) {l : List Nat} (h : ∀ x ∈ l, x < B) (k : Nat) (hk : k ≤ l.length) : nv B (l.drop k) = nv B l / B ^ k ∧ nv B (l.take k) = nv B l % B ^ k := by
  have h1 := nv_split B l k hk
  have h2 : nv B (l.take k) < B ^ k := by
    have := nv_lt (B := B) (l := l.take k) fun x hx => h x (List.mem_of_mem_take hx)
    rw [List.length_take, Nat.min_eq_left hk] at this
    exact this
  have hP : 0 < B ^ k := Nat.pow_pos (by omega)
  constructor
  · rw [h1, Nat.add_mul_div_left _ _ hP, Nat.div_eq_of_lt h2, Nat.zero_add]
  · rw [h1, Nat.add_mul_mod_self_left, Nat.mod_eq_of_lt h2]
theorem nv_get {B : Nat} (hB : 2 ≤ B) {l : List Nat} (h : ∀ x ∈ l, x < B) {k a : Nat} (hk : l[k]? = some a) : a = nv B l / B ^ k % B := by
  have hl := (List.getElem?_eq_some_iff.1 hk).1
  have h1 := (nv_drop hB h k (by omega)).1
  rw [← h1, List.drop_eq_getElem_cons hl, nv, Nat.add_mul_mod_self_left]
  have : l[k] = a := (List.getElem?_eq_some_iff.1 hk).2
  rw [this, Nat.mod_eq_of_lt (h a (List.mem_of_getElem? hk))]
theorem len_le {B : Nat} (hB : 2 ≤ B) {a b : Nat} (h : a ≤ b) : (dg B a).length ≤ (dg B b).length := by
  rw [dg_len hB]
  exact Nat.lt_of_le_of_lt h (dg_upper hB b)
theorem len_lt {B : Nat} (hB : 2 ≤ B) {a b : Nat} (h : (dg B a).length < (dg B b).length) : a < b := by
  rcases Nat.lt_or_ge a b with h1 | h1
  · exact h1
  · have := len_le hB h1; omega
theorem len_one {B : Nat} (hB : 2 ≤ B) (a : Nat) : ((dg B a).length = 1 ∧ (dg B a)[0]? = some 1) ↔ a = 1 := by
  constructor
  · rintro ⟨h1, h2⟩
    have := nv_dg hB a
    match hd : dg B a, h1, h2 with
    | [x], _, h2 =>
      rw [hd] at this
      simp at h2
      subst h2
      simpa [nv] using this.symm
  · rintro rfl
    rw [dg_pos hB (by omega), Nat.mod_eq_of_lt (by omega), Nat.div_eq_of_lt (by omega), dg_zero]
    exact ⟨rfl, rfl⟩
end Go.Proofs.Ytomhfakkebaciaa
