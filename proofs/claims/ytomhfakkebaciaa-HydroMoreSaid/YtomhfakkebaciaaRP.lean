/-
  Numbers as digits to the base 65536: what each step of a sum, a difference, a product and a quotient does. No program in sight.
-/
import Derived.Test.YtomhfakkebaciaaFD
set_option linter.unusedSimpArgs false
set_option linter.unusedVariables false
namespace Go.Proofs.Ytomhfakkebaciaa
open Go.RowKit Go.PlainAid
def b6 : Nat := 65536
theorem b6_2 : 2 ≤ b6 := by decide
theorem bb_b6 : bb = b6 ^ 2 := by decide
theorem dg_take {B s i : Nat} (hB : 2 ≤ B) (h : i < (dg B s).length) : (dg B s).take (i + 1) = (dg B s).take i ++ [s / B ^ i % B] := by
  rw [List.take_add_one, dg_get hB i s h]
  rfl
theorem lt_len {B s i : Nat} (hB : 2 ≤ B) : i < (dg B s).length ↔ 0 < s / B ^ i := by
  have h := dg_len hB i s
  have hp : 0 < B ^ i := Nat.pow_pos (by omega)
  rw [Nat.div_pos_iff]
  constructor
  · intro h1
    refine ⟨hp, ?_⟩
    rcases Nat.lt_or_ge s (B ^ i) with h2 | h2
    · have := h.2 h2; omega
    · exact h2
  · rintro ⟨_, h1⟩
    rcases Nat.lt_or_ge i (dg B s).length with h2 | h2
    · exact h2
    · have := h.1 h2; omega
/-- digits of a given number -/
def dgB (B k n : Nat) : List Nat := (List.range k).map fun i => n / B ^ i % B
theorem dgB_len (B k n : Nat) : (dgB B k n).length = k := by simp [dgB]
theorem dgB_succ (B k n : Nat) : dgB B (k + 1) n = dgB B k n ++ [n / B ^ k % B] := by simp [dgB, List.range_succ]
theorem dgB_lt {B : Nat} (hB : 2 ≤ B) (k n : Nat) : ∀ x ∈ dgB B k n, x < B := by
  intro x hx
  simp only [dgB, List.mem_map] at hx
  obtain ⟨i, _, rfl⟩ := hx
  exact Nat.mod_lt _ (by omega)
theorem nv_dgB (B k n : Nat) : nv B (dgB B k n) = n % B ^ k := by
  induction k with
  | zero => simp [dgB, nv, Nat.mod_one]
  | succ k ih => rw [dgB_succ, nv_app, ih, mod_split, dgB_len]; simp [nv]
theorem dgB_trim {B k n : Nat} (hB : 2 ≤ B) (h : n < B ^ k) : trimL (dgB B k n) = dg B n := by
  rw [← trim_nil hB (dgB_lt hB k n), nv_dgB, Nat.mod_eq_of_lt h]
/-! sums -/
theorem add_next {B s u v i c : Nat} (hB : 0 < B) (h : c + u / B ^ i + v / B ^ i = s / B ^ i) :
    s / B ^ i % B = (c + u / B ^ i % B + v / B ^ i % B) % B ∧ (c + u / B ^ i % B + v / B ^ i % B) / B + u / B ^ (i + 1) + v / B ^ (i + 1) = s / B ^ (i + 1) := by
  have hu := div_split B u i
  have hv := div_split B v i
  have hs : s / B ^ (i + 1) = s / B ^ i / B := by rw [Nat.pow_succ, Nat.div_div_eq_div_mul]
  have e : s / B ^ i = (c + u / B ^ i % B + v / B ^ i % B) + B * (u / B ^ (i + 1) + v / B ^ (i + 1)) := by
    rw [Nat.mul_add]; omega
  constructor
  · rw [e, Nat.add_mul_mod_self_left]
  · rw [hs, e, Nat.add_mul_div_left _ _ hB]; omega
/-! differences -/
theorem sub_next {B u v z i o : Nat} (hB : 2 ≤ B) (ho : o ≤ 1) (h : u / B ^ i = v / B ^ i + o + z / B ^ i) :
    ∃ o', o' ≤ 1 ∧ u / B ^ i % B + B * o' = o + v / B ^ i % B + z / B ^ i % B ∧ u / B ^ (i + 1) = v / B ^ (i + 1) + o' + z / B ^ (i + 1) ∧ (o' = 1 ↔ u / B ^ i % B < o + v / B ^ i % B) := by
  have hu := div_split B u i
  have hv := div_split B v i
  have hz := div_split B z i
  have lu : u / B ^ i % B < B := Nat.mod_lt _ (by omega)
  have lv : v / B ^ i % B < B := Nat.mod_lt _ (by omega)
  have lz : z / B ^ i % B < B := Nat.mod_lt _ (by omega)
  generalize u / B ^ i % B = a at *
  generalize v / B ^ i % B = b at *
  generalize z / B ^ i % B = d at *
  generalize u / B ^ (i + 1) = U at *
  generalize v / B ^ (i + 1) = V at *
  generalize z / B ^ (i + 1) = Z at *
  have key : B * U + a = B * (V + Z) + (b + o + d) := by rw [Nat.mul_add]; omega
  rcases Nat.lt_trichotomy U (V + Z) with h1 | h1 | h1
  · have : B * (U + 1) ≤ B * (V + Z) := Nat.mul_le_mul_left _ h1
    rw [Nat.mul_add] at this
    omega
  · exact ⟨0, by omega, by rw [h1] at key; omega, by omega, by rw [h1] at key; omega⟩
  · have h2 : V + Z + 1 ≤ U := h1
    have h3 : B * (V + Z + 1) ≤ B * U := Nat.mul_le_mul_left _ h2
    rw [Nat.mul_add B (V + Z) 1] at h3
    have h4 : U < V + Z + 2 := by
      rcases Nat.lt_or_ge U (V + Z + 2) with h5 | h5
      · exact h5
      · have h6 : B * (V + Z + 2) ≤ B * U := Nat.mul_le_mul_left _ h5
        rw [Nat.mul_add B (V + Z) 2] at h6
        omega
    have h5 : U = V + Z + 1 := by omega
    rw [h5, Nat.mul_add B (V + Z) 1] at key
    exact ⟨1, by omega, by omega, by omega, by omega⟩
/-! products with a digit -/
theorem scale_next {B u k i c : Nat} (hB : 0 < B) (h : c + k * (u / B ^ i) = u * k / B ^ i) :
    u * k / B ^ i % B = (c + u / B ^ i % B * k) % B ∧ (c + u / B ^ i % B * k) / B + k * (u / B ^ (i + 1)) = u * k / B ^ (i + 1) := by
  have hu := div_split B u i
  have hs : u * k / B ^ (i + 1) = u * k / B ^ i / B := by rw [Nat.pow_succ, Nat.div_div_eq_div_mul]
  have e : u * k / B ^ i = (c + u / B ^ i % B * k) + B * (k * (u / B ^ (i + 1))) := by
    rw [← h]
    conv => lhs; rw [hu]
    rw [Nat.mul_add, Nat.mul_comm k (u / B ^ i % B), Nat.mul_left_comm]
    omega
  constructor
  · rw [e, Nat.add_mul_mod_self_left]
  · rw [hs, e, Nat.add_mul_div_left _ _ hB]
theorem scale_car {B k c a : Nat} (hB : 0 < B) (hc : c ≤ k) (ha : a < B) : (c + a * k) / B ≤ k := by
  rw [Nat.div_le_iff_le_mul hB]
  have : a * k ≤ (B - 1) * k := Nat.mul_le_mul_right _ (by omega)
  have e : (B - 1) * k + k = k * B := by
    rw [← Nat.succ_mul, Nat.mul_comm]
    congr 1
    omega
  omega
/-! products -/
theorem shift_trim {B m : Nat} (hB : 2 ≤ B) : trimL (0 :: dg B m) = dg B (B * m) := by
  have h := trim_nil hB (l := 0 :: dg B m) (fun x hx => by
    rcases List.mem_cons.1 hx with rfl | h
    · omega
    · exact dg_lt hB m x h)
  rw [← h, nv, nv_dg hB]
  congr 1
  omega
theorem mul_next {B x y i : Nat} : B * (x * (y / B ^ (i + 1))) + x * (y / B ^ i % B) = x * (y / B ^ i) := by
  have h := div_split B y i
  conv => rhs; rw [h]
  rw [Nat.mul_add, Nat.mul_left_comm]
/-! quotients -/
theorem dg_drop {B x k : Nat} (hB : 2 ≤ B) : (dg B x).drop k = dg B (x / B ^ k) := by
  rcases Nat.lt_or_ge (dg B x).length k with h | h
  · rw [List.drop_of_length_le (by omega)]
    have := (dg_len hB k x).1 (by omega)
    rw [Nat.div_eq_of_lt this]
    rfl
  have h1 := (nv_drop hB (dg_lt hB x) k h).1
  rw [nv_dg hB] at h1
  rw [← h1]
  refine (dg_nv hB (fun y hy => dg_lt hB x y (List.mem_of_mem_drop hy)) fun a ha => ?_).symm
  rcases Nat.eq_zero_or_pos x with h0 | h0
  · rw [h0, dg_zero, List.drop_nil] at ha
    cases ha
  obtain ⟨b, hb, hb0⟩ := dg_last hB h0
  rw [List.getLast?_eq_getElem?, List.length_drop, List.getElem?_drop] at ha
  rcases Nat.lt_or_ge k (dg B x).length with h2 | h2
  · rw [show k + ((dg B x).length - k - 1) = (dg B x).length - 1 by omega, hb] at ha
    injection ha with ha
    omega
  · rw [List.getElem?_eq_none (by omega)] at ha
    cases ha
theorem cons_trim {B a m : Nat} (hB : 2 ≤ B) (ha : a < B) : trimL (a :: dg B m) = dg B (a + B * m) := by
  have h := trim_nil hB (l := a :: dg B m) (fun x hx => by
    rcases List.mem_cons.1 hx with rfl | h
    · exact ha
    · exact dg_lt hB m x h)
  rw [← h, nv, nv_dg hB]
/-- one digit of a quotient -/
theorem div_next {B x y i : Nat} (hB : 0 < B) (hy : 0 < y) : (x / B ^ i % B + B * (x / B ^ (i + 1) % y)) / y + B * (x / B ^ (i + 1) / y) = x / B ^ i / y ∧ (x / B ^ i % B + B * (x / B ^ (i + 1) % y)) % y = x / B ^ i % y ∧ (x / B ^ i % B + B * (x / B ^ (i + 1) % y)) < B * y := by
  have h := div_split B x i
  generalize x / B ^ i = X at *
  generalize x / B ^ (i + 1) = Z at *
  have hz := Nat.div_add_mod Z y
  have hr := Nat.mod_lt Z hy
  have ha : X % B < B := Nat.mod_lt _ hB
  generalize X % B = a at *
  generalize Z / y = q at *
  generalize Z % y = r at *
  have e : X = (a + B * r) + y * (B * q) := by
    rw [h, ← hz, Nat.mul_add, Nat.mul_left_comm]
    omega
  refine ⟨?_, ?_, ?_⟩
  · rw [e, Nat.add_mul_div_left _ _ hy]
  · rw [e, Nat.add_mul_mod_self_left]
  · have : B * (r + 1) ≤ B * y := Nat.mul_le_mul_left _ hr
    rw [Nat.mul_add] at this
    omega
/-- the digit of a quotient lies between two that its first digits allow -/
theorem div_bounds {B P R y bt top : Nat} (hP : 0 < P) (hbt : bt = y / P) (htop : top = R / P) (hb : 0 < bt) (hy : 0 < y) (hR : R < B * y) (hB : 0 < B) : top / (bt + 1) * y ≤ R ∧ R < (min (top / bt) (B - 1) + 1) * y ∧ top / (bt + 1) ≤ min (top / bt) (B - 1) := by
  have h1 : y < (bt + 1) * P := by
    rw [hbt, Nat.mul_comm]
    exact Nat.lt_mul_div_succ y hP
  have h2 : R < (top + 1) * P := by
    rw [htop, Nat.mul_comm]
    exact Nat.lt_mul_div_succ R hP
  have h3 : top * P ≤ R := by rw [htop]; exact Nat.div_mul_le_self R P
  have h4 : bt * P ≤ y := by rw [hbt]; exact Nat.div_mul_le_self y P
  have a1 : top / (bt + 1) * y ≤ R := by
    have h5 : top / (bt + 1) * (bt + 1) ≤ top := Nat.div_mul_le_self _ _
    have h6 : top / (bt + 1) * y ≤ top / (bt + 1) * ((bt + 1) * P) := Nat.mul_le_mul_left _ (Nat.le_of_lt h1)
    rw [← Nat.mul_assoc] at h6
    have h7 := Nat.mul_le_mul_right P h5
    omega
  have a2 : R < (top / bt + 1) * y := by
    have h5 : top + 1 ≤ (top / bt + 1) * bt := by
      have := Nat.lt_mul_div_succ top hb
      rw [Nat.mul_comm]
      omega
    have h6 := Nat.mul_le_mul_right P h5
    have h7 : (top / bt + 1) * (bt * P) ≤ (top / bt + 1) * y := Nat.mul_le_mul_left _ h4
    rw [← Nat.mul_assoc] at h7
    omega
  have a3 : R < (B - 1 + 1) * y := by rw [Nat.sub_add_cancel hB]; exact hR
  refine ⟨a1, ?_, ?_⟩
  · rcases Nat.le_total (top / bt) (B - 1) with h | h
    · rw [Nat.min_eq_left h]; exact a2
    · rw [Nat.min_eq_right h]; exact a3
  · have key : ∀ z, R < (z + 1) * y → top / (bt + 1) ≤ z := by
      intro z hz
      have h8 : top / (bt + 1) * y < (z + 1) * y := Nat.lt_of_le_of_lt a1 hz
      have := Nat.lt_of_mul_lt_mul_right h8
      omega
    exact Nat.le_min.2 ⟨key _ a2, key _ a3⟩
theorem div_is {R y l : Nat} (h1 : l * y ≤ R) (h2 : R < (l + 1) * y) (hy : 0 < y) : R / y = l ∧ R - l * y = R % y := by
  have e : R / y = l := Nat.div_eq_of_lt_le h1 h2
  refine ⟨e, ?_⟩
  have := Nat.div_add_mod R y
  rw [e, Nat.mul_comm] at this
  omega
theorem top_val {B R k : Nat} : R / B ^ k = R / B ^ k % B + B * (R / B ^ (k + 1)) := by
  have := div_split B R k
  omega
/-- a quotient's digits, from the highest one on -/
theorem quo_next {B x y i v v' a : Nat} (h : v = B ^ (i + 1) * (x / B ^ (i + 1) / y)) (hs : v' + B ^ i * 0 = v + B ^ i * a) (ha : a + B * (x / B ^ (i + 1) / y) = x / B ^ i / y) : v' = B ^ i * (x / B ^ i / y) := by
  rw [Nat.mul_zero, Nat.add_zero] at hs
  rw [hs, h, ← ha, Nat.mul_add, Nat.pow_succ, Nat.mul_assoc]
  omega
end Go.Proofs.Ytomhfakkebaciaa
