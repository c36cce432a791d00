/-
  Tides: high waters, windows time by time. No program in sight.
-/
import Derived.Test.YtodecgpjidlldaaDoorCPlain3
set_option linter.unusedSimpArgs false
set_option linter.unusedVariables false
namespace Go.Proofs.YtodecgpjidlldaaDoor
open Go.RowKit Go.PlainAid
structure Td where
  first : Int
  num : Int
  den : Int
  before : Int
  after : Int
/-- a tide that is right -/
structure Tidy (t : Td) : Prop where
  first : 0 ≤ t.first ∧ t.first ≤ 100000000
  den : 1 ≤ t.den ∧ t.den ≤ 1000
  before : 0 ≤ t.before ∧ t.before < 10080
  after : 0 ≤ t.after ∧ t.after < 10080
  some : 1 ≤ t.before + t.after
  num : 1 ≤ t.num ∧ t.num ≤ 20160 * t.den
  gap : t.before + t.after < t.num / t.den
def hiw (t : Td) (k : Int) : Int := t.first + k * t.num / t.den
theorem div_add {a b d : Int} (hd : 0 < d) : a / d + b / d ≤ (a + b) / d := by
  rw [Int.le_ediv_iff_mul_le hd, Int.add_mul]
  have h1 := Int.ediv_mul_le a (show d ≠ 0 by omega)
  have h2 := Int.ediv_mul_le b (show d ≠ 0 by omega)
  omega
theorem hiw_zero (t : Td) : hiw t 0 = t.first := by unfold hiw; rw [Int.zero_mul, Int.zero_ediv, Int.add_zero]
theorem hiw_next {t : Td} (h : Tidy t) (k : Int) : hiw t k + t.num / t.den ≤ hiw t (k + 1) := by
  unfold hiw
  rw [Int.add_mul, Int.one_mul]
  have hd := h.den
  have := div_add (a := k * t.num) (b := t.num) (d := t.den) (by omega)
  omega
theorem hiw_mono {t : Td} (h : Tidy t) {k : Int} : ∀ d : Nat, hiw t k ≤ hiw t (k + d) := by
  intro d
  induction d with
  | zero => rw [Int.natCast_zero, Int.add_zero]; exact Int.le_refl _
  | succ d ih =>
    have h1 := hiw_next h (k + d)
    have h2 := h.gap
    have h3 := h.some
    have e : k + ((d + 1 : Nat) : Int) = k + d + 1 := by omega
    rw [e]
    omega
theorem hiw_le {t : Td} (h : Tidy t) {k m : Int} (hkm : k ≤ m) : hiw t k ≤ hiw t m := by
  have := hiw_mono h (k := k) (m - k).toNat
  rw [show k + ((m - k).toNat : Int) = m by omega] at this
  exact this
theorem hiw_den (t : Td) (hd : 0 < t.den) (k : Int) : hiw t (k + t.den) = hiw t k + t.num := by
  unfold hiw
  rw [Int.add_mul, Int.mul_comm t.den t.num, Int.add_mul_ediv_right _ _ (by omega)]
  omega
/-- each high water is at least as many minutes behind the first as its number -/
theorem hiw_far {t : Td} (h : Tidy t) : ∀ k : Nat, t.first + k ≤ hiw t k := by
  intro k
  induction k with
  | zero => rw [Int.natCast_zero, hiw_zero]; omega
  | succ k ih =>
    have h1 := hiw_next h k
    have h2 := h.gap
    have h3 := h.some
    have e : ((k + 1 : Nat) : Int) = (k : Int) + 1 := by omega
    rw [e]
    omega
/-- whether a time is in a window -/
noncomputable def winP (t : Td) (x : Int) : Bool := @decide (∃ k : Nat, hiw t k - t.before ≤ x ∧ x < hiw t k + t.after) (Classical.propDecidable _)
theorem winP_iff {t : Td} {x : Int} : winP t x = true ↔ ∃ k : Nat, hiw t k - t.before ≤ x ∧ x < hiw t k + t.after := by
  unfold winP
  exact @decide_eq_true_iff _ (Classical.propDecidable _)
/-- a window and the time between the one before and itself -/
theorem winP_in {t : Td} {x : Int} {k : Nat} (h1 : hiw t k - t.before ≤ x) (h2 : x < hiw t k + t.after) : winP t x = true := winP_iff.2 ⟨k, h1, h2⟩
theorem winP_out {t : Td} (h : Tidy t) {x : Int} {k : Nat} (h1 : x < hiw t k - t.before) (h2 : ∀ j : Nat, j < k → hiw t j + t.after ≤ x) : winP t x = false := by
  rw [Bool.eq_false_iff]
  intro e
  obtain ⟨j, h3, h4⟩ := winP_iff.1 e
  rcases Nat.lt_or_ge j k with hj | hj
  · have := h2 j hj
    omega
  · have := hiw_le h (show (k : Int) ≤ (j : Int) by omega)
    omega
/-- a window ends ahead of the next one -/
theorem hiw_ahead {t : Td} (h : Tidy t) {j k : Nat} (hjk : j < k) : hiw t j + t.after < hiw t k - t.before := by
  have h1 := hiw_next h j
  have h2 := hiw_le h (show (j : Int) + 1 ≤ (k : Int) by omega)
  have h3 := h.gap
  omega
/-- the times of one more window, clipped -/
theorem win_step {t : Td} (h : Tidy t) {x to a b : Int} {n : Nat} {k : Nat} (hx : 0 ≤ x) (hb0 : ∀ j : Nat, j < k → hiw t j + t.after ≤ x + n) (hn : x + n ≤ to) (hkt : hiw t k - t.before < to) (hka : x + n ≤ hiw t k + t.after)
    (ha : a = max (max (hiw t k - t.before) 0) x) (hb : b = min (hiw t k + t.after) to) (hp : ∀ j : Nat, j < k → hiw t j + t.after ≤ hiw t k - t.before) (hnk : n = 0 ∨ ∃ j : Nat, j < k ∧ x + n ≤ hiw t j + t.after) :
    runs (winP t) x (b - x).toNat = addS (runs (winP t) x n) a b ∧ x + n ≤ b ∧ a ≤ b := by
  have hf := hiw_le h (show (0 : Int) ≤ (k : Int) by omega)
  rw [hiw_zero] at hf
  have h0 := h.first
  have hba := h.before
  have haf := h.after
  have hna : x + n ≤ a := by
    rcases hnk with hnk | ⟨j, h1, h2⟩
    · rw [ha]; omega
    · have := hp j h1
      rw [ha]; omega
  have hab : a ≤ b := by rw [ha, hb]; omega
  obtain ⟨d, hd⟩ : ∃ d : Nat, a = x + (n + d : Nat) := ⟨(a - x - n).toNat, by omega⟩
  obtain ⟨e, he⟩ : ∃ e : Nat, b = x + (n + d + e : Nat) := ⟨(b - a).toNat, by omega⟩
  have hbn : (b - x).toNat = n + d + e := by omega
  rw [hbn, runs_step (p := winP t) (x := x) (n := n) (d := d) (e := e) (fun y h1 h2 => ?_) (fun y h1 h2 => ?_), ← hd, ← he]
  · exact ⟨rfl, by omega, hab⟩
  · refine winP_out h (k := k) ?_ (fun j hj => ?_)
    · rw [← hd, ha] at h2
      omega
    · have := hb0 j hj
      omega
  · rw [← he] at h2
    rw [← hd] at h1
    exact winP_in (k := k) (by rw [ha] at h1; omega) (by rw [hb] at h2; omega)
/-- the number with which the program begins: the windows ahead of it end ahead of the time -/
theorem win_first {t : Td} (h : Tidy t) {x : Int} {j : Nat} (hj : (j : Int) < max ((x - t.first - t.after) * t.den / t.num - 1) 0) : hiw t j + t.after ≤ x := by
  have hd := h.den
  have hn := h.num
  have h1 : (j : Int) + 1 ≤ (x - t.first - t.after) * t.den / t.num := by omega
  rw [Int.le_ediv_iff_mul_le (by omega), Int.add_mul] at h1
  have h2 : (j : Int) * t.num ≤ (x - t.first - t.after) * t.den := by omega
  have h3 : (j : Int) * t.num / t.den ≤ x - t.first - t.after := Int.ediv_le_of_le_mul (by omega) h2
  unfold hiw
  omega
end Go.Proofs.YtodecgpjidlldaaDoor
