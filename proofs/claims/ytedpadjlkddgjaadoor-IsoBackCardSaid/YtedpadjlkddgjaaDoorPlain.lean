/-
  Plain functions of the chapter: the value of a byte, what may stand at a position. No program in sight.
-/
import Derived.RowKit3
import Derived.PlainAid
namespace Go.Proofs.YtedpadjlkddgjaaDoor
open Go.PlainAid
def isDig (b : Int) : Bool := decide (48 ≤ b) && decide (b ≤ 57)
def isLet (b : Int) : Bool := decide (65 ≤ b) && decide (b ≤ 90)
def isGrp (b : Int) : Bool := b == 85 || b == 74 || b == 90
def vI (b : Int) : Int := if isDig b then b - 48 else if isLet b then 10 + (b - 65) + (b - 65 + 9) / 10 else 0
def okB (b : Int) : Bool := isDig b || isLet b
def mayI (i : Nat) (b : Int) : Bool := if i < 3 then isLet b else if i = 3 then isGrp b else if i < 11 then isDig b else false

def formedTo (s : ByteArray) (k : Nat) : Bool := (List.range k).all fun i => mayI i (bt s i)
def formedB (s : ByteArray) : Bool := formedTo s s.size
theorem formedTo_succ (s : ByteArray) (k : Nat) : formedTo s (k + 1) = (formedTo s k && mayI k (bt s k)) := by
  unfold formedTo; simp [List.range_succ]
theorem formedTo_le (s : ByteArray) {k n : Nat} (h : k ≤ n) (hn : formedTo s n = true) : formedTo s k = true := by
  unfold formedTo at *
  rw [List.all_eq_true] at *
  intro x hx
  exact hn x (by rw [List.mem_range] at *; omega)
theorem formedB_stop (s : ByteArray) {k : Nat} (h : k < s.size) (hm : mayI k (bt s k) = false) : formedB s = false := by
  cases hf : formedB s with
  | false => rfl
  | true =>
    have := formedTo_le s (k := k + 1) h hf
    rw [formedTo_succ, hm] at this
    simp at this
theorem mayI_let {k : Nat} (h : k < 3) (b : Int) : mayI k b = isLet b := by unfold mayI; rw [if_pos h]
theorem mayI_grp (b : Int) : mayI 3 b = isGrp b := rfl
theorem mayI_dig {k : Nat} (h : 3 < k) (h' : k < 11) (b : Int) : mayI k b = isDig b := by unfold mayI; rw [if_neg (by omega), if_neg (by omega), if_pos h']
theorem mayI_end {k : Nat} (h : 11 ≤ k) (b : Int) : mayI k b = false := by unfold mayI; rw [if_neg (by omega), if_neg (by omega), if_neg (by omega)]
def dsum (s : ByteArray) : Nat → Int
  | 0 => 0
  | n + 1 => dsum s n + vI (bt s n) * 2 ^ n
def digI (s : ByteArray) (n : Nat) : Int := 48 + dsum s n % 11 % 10
def ckD (s : ByteArray) : Int := if s.size = 10 ∧ formedB s = true then digI s 10 else 0
def ckE (s : ByteArray) : Int := if s.size = 10 ∧ formedB s = true then 0 else 30
def chk (s : ByteArray) : Int := if s.size = 11 ∧ formedB s = true then (if digI s 10 = bt s 10 then 0 else 31) else 30
theorem vI_bd {b : Int} (h0 : 0 ≤ b) (h1 : b ≤ 255) : 0 ≤ vI b ∧ vI b ≤ 38 := by
  unfold vI isDig isLet
  simp only [Bool.and_eq_true, decide_eq_true_eq]
  split
  · omega
  · split <;> omega
theorem vI_bt (s : ByteArray) (k : Nat) : 0 ≤ vI (bt s k) ∧ vI (bt s k) ≤ 38 := vI_bd (bt_nonneg s k) (bt_le s k)
theorem two_pow (k : Nat) : (0 : Int) ≤ 2 ^ k := by
  have h : (0 : Int) < 2 ^ k := Int.pow_pos (by decide)
  omega
theorem term_bd (s : ByteArray) (k : Nat) : 0 ≤ vI (bt s k) * 2 ^ k ∧ vI (bt s k) * 2 ^ k ≤ 38 * 2 ^ k := by
  have h := vI_bt s k
  exact ⟨Int.mul_nonneg h.1 (two_pow k), Int.mul_le_mul_of_nonneg_right h.2 (two_pow k)⟩
theorem dsum_bd (s : ByteArray) (k : Nat) : 0 ≤ dsum s k ∧ dsum s k ≤ 38 * 2 ^ k := by
  induction k with
  | zero => unfold dsum; omega
  | succ k ih =>
    have h := term_bd s k
    rw [dsum, Int.pow_succ]
    omega
theorem pow_small {k : Nat} (h : k ≤ 20) : (2 : Int) ^ k ≤ 1048576 := by
  have h2 : (2 : Nat) ^ k ≤ 2 ^ 20 := Nat.pow_le_pow_right (by decide) h
  have h3 : ((2 ^ k : Nat) : Int) ≤ ((2 ^ 20 : Nat) : Int) := by omega
  rw [Int.natCast_pow] at h3
  exact h3
theorem term_small (s : ByteArray) {k : Nat} (h : k ≤ 20) : 0 ≤ vI (bt s k) * 2 ^ k ∧ vI (bt s k) * 2 ^ k ≤ 39845888 := by
  have := term_bd s k; have := pow_small h; omega
theorem dsum_small (s : ByteArray) {k : Nat} (h : k ≤ 20) : 0 ≤ dsum s k ∧ dsum s k ≤ 39845888 := by
  have := dsum_bd s k; have := pow_small h; omega
theorem digI_bd (s : ByteArray) (n : Nat) : 48 ≤ digI s n ∧ digI s n ≤ 57 := by unfold digI; omega
/-- the value of a letter, counted up -/
theorem let_step {q : Int} (_h0 : 0 ≤ q) (_h1 : q < 25) : ((10 + q + (q + 9) / 10 + 1) % 11 = 0 → 10 + (q + 1) + (q + 1 + 9) / 10 = 10 + q + (q + 9) / 10 + 1 + 1) ∧ ((10 + q + (q + 9) / 10 + 1) % 11 ≠ 0 → 10 + (q + 1) + (q + 1 + 9) / 10 = 10 + q + (q + 9) / 10 + 1) := by omega
theorem pow_mod (k : Nat) : (2 : Int) ^ k % 11 * 2 % 11 = 2 ^ (k + 1) % 11 := by
  rw [Int.pow_succ, Int.mul_emod, Int.emod_emod, ← Int.mul_emod]
theorem dsum_mod (s : ByteArray) (k : Nat) : (dsum s k % 11 + vI (bt s k) * (2 ^ k % 11)) % 11 = dsum s (k + 1) % 11 := by
  rw [dsum, Int.add_emod, Int.emod_emod, Int.mul_emod, Int.emod_emod, ← Int.mul_emod, ← Int.add_emod]
theorem mod_term (s : ByteArray) (k : Nat) : 0 ≤ vI (bt s k) * (2 ^ k % 11) ∧ vI (bt s k) * (2 ^ k % 11) ≤ 380 := by
  have h := vI_bt s k
  have h2 : 0 ≤ (2 : Int) ^ k % 11 ∧ (2 : Int) ^ k % 11 ≤ 10 := by omega
  refine ⟨Int.mul_nonneg h.1 h2.1, ?_⟩
  have a := Int.mul_le_mul_of_nonneg_right h.2 h2.1
  omega
def low (c : Int) : Int := if 97 ≤ c ∧ c ≤ 122 then c - 97 + 65 else c
def normTo (s : ByteArray) : Nat → List Int
  | 0 => []
  | k + 1 => normTo s k ++ (if bt s k = 32 ∨ bt s k = 45 then [] else [low (bt s k)])
theorem normTo_le (s : ByteArray) (k : Nat) : (normTo s k).length ≤ k := by
  induction k with
  | zero => simp [normTo]
  | succ k ih => rw [normTo]; split <;> simp <;> omega
theorem normTo_range (s : ByteArray) (k : Nat) : ∀ x ∈ normTo s k, 0 ≤ x ∧ x ≤ 255 := by
  induction k with
  | zero => intro x hx; simp [normTo] at hx
  | succ k ih =>
    intro x hx
    rw [normTo, List.mem_append] at hx
    rcases hx with hx | hx
    · exact ih x hx
    · have h0 := bt_nonneg s k
      have h1 := bt_le s k
      split at hx
      · simp at hx
      · simp at hx
        subst hx
        unfold low
        split <;> omega
end Go.Proofs.YtedpadjlkddgjaaDoor
