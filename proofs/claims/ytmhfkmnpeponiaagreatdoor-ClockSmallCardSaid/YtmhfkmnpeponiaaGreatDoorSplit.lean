/-
  strings.Split at one byte: what its pieces are. No program in sight.
-/
import Derived.Lib.Split
import Derived.Lib.SplitLaws
import Derived.Lib.ItoaNum
import Derived.Lib.Atoi
set_option linter.unusedSimpArgs false
set_option linter.unusedVariables false
namespace Go.Proofs.YtmhfkmnpeponiaaGreatDoor
open Go.Lib
/-- a row cut at a byte -/
def cutAt (c : UInt8) : List UInt8 → List (List UInt8)
  | [] => [[]]
  | b :: l => if b = c then [] :: cutAt c l else match cutAt c l with
    | [] => [[b]]
    | x :: xs => (b :: x) :: xs
theorem cutAt_ne (c : UInt8) (l : List UInt8) : cutAt c l ≠ [] := by
  cases l with
  | nil => simp [cutAt]
  | cons b l =>
    unfold cutAt
    split
    · simp
    · split <;> simp
theorem cutAt_free {c : UInt8} {l : List UInt8} (h : c ∉ l) : cutAt c l = [l] := by
  induction l with
  | nil => rfl
  | cons b l ih =>
    simp only [List.mem_cons, not_or] at h
    unfold cutAt
    rw [if_neg (fun e => h.1 e.symm), ih h.2]
theorem cutAt_app {c : UInt8} {a r : List UInt8} (h : c ∉ a) : cutAt c (a ++ c :: r) = a :: cutAt c r := by
  induction a with
  | nil => simp [cutAt]
  | cons b a ih =>
    simp only [List.mem_cons, not_or] at h
    rw [List.cons_append, cutAt, if_neg (fun e => h.1 e.symm), ih h.2]
theorem idx_free {c : UInt8} {l : List UInt8} (h : c ∉ l) : index l [c] = -1 := by
  induction l with
  | nil => rfl
  | cons b l ih =>
    simp only [List.mem_cons, not_or] at h
    have hp : [c].isPrefixOf (b :: l) = false := by simp [List.isPrefixOf, h.1]
    unfold index
    rw [hp, ih h.2]
    rfl
theorem idx_app {c : UInt8} {a r : List UInt8} (h : c ∉ a) : index (a ++ c :: r) [c] = a.length := by
  induction a with
  | nil => simp [index, List.isPrefixOf]
  | cons b a ih =>
    simp only [List.mem_cons, not_or] at h
    have hp : [c].isPrefixOf (b :: (a ++ c :: r)) = false := by simp [List.isPrefixOf, h.1]
    rw [List.cons_append]
    unfold index
    rw [hp, ih h.2]
    have : ((a.length : Int) == -1) = false := by simp
    rw [this]
    simp
theorem first_of (c : UInt8) : ∀ (l : List UInt8), c ∈ l → ∃ a r, l = a ++ c :: r ∧ c ∉ a := by
  intro l
  induction l with
  | nil => intro h; cases h
  | cons b l ih =>
    intro h
    by_cases e : b = c
    · subst e; exact ⟨[], l, rfl, by simp⟩
    · have hl : c ∈ l := by
        rcases List.mem_cons.1 h with h | h
        · exact absurd h.symm e
        · exact h
      obtain ⟨a, r, rfl, ha⟩ := ih hl
      exact ⟨b :: a, r, rfl, by simp only [List.mem_cons, not_or]; exact ⟨fun h => e h.symm, ha⟩⟩
theorem split_cut (c : UInt8) : ∀ (n : Nat) (l : List UInt8), l.length ≤ n → splitK [c] 0 (l.count c) l = cutAt c l := by
  intro n
  induction n with
  | zero =>
    intro l h
    obtain rfl : l = [] := List.eq_nil_of_length_eq_zero (by omega)
    rfl
  | succ n ih =>
    intro l h
    by_cases hc : c ∈ l
    · obtain ⟨a, r, rfl, ha⟩ := first_of c l hc
      have hk : (a ++ c :: r).count c = r.count c + 1 := by
        rw [List.count_append, List.count_cons_self, List.count_eq_zero_of_not_mem ha]; omega
      rw [hk, cutAt_app ha]
      unfold splitK
      rw [idx_app ha]
      have : ((a.length : Int) == -1) = false := by simp
      rw [this]
      simp only [Bool.false_eq_true, if_false, Int.toNat_natCast, Nat.add_zero, List.length_singleton, List.take_left]
      rw [show (a ++ c :: r).drop (a.length + 1) = r by simp]
      rw [ih r (by simp at h; omega)]
    · rw [cutAt_free hc, List.count_eq_zero_of_not_mem hc]
      rfl
theorem split_is (l : List UInt8) (c : UInt8) : split l [c] = cutAt c l := by
  unfold split
  rw [count_one]
  exact split_cut c l.length l (Nat.le_refl _)
/-- the pieces as they came -/
theorem cutAt_three {c : UInt8} {l x y z : List UInt8} (h : cutAt c l = [x, y, z]) : l = x ++ c :: (y ++ c :: z) ∧ c ∉ x ∧ c ∉ y ∧ c ∉ z := by
  have step : ∀ (l : List UInt8) (x : List UInt8) (xs : List (List UInt8)), cutAt c l = x :: xs → c ∉ x ∧ ((xs = [] ∧ l = x) ∨ ∃ r, l = x ++ c :: r ∧ cutAt c r = xs) := by
    intro l x xs h
    by_cases hc : c ∈ l
    · obtain ⟨a, r, rfl, ha⟩ := first_of c l hc
      rw [cutAt_app ha] at h
      injection h with h1 h2
      subst h1
      exact ⟨ha, .inr ⟨r, rfl, h2⟩⟩
    · rw [cutAt_free hc] at h
      injection h with h1 h2
      subst h1
      exact ⟨hc, .inl ⟨h2.symm, rfl⟩⟩
  obtain ⟨hx, h1⟩ := step l x _ h
  rcases h1 with ⟨h1, _⟩ | ⟨r, rfl, hr⟩
  · cases h1
  · obtain ⟨hy, h2⟩ := step r y _ hr
    rcases h2 with ⟨h2, _⟩ | ⟨q, rfl, hq⟩
    · cases h2
    · obtain ⟨hz, h3⟩ := step q z _ hq
      rcases h3 with ⟨_, rfl⟩ | ⟨_, _, h3⟩
      · exact ⟨rfl, hx, hy, hz⟩
      · exact absurd h3 (cutAt_ne c _)
theorem cutAt_of_three {c : UInt8} {x y z : List UInt8} (hx : c ∉ x) (hy : c ∉ y) (hz : c ∉ z) : cutAt c (x ++ c :: (y ++ c :: z)) = [x, y, z] := by
  rw [cutAt_app hx, cutAt_app hy, cutAt_free hz]
/-- decimal digits -/
theorem dec_digits : ∀ (n : Nat), ∀ b ∈ decDigits n, 48 ≤ b.toNat ∧ b.toNat ≤ 57 := by
  intro n
  induction n using Nat.strongRecOn with
  | _ n ih =>
    intro b hb
    rw [decDigits] at hb
    split at hb
    · rename_i h
      rw [List.mem_singleton] at hb
      subst hb
      rw [UInt8.toNat_ofNat']
      omega
    · rw [List.mem_append] at hb
      rcases hb with hb | hb
      · exact ih (n / 10) (by omega) b hb
      · rw [List.mem_singleton] at hb
        subst hb
        rw [UInt8.toNat_ofNat']
        omega
theorem itoa_pos {n : Int} (h : 0 ≤ n) : itoa n = decDigits n.toNat := by unfold itoa; rw [if_neg (by omega)]
theorem itoa_no_blank {n : Int} (h : 0 ≤ n) : (32 : UInt8) ∉ itoa n := by
  rw [itoa_pos h]
  intro hb
  have := dec_digits _ _ hb
  simp at this
theorem decFrom_snoc (l : List UInt8) (acc : Nat) (b : UInt8) : decFrom acc (l ++ [b]) = (decFrom acc l).bind fun m => (digitVal b).map fun d => m * 10 + d := by
  induction l generalizing acc with
  | nil => simp [decFrom]; cases digitVal b <;> rfl
  | cons x l ih =>
    rw [List.cons_append]
    unfold decFrom
    cases digitVal x with
    | none => rfl
    | some d => exact ih _
theorem digitVal_of {d : Nat} (h : d < 10) : digitVal (UInt8.ofNat (48 + d)) = some d := by
  unfold digitVal
  have e : (UInt8.ofNat (48 + d)).toNat = 48 + d := by rw [UInt8.toNat_ofNat']; omega
  rw [e, if_pos (by omega), Nat.add_sub_cancel_left]
theorem dec_back : ∀ (n : Nat), decFrom 0 (decDigits n) = some n := by
  intro n
  induction n using Nat.strongRecOn with
  | _ n ih =>
    rw [decDigits]
    split
    · rename_i h
      unfold decFrom
      rw [digitVal_of h]
      simp [decFrom]
    · rw [decFrom_snoc, ih (n / 10) (by omega), digitVal_of (by omega)]
      simp
      omega
theorem dec_ne (n : Nat) : decDigits n ≠ [] := by
  rw [decDigits]
  split <;> simp
theorem atoi_itoa {n : Int} (h : 0 ≤ n) : atoi (itoa n) = some n := by
  rw [itoa_pos h]
  have hd := dec_digits n.toNat
  have hb := dec_back n.toNat
  have hn := dec_ne n.toNat
  cases hl : decDigits n.toNat with
  | nil => exact absurd hl hn
  | cons b r =>
    rw [hl] at hd hb
    have h1 := hd b List.mem_cons_self
    unfold atoi
    dsimp only
    have e1 : (b == 45) = false := by
      rw [beq_eq_false_iff_ne]; rintro rfl; simp at h1
    have e2 : (b == 43) = false := by
      rw [beq_eq_false_iff_ne]; rintro rfl; simp at h1
    rw [e1, e2]
    simp only [Bool.false_eq_true, if_false]
    unfold decNat
    simp [hb]
    omega
end Go.Proofs.YtmhfkmnpeponiaaGreatDoor
