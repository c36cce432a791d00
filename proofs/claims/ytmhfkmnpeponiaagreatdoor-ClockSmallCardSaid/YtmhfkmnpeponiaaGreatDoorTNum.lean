/-
  Decimal digits, the pieces of a text between blanks. No program in sight.
-/
import Derived.Test.YtmhfkmnpeponiaaGreatDoorSplit
import Derived.Test.YtmhfkmnpeponiaaGreatDoorCQ
import Derived.Lib.AtoiAll
import Derived.Test.YtmhfkmnpeponiaaGreatDoorSatB
set_option linter.unusedSimpArgs false
set_option linter.unusedVariables false
namespace Go.Proofs.YtmhfkmnpeponiaaGreatDoor
open Go.RowKit Go.PlainAid Go.Lib
def itB (n : Int) : ByteArray := ⟨(itoa n).toArray⟩
theorem ba_ext {a b : ByteArray} (h : a.data.toList = b.data.toList) : a = b := by
  cases a; cases b; simp at h; simp [h]
def isD (b : UInt8) : Bool := decide (48 ≤ b.toNat) && decide (b.toNat ≤ 57)
def dv (l : List UInt8) : Nat := l.foldl (fun a b => 10 * a + (b.toNat - 48)) 0
theorem dv_snoc (l : List UInt8) (b : UInt8) : dv (l ++ [b]) = 10 * dv l + (b.toNat - 48) := by unfold dv; rw [List.foldl_append]; rfl
theorem snoc_ind {α : Type} {p : List α → Prop} (h0 : p []) (h1 : ∀ l a, p l → p (l ++ [a])) : ∀ l, p l := by
  intro l
  have : ∀ n (l : List α), l.length = n → p l := by
    intro n
    induction n with
    | zero => intro l hl; rw [List.eq_nil_of_length_eq_zero hl]; exact h0
    | succ n ih =>
      intro l hl
      have hne : l ≠ [] := by intro e; rw [e] at hl; simp at hl
      rw [← List.dropLast_concat_getLast hne]
      exact h1 _ _ (ih _ (by simp [hl]))
  exact this _ l rfl
theorem bt_at {s : ByteArray} {k : Nat} {b : UInt8} (h : s.data.toList[k]? = some b) : bt s k = (b.toNat : Int) := by
  have hk : k < s.size := by
    have := (List.getElem?_eq_some_iff.1 h).1
    simpa using this
  unfold bt
  rw [dif_pos hk]
  have : s.data.toList[k]'(by simpa using hk) = b := (List.getElem?_eq_some_iff.1 h).2
  rw [← this]
  rfl
theorem dec_isD (n : Nat) : ∀ b ∈ decDigits n, isD b = true := by
  intro b hb
  have := dec_digits n b hb
  unfold isD
  simp [this.1, this.2]
theorem dv_dec : ∀ (n : Nat), dv (decDigits n) = n := by
  intro n
  induction n using Nat.strongRecOn with
  | _ n ih =>
    have ho : ∀ d, d < 10 → (UInt8.ofNat (48 + d)).toNat - 48 = d := by
      intro d hd
      rw [UInt8.toNat_ofNat']
      rw [Nat.mod_eq_of_lt (by omega)]
      omega
    rw [decDigits]
    split
    · rename_i h
      show 10 * 0 + ((UInt8.ofNat (48 + n)).toNat - 48) = n
      rw [ho n h]; omega
    · rw [dv_snoc, ih _ (by omega), ho _ (Nat.mod_lt _ (by omega))]
      omega
theorem dec_len : ∀ (k n : Nat), n < 10 ^ k → (decDigits n).length ≤ max k 1 := by
  intro k
  induction k with
  | zero => intro n h; have h0 : n = 0 := by simpa using h
            subst h0; rw [decDigits]; simp
  | succ k ih =>
    intro n h
    rw [decDigits]
    split
    · simp
    · have := ih (n / 10) (by rw [Nat.pow_succ] at h; omega)
      rename_i hn
      rw [List.length_append, List.length_singleton]
      cases k with
      | zero => simp at h; omega
      | succ k => omega
theorem dv_app (a l : List UInt8) : dv a ≤ dv (a ++ l) := by
  revert a
  intro a
  revert l
  refine snoc_ind (by simp) ?_
  intro l b ih
  rw [← List.append_assoc, dv_snoc]
  omega
theorem parse_dv : ∀ (l a : List UInt8), (∀ b ∈ l, isD b = true) → dv (a ++ l) ≤ 1000000000000 → parseUint10 (dv a) l = .ok (dv (a ++ l)) := by
  intro l
  induction l with
  | nil => intro a _ _; simp [parseUint10]
  | cons c l ih =>
    intro a hd hv
    have hc := hd c (by simp)
    unfold isD at hc
    simp at hc
    have e : a ++ c :: l = (a ++ [c]) ++ l := by simp
    have hs := dv_snoc a c
    have h1 := dv_app (a ++ [c]) l
    rw [e] at hv ⊢
    unfold parseUint10
    rw [if_pos hc, if_neg (by omega), if_neg (by omega), show dv a * 10 + (c.toNat - 48) = dv (a ++ [c]) by omega]
    exact ih _ (fun b hb => hd b (by simp [hb])) hv
theorem atoi_of {n : Int} (h0 : 0 ≤ n) (h1 : n ≤ 100000000) : atoiAll (itoa n) = .ok n := by
  rw [itoa_pos h0]
  have hd := dec_isD n.toNat
  have hn := dec_ne n.toNat
  have hv := dv_dec n.toNat
  have hp := parse_dv (decDigits n.toNat) [] hd (by rw [List.nil_append, hv]; omega)
  rw [List.nil_append, hv] at hp
  cases hl : decDigits n.toNat with
  | nil => exact absurd hl hn
  | cons b r =>
    rw [hl] at hd hp
    have hb := hd b (by simp)
    unfold isD at hb
    simp at hb
    unfold atoiAll
    dsimp only
    rw [if_neg (by omega)]
    unfold parseMag
    rw [if_neg (by simp), show (0 : Nat) = dv [] from rfl, hp]
    dsimp only
    rw [if_neg (by omega), if_neg (by omega), if_neg (by omega)]
    congr 1
    omega
theorem atoi_bd {l : List UInt8} {v : Int} (h : atoiAll l = .ok v) : -9223372036854775808 ≤ v ∧ v ≤ 9223372036854775807 := by
  unfold atoiAll at h
  split at h
  · cases h
  · dsimp only at h
    split at h
    · cases h
    · cases h
    · split at h
      · cases h
      · split at h
        · cases h
        · injection h with h
          split at h <;> omega
theorem atoi_cases (l : List UInt8) : (∃ v, atoiAll l = .ok v) ∨ atoiAll l = atoiAll [] ∨ atoiAll l = .range := by
  cases atoiAll l
  all_goals first
  | exact .inl ⟨_, rfl⟩
  | exact .inr (.inl rfl)
  | exact .inr (.inr rfl)
def pieces (s : ByteArray) : List ByteArray := splitB ⟨#[32]⟩ 0 (countB s ⟨#[32]⟩) s
theorem pieces_data (s : ByteArray) : (pieces s).map (·.data.toList) = cutAt 32 s.data.toList := by
  unfold pieces
  rw [splitB_data]
  have h : countB s ⟨#[32]⟩ = s.data.toList.count 32 := by
    show count s.data.toList [32] = _
    exact count_one _ _
  rw [h]
  exact split_cut 32 _ _ (Nat.le_refl _)
theorem pieces_len (s : ByteArray) : (pieces s).length = countB s ⟨#[32]⟩ + 1 := splitB_all _ (by show 1 ≤ 1; omega) 0 _ s rfl
theorem atoi_len {l : List UInt8} {v : Int} (h : atoiAll l = .ok v) : -(10 ^ l.length : Nat) < v ∧ v < (10 ^ l.length : Nat) := by
  have key : ∀ (l : List UInt8) (acc u : Nat), parseUint10 acc l = .ok u → u < (acc + 1) * 10 ^ l.length := by
    intro l
    induction l with
    | nil =>
      intro acc u h
      simp only [parseUint10] at h
      injection h with h
      simp
      omega
    | cons c r ih =>
      intro acc u h
      simp only [parseUint10] at h
      split at h
      · split at h
        · cases h
        · split at h
          · cases h
          · rename_i hc _ _
            have h1 := ih _ u h
            have h2 : (acc * 10 + (c.toNat - 48) + 1) * 10 ^ r.length ≤ (acc + 1) * 10 * 10 ^ r.length := Nat.mul_le_mul_right _ (by omega)
            rw [List.length_cons, Nat.pow_succ]
            have h3 : (acc + 1) * (10 ^ r.length * 10) = (acc + 1) * 10 * 10 ^ r.length := by rw [Nat.mul_assoc, Nat.mul_comm 10]
            omega
      · cases h
  have mag : ∀ (l : List UInt8) (u : Nat), parseMag l = .ok u → u < 10 ^ l.length := by
    intro l u h
    unfold parseMag at h
    split at h
    · cases h
    · have := key l 0 u h
      omega
  unfold atoiAll at h
  split at h
  · cases h
  · rename_i c r
    dsimp only at h
    split at h
    · cases h
    · cases h
    · rename_i u hu
      have hm := mag _ u hu
      have hl : (10 ^ (if c.toNat = 43 ∨ c.toNat = 45 then r else c :: r).length : Nat) ≤ 10 ^ (c :: r).length := by
        refine Nat.pow_le_pow_right (by omega) ?_
        split <;> simp
      split at h
      · cases h
      · split at h
        · cases h
        · injection h with h
          split at h <;> omega
theorem itB_len {n : Int} (h0 : 0 ≤ n) (h1 : n ≤ 99999) : (itB n).size ≤ 5 := by
  have := dec_len 5 n.toNat (by omega)
  unfold itB
  rw [itoa_pos h0]
  show (decDigits n.toNat).toArray.size ≤ 5
  simpa using this
theorem itB_small {n : Int} (h0 : 0 ≤ n) (h1 : n < 10) : itB n = ⟨#[UInt8.ofNat (48 + n.toNat)]⟩ := by
  unfold itB
  rw [itoa_pos h0]
  unfold Lib.decDigits
  rw [dif_pos (by omega)]
theorem itB_big {n : Int} (h1 : 10 ≤ n) : itB n = itB (n / 10) ++ ⟨#[UInt8.ofNat (48 + n.toNat % 10)]⟩ := by
  unfold itB
  rw [itoa_pos (by omega), itoa_pos (by omega)]
  rw [Lib.decDigits]
  rw [dif_neg (by omega)]
  have e : (n / 10).toNat = n.toNat / 10 := by omega
  rw [e]
  apply ba_ext
  simp
theorem itB_inj {a b : Int} (ha : 0 ≤ a) (hb : 0 ≤ b) (h : itoa a = itoa b) : a = b := by
  have h1 := atoi_itoa ha
  rw [h, atoi_itoa hb] at h1
  injection h1 with h1
  exact h1.symm
end Go.Proofs.YtmhfkmnpeponiaaGreatDoor
