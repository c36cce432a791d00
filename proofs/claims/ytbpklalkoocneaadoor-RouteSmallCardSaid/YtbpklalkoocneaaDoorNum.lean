/-
  Decimal digits at the beginning of a text, and the call that a text holds, read from the left. No program in sight.
-/
import Derived.Test.YtbpklalkoocneaaDoorText
set_option linter.unusedSimpArgs false
set_option linter.unusedVariables false
namespace Go.Proofs.YtbpklalkoocneaaDoor
open Go.RowKit Go.PlainAid Go.Lib
def isD (b : UInt8) : Bool := decide (48 ≤ b.toNat) && decide (b.toNat ≤ 57)
def digs (l : List UInt8) : List UInt8 := l.takeWhile isD
def dv (l : List UInt8) : Nat := l.foldl (fun a b => 10 * a + (b.toNat - 48)) 0
def badD (l : List UInt8) : Bool := decide (10 < l.length) || (decide (1 < l.length) && l.head? == some 48)
def numN (s : ByteArray) : Nat := if badD (digs s.data.toList) then 0 else dv (digs s.data.toList)
def numK (s : ByteArray) : Nat := if badD (digs s.data.toList) then 0 else (digs s.data.toList).length
theorem dv_snoc (l : List UInt8) (b : UInt8) : dv (l ++ [b]) = 10 * dv l + (b.toNat - 48) := by unfold dv; rw [List.foldl_append]; rfl
theorem snoc_ind {α : Type} {p : List α → Prop} (h0 : p []) (h1 : ∀ l a, p l → p (l ++ [a])) : ∀ l, p l := by
  intro l
  have : ∀ n (l : List α), l.length = n → p l := by
    intro n
    induction n with
    | zero => intro l hl; rw [List.eq_nil_of_length_eq_zero hl]; exact h0
    | succ n ih =>
      intro l hl
      have hne : l ≠ [] := by intro e; rw [e] at hl; simp at hl
      rw [← List.dropLast_concat_getLast hne]
      exact h1 _ _ (ih _ (by simp [hl]))
  exact this _ l rfl
theorem dv_lt : ∀ (l : List UInt8), (∀ b ∈ l, isD b = true) → dv l < 10 ^ l.length := by
  refine snoc_ind (by intro _; simp [dv]) ?_
  intro l b ih h
  rw [dv_snoc, List.length_append, List.length_singleton, Nat.pow_succ]
  have h1 := ih fun x hx => h x (by simp [hx])
  have h2 := h b (by simp)
  unfold isD at h2
  simp at h2
  omega
theorem dv_small {l : List UInt8} (h : ∀ b ∈ l, isD b = true) (hl : l.length ≤ 10) : dv l ≤ 9999999999 := by
  have h1 := dv_lt l h
  have h2 : 10 ^ l.length ≤ 10 ^ 10 := Nat.pow_le_pow_right (by omega) hl
  omega
theorem digs_all (l : List UInt8) : ∀ b ∈ digs l, isD b = true := by
  intro b hb
  unfold digs at hb
  induction l with
  | nil => simp at hb
  | cons x l ih =>
    rw [List.takeWhile_cons] at hb
    split at hb
    · rename_i hx
      rcases List.mem_cons.1 hb with rfl | hb
      · exact hx
      · exact ih hb
    · simp at hb
theorem digs_split (l : List UInt8) : ∃ r, l = digs l ++ r ∧ ∀ b, r.head? = some b → isD b = false := by
  unfold digs
  refine ⟨l.dropWhile isD, (List.takeWhile_append_dropWhile).symm, ?_⟩
  intro b hb
  induction l with
  | nil => simp at hb
  | cons x l ih =>
    rw [List.dropWhile_cons] at hb
    split at hb
    · exact ih hb
    · simp at hb
      subst hb
      rename_i hx
      rw [← Bool.not_eq_true]
      exact hx
theorem digs_app {l r : List UInt8} (h : ∀ b ∈ l, isD b = true) (hr : ∀ b, r.head? = some b → isD b = false) : digs (l ++ r) = l := by
  unfold digs
  induction l with
  | nil =>
    cases r with
    | nil => rfl
    | cons b r => rw [List.nil_append, List.takeWhile_cons, if_neg (by rw [hr b rfl]; simp)]
  | cons x l ih =>
    rw [List.cons_append, List.takeWhile_cons, if_pos (h x (by simp)), ih fun b hb => h b (by simp [hb])]
theorem digs_le (l : List UInt8) : (digs l).length ≤ l.length := List.Sublist.length_le (List.takeWhile_sublist _)
theorem digs_get {l : List UInt8} {k : Nat} (h : k < (digs l).length) : (digs l)[k]? = l[k]? := by
  obtain ⟨r, hr, _⟩ := digs_split l
  conv => rhs; rw [hr]
  rw [List.getElem?_append_left h]
theorem digs_end {l : List UInt8} (h : (digs l).length < l.length) : ∃ b, l[(digs l).length]? = some b ∧ isD b = false := by
  obtain ⟨r, hr, hn⟩ := digs_split l
  cases r with
  | nil => rw [List.append_nil] at hr; rw [← hr] at h; omega
  | cons b r =>
    refine ⟨b, ?_, hn b rfl⟩
    conv => lhs; lhs; rw [hr]
    rw [List.getElem?_append_right (Nat.le_refl _), Nat.sub_self]
    rfl
theorem bt_at {s : ByteArray} {k : Nat} {b : UInt8} (h : s.data.toList[k]? = some b) : bt s k = (b.toNat : Int) := by
  have hk : k < s.size := by
    have := (List.getElem?_eq_some_iff.1 h).1
    simpa using this
  unfold bt
  rw [dif_pos hk]
  have : s.data.toList[k]'(by simpa using hk) = b := (List.getElem?_eq_some_iff.1 h).2
  rw [← this]
  rfl
/-- digits without a zero ahead are what a number is written as -/
theorem dec_dv : ∀ (l : List UInt8), l ≠ [] → (∀ b ∈ l, isD b = true) → (1 < l.length → l.head? ≠ some 48) → decDigits (dv l) = l := by
  refine snoc_ind (fun h => absurd rfl h) ?_
  intro l b ih _ hd hz
  have hb := hd b (by simp)
  unfold isD at hb
  simp at hb
  have hbe : UInt8.ofNat (48 + (b.toNat - 48)) = b := by
    rw [show 48 + (b.toNat - 48) = b.toNat by omega]
    simp
  rw [dv_snoc]
  cases l with
  | nil =>
    rw [show dv ([] : List UInt8) = 0 from rfl, decDigits, dif_pos (by omega), Nat.mul_zero, Nat.zero_add, hbe]
    rfl
  | cons x l =>
    have hx0 : x ≠ 48 := by
      have := hz (by simp)
      simpa using this
    have hxd := hd x (by simp)
    unfold isD at hxd
    simp at hxd
    have hx1 : 49 ≤ x.toNat := by
      rcases Nat.lt_or_ge x.toNat 49 with h1 | h1
      · exact absurd (UInt8.toNat_inj.1 (show x.toNat = (48 : UInt8).toNat by simp; omega)) hx0
      · exact h1
    have hpos : ∀ (r : List UInt8), 1 ≤ dv (x :: r) := by
      refine snoc_ind (by show 1 ≤ 10 * 0 + (x.toNat - 48); omega) ?_
      intro r y h
      rw [show x :: (r ++ [y]) = (x :: r) ++ [y] from rfl, dv_snoc]
      omega
    have h1 := hpos l
    rw [decDigits, dif_neg (by omega)]
    rw [show (10 * dv (x :: l) + (b.toNat - 48)) / 10 = dv (x :: l) by omega, show (10 * dv (x :: l) + (b.toNat - 48)) % 10 = b.toNat - 48 by omega, hbe]
    rw [ih (by simp) (fun y hy => hd y (by simp at hy ⊢; rcases hy with h | h <;> simp [h])) (fun _ => by simpa using hx0)]
theorem dec_isD (n : Nat) : ∀ b ∈ decDigits n, isD b = true := by
  intro b hb
  have := dec_digits n b hb
  unfold isD
  simp [this.1, this.2]
theorem dv_dec : ∀ (n : Nat), dv (decDigits n) = n := by
  intro n
  induction n using Nat.strongRecOn with
  | _ n ih =>
    have ho : ∀ d, d < 10 → (UInt8.ofNat (48 + d)).toNat - 48 = d := by
      intro d hd
      rw [UInt8.toNat_ofNat']
      rw [Nat.mod_eq_of_lt (by omega)]
      omega
    rw [decDigits]
    split
    · rename_i h
      show 10 * 0 + ((UInt8.ofNat (48 + n)).toNat - 48) = n
      rw [ho n h]; omega
    · rw [dv_snoc, ih _ (by omega), ho _ (Nat.mod_lt _ (by omega))]
      omega
theorem dec_len : ∀ (k n : Nat), n < 10 ^ k → (decDigits n).length ≤ max k 1 := by
  intro k
  induction k with
  | zero => intro n h; have h0 : n = 0 := by simpa using h
            subst h0; rw [decDigits]; simp
  | succ k ih =>
    intro n h
    rw [decDigits]
    split
    · simp
    · have := ih (n / 10) (by rw [Nat.pow_succ] at h; omega)
      rename_i hn
      rw [List.length_append, List.length_singleton]
      cases k with
      | zero => simp at h; omega
      | succ k => omega
theorem dec_head : ∀ (n : Nat), 1 < (decDigits n).length → (decDigits n).head? ≠ some 48 := by
  intro n
  induction n using Nat.strongRecOn with
  | _ n ih =>
    rw [decDigits]
    split
    · intro h; simp at h
    · rename_i hn
      intro _
      by_cases h1 : 1 < (decDigits (n / 10)).length
      · have := ih (n / 10) (by omega) h1
        rw [List.head?_append]
        cases hh : (decDigits (n / 10)).head? with
        | none => rw [List.head?_eq_none_iff] at hh; rw [hh] at h1; simp at h1
        | some x => rw [hh] at this; simpa using this
      · rw [decDigits] at h1 ⊢
        split at h1
        · rename_i h2
          rw [dif_pos h2]
          simp only [List.cons_append, List.head?_cons, ne_eq, Option.some.injEq]
          intro e
          have := congrArg UInt8.toNat e
          rw [UInt8.toNat_ofNat', Nat.mod_eq_of_lt (by omega)] at this
          simp at this
          omega
        · have := dec_ne (n / 10 / 10)
          have h3 : 0 < (decDigits (n / 10 / 10)).length := List.length_pos_iff.2 this
          rw [List.length_append, List.length_singleton] at h1
          omega
/-- a number's digits, followed by what is no digit -/
theorem num_of {s : ByteArray} {n : Int} {r : List UInt8} (h0 : 0 ≤ n) (h1 : n ≤ 100000000) (hs : s.data.toList = itoa n ++ r) (hr : ∀ b, r.head? = some b → isD b = false) : (numN s : Int) = n ∧ numK s = (itoa n).length := by
  rw [itoa_pos h0] at hs ⊢
  have hd : digs s.data.toList = decDigits n.toNat := by rw [hs]; exact digs_app (dec_isD _) hr
  have hl := dec_len 10 n.toNat (by omega)
  have hb : badD (decDigits n.toNat) = false := by
    unfold badD
    cases h2 : decide (1 < (decDigits n.toNat).length)
    · simp; omega
    · have := dec_head n.toNat (of_decide_eq_true h2)
      simp [this]
      omega
  unfold numN numK
  rw [hd, hb]
  refine ⟨?_, rfl⟩
  simp only [Bool.false_eq_true, if_false]
  rw [dv_dec]
  omega
/-- what is read as a number is what the number is written as -/
theorem num_back {s : ByteArray} (h : numK s ≠ 0) : ∃ r, s.data.toList = itoa (numN s) ++ r ∧ (itoa (numN s)).length = numK s ∧ ∀ b, r.head? = some b → isD b = false := by
  unfold numN numK at *
  cases hb : badD (digs s.data.toList)
  · rw [hb] at h
    simp only [Bool.false_eq_true, if_false] at h ⊢
    obtain ⟨r, hr, hn⟩ := digs_split s.data.toList
    have e : itoa (dv (digs s.data.toList) : Int) = digs s.data.toList := by
      rw [itoa_pos (by omega), Int.toNat_natCast]
      refine dec_dv _ ?_ (digs_all _) ?_
      · intro e; rw [e] at h; simp at h
      · intro h1
        unfold badD at hb
        rw [decide_eq_true h1] at hb
        simp at hb
        exact hb.2
    rw [e]
    exact ⟨r, hr, rfl, hn⟩
  · rw [hb] at h
    simp at h
end Go.Proofs.YtbpklalkoocneaaDoor
