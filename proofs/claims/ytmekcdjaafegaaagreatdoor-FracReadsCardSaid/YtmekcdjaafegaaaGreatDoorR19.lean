/-
  The walks of the reference: a text is read.
-/
import Derived.Test.YtmekcdjaafegaaaGreatDoorR18
import Derived.Test.YtmekcdjaafegaaaGreatDoorFW
namespace Go.Proofs.YtmekcdjaafegaaaGreatDoor
open Go Sat Go.RowKit Go.PlainAid
set_option linter.unusedSimpArgs false
set_option linter.unusedVariables false
/-- what the reference's number answers, and the value of its digits -/
def numC (s : ByteArray) : Int := if dB s = true then if dval s.data.toList < big then 0 else 2 else 1
def numV (s : ByteArray) : Nat := if dB s = true then if dval s.data.toList < big then dval s.data.toList else 0 else 0
theorem num_cases (s : ByteArray) : (dB s = false ∧ numC s = 1 ∧ numV s = 0) ∨ (dB s = true ∧ big ≤ dval s.data.toList ∧ numC s = 2 ∧ numV s = 0) ∨ (dB s = true ∧ dval s.data.toList < big ∧ numC s = 0 ∧ numV s = dval s.data.toList) := by
  unfold numC numV
  cases h : dB s
  · exact .inl ⟨rfl, rfl, rfl⟩
  · by_cases h2 : dval s.data.toList < big
    · rw [if_pos rfl, if_pos h2, if_pos rfl, if_pos h2]
      exact .inr (.inr ⟨rfl, h2, rfl, rfl⟩)
    · rw [if_pos rfl, if_neg h2, if_pos rfl, if_neg h2]
      exact .inr (.inl ⟨rfl, by omega, rfl, rfl⟩)
theorem num_lt (s : ByteArray) : numV s < big := by
  have hb : 0 < big := by decide
  rcases num_cases s with ⟨_, _, h⟩ | ⟨_, _, _, h⟩ | ⟨_, h1, _, h⟩ <;> omega
theorem rnumber_all (s : ByteArray) (w : World) (hs : s.size ≤ 4294967280) :
    Calls Tryz.prog 45 #[.string s] w fun e w' => ∃ v, e = .returned (.tuple #[v, .int .i64 (numC s)]) ∧ w'.ownsRow w.heap.size 3 1 v (dg b6 (numV s)).length (iv (dg b6 (numV s))) ∧ Below w.heap.size w w' := by
  rcases num_cases s with ⟨h1, h2, h3⟩ | ⟨h1, h0, h2, h3⟩ | ⟨h1, h0, h2, h3⟩
  · rw [h2, h3]
    exact (rnumber_no s w hs h1).mono fun e w' ⟨h, b⟩ => ⟨.slice none 0 0, h, ⟨rfl, .inl ⟨rfl, rfl⟩⟩, b⟩
  · rw [h2, h3]
    exact (rnumber_big s w hs h1 h0).mono fun e w' ⟨h, b⟩ => ⟨.slice none 0 0, h, ⟨rfl, .inl ⟨rfl, rfl⟩⟩, b⟩
  · rw [h2, h3]
    exact rnumber_any s w hs h1 h0
/-- digits without a zero ahead that are many mean a great number -/
theorem fold_pow : ∀ (m : List UInt8) (v : Nat), v * 10 ^ m.length ≤ m.foldl (fun v c => 10 * v + (c.toNat - 48)) v
  | [], v => by simp
  | c :: m, v => by
    have h := fold_pow m (10 * v + (c.toNat - 48))
    refine Nat.le_trans ?_ h
    rw [List.length_cons, Nat.pow_succ, Nat.mul_comm (10 ^ m.length) 10, ← Nat.mul_assoc, Nat.mul_comm v 10]
    exact Nat.mul_le_mul_right _ (Nat.le_add_right _ _)
theorem fits_dB {s : ByteArray} (h : dB s = true) : fits s = decide (dval s.data.toList < big) := by
  unfold fits
  by_cases h2 : dval s.data.toList < big
  · rw [decide_eq_true h2, Bool.and_true]
    refine decide_eq_true ?_
    obtain ⟨⟨l⟩⟩ := s
    show l.length ≤ 78
    have h2 : dval l < big := h2
    rcases Nat.lt_or_ge 78 l.length with h3 | h3
    · exfalso
      unfold dB digB at h
      cases l with
      | nil => cases h
      | cons a m =>
        simp only [List.isEmpty_cons, Bool.not_false, Bool.true_and, Bool.and_eq_true, Bool.or_eq_true, beq_iff_eq, bne_iff_ne, List.head?_cons, ne_eq, Option.some.injEq] at h
        have ha := isD_iff.1 (List.all_eq_true.1 h.1 a List.mem_cons_self)
        have hm : m ≠ [] := fun e => by rw [e] at h3; simp at h3
        have h4 : a ≠ 48 := by
          rcases h.2 with h4 | h4
          · injection h4 with _ h5; exact absurd h5 hm
          · exact h4
        have h5 : a.toNat ≠ 48 := fun e => h4 (UInt8.toNat_inj.1 e)
        have h6 := fold_pow m (10 * 0 + (a.toNat - 48))
        have h7 : 10 ^ 78 ≤ 10 ^ m.length := Nat.pow_le_pow_right (by decide) (by simp at h3; omega)
        have h8 : 1 * 10 ^ m.length ≤ (10 * 0 + (a.toNat - 48)) * 10 ^ m.length := Nat.mul_le_mul_right _ (by omega)
        have h9 : big ≤ 10 ^ 78 := by decide
        have h10 : dval (a :: m) = m.foldl (fun v c => 10 * v + (c.toNat - 48)) (10 * 0 + (a.toNat - 48)) := rfl
        omega
    · exact h3
  · rw [decide_eq_false h2, Bool.and_false]
/-- the first stroke from a place on -/
def sl (l : List UInt8) (n : Nat) : Int := if Lib.index (l.drop n) [47] = -1 then -1 else Lib.index (l.drop n) [47] + n
theorem pfx1 (c a : UInt8) (l : List UInt8) : List.isPrefixOf [c] (a :: l) = decide (a = c) := by
  have h : List.isPrefixOf [c] (a :: l) = (c == a) := by
    show (c == a && true) = _
    rw [Bool.and_true]
  rw [h]
  by_cases e : a = c
  · rw [decide_eq_true e, e]
    exact beq_self_eq_true c
  · rw [decide_eq_false e]
    exact beq_eq_false_iff_ne.2 fun h => e h.symm
theorem sl_end (l : List UInt8) : sl l l.length = -1 := by
  unfold sl
  rw [List.drop_length]
  rfl
theorem sl_at {l : List UInt8} {n : Nat} {b : UInt8} (h : l[n]? = some b) : sl l n = if b = 47 then (n : Int) else sl l (n + 1) := by
  have hn : n < l.length := (List.getElem?_eq_some_iff.1 h).1
  have hb : l[n] = b := (List.getElem?_eq_some_iff.1 h).2
  have hd : l.drop n = b :: l.drop (n + 1) := by rw [List.drop_eq_getElem_cons hn, hb]
  have hi : Lib.index (b :: l.drop (n + 1)) [47] = if b = 47 then 0 else if Lib.index (l.drop (n + 1)) [47] = -1 then -1 else Lib.index (l.drop (n + 1)) [47] + 1 := by
    rw [Lib.index]
    have e1 := pfx1 47 b (l.drop (n + 1))
    rw [e1]
    by_cases h47 : b = 47
    · simp [h47]
    · simp [h47]
  have hge := Lib.index_ge (l.drop (n + 1)) [47]
  unfold sl
  rw [hd, hi]
  by_cases h47 : b = 47
  · rw [if_pos h47, if_pos h47, if_neg (by omega)]
    omega
  · rw [if_neg h47, if_neg h47]
    by_cases h1 : Lib.index (l.drop (n + 1)) [47] = -1
    · rw [if_pos h1, if_pos h1, if_pos rfl]
    · rw [if_neg h1, if_neg h1, if_neg (by omega)]
      omega
theorem sl_zero (l : List UInt8) : sl l 0 = Lib.index l [47] := by
  unfold sl
  rw [List.drop_zero]
  split <;> omega
theorem ext_list (s : ByteArray) (i j : Nat) : (s.extract i j).data.toList = (s.data.toList.take j).drop i := by
  simp [ByteArray.data_extract, List.drop_take]
theorem hasP {s : ByteArray} : ng s = true ↔ 0 < s.size ∧ bt s 0 = 45 := by
  obtain ⟨⟨l⟩⟩ := s
  unfold ng Lib.hasPrefix
  cases l with
  | nil =>
    constructor
    · intro h; cases h
    · intro h; exact absurd h.1 (Nat.lt_irrefl 0)
  | cons a l =>
    have e5 : bt (⟨⟨a :: l⟩⟩ : ByteArray) 0 = (a.toNat : Int) := rfl
    have e8 : 0 < (⟨⟨a :: l⟩⟩ : ByteArray).size := Nat.succ_pos _
    rw [e5]
    show List.isPrefixOf [45] (a :: l) = true ↔ _
    rw [pfx1, decide_eq_true_iff]
    constructor
    · intro h
      exact ⟨e8, by rw [h]; rfl⟩
    · intro h
      have h2 := h.2
      exact UInt8.toNat_inj.1 (show a.toNat = 45 by omega)
theorem pre_yes {s : ByteArray} (h : ng s = true) : pre s = s.extract 1 s.size := by
  refine ba_eq.2 ?_
  rw [ext_list]
  unfold pre Lib.trimPrefix
  have h2 : Lib.hasPrefix s.data.toList [45] = true := h
  rw [if_pos h2]
  show s.data.toList.drop 1 = _
  rw [List.take_of_length_le (show s.data.toList.length ≤ s.size from Nat.le_refl _)]
theorem pre_no {s : ByteArray} (h : ng s = false) : pre s = s := by
  unfold pre Lib.trimPrefix
  rw [if_neg (by unfold ng at h; rw [h]; simp)]
theorem cut_no {s : ByteArray} (h : sl s.data.toList 0 = -1) : ab s = s ∧ sm s = false ∧ lo s = ⟨#[49]⟩ := by
  rw [sl_zero] at h
  unfold lo sm ab Lib.cut
  rw [if_neg (by omega)]
  exact ⟨rfl, rfl, rfl⟩
theorem cut_yes {s : ByteArray} {j : Nat} (h : sl s.data.toList 0 = j) : ab s = s.extract 0 j ∧ sm s = true ∧ lo s = s.extract (j + 1) s.size := by
  rw [sl_zero] at h
  have h1 : (Lib.cut s.data.toList [47]) = (s.data.toList.take j, s.data.toList.drop (j + 1), true) := by
    unfold Lib.cut
    rw [if_pos (by omega), h]
    rfl
  unfold lo sm ab be
  rw [h1]
  refine ⟨ba_eq.2 ?_, rfl, ba_eq.2 ?_⟩
  · rw [ext_list, List.drop_zero]
  · rw [ext_list, List.take_of_length_le (show s.data.toList.length ≤ s.size from Nat.le_refl _)]
    rfl
theorem sl_lt (l : List UInt8) : ∀ n, n ≤ l.length → -1 ≤ sl l n ∧ sl l n < l.length := by
  intro n hn
  have hge := Lib.index_ge (l.drop n) [47]
  unfold sl
  split
  · omega
  · rename_i h
    have := Lib.index_room (l.drop n) [47] (by omega)
    rw [List.length_drop] at this
    simp only [List.length_cons, List.length_nil] at this
    omega
end Go.Proofs.YtmekcdjaafegaaaGreatDoor
