/-
  What a text that is one of a call looks like, read from the left. No program in sight.
-/
import Derived.Test.YtbpklalkoocneaaDoorNum
set_option linter.unusedSimpArgs false
set_option linter.unusedVariables false
namespace Go.Proofs.YtbpklalkoocneaaDoor
open Go.RowKit Go.PlainAid Go.Lib
def x6 (s : ByteArray) : ByteArray := s.extract (6 : Int).toNat ((s.size : Int)).toNat
def x7 (s : ByteArray) (k : Nat) : ByteArray := s.extract ((7 : Int) + (k : Int)).toNat ((s.size : Int)).toNat
theorem ext_list (s : ByteArray) (a b : Nat) : (s.extract a b).data.toList = (s.data.toList.drop a).take (b - a) := by
  rw [ByteArray.data_extract, Array.toList_extract]
theorem size_list (s : ByteArray) : s.data.toList.length = s.size := by simp
theorem x6_data (s : ByteArray) : (x6 s).data.toList = s.data.toList.drop 6 := by
  unfold x6
  rw [ext_list]
  refine List.take_of_length_le ?_
  rw [List.length_drop, size_list]
  exact Nat.le_refl _
theorem x7_data (s : ByteArray) (k : Nat) : (x7 s k).data.toList = s.data.toList.drop (7 + k) := by
  unfold x7
  rw [ext_list, show ((7 : Int) + (k : Int)).toNat = 7 + k by omega]
  refine List.take_of_length_le ?_
  rw [List.length_drop, size_list]
  exact Nat.le_refl _
theorem x5_data (s : ByteArray) : (s.extract (0 : Int).toNat (5 : Int).toNat).data.toList = s.data.toList.take 5 := by
  rw [ext_list]
  rfl
theorem itoa_len1 {n : Int} (h : 0 ≤ n) : 1 ≤ (itoa n).length := by
  rw [itoa_pos h]
  exact List.length_pos_iff.2 (dec_ne _)
structure Parts (s : ByteArray) (c : Cl) : Prop where
  n9 : 9 ≤ s.size
  b5 : bt s 5 = 32
  n6 : (numN (x6 s) : Int) = c.t
  k6 : numK (x6 s) ≠ 0
  n8 : 8 + numK (x6 s) ≤ s.size
  b6 : bt s (6 + numK (x6 s)) = 32
  n7 : (numN (x7 s (numK (x6 s))) : Int) = c.d
  k7 : numK (x7 s (numK (x6 s))) ≠ 0
  sz : s.size = 7 + numK (x6 s) + numK (x7 s (numK (x6 s)))
  p : s.extract (0 : Int).toNat (5 : Int).toNat = c.p
theorem wr_parts {s : ByteArray} {c : Cl} (h1 : rightC c = true) (h2 : wrB c = s) : Parts s c := by
  have hb := rightC_bd h1
  have h5 : c.p.size = 5 := by unfold rightC at h1; simp at h1; exact h1.1.1.1.1.1
  have hL : s.data.toList = c.p.data.toList ++ 32 :: (itoa c.t ++ 32 :: itoa c.d) := by rw [← h2, wrB_data]; rfl
  have hp : c.p.data.toList.length = 5 := by rw [size_list, h5]
  have e6 : (x6 s).data.toList = itoa c.t ++ 32 :: itoa c.d := by
    rw [x6_data, hL, List.drop_append, hp, List.drop_of_length_le (show c.p.data.toList.length ≤ 6 by omega)]
    rfl
  obtain ⟨n6, k6⟩ := num_of hb.1 hb.2.1 e6 (by intro b hb; simp at hb; subst hb; rfl)
  have hk := itoa_len1 hb.1
  have hd := itoa_len1 hb.2.2.1
  have e7 : (x7 s (numK (x6 s))).data.toList = itoa c.d ++ [] := by
    rw [x7_data, List.append_nil, k6]
    have : s.data.toList.drop (7 + (itoa c.t).length) = ((s.data.toList.drop 6).drop (itoa c.t).length).drop 1 := by
      rw [List.drop_drop, List.drop_drop]; congr 1; omega
    rw [this, ← x6_data, e6]
    simp
  obtain ⟨n7, k7⟩ := num_of (r := []) hb.2.2.1 (by omega) e7 (by intro b hb; simp at hb)
  have hsz : s.size = 5 + (1 + ((itoa c.t).length + (1 + (itoa c.d).length))) := by
    rw [← size_list, hL]
    simp
    omega
  refine ⟨by omega, ?_, n6, by omega, by omega, ?_, n7, by omega, by omega, ?_⟩
  · have : s.data.toList[5]? = some 32 := by
      rw [hL, List.getElem?_append_right (by omega), hp]
      rfl
    rw [bt_at this]
    rfl
  · have : s.data.toList[6 + numK (x6 s)]? = some 32 := by
      rw [← List.getElem?_drop, ← x6_data, e6, k6, List.getElem?_append_right (Nat.le_refl _), Nat.sub_self]
      rfl
    rw [bt_at this]
    rfl
  · apply ba_ext
    rw [x5_data, hL, List.take_append_of_le_length (by omega), List.take_of_length_le (by omega)]
theorem bt_is {s : ByteArray} {k : Nat} {v : UInt8} (hk : k < s.size) (h : bt s k = (v.toNat : Int)) : s.data.toList[k]? = some v := by
  have hl : k < s.data.toList.length := by rw [size_list]; exact hk
  have e := bt_at (List.getElem?_eq_getElem hl)
  rw [e] at h
  rw [List.getElem?_eq_getElem hl, UInt8.toNat_inj.1 (Int.ofNat.inj h)]
theorem parts_wr {s : ByteArray} (n9 : 9 ≤ s.size) (b5 : bt s 5 = 32) (k6 : numK (x6 s) ≠ 0) (n8 : 8 + numK (x6 s) ≤ s.size) (b6 : bt s (6 + numK (x6 s)) = 32) (k7 : numK (x7 s (numK (x6 s))) ≠ 0)
    (sz : s.size = 7 + numK (x6 s) + numK (x7 s (numK (x6 s)))) : wrB ⟨s.extract (0 : Int).toNat (5 : Int).toNat, numN (x6 s), numN (x7 s (numK (x6 s)))⟩ = s := by
  apply ba_ext
  rw [wrB_data]
  unfold wrL
  rw [x5_data]
  obtain ⟨r6, e6, l6, _⟩ := num_back k6
  obtain ⟨r7, e7, l7, _⟩ := num_back k7
  rw [x6_data] at e6
  rw [x7_data] at e7
  have c5 := bt_is (v := 32) (by omega) b5
  have c6 := bt_is (v := 32) (by omega) b6
  have hr7 : r7 = [] := by
    have := congrArg List.length e7
    rw [List.length_drop, List.length_append, size_list, l7] at this
    exact List.eq_nil_of_length_eq_zero (by omega)
  subst hr7
  rw [List.append_nil] at e7
  have hr6 : r6 = 32 :: s.data.toList.drop (7 + numK (x6 s)) := by
    have h1 : r6 = (s.data.toList.drop 6).drop (numK (x6 s)) := by rw [e6, ← l6]; simp
    rw [h1, List.drop_drop]
    obtain ⟨hlt, he⟩ := List.getElem?_eq_some_iff.1 c6
    rw [List.drop_eq_getElem_cons hlt, he, show 6 + numK (x6 s) + 1 = 7 + numK (x6 s) by omega]
  rw [← e7, ← hr6, ← e6]
  obtain ⟨hlt, he⟩ := List.getElem?_eq_some_iff.1 c5
  have : s.data.toList.drop 5 = 32 :: s.data.toList.drop 6 := by rw [List.drop_eq_getElem_cons hlt, he]
  rw [← this, List.take_append_drop]
noncomputable def prC (s : ByteArray) : Cl := match prs s with
  | some c => c
  | none => ⟨⟨#[]⟩, 0, 0⟩
noncomputable def prE (s : ByteArray) : Int := match prs s with
  | some _ => 0
  | none => 201
theorem pr_some {s : ByteArray} {c : Cl} (h : prs s = some c) : prC s = c ∧ prE s = 0 := by unfold prC prE; rw [h]; exact ⟨rfl, rfl⟩
theorem pr_none {s : ByteArray} (h : prs s = none) : prC s = ⟨⟨#[]⟩, 0, 0⟩ ∧ prE s = 201 := by unfold prC prE; rw [h]; exact ⟨rfl, rfl⟩
end Go.Proofs.YtbpklalkoocneaaDoor
