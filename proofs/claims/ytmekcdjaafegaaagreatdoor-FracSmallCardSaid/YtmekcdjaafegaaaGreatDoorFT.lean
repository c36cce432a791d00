/-
  Plain facts about decimal texts of whole numbers: digits from the last one on, turned round, without zeros ahead.
-/
import Derived.Test.YtmekcdjaafegaaaGreatDoorFB
import Derived.Test.YtmekcdjaafegaaaGreatDoorSatB
import Derived.Lib.TrimByte
namespace Go.Proofs.YtmekcdjaafegaaaGreatDoor
open Go Go.Lib
set_option linter.unusedSimpArgs false
set_option linter.unusedVariables false
def dch (d : Nat) : UInt8 := UInt8.ofNat (48 + d)
def txL (n : Nat) : List UInt8 := if n = 0 then [48] else ((dg 10 n).map dch).reverse
def txN (n : Nat) : ByteArray := ⟨(txL n).toArray⟩
/-- the last digits of a number, the last one first -/
def cd (m n : Nat) : List Int := (List.range m).map fun i => 48 + ((n / 10 ^ i % 10 : Nat) : Int)
theorem cd_len (m n : Nat) : (cd m n).length = m := by simp [cd]
theorem cd_succ (m n : Nat) : cd (m + 1) n = cd m n ++ [48 + ((n / 10 ^ m % 10 : Nat) : Int)] := by
  unfold cd
  rw [List.range_succ, List.map_append]
  rfl
theorem strOf_data (l : List Int) : (Sat.strOf l).data.toList = l.map fun x => UInt8.ofNat x.toNat := by
  have key : ∀ (l : List Int) (r : ByteArray), (l.foldl (fun r n => r.push (UInt8.ofNat n.toNat)) r).data.toList = r.data.toList ++ l.map fun x => UInt8.ofNat x.toNat := by
    intro l
    induction l with
    | nil => intro r; simp
    | cons a l ih =>
      intro r
      rw [List.foldl_cons, ih, List.map_cons]
      simp [ByteArray.push]
  unfold Sat.strOf
  rw [key]
  rfl
theorem dch_inj {a b : Nat} (h : a < 10) (h' : b < 10) (e : dch a = dch b) : a = b := by
  have := congrArg UInt8.toNat e
  unfold dch at this
  rw [UInt8.toNat_ofNat', UInt8.toNat_ofNat', Nat.mod_eq_of_lt (by omega), Nat.mod_eq_of_lt (by omega)] at this
  omega
theorem cd_pad {m n : Nat} (h : n < 10 ^ m) : (cd m n).map (fun x => UInt8.ofNat x.toNat) = (dg 10 n).map dch ++ List.replicate (m - (dg 10 n).length) 48 := by
  have hl : (dg 10 n).length ≤ m := (dg_len (by decide) m n).2 h
  refine List.ext_getElem? fun i => ?_
  unfold cd
  rw [List.map_map, List.getElem?_map]
  by_cases hi : i < (dg 10 n).length
  · rw [List.getElem?_append_left (by rw [List.length_map]; exact hi), List.getElem?_map, dg_get (by decide) i n hi, List.getElem?_range (by omega)]
    simp only [Option.map_some, Function.comp, dch]
    congr 2
  · rw [List.getElem?_append_right (by rw [List.length_map]; omega), List.length_map, List.getElem?_replicate]
    by_cases hm : i < m
    · rw [if_pos (by omega), List.getElem?_range hm]
      simp only [Option.map_some, Function.comp]
      rw [dg_past (by decide) (by omega)]
      rfl
    · rw [if_neg (by omega), List.getElem?_eq_none (by rw [List.length_range]; omega)]
      rfl
theorem drop_rep (c : UInt8) (k : Nat) (l : List UInt8) : (List.replicate k c ++ l).dropWhile (· == c) = l.dropWhile (· == c) := by
  induction k with
  | zero => rfl
  | succ k ih =>
    rw [List.replicate_succ, List.cons_append, List.dropWhile_cons_of_pos (by simp)]
    exact ih
theorem drop_last {c : UInt8} {l : List UInt8} {a : UInt8} (h : l[l.length - 1]? = some a) (ha : a ≠ c) : l.reverse.dropWhile (· == c) = l.reverse := by
  rcases List.eq_nil_or_concat l with rfl | ⟨l', b, rfl⟩
  · rfl
  · rw [List.concat_eq_append] at h ⊢
    rw [List.length_append, List.getElem?_append_right (by simp)] at h
    simp only [List.length_cons, List.length_nil, Nat.zero_add, Nat.add_sub_cancel, Nat.sub_self, List.getElem?_cons_zero, Option.some.injEq] at h
    rw [List.reverse_append, List.reverse_singleton, List.singleton_append, List.dropWhile_cons_of_neg (by rw [h]; simp [ha])]
theorem dg_dch {n : Nat} : ∀ c ∈ (dg 10 n).map dch, 48 ≤ c.toNat ∧ c.toNat < 58 := by
  intro c hc
  obtain ⟨d, hd, rfl⟩ := List.mem_map.1 hc
  have := dg_lt (B := 10) (by decide) n d hd
  unfold dch
  rw [UInt8.toNat_ofNat', Nat.mod_eq_of_lt (by omega)]
  omega
theorem text_trim {m n : Nat} (h : n < 10 ^ m) : trimLeftB (Sat.strOf (cd m n).reverse).data.toList 48 = ((dg 10 n).map dch).reverse := by
  rw [strOf_data, List.map_reverse, cd_pad h, List.reverse_append, List.reverse_replicate]
  unfold trimLeftB
  rw [drop_rep]
  rcases Nat.eq_zero_or_pos n with rfl | h0
  · rfl
  · obtain ⟨a, ha, ha0⟩ := dg_last (B := 10) (by decide) h0
    refine drop_last (a := dch a) (by rw [List.length_map, List.getElem?_map, ha]; rfl) fun e => ha0 ?_
    exact dch_inj (dg_lt (by decide) n a (List.mem_of_getElem? ha)) (by decide) (e.trans rfl)
theorem txL_pos {n : Nat} (h : 0 < n) : txL n = ((dg 10 n).map dch).reverse := by
  unfold txL
  rw [if_neg (by omega)]
theorem txL_zero : txL 0 = [48] := rfl
/-- one step of the digits of nine -/
theorem nine_step {n j i : Nat} (hi : i < 9) : n / 10 ^ (9 * j) % 10 ^ 9 / 10 ^ i % 10 = n / 10 ^ (9 * j + i) % 10 := by
  have h1 : n / 10 ^ (9 * j) % 10 ^ 9 / 10 ^ i = n / 10 ^ (9 * j) / 10 ^ i % 10 ^ (9 - i) := by
    have e : (10 : Nat) ^ 9 = 10 ^ i * 10 ^ (9 - i) := by rw [← Nat.pow_add]; congr 1; omega
    rw [e, Nat.mod_mul_right_div_self]
  rw [h1, Nat.pow_add, ← Nat.div_div_eq_div_mul]
  obtain ⟨k, hk⟩ : ∃ k, 9 - i = k + 1 := ⟨8 - i, by omega⟩
  rw [hk, Nat.pow_succ, Nat.mod_mul_left_mod]
theorem nine_next {n j : Nat} : n / 10 ^ (9 * j) / 10 ^ 9 = n / 10 ^ (9 * (j + 1)) := by
  rw [Nat.div_div_eq_div_mul, ← Nat.pow_add, Nat.mul_add, Nat.mul_one]
/-- a list that is being turned round from both ends: so many are done -/
def rv {α : Type} (k : Nat) (l : List α) : List α := l.reverse.take k ++ (l.drop k).take (l.length - 2 * k) ++ l.reverse.drop (l.length - k)
end Go.Proofs.YtmekcdjaafegaaaGreatDoor
