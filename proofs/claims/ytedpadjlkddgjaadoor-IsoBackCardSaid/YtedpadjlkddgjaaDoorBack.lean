/-
  What Read makes of a text with blanks, hyphens and small letters. Plain Lean, no program in sight.
-/
import Derived.Test.YtedpadjlkddgjaaDoorMiss2
import Derived.Test.YtedpadjlkddgjaaDoorE
namespace Go.Proofs.YtedpadjlkddgjaaDoor
open Go.RowKit Go.PlainAid
def nrm (l : List Int) : List Int := l.flatMap fun c => if c = 32 ∨ c = 45 then [] else [low c]
theorem nrm_append (a b : List Int) : nrm (a ++ b) = nrm a ++ nrm b := by unfold nrm; simp
theorem nrm_one (c : Int) : nrm [c] = if c = 32 ∨ c = 45 then [] else [low c] := by unfold nrm; simp
theorem getD_in {l : List Int} {k : Nat} (h : k < l.length) : l.getD k 0 = l[k]'h := by simp [List.getD, h]
theorem btl_take_succ (s : ByteArray) {k : Nat} (h : k < s.size) : (btl s).take (k + 1) = (btl s).take k ++ [bt s k] := by
  have hl : k < (btl s).length := by rw [btl_length]; exact h
  rw [List.take_succ_eq_append_getElem hl, ← btl_get, getD_in hl]
theorem normTo_nrm (s : ByteArray) (k : Nat) (h : k ≤ s.size) : normTo s k = nrm ((btl s).take k) := by
  induction k with
  | zero => rfl
  | succ k ih => rw [normTo, ih (by omega), btl_take_succ s h, nrm_append, nrm_one]
theorem normTo_all (s : ByteArray) : normTo s s.size = nrm (btl s) := by
  rw [normTo_nrm s _ (Nat.le_refl _), ← btl_length, List.take_length]
theorem rd_of {w s : ByteArray} (hz : w.size ≤ 40) (hn : nrm (btl w) = btl s) : rdE w = chk s ∧ rdS w = if chk s = 0 then s else ⟨#[]⟩ := by
  have e : rdE w = chk s := by
    unfold rdE
    rw [if_neg (by omega), normTo_all, hn, strOf_btl]
  refine ⟨e, ?_⟩
  unfold rdS
  rw [e, normTo_all, hn, strOf_btl]
theorem nrm_fix {l : List Int} (h : ∀ c ∈ l, (48 ≤ c ∧ c ≤ 57) ∨ (65 ≤ c ∧ c ≤ 90)) : nrm l = l := by
  induction l with
  | nil => rfl
  | cons c l ih =>
    have hc := h c (List.mem_cons_self ..)
    rw [← List.singleton_append, nrm_append, ih fun d hd => h d (List.mem_cons_of_mem _ hd), nrm_one, if_neg (by omega)]
    unfold low
    rw [if_neg (by omega)]
theorem may_fix {i : Nat} {b : Int} (h : mayI i b = true) : (48 ≤ b ∧ b ≤ 57) ∨ (65 ≤ b ∧ b ≤ 90) := by
  unfold mayI isLet isGrp isDig at h
  split at h
  · simp at h; omega
  · split at h
    · simp at h; omega
    · split at h
      · simp at h; omega
      · simp at h
theorem nrm_formed {s : ByteArray} (h : formedB s = true) : nrm (btl s) = btl s := nrm_fix fun c hc => by
  obtain ⟨i, hi, rfl⟩ := List.getElem_of_mem hc
  have hl : i < s.size := by rw [btl_length] at hi; exact hi
  have := formed_at h hl
  rw [← btl_get, getD_in hi] at this
  exact may_fix this
theorem nrm_blank : nrm (btl blank) = [] := by decide
theorem nrm_wrW {s : ByteArray} (hz : s.size = 11) (h : formedB s = true) : nrm (btl (wrW s)) = btl s := by
  unfold wrW
  simp only [btl_append, nrm_append, nrm_blank, List.append_nil]
  rw [← nrm_append, ← nrm_append, btl_extract, btl_extract, btl_extract]
  have e : List.drop 0 (List.take 4 (btl s)) ++ List.drop 4 (List.take 10 (btl s)) ++ List.drop 10 (List.take s.size (btl s)) = btl s := by
    have hl := btl_length s
    rw [List.drop_zero, ← hl, List.take_length]
    have a : List.take 4 (btl s) ++ List.drop 4 (List.take 10 (btl s)) = List.take 10 (btl s) := by
      have := List.take_append_drop 4 (List.take 10 (btl s))
      rw [List.take_take] at this
      simpa using this
    rw [a, List.take_append_drop]
  rw [e, nrm_formed h]
theorem wrW_len {s : ByteArray} (hz : s.size = 11) : (wrW s).size = 13 := by
  unfold wrW
  simp only [ByteArray.size_append, ByteArray.size_extract, hz]
  rfl
theorem btl_hy (i : Nat) : btl ((⟨#[32, 45]⟩ : ByteArray).extract (i % 2) (i % 2 + 1)) = [if i % 2 = 0 then 32 else 45] := by
  rcases Nat.mod_two_eq_zero_or_one i with h | h <;> rw [h] <;> decide
theorem hy_size (i : Nat) : ((⟨#[32, 45]⟩ : ByteArray).extract (i % 2) (i % 2 + 1)).size = 1 := by
  rw [← btl_length, btl_hy]; rfl
/-- a blank or a hyphen more -/
theorem ins_nrm (w : ByteArray) {k : Nat} (i : Nat) (h : k ≤ w.size) : nrm (btl (w.extract 0 k ++ (⟨#[32, 45]⟩ : ByteArray).extract (i % 2) (i % 2 + 1) ++ w.extract k w.size)) = nrm (btl w) ∧ (w.extract 0 k ++ (⟨#[32, 45]⟩ : ByteArray).extract (i % 2) (i % 2 + 1) ++ w.extract k w.size).size = w.size + 1 := by
  refine ⟨?_, ?_⟩
  · simp only [btl_append, nrm_append, btl_hy]
    have h0 : nrm [if i % 2 = 0 then (32 : Int) else 45] = [] := by
      rw [nrm_one]
      rcases Nat.mod_two_eq_zero_or_one i with h | h <;> rw [h] <;> rfl
    rw [h0, List.append_nil, ← nrm_append, btl_extract, btl_extract, List.drop_zero]
    have hl := btl_length w
    rw [show List.take w.size (btl w) = btl w by rw [← hl, List.take_length], List.take_append_drop]
  · rw [ByteArray.size_append, ByteArray.size_append, hy_size, ByteArray.size_extract, ByteArray.size_extract]
    omega
/-- a byte more, as it is or in small -/
theorem small_add {w : ByteArray} {k : Nat} {l : List Int} (hk : k < w.size) (hn : nrm l = nrm ((btl w).take k)) {x : Int} (hx : x = bt w k ∨ (65 ≤ bt w k ∧ bt w k ≤ 90 ∧ x = bt w k + 32)) : nrm (l ++ [x]) = nrm ((btl w).take (k + 1)) := by
  rw [btl_take_succ w hk, nrm_append, nrm_append, hn, nrm_one, nrm_one]
  rcases hx with rfl | ⟨h0, h1, rfl⟩
  · rfl
  · rw [if_neg (by omega), if_neg (by omega)]
    unfold low
    rw [if_pos (by omega), if_neg (by omega), Int.add_sub_assoc, Int.add_assoc]
    congr 2
    omega
theorem md_read (n : Int) (hn : 0 ≤ n) {w : ByteArray} (hz : w.size ≤ 40) (h : nrm (btl w) = btl (mdS n)) : rdE w = 0 ∧ rdS w = mdS n := by
  have := rd_of hz h
  rw [mdS_chk hn] at this
  exact this
theorem md_wr (n : Int) (hn : 0 ≤ n) : wrS (mdS n) = wrW (mdS n) ∧ (wrW (mdS n)).size = 13 ∧ nrm (btl (wrW (mdS n))) = btl (mdS n) := by
  have hc := mdS_chk hn
  refine ⟨?_, wrW_len (mdS_size n), nrm_wrW (mdS_size n) (chk_formed hc).2⟩
  unfold wrS
  rw [if_pos hc]
end Go.Proofs.YtedpadjlkddgjaaDoor
