/-
  The numbers that the statements' Made returns: plain Lean, no program in sight.
-/
import Derived.Test.YtedpadjlkddgjaaDoorMiss
namespace Go.Proofs.YtedpadjlkddgjaaDoor
open Go.RowKit Go.PlainAid
def by_ (i : Nat) : Int := if i < 3 then 26 else if i = 3 then 3 else 10
def quoAt (n : Int) : Nat → Int
  | 0 => n
  | i + 1 => quoAt n i / by_ i
def mdB (n : Int) (i : Nat) : Int := if i < 3 then 65 + quoAt n i % 26 else if i = 3 then (if quoAt n 3 % 3 = 0 then 85 else if quoAt n 3 % 3 = 1 then 74 else 90) else 48 + quoAt n i % 10
def mdL (n : Int) : Nat → List Int
  | 0 => []
  | i + 1 => mdL n i ++ [mdB n i]
def mdP (n : Int) : ByteArray := strOf (mdL n 10)
def mdD (n : Int) : Int := digI (mdP n) 10
def mdS (n : Int) : ByteArray := mdP n ++ strOf [mdD n]
theorem quoAt_nonneg {n : Int} (h : 0 ≤ n) (i : Nat) : 0 ≤ quoAt n i := by
  induction i with
  | zero => exact h
  | succ i ih => rw [quoAt]; unfold by_; (repeat' split) <;> omega
theorem quoAt_le {n : Int} (h : 0 ≤ n) (i : Nat) : quoAt n i ≤ n := by
  induction i with
  | zero => exact Int.le_refl _
  | succ i ih => have := quoAt_nonneg h i; rw [quoAt]; unfold by_; (repeat' split) <;> omega
theorem mdB_may {n : Int} (h : 0 ≤ n) {i : Nat} (hi : i < 10) : mayI i (mdB n i) = true := by
  have hq := quoAt_nonneg h i
  unfold mayI mdB isLet isGrp isDig
  by_cases h3 : i < 3
  · rw [if_pos h3, if_pos h3]; simp; omega
  · by_cases h4 : i = 3
    · subst h4; rw [if_neg (by omega), if_pos rfl, if_neg (by omega), if_pos rfl]; (repeat' split) <;> simp
    · rw [if_neg h3, if_neg h4, if_pos (by omega), if_neg h3, if_neg h4]; simp; omega
theorem mdL_len (n : Int) (i : Nat) : (mdL n i).length = i := by
  induction i with
  | zero => rfl
  | succ i ih => rw [mdL, List.length_append, ih]; rfl
theorem mdL_range {n : Int} (h : 0 ≤ n) (i : Nat) (hi : i ≤ 10) : ∀ x ∈ mdL n i, 0 ≤ x ∧ x ≤ 255 := by
  induction i with
  | zero => intro x hx; simp [mdL] at hx
  | succ i ih =>
    intro x hx
    rw [mdL, List.mem_append] at hx
    rcases hx with hx | hx
    · exact ih (by omega) x hx
    · simp at hx
      subst hx
      have := may_range (mdB_may h (i := i) (by omega))
      omega
theorem mdL_get (n : Int) (i k : Nat) (h : k < i) : (mdL n i).getD k 0 = mdB n k := by
  induction i with
  | zero => omega
  | succ i ih =>
    rw [mdL, List.getD_eq_getElem?_getD]
    by_cases hk : k < i
    · rw [List.getElem?_append_left (by rw [mdL_len]; exact hk), ← List.getD_eq_getElem?_getD]; exact ih hk
    · obtain rfl : k = i := by omega
      rw [List.getElem?_append_right (by rw [mdL_len]; exact Nat.le_refl _), mdL_len, Nat.sub_self]; rfl
theorem mdP_size (n : Int) : (mdP n).size = 10 := by unfold mdP; rw [strOf_size, mdL_len]
theorem bt_mdP {n : Int} (h : 0 ≤ n) {k : Nat} (hk : k < 10) : bt (mdP n) k = mdB n k := by
  unfold mdP; rw [bt_strOf _ (mdL_range h 10 (by omega)), mdL_get _ _ _ hk]
theorem formed_of {s : ByteArray} (h : ∀ k, k < s.size → mayI k (bt s k) = true) : formedB s = true := by
  unfold formedB formedTo
  rw [List.all_eq_true]
  intro k hk
  exact h k (List.mem_range.1 hk)
theorem mdP_formed {n : Int} (h : 0 ≤ n) : formedB (mdP n) = true := formed_of fun k hk => by
  rw [mdP_size] at hk; rw [bt_mdP h hk]; exact mdB_may h hk
theorem mdS_size (n : Int) : (mdS n).size = 11 := by unfold mdS; rw [ByteArray.size_append, mdP_size, strOf_size]; rfl
theorem bt_mdS {n : Int} {k : Nat} (hk : k < 10) : bt (mdS n) k = bt (mdP n) k := by
  unfold mdS; rw [bt_append_left _ _ (by rw [mdP_size]; exact hk)]
theorem bt_mdS10 (n : Int) : bt (mdS n) 10 = mdD n := by
  have := digI_bd (mdP n) 10
  unfold mdS
  rw [bt_append_right _ _ (by rw [mdP_size]; exact Nat.le_refl _), mdP_size, Nat.sub_self, bt_strOf _ (by intro x hx; simp at hx; unfold mdD at hx; omega)]
  rfl
theorem dsum_congr {s t : ByteArray} (n : Nat) (h : ∀ k, k < n → bt s k = bt t k) : dsum s n = dsum t n := by
  induction n with
  | zero => rfl
  | succ n ih => rw [dsum, dsum, ih (fun k hk => h k (by omega)), h n (by omega)]
theorem mdS_chk {n : Int} (h : 0 ≤ n) : chk (mdS n) = 0 := by
  have hf : formedB (mdS n) = true := formed_of fun k hk => by
    rw [mdS_size] at hk
    by_cases h10 : k < 10
    · rw [bt_mdS h10, bt_mdP h h10]; exact mdB_may h h10
    · obtain rfl : k = 10 := by omega
      have := digI_bd (mdP n) 10
      rw [bt_mdS10, mayI_dig (by omega) (by omega)]
      unfold isDig mdD; simp; omega
  unfold chk
  rw [if_pos ⟨mdS_size n, hf⟩, if_pos]
  rw [bt_mdS10]
  unfold mdD digI
  rw [dsum_congr 10 (fun k hk => bt_mdS hk)]
end Go.Proofs.YtedpadjlkddgjaaDoor
