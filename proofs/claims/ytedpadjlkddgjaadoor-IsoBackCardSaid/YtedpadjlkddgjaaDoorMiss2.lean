/-
  The missed errors of a number that Made returns: in order, each once; which errors are missed. Plain Lean, no program in sight.
-/
import Derived.Test.YtedpadjlkddgjaaDoorMade
namespace Go.Proofs.YtedpadjlkddgjaaDoor
open Go.RowKit Go.PlainAid
/-- whether an error stands in a list -/
def inL (l : List (Nat × Int)) (i : Nat) (x : Int) : Bool := l.any fun p => p.1 == i && p.2 == x
theorem inL_append (a b : List (Nat × Int)) (i : Nat) (x : Int) : inL (a ++ b) i x = (inL a i x || inL b i x) := by unfold inL; simp
theorem inL_mrow (s : ByteArray) (j i : Nat) (x : Nat) (n : Nat) : inL (mrow s j n) i x = (decide (i = j) && decide (x < n) && hit s j x) := by
  induction n with
  | zero => simp [mrow, inL]
  | succ n ih =>
    rw [mrow, inL_append, ih]
    by_cases hij : i = j
    · subst hij
      by_cases hx : x = n
      · subst hx
        cases hh : hit s i x <;> simp [inL, hh]
      · have hx2 : (n : Int) ≠ (x : Int) := by omega
        have hlt : (x < n + 1) ↔ (x < n) := by omega
        cases hh : hit s i n <;> simp [inL, hh, hlt, hx2]
    · have hji : j ≠ i := fun e => hij e.symm
      cases hh : hit s j n <;> simp [inL, hh, hij, hji]
theorem inL_mall (s : ByteArray) (i x m : Nat) (hx : x < 256) : inL (mall s m) i x = (decide (i < m) && hit s i x) := by
  induction m with
  | zero => simp [mall, inL]
  | succ m ih =>
    rw [mall, inL_append, ih, inL_mrow]
    by_cases h : i = m
    · subst h; simp [hx]
    · have : (i < m + 1) ↔ (i < m) := by omega
      simp [h, this]
/-- one error stands before another -/
def before_ (p q : Nat × Int) : Prop := p.1 < q.1 ∨ (p.1 = q.1 ∧ p.2 < q.2)
theorem mrow_mem {s : ByteArray} {j n : Nat} {p : Nat × Int} (h : p ∈ mrow s j n) : p.1 = j ∧ p.2 < n := by
  induction n with
  | zero => simp [mrow] at h
  | succ n ih =>
    rw [mrow, List.mem_append] at h
    rcases h with h | h
    · have := ih h; omega
    · split at h
      · simp at h; subst h; simp; omega
      · simp at h
theorem mrow_sorted (s : ByteArray) (j n : Nat) : (mrow s j n).Pairwise before_ := by
  induction n with
  | zero => simp [mrow]
  | succ n ih =>
    rw [mrow, List.pairwise_append]
    refine ⟨ih, by split <;> simp, fun a ha b hb => ?_⟩
    have h1 := mrow_mem ha
    split at hb
    · simp at hb; subst hb; exact .inr h1
    · simp at hb
theorem mall_mem {s : ByteArray} {m : Nat} {p : Nat × Int} (h : p ∈ mall s m) : p.1 < m := by
  induction m with
  | zero => simp [mall] at h
  | succ m ih =>
    rw [mall, List.mem_append] at h
    rcases h with h | h
    · have := ih h; omega
    · have := mrow_mem h; omega
theorem mall_sorted (s : ByteArray) (m : Nat) : (mall s m).Pairwise before_ := by
  induction m with
  | zero => simp [mall]
  | succ m ih =>
    rw [mall, List.pairwise_append]
    refine ⟨ih, mrow_sorted s m 256, fun a ha b hb => .inl ?_⟩
    have h1 := mall_mem ha
    have h2 := mrow_mem hb
    omega
theorem sorted_next {l : List (Nat × Int)} (h : l.Pairwise before_) {k : Nat} (hk : k + 1 < l.length) : before_ (l[k]'(by omega)) (l[k + 1]'hk) :=
  List.pairwise_iff_getElem.1 h k (k + 1) (by omega) hk (by omega)
/-- a payload with another byte -/
theorem setP_formed {n : Int} (h : 0 ≤ n) {i : Nat} (hi : i < 10) {x : Int} (h0 : 0 ≤ x) (h1 : x ≤ 255) (hm : mayI i x = true) : formedB (setB (mdP n) i x) = true := formed_of fun k hk => by
  rw [setB_size (by rw [mdP_size]; exact hi), mdP_size] at hk
  rw [bt_setB (by rw [mdP_size]; exact hi) h0 h1]
  by_cases e : k = i
  · rw [if_pos e, e]; exact hm
  · rw [if_neg e, bt_mdP h hk]; exact mdB_may h hk
theorem setP_size {n : Int} {i : Nat} (hi : i < 10) (x : Int) : (setB (mdP n) i x).size = 10 := by rw [setB_size (by rw [mdP_size]; exact hi), mdP_size]
theorem mdS_tail (n : Int) : (mdS n).extract 10 (mdS n).size = strOf [mdD n] := by
  have hD := digI_bd (mdP n) 10
  have z : ((mdS n).extract 10 (mdS n).size).size = 1 := by rw [ByteArray.size_extract, mdS_size]; rfl
  apply btl_ext
  · rw [z, strOf_size]; rfl
  · intro k hk
    rw [z] at hk
    obtain rfl : k = 0 := by omega
    rw [bt_extract _ _ _ (by rw [mdS_size]; omega), bt_mdS10, bt_strOf _ (by intro x hx; simp at hx; unfold mdD at hx; omega)]
    rfl
theorem setS_eq {n : Int} {i : Nat} (hi : i < 10) {x : Int} (h0 : 0 ≤ x) (h1 : x ≤ 255) : setB (mdS n) i x = setB (mdP n) i x ++ strOf [mdD n] := by
  have hD := digI_bd (mdP n) 10
  have z1 : (setB (mdS n) i x).size = 11 := by rw [setB_size (by rw [mdS_size]; omega), mdS_size]
  have z2 := setP_size (n := n) hi x
  apply btl_ext
  · rw [z1, ByteArray.size_append, z2, strOf_size]; rfl
  · intro k hk
    rw [z1] at hk
    rw [bt_setB (by rw [mdS_size]; omega) h0 h1]
    by_cases h10 : k < 10
    · rw [bt_append_left _ _ (by omega), bt_setB (by rw [mdP_size]; exact hi) h0 h1, bt_mdS h10]
    · obtain rfl : k = 10 := by omega
      rw [if_neg (by omega), bt_mdS10, bt_append_right _ _ (by omega), z2, Nat.sub_self, bt_strOf _ (by intro x hx; simp at hx; unfold mdD at hx; omega)]
      rfl
theorem setS_last {n : Int} {x : Int} (h0 : 0 ≤ x) (h1 : x ≤ 255) : setB (mdS n) 10 x = mdP n ++ strOf [x] := by
  have z1 : (setB (mdS n) 10 x).size = 11 := by rw [setB_size (by rw [mdS_size]; omega), mdS_size]
  apply btl_ext
  · rw [z1, ByteArray.size_append, mdP_size, strOf_size]; rfl
  · intro k hk
    rw [z1] at hk
    rw [bt_setB (by rw [mdS_size]; omega) h0 h1]
    by_cases h10 : k < 10
    · rw [if_neg (by omega), bt_append_left _ _ (by rw [mdP_size]; exact h10), bt_mdS h10]
    · obtain rfl : k = 10 := by omega
      rw [if_pos rfl, bt_append_right _ _ (by rw [mdP_size]; omega), mdP_size, Nat.sub_self, bt_strOf _ (by intro y hy; simp at hy; omega)]
      rfl
/-- the sum with another byte -/
theorem dsum_set {s : ByteArray} {i : Nat} {x : Int} (hi : i < s.size) (h0 : 0 ≤ x) (h1 : x ≤ 255) (m : Nat) : dsum (setB s i x) m = dsum s m + (if i < m then (vI x - vI (bt s i)) * 2 ^ i else 0) := by
  induction m with
  | zero => simp [dsum]
  | succ m ih =>
    rw [dsum, dsum, ih, bt_setB hi h0 h1]
    rcases Nat.lt_trichotomy i m with h | rfl | h
    · have e1 : ¬ m = i := by omega
      have e2 : i < m + 1 := by omega
      simp only [if_neg e1, if_pos h, if_pos e2]; omega
    · have e1 : ¬ i < i := by omega
      have e2 : i < i + 1 := by omega
      simp only [if_neg e1, if_pos e2, if_true, Int.sub_mul]; omega
    · have e1 : ¬ m = i := by omega
      have e2 : ¬ i < m := by omega
      have e3 : ¬ i < m + 1 := by omega
      simp only [if_neg e1, if_neg e2, if_neg e3]; omega
theorem vI_digit {b : Int} (h0 : 48 ≤ b) (h1 : b ≤ 57) : vI b = b - 48 := by
  unfold vI isDig
  rw [if_pos (by simp; omega)]
/-- another digit has another remainder -/
theorem digit_differs {s : ByteArray} {i : Nat} {x : Int} (hi : i < 10) (h3 : 3 < i) (hs : i < s.size) (h0 : 48 ≤ x) (h1 : x ≤ 57) (y0 : 48 ≤ bt s i) (y1 : bt s i ≤ 57) (hne : x ≠ bt s i) : dsum (setB s i x) 10 % 11 ≠ dsum s 10 % 11 := by
  rw [dsum_set hs (by omega) (by omega), if_pos hi, vI_digit h0 h1, vI_digit y0 y1]
  have hc : i = 4 ∨ i = 5 ∨ i = 6 ∨ i = 7 ∨ i = 8 ∨ i = 9 := by omega
  generalize bt s i = y at *
  generalize dsum s 10 = d
  rcases hc with rfl | rfl | rfl | rfl | rfl | rfl
  · rw [show (2 : Int) ^ 4 = 16 from by decide]; omega
  · rw [show (2 : Int) ^ 5 = 32 from by decide]; omega
  · rw [show (2 : Int) ^ 6 = 64 from by decide]; omega
  · rw [show (2 : Int) ^ 7 = 128 from by decide]; omega
  · rw [show (2 : Int) ^ 8 = 256 from by decide]; omega
  · rw [show (2 : Int) ^ 9 = 512 from by decide]; omega
end Go.Proofs.YtedpadjlkddgjaaDoor
