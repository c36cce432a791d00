/-
  The missed errors as a list: plain Lean, no program in sight.
-/
import Derived.Test.YtedpadjlkddgjaaDoorPlain
import Derived.Test.YtedpadjlkddgjaaDoorWords
namespace Go.Proofs.YtedpadjlkddgjaaDoor
open Go.RowKit Go.PlainAid
/-- a string with another byte at a place -/
def setB (s : ByteArray) (i : Nat) (b : Int) : ByteArray := s.extract 0 i ++ strOf [b] ++ s.extract (i + 1) s.size
def hit (s : ByteArray) (i : Nat) (b : Int) : Bool := decide (b ≠ bt s i) && mayI i b && (chk (setB s i b) == 0)
def mrow (s : ByteArray) (i : Nat) : Nat → List (Nat × Int)
  | 0 => []
  | n + 1 => mrow s i n ++ (if hit s i n then [(i, (n : Int))] else [])
def mall (s : ByteArray) : Nat → List (Nat × Int)
  | 0 => []
  | i + 1 => mall s i ++ mrow s i 256
def cells2 (l : List (Nat × Int)) : List Value := l.flatMap fun p => [.int .i64 p.1, .int .u8 p.2]
theorem cells2_append (a b : List (Nat × Int)) : cells2 (a ++ b) = cells2 a ++ cells2 b := by unfold cells2; simp
theorem setB_size {s : ByteArray} {i : Nat} {b : Int} (h : i < s.size) : (setB s i b).size = s.size := by
  unfold setB
  simp only [ByteArray.size_append, ByteArray.size_extract, strOf_size]
  simp
  omega
theorem bt_setB {s : ByteArray} {i : Nat} {b : Int} (h : i < s.size) (h0 : 0 ≤ b) (h1 : b ≤ 255) (k : Nat) : bt (setB s i b) k = if k = i then b else bt s k := by
  unfold setB
  have z0 : (s.extract 0 i).size = i := by rw [ByteArray.size_extract]; omega
  have z1 : (strOf [b]).size = 1 := by rw [strOf_size]; rfl
  have z2 : (s.extract 0 i ++ strOf [b]).size = i + 1 := by rw [ByteArray.size_append, z0, z1]
  have z3 : (s.extract (i + 1) s.size).size = s.size - (i + 1) := by rw [ByteArray.size_extract]; omega
  rcases Nat.lt_trichotomy k i with hk | rfl | hk
  · rw [if_neg (by omega), bt_append_left _ _ (by omega), bt_append_left _ _ (by omega), bt_extract _ _ _ (by omega), Nat.zero_add]
  · rw [if_pos rfl, bt_append_left _ _ (by omega), bt_append_right _ _ (by omega), z0, Nat.sub_self, bt_strOf _ (by intro x hx; simp at hx; omega)]
    rfl
  · rw [if_neg (by omega), bt_append_right _ _ (by omega), z2]
    by_cases hz : k < s.size
    · rw [bt_extract _ _ _ (by omega), show i + 1 + (k - (i + 1)) = k from by omega]
    · rw [bt_end _ (by omega), bt_end _ (by omega)]
theorem chk_formed {s : ByteArray} (h : chk s = 0) : s.size = 11 ∧ formedB s = true := by
  unfold chk at h
  split at h
  · rename_i h1; exact h1
  · omega
theorem formed_at {s : ByteArray} (h : formedB s = true) {k : Nat} (hk : k < s.size) : mayI k (bt s k) = true := by
  have := formedTo_le s (k := k + 1) hk h
  rw [formedTo_succ] at this
  simp at this
  exact this.2
/-- what is right may stand where it stands -/
theorem chk_may {s : ByteArray} {i : Nat} {b : Int} (h : i < s.size) (h0 : 0 ≤ b) (h1 : b ≤ 255) (hc : chk (setB s i b) = 0) : mayI i b = true := by
  have hf := formed_at (chk_formed hc).2 (k := i) (by rw [setB_size h]; exact h)
  rw [bt_setB h h0 h1, if_pos rfl] at hf
  exact hf
theorem may_range {i : Nat} {b : Int} (h : mayI i b = true) : 48 ≤ b ∧ b ≤ 90 := by
  unfold mayI isLet isGrp isDig at h
  split at h
  · simp at h; omega
  · split at h
    · simp at h; omega
    · split at h
      · simp at h; omega
      · simp at h
theorem hit_range {s : ByteArray} {i : Nat} {b : Int} (h : hit s i b = true) : 48 ≤ b ∧ b ≤ 90 := by
  unfold hit at h
  simp only [Bool.and_eq_true] at h
  exact may_range h.1.2
theorem mrow_low (s : ByteArray) (i : Nat) (n : Nat) (hn : n ≤ 48) : mrow s i n = [] := by
  induction n with
  | zero => rfl
  | succ n ih =>
    rw [mrow, ih (by omega), if_neg]; rfl
    intro h
    have := hit_range h
    omega
theorem mrow_high (s : ByteArray) (i : Nat) (n : Nat) : mrow s i (91 + n) = mrow s i 91 := by
  induction n with
  | zero => rfl
  | succ n ih =>
    rw [← Nat.add_assoc, mrow, ih, if_neg, List.append_nil]
    intro h
    have := hit_range h
    omega
theorem mrow_len (s : ByteArray) (i n : Nat) : (mrow s i n).length ≤ n := by
  induction n with
  | zero => simp [mrow]
  | succ n ih => rw [mrow, List.length_append]; split <;> simp <;> omega
theorem mall_len (s : ByteArray) (i : Nat) : (mall s i).length ≤ 256 * i := by
  induction i with
  | zero => simp [mall]
  | succ i ih => rw [mall, List.length_append]; have := mrow_len s i 256; omega
end Go.Proofs.YtedpadjlkddgjaaDoor
