/-
  strings.ContainsFunc at 'no capital letter': what it comes to, of a string's bytes. No program in sight.
-/
import Derived.Shelf.GgClosure.StringsIndexFunc
import Derived.RowKit3
import Derived.PlainAid
set_option linter.unusedSimpArgs false
set_option linter.unusedVariables false
namespace Go.Proofs.YtbpklalkoocneaaDoor
open Go.RowKit Go.PlainAid
theorem bt_get (s : ByteArray) {k : Nat} (h : k < s.size) : bt s k = ((s.get! k).toNat : Int) := by
  unfold bt
  rw [dif_pos h]
  have : s.get! k = s[k]'h := by
    show s.data[k]! = s.data[k]'h
    exact getElem!_pos s.data k h
  rw [this]
theorem dec_low (s : ByteArray) (i : Nat) (h : (s.get! i).toNat < 128) : Utf8.decode s i = ((s.get! i).toNat, 1) := by
  unfold Utf8.decode
  simp only [Nat.add_zero]
  rw [if_pos h]
theorem dec_high (s : ByteArray) (i : Nat) (h : ¬ (s.get! i).toNat < 128) : 128 ≤ (Utf8.decode s i).1 := by
  unfold Utf8.decode
  simp only [Nat.add_zero]
  rw [if_neg h]
  have e : 128 ≤ Utf8.runeError := by decide
  split
  · split
    · rename_i h1; exact h1
    · exact e
  · split
    · split
      · rename_i h1; simp at h1; show 128 ≤ _; omega
      · exact e
    · split
      · split
        · rename_i h1; simp at h1; show 128 ≤ _; omega
        · exact e
      · exact e
def noCap (r : Nat) : Bool := decide (r < 65) || decide (90 < r)
theorem capsFrom (s : ByteArray) : ∀ (f pos : Nat), s.size ≤ pos + f → ((0 ≤ Lib.idxFuncFrom noCap true s f pos) ↔ ∃ i, pos ≤ i ∧ i < s.size ∧ ¬ (65 ≤ bt s i ∧ bt s i ≤ 90)) := by
  intro f
  induction f with
  | zero =>
    intro pos h
    refine ⟨fun h1 => by simp [Lib.idxFuncFrom] at h1, fun ⟨i, h1, h2, _⟩ => by omega⟩
  | succ f ih =>
    intro pos h
    unfold Lib.idxFuncFrom
    by_cases hp : pos < s.size
    · rw [if_pos hp]
      have hb := bt_get s hp
      by_cases hl : (s.get! pos).toNat < 128
      · rw [dec_low s pos hl]
        dsimp only
        by_cases hn : noCap (s.get! pos).toNat = true
        · rw [if_pos hn]
          refine ⟨fun _ => ⟨pos, Nat.le_refl _, hp, ?_⟩, fun _ => by omega⟩
          unfold noCap at hn
          simp at hn
          omega
        · rw [if_neg hn, ih (pos + 1) (by omega)]
          unfold noCap at hn
          simp at hn
          refine ⟨fun ⟨i, h1, h2, h3⟩ => ⟨i, by omega, h2, h3⟩, fun ⟨i, h1, h2, h3⟩ => ⟨i, ?_, h2, h3⟩⟩
          rcases Nat.lt_or_ge pos i with h4 | h4
          · exact h4
          · obtain rfl : i = pos := by omega
            omega
      · have hd := dec_high s pos hl
        have hn : noCap (Utf8.decode s pos).1 = true := by unfold noCap; simp; omega
        rw [if_pos hn]
        refine ⟨fun _ => ⟨pos, Nat.le_refl _, hp, ?_⟩, fun _ => by omega⟩
        omega
    · rw [if_neg hp]
      refine ⟨fun h1 => by omega, fun ⟨i, h1, h2, _⟩ => by omega⟩
theorem caps_iff (s : ByteArray) : (0 ≤ Lib.idxFunc noCap true s) ↔ ∃ i, i < s.size ∧ ¬ (65 ≤ bt s i ∧ bt s i ≤ 90) := by
  unfold Lib.idxFunc
  rw [capsFrom s s.size 0 (by omega)]
  exact ⟨fun ⟨i, _, h2, h3⟩ => ⟨i, h2, h3⟩, fun ⟨i, h2, h3⟩ => ⟨i, by omega, h2, h3⟩⟩
end Go.Proofs.YtbpklalkoocneaaDoor
