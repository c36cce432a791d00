/-
  What Read of package lex makes of a text: its bounds. No program in sight.
-/
import Derived.Test.YtdohcglpcgahaaaGreatDoorRX
set_option linter.unusedSimpArgs false
set_option linter.unusedVariables false
namespace Go.Proofs.YtdohcglpcgahaaaGreatDoor
open Go Sat Go.RowKit Go.PlainAid
/-- the reader's state is in order -/
structure RdAll (r : Rd) : Prop where
  ok : RdOk r
  mode : r.mode ≤ 2
  pc0 : r.mode = 0 → r.pc = []
  out : r.mode ≠ 0 → r.out.length < 5000
theorem rd0_all : RdAll rd0 := ⟨⟨by decide, by decide, by decide, by decide⟩, by decide, fun _ => rfl, fun h => absurd rfl h⟩
theorem keepE_all {r r' : Rd} {at' c : Int} (h : RdAll r) (hm : r.mode ≠ 0) (hs : keepE r at' c = .ok r') : RdAll r' := by
  unfold keepE at hs
  split at hs
  · cases hs
  · rename_i hp
    cases hs
    obtain ⟨⟨h1, h2, h3, h4⟩, h5, h6, h7⟩ := h
    exact ⟨⟨h1, h2, h3, by show (r.pc ++ [chr c]).length ≤ 100; simp; omega⟩, by show 1 ≤ 2; decide, fun h => absurd h (by decide : (1 : Nat) ≠ 0), fun _ => h7 hm⟩
theorem insE_all {r r' : Rd} {i c : Int} (h : RdAll r) (hm : r.mode = 1) (hs : insE r i c = .ok r') : RdAll r' := by
  have h0 := h
  obtain ⟨⟨h1, h2, h3, h4⟩, h5, h6, h7⟩ := h
  have h8 := h7 (by omega)
  unfold insE at hs
  split at hs
  · cases hs
    exact ⟨⟨by show (r.out ++ [_]).length ≤ 5000; simp; omega, Nat.zero_le _, Nat.zero_le _, Nat.zero_le _⟩, by show 0 ≤ 2; decide, fun _ => rfl, fun h => absurd rfl h⟩
  split at hs
  · cases hs
  rename_i hA
  split at hs
  · cases hs
  rename_i hB
  split at hs
  · rename_i hc
    cases hs
    have : r.seg.length ≠ 29 := fun e => hA ⟨hc, e⟩
    exact ⟨⟨h1, by show (r.seg ++ [_]).length ≤ 29; simp; omega, Nat.zero_le _, Nat.zero_le _⟩, by show 1 ≤ 2; decide, fun h => absurd h (by decide : (1 : Nat) ≠ 0), fun _ => h8⟩
  split at hs
  · rename_i hc
    cases hs
    have : r.el.length ≠ 9 := fun e => hB ⟨hc, e⟩
    exact ⟨⟨h1, h2, by show (r.el ++ [_]).length ≤ 9; simp; omega, Nat.zero_le _⟩, by show 1 ≤ 2; decide, fun h => absurd h (by decide : (1 : Nat) ≠ 0), fun _ => h8⟩
  split at hs
  · cases hs
  split at hs
  · cases hs
    exact ⟨⟨h1, h2, h3, h4⟩, by show 2 ≤ 2; decide, fun h => absurd h (by decide : (2 : Nat) ≠ 0), fun _ => h8⟩
  · exact keepE_all h0 (by omega) hs
theorem stepE_all {r r' : Rd} {i c : Int} (h : RdAll r) (hs : stepE r i c = .ok r') : RdAll r' := by
  unfold stepE at hs
  split at hs
  · rename_i h0
    unfold btwE at hs
    split at hs
    · cases hs; exact h
    split at hs
    · cases hs
    · rename_i hn
      have h1 := h.ok.out
      exact insE_all (r := { r with seg := [], el := [], pc := [], mode := 1 }) ⟨⟨h1, Nat.zero_le _, Nat.zero_le _, Nat.zero_le _⟩, by show 1 ≤ 2; decide, fun h => absurd h (by decide : (1 : Nat) ≠ 0), fun _ => by show r.out.length < 5000; omega⟩ rfl hs
  split at hs
  · exact insE_all h (by assumption) hs
  · unfold relE at hs
    split at hs
    · cases hs
    · exact keepE_all h (by assumption) hs
theorem insE_high {r : Rd} {i c : Int} (h : 127 ≤ c) : insE r i c = .error (i, 40) := by
  unfold insE
  rw [if_neg (by omega), if_neg (by omega), if_neg (by omega), if_neg (by omega), if_neg (by omega), if_pos (by omega)]
/-- bytes that are no signs are all one -/
theorem stepE_high (r : Rd) (i : Int) {c c' : Int} (h : 127 ≤ c) (h' : 127 ≤ c') : stepE r i c = stepE r i c' := by
  unfold stepE btwE relE
  rw [insE_high h, insE_high h', insE_high h, insE_high h']
  have h1 : ¬ svc c := fun h => by unfold svc at h; omega
  have h2 : ¬ svc c' := fun h => by unfold svc at h; omega
  rw [if_neg (by omega : ¬ (c = 10 ∨ c = 13 ∨ c = 32)), if_neg (by omega : ¬ (c' = 10 ∨ c' = 13 ∨ c' = 32)), if_pos (⟨by omega, h1⟩ : c ≠ 32 ∧ ¬ svc c), if_pos (⟨by omega, h2⟩ : c' ≠ 32 ∧ ¬ svc c')]
theorem stepE_high_no {r r' : Rd} {i c : Int} (h : 127 ≤ c) : stepE r i c ≠ .ok r' := by
  intro hs
  unfold stepE btwE relE at hs
  rw [insE_high h, insE_high h] at hs
  have h1 : ¬ svc c := fun h => by unfold svc at h; omega
  rw [if_neg (by omega : ¬ (c = 10 ∨ c = 13 ∨ c = 32)), if_pos (⟨by omega, h1⟩ : c ≠ 32 ∧ ¬ svc c)] at hs
  repeat' split at hs
  all_goals cases hs
theorem insE_code {r : Rd} {i c : Int} {e : Int × Int} (h : insE r i c = .error e) : e.2 ≠ 0 := by
  unfold insE keepE at h
  repeat' split at h
  all_goals first | (cases h; done) | (cases h; simp)
theorem stepE_code {r : Rd} {i c : Int} {e : Int × Int} (h : stepE r i c = .error e) : e.2 ≠ 0 := by
  unfold stepE at h
  split at h
  · unfold btwE at h
    split at h
    · cases h
    split at h
    · cases h
      show (5 : Int) ≠ 0
      decide
    · exact insE_code h
  split at h
  · exact insE_code h
  · unfold relE keepE at h
    repeat' split at h
    all_goals first | (cases h; done) | (cases h; simp)
end Go.Proofs.YtdohcglpcgahaaaGreatDoor
