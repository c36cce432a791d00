/-
  Trimmed data: what the law's loops find. No program in sight.
-/
import Derived.Test.YtdohcglpcgahaaaGreatDoorSF
set_option linter.unusedSimpArgs false
set_option linter.unusedVariables false
namespace Go.Proofs.YtdohcglpcgahaaaGreatDoor
open Go Sat Go.RowKit Go.PlainAid
theorem cutN_spec (e : Elem) : ∀ m, (∀ j, cutN e m ≤ j → j < m → e[j]? = some emp) ∧ (cutN e m ≤ 1 ∨ e[cutN e m - 1]? ≠ some emp)
  | 0 => ⟨fun j _ h => by omega, .inl (by simp [cutN])⟩
  | 1 => ⟨fun j h1 h => by simp [cutN] at h1; omega, .inl (by simp [cutN])⟩
  | m + 2 => by
    unfold cutN
    split
    · rename_i h
      obtain ⟨h1, h2⟩ := cutN_spec e (m + 1)
      refine ⟨fun j hj hm => ?_, h2⟩
      rcases Nat.lt_or_ge j (m + 1) with h3 | h3
      · exact h1 j hj h3
      · rw [show j = m + 1 by omega]
        exact h
    · rename_i h
      exact ⟨fun j hj hm => by omega, .inr h⟩
theorem cutM_spec (l : Dat) : ∀ m, (∀ j, cutM l m ≤ j → j < m → l[j]? = some [emp]) ∧ (cutM l m = 0 ∨ l[cutM l m - 1]? ≠ some [emp])
  | 0 => ⟨fun j _ h => by omega, .inl rfl⟩
  | m + 1 => by
    unfold cutM
    split
    · rename_i h
      obtain ⟨h1, h2⟩ := cutM_spec l m
      refine ⟨fun j hj hm => ?_, h2⟩
      rcases Nat.lt_or_ge j m with h3 | h3
      · exact h1 j hj h3
      · rw [show j = m by omega]
        exact h
    · rename_i h
      exact ⟨fun j hj hm => by omega, .inr h⟩
theorem trimE_ne (e : Elem) : trimE e ≠ [] := by
  unfold trimE
  split
  · simp
  · rename_i h
    have h1 : 0 < e.length := List.length_pos_iff.2 h
    have h2 := cutN_pos e e.length h1
    intro h3
    have := congrArg List.length h3
    rw [List.length_take, List.length_nil] at this
    omega
theorem trimE_at (e : Elem) (k : Nat) : ((trimE e)[k]?).getD emp = (e[k]?).getD emp := by
  unfold trimE
  split
  · rename_i h
    subst h
    cases k with
    | zero => rfl
    | succ k => rfl
  · rw [List.getElem?_take]
    split
    · rfl
    · rename_i h
      rcases Nat.lt_or_ge k e.length with h1 | h1
      · rw [(cutN_spec e e.length).1 k (by omega) h1]
        rfl
      · rw [List.getElem?_eq_none h1]
/-- the fields of trimmed data are those of the data -/
theorem fieldS_trim (d : Dat) (i k : Int) : fieldS (trimS d) i k = fieldS d i k := by
  unfold fieldS
  split
  · unfold trimS
    have hlen : (d.map trimE).length = d.length := List.length_map ..
    rw [List.getElem?_take]
    split
    · rw [List.getElem?_map]
      cases h : d[i.toNat]? with
      | none => rfl
      | some e => exact trimE_at e k.toNat
    · rename_i h
      rcases Nat.lt_or_ge i.toNat d.length with h1 | h1
      · have h2 := (cutM_spec (d.map trimE) d.length).1 i.toNat (by omega) h1
        rw [List.getElem?_map] at h2
        cases h3 : d[i.toNat]? with
        | none => rfl
        | some e =>
          rw [h3] at h2
          have h4 : trimE e = [emp] := Option.some.inj h2
          have h5 := trimE_at e k.toNat
          rw [h4] at h5
          show emp = (e[k.toNat]?).getD emp
          rw [← h5]
          cases k.toNat with
          | zero => rfl
          | succ n => rfl
      · rw [List.getElem?_eq_none h1]
  · rfl
end Go.Proofs.YtdohcglpcgahaaaGreatDoor
