/-
  The region that lays the examples' map: its end; the texts of its call.
-/
import Derived.Test.YtmekcdjaafegaaaGreatDoorAWR
namespace Go.Proofs.YtmekcdjaafegaaaGreatDoor
open Go Sat Go.RowKit Go.PlainAid
set_option linter.unusedSimpArgs false
set_option linter.unusedVariables false
theorem rep_eq : (⟨(Lib.repeatL (⟨#[48]⟩ : ByteArray).data.toList 78).toArray⟩ : ByteArray) = repT := by kernel_rfl
theorem long_eq : (⟨#[49]⟩ : ByteArray) ++ repT = longT := by kernel_rfl
theorem getD_ff {l : Array Bool} {i : Nat} (hi : i < l.size) (h : l.getD i true = true) : l.getD i false = true := by
  obtain ⟨l⟩ := l
  have hi' : i < l.length := hi
  simpa [Array.getD, hi'] using h
/-- where nothing is ready all has come -/
theorem all_listed {ops : Array Oper} {listed : Array Bool} (hs : listed.size = ops.size) (hr : Region.ready .any ops listed = [])
    (hb : (List.range ops.size).all (fun j => ((ops[j]?).map fun o => o.after.all fun e => decide (e.on < j)).getD true) = true) : ∀ j, j < ops.size → listed.getD j true = true := by
  intro j
  induction j using Nat.strongRecOn with
  | _ j ih =>
    intro hj
    rw [← Bool.not_eq_false]
    intro hn
    have h1 := List.all_eq_true.1 hb j (List.mem_range.2 hj)
    have ho : ops[j]? = some ops[j] := Array.getElem?_eq_getElem hj
    rw [ho, Option.map_some, Option.getD_some, Array.all_eq_true_iff_forall_mem] at h1
    have hm : j ∈ Region.ready .any ops listed := mem_ready.2 ⟨hn, ops[j], ho, fun e he _ => by
      have h2 := of_decide_eq_true (h1 e he)
      exact getD_ff (by omega) (ih e.on h2 (by omega))⟩
    rw [hr] at hm
    cases hm
end Go.Proofs.YtmekcdjaafegaaaGreatDoor
