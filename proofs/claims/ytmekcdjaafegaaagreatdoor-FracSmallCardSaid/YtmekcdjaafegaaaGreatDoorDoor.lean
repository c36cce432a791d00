/-
  What the condition on the listed variables gives the walks; a world that meets it.
-/
import Derived.Test.YtmekcdjaafegaaaGreatDoorCards
import Derived.Test.YtmekcdjaafegaaaGreatDoorTie
import Derived.Test.YtmekcdjaafegaaaGreatDoorRow
import Derived.Test.YtmekcdjaafegaaaGreatDoorFW
import Derived.Test.YtmekcdjaafegaaaGreatDoorShelf
import Derived.ProofKit
import Derived.OpenShut
import Derived.LaidMore
import Derived.PinnedBridge
import Derived.Deep.DeepHandedRow
import Derived.Deep.DeepWitnessRowRef
import Derived.Lib.LaidTab
import Derived.SizedLaws
set_option linter.unusedSimpArgs false
set_option linter.unusedVariables false
namespace Go.Proofs.YtmekcdjaafegaaaGreatDoor
open Go.ChangeShapes Go.WideShapes Go.ChangeAt Go.WideMaps Go.WideElems Go.RowKit
theorem own : ownKnob Tryz.prog.godebug = none := by kernel_rfl
theorem laidOut : laidOutB Tryz.prog = true := by kernel_rfl
noncomputable def laidWorld (os : Os) : World :=
  { World.doorLaid Tryz.prog 80 os with heap := (World.doorLaid Tryz.prog 80 os).heap.modify 1 fun
      | .cells _ t frozen => .cells (Pinned.utf8FirstZ.map fun n : Nat => Value.int .u8 (n : Int)).toArray t frozen
      | o => o }
theorem laid_met (os : Os) (args : Array Value) : laidMet Tryz.prog Rows.fracReadsRow.laid ((laidWorld os).forCall (fun _ _ => 0) ⟨#[], args, []⟩).memory :=
  laidMet_of_run' 8 (by kernel_rfl) (by kernel_rfl)
theorem door_vars (os : Os) (args : Array Value) : ((laidWorld os).forCall (fun _ _ => 0) ⟨#[], args, []⟩).variablesRefB Tryz.prog = true := by kernel_rfl
theorem door_rest (os : Os) (args : Array Value) : (((laidWorld os).forCall (fun _ _ => 0) ⟨#[], args, []⟩).heap.toList.drop Tryz.prog.globals.size).take ((begin Tryz.prog (fun _ _ => 0) default).world.heap.size - Tryz.prog.globals.size) =
      (begin Tryz.prog (fun _ _ => 0) default).world.heap.toList.drop Tryz.prog.globals.size := by kernel_rfl
theorem wf_of {W : World} {l : List (String × DataW Unit)} (_ : laidMetH Tryz.prog l W) (hs : W.ShapedOpen Tryz.prog) : Wf W := ⟨Tryz.laysM145.s1_3 W hs⟩
section
variable {H : Type} {enc : TypeId × Value → H} {P : Program} {w : World} {base : Nat} {spare : Nat → Bool} {held : Bool}
/-- a slice that was read: its datum has its length -/
theorem datum_len {t e : TypeId} {A : Option Addr} {n cap : Nat} {d : DataW H} {p : List MemPlace} (ht : P.underlying t = some (.slice e)) (h : DataW.Trod enc P w base spare held t (.slice A n cap) d p) :
    n = 0 ∨ ∃ elems rest, d = .slice elems rest ∧ elems.length = n := by
  obtain ⟨fuel, hf⟩ := h
  simp only [Value.cells] at hf
  rcases DataW.trod_slice ht hf with ⟨h0, _⟩ | ⟨a', len', cap', elems, rest, m, _, hcs, hx, _, _, _, hlen, _, _, _⟩
  · simp at h0
    exact .inl h0.2.1
  · simp at hcs
    obtain ⟨_, rfl, _⟩ := hcs
    simp only [Prod.mk.injEq] at hx
    exact .inr ⟨_, _, hx.1, by rw [List.length_map]; exact hlen⟩
theorem weigh {ts : List TypeId} {ds : List (DataW H)} {j : Nat} {t e : TypeId} {A : Option Addr} {n cap b : Nat} {d : DataW H} {p : List MemPlace} (hw : (DataW.weightsEach P ts ds).all (· ≤ reachBytes) = true) (ht : P.underlying t = some (.slice e))
    (h : DataW.Trod enc P w base spare held t (.slice A n cap) d p) (hts : ts[j]? = some t) (hds : ds[j]? = some d) (hb : P.bytesOf e = b) : n * b ≤ 140737488351232 := by
  rcases datum_len ht h with h0 | ⟨elems, rest, rfl, hl⟩
  · rw [h0]; omega
  · have h1 := sized_slice hw hts hds ht
    rw [hb, hl] at h1
    have h2 : n * b ≤ (n + rest.length) * b := Nat.mul_le_mul_right _ (by omega)
    exact Nat.le_trans h2 h1
theorem bulk_le {d : DataW H} {l : List (DataW H)} (h : d ∈ l) : Rows.uptoBulk d ≤ Rows.uptoBulkAll l := by
  induction l with
  | nil => cases h
  | cons x r ih =>
    simp only [Rows.uptoBulkAll]
    cases List.mem_cons.1 h with
    | inl e => subst e; omega
    | inr e => have := ih e; omega
theorem bulk_string {bytes : List UInt8} {l : List (DataW H)} (hk : Rows.uptoSmall H l = true) (h : (DataW.lit (.string bytes)) ∈ l) : bytes.length ≤ 1048576 := by
  have h1 := bulk_le h
  have h2 : Rows.uptoBulkAll l ≤ 1048576 := of_decide_eq_true hk
  simp only [Rows.uptoBulk] at h1
  omega
end
end Go.Proofs.YtmekcdjaafegaaaGreatDoor
