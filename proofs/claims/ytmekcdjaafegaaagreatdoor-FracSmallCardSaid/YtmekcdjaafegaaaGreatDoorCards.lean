/-
  DERIVED. GIVEN WITH THE SEED: THE CARDS: each row of YtmekcdjaafegaaaGreatDoorRows.lean that lists a variable, with what it lists TIED to the program's text (the seventh form; the later family's looks); each row that meets fmt, with fmt's text TOLD by the authors' own Lean function (tested against real Go, not proved from fmt's source: count such statements apart). THE CARD IS WHAT COUNTS. Prove the row's statement (the work); the ties are given (YtmekcdjaafegaaaGreatDoorTie.lean); close each card by the builder's one call (the guide's Derived/Test/ToyasCard.lean, 'card_holds'). Laid BY PROGRAM, IN A SANDBOX (cutbox-door.mjs). By AI agents, Wed Nov 11 2026. No macro, syntax, notation, axiom, sorry.
-/
import Derived.Test.YtmekcdjaafegaaaGreatDoorRows
import GoSem.ClaimSeven
namespace Go.Proofs.YtmekcdjaafegaaaGreatDoor
namespace Rows

/-- THE TIED CARD OF 'twistlocklaw01.FracReads'. -/
def fracReadsCard : Claim7 := { stood := { row := fracReadsRow, standIns := [], harness := (true, "c2e5e1d9bdb540da353c0b3d2f7d12c444a114fe55eff514fc1ec62ffad653dd"), looks := false }, kinds := [], alts := [], laidByText := true, laidKinds := [.data, .pinned], laidTests := true, laidLooks := .later }
def FracReadsCardSaid : Prop := Claim7.holds Tryz.pinned (.plain (OpenSpec.ofChange fracReadsSpec)) fracReadsCard

/-- THE TIED CARD OF 'twistlocklaw01.FracSmall'. -/
def fracSmallCard : Claim7 := { stood := { row := fracSmallRow, standIns := [], harness := (true, "c2e5e1d9bdb540da353c0b3d2f7d12c444a114fe55eff514fc1ec62ffad653dd"), looks := false }, kinds := [], alts := [], laidByText := true, laidKinds := [.data, .pinned], laidTests := true, laidLooks := .later }
def FracSmallCardSaid : Prop := Claim7.holds Tryz.pinned (.plain (OpenSpec.ofChange fracSmallSpec)) fracSmallCard

/-- THE SECOND FORM's CARD OF 'twistlocklaw01.FracReads'. -/
def fracReadsUptoCard : Claim7 := { stood := { row := fracReadsUptoRow, standIns := [], harness := (true, "c2e5e1d9bdb540da353c0b3d2f7d12c444a114fe55eff514fc1ec62ffad653dd"), looks := false }, kinds := [], alts := [], laidByText := true, laidKinds := [.data, .pinned], laidTests := true, laidLooks := .later }
def FracReadsUptoCardSaid : Prop := Claim7.holds Tryz.pinned (.plain (OpenSpec.upto fracReadsSpec)) fracReadsUptoCard

/-- THE SECOND FORM's CARD OF 'twistlocklaw01.FracSmall'. -/
def fracSmallUptoCard : Claim7 := { stood := { row := fracSmallUptoRow, standIns := [], harness := (true, "c2e5e1d9bdb540da353c0b3d2f7d12c444a114fe55eff514fc1ec62ffad653dd"), looks := false }, kinds := [], alts := [], laidByText := true, laidKinds := [.data, .pinned], laidTests := true, laidLooks := .later }
def FracSmallUptoCardSaid : Prop := Claim7.holds Tryz.pinned (.plain (OpenSpec.upto fracSmallSpec)) fracSmallUptoCard
end Rows
end Go.Proofs.YtmekcdjaafegaaaGreatDoor
