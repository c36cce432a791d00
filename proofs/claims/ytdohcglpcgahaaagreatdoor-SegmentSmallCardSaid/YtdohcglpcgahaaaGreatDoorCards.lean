/-
  DERIVED. GIVEN WITH THE SEED: THE CARDS: each row of YtdohcglpcgahaaaGreatDoorRows.lean that lists a variable, with what it lists TIED to the program's text (the seventh form; the later family's looks); each row that meets fmt, with fmt's text TOLD by the authors' own Lean function (tested against real Go, not proved from fmt's source: count such statements apart). THE CARD IS WHAT COUNTS. Prove the row's statement (the work); the ties are given (YtdohcglpcgahaaaGreatDoorTie.lean); close each card by the builder's one call (the guide's Derived/Test/ToyasCard.lean, 'card_holds'). Laid BY PROGRAM, IN A SANDBOX (cutbox-door.mjs). By AI agents, Wed Nov 11 2026. No macro, syntax, notation, axiom, sorry.
-/
import Derived.Test.YtdohcglpcgahaaaGreatDoorRows
import GoSem.ClaimSeven
namespace Go.Proofs.YtdohcglpcgahaaaGreatDoor
namespace Rows

/-- THE TIED CARD OF 'twistlocklaw05.SegmentSmall'. -/
def segmentSmallCard : Claim7 := { stood := { row := segmentSmallRow, standIns := [], harness := (true, "fc52f832cd7ef58afed9170efce62a228f19b6ec3a4faf9b47a654544832b157"), looks := false }, kinds := [], alts := [], laidByText := true, laidKinds := [.data, .data, .data], laidTests := true, laidLooks := .later }
def SegmentSmallCardSaid : Prop := Claim7.holds Tryz.pinned (.plain (OpenSpec.ofChange segmentSmallSpec)) segmentSmallCard

/-- THE SECOND FORM's CARD OF 'twistlocklaw05.SegmentSmall'. -/
def segmentSmallUptoCard : Claim7 := { stood := { row := segmentSmallUptoRow, standIns := [], harness := (true, "fc52f832cd7ef58afed9170efce62a228f19b6ec3a4faf9b47a654544832b157"), looks := false }, kinds := [], alts := [], laidByText := true, laidKinds := [.data, .data, .data], laidTests := true, laidLooks := .later }
def SegmentSmallUptoCardSaid : Prop := Claim7.holds Tryz.pinned (.plain (OpenSpec.upto segmentSmallSpec)) segmentSmallUptoCard
end Rows
end Go.Proofs.YtdohcglpcgahaaaGreatDoor
