/-
  DERIVED. GIVEN WITH THE SEED: THE CARDS: each row of YtmhfkmnpeponiaaGreatDoorRows.lean that lists a variable, with what it lists TIED to the program's text (the seventh form; the later family's looks); each row that meets fmt, with fmt's text TOLD by the authors' own Lean function (tested against real Go, not proved from fmt's source: count such statements apart). THE CARD IS WHAT COUNTS. Prove the row's statement (the work); the ties are given (YtmhfkmnpeponiaaGreatDoorTie.lean); close each card by the builder's one call (the guide's Derived/Test/ToyasCard.lean, 'card_holds'). Laid BY PROGRAM, IN A SANDBOX (cutbox-door.mjs). By AI agents, Wed Nov 11 2026. No macro, syntax, notation, axiom, sorry.
-/
import Derived.Test.YtmhfkmnpeponiaaGreatDoorRows
import GoSem.ClaimSeven
namespace Go.Proofs.YtmhfkmnpeponiaaGreatDoor
namespace Rows

/-- THE TIED CARD OF 'twistlocklaw02.ClockSmall'. -/
def clockSmallCard : Claim7 := { stood := { row := clockSmallRow, standIns := [], harness := (true, "1c6a8e8cfa052e0f6d933cc54d344b41691990ca855a9ee95f13a4a394caa886"), looks := true }, kinds := [], alts := [], laidByText := true, laidKinds := [.data, .data, .data, .data, .sentinel, .sentinel, .widerDeep, .pinned], laidTests := true, laidLooks := .later }
def ClockSmallCardSaid : Prop := Claim7.holds Tryz.pinned (.plain (OpenSpec.ofChange clockSmallSpec)) clockSmallCard

/-- THE SECOND FORM's CARD OF 'twistlocklaw02.ClockSmall'. -/
def clockSmallUptoCard : Claim7 := { stood := { row := clockSmallUptoRow, standIns := [], harness := (true, "1c6a8e8cfa052e0f6d933cc54d344b41691990ca855a9ee95f13a4a394caa886"), looks := true }, kinds := [], alts := [], laidByText := true, laidKinds := [.data, .data, .data, .data, .sentinel, .sentinel, .widerDeep, .pinned], laidTests := true, laidLooks := .later }
def ClockSmallUptoCardSaid : Prop := Claim7.holds Tryz.pinned (.plain (OpenSpec.upto clockSmallSpec)) clockSmallUptoCard
end Rows
end Go.Proofs.YtmhfkmnpeponiaaGreatDoor
