/-
  DERIVED. GIVEN WITH THE SEED: THE CARDS: each row of YtdejcgmaphmjbaaDoorRows.lean that lists a variable, with what it lists TIED to the program's text (the seventh form; the later family's looks); each row that meets fmt, with fmt's text TOLD by the authors' own Lean function (tested against real Go, not proved from fmt's source: count such statements apart). THE CARD IS WHAT COUNTS. Prove the row's statement (the work); the ties are given (YtdejcgmaphmjbaaDoorTie.lean); close each card by the builder's one call (the guide's Derived/Test/ToyasCard.lean, 'card_holds'). Laid BY PROGRAM, IN A SANDBOX (cutbox-door.mjs). By AI agents, Wed Nov 11 2026. No macro, syntax, notation, axiom, sorry.
-/
import Derived.Test.YtdejcgmaphmjbaaDoorRows
import GoSem.ClaimSeven
namespace Go.Proofs.YtdejcgmaphmjbaaDoor
namespace Rows

/-- THE TIED CARD OF 'twistlocklaw04.LexSmall'. -/
def lexSmallCard : Claim7 := { stood := { row := lexSmallRow, standIns := [], harness := (true, "cf8b3f04d0e9826657803acb6acabdc6c5a7bec08eeb28e218b70dc094608147"), looks := false }, kinds := [], alts := [], laidByText := true, laidKinds := [.data, .pinned], laidTests := true, laidLooks := .later }
def LexSmallCardSaid : Prop := Claim7.holds Tryd.pinned (.plain (OpenSpec.ofChange lexSmallSpec)) lexSmallCard

/-- THE SECOND FORM's CARD OF 'twistlocklaw04.LexSmall'. -/
def lexSmallUptoCard : Claim7 := { stood := { row := lexSmallUptoRow, standIns := [], harness := (true, "cf8b3f04d0e9826657803acb6acabdc6c5a7bec08eeb28e218b70dc094608147"), looks := false }, kinds := [], alts := [], laidByText := true, laidKinds := [.data, .pinned], laidTests := true, laidLooks := .later }
def LexSmallUptoCardSaid : Prop := Claim7.holds Tryd.pinned (.plain (OpenSpec.upto lexSmallSpec)) lexSmallUptoCard
end Rows
end Go.Proofs.YtdejcgmaphmjbaaDoor
