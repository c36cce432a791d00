/-
  DERIVED. GIVEN WITH THE SEED: THE CARDS: each row of YtlkhafpkcfdlcaaDoorRows.lean that lists a variable, with what it lists TIED to the program's text (the seventh form; the later family's looks); each row that meets fmt, with fmt's text TOLD by the authors' own Lean function (tested against real Go, not proved from fmt's source: count such statements apart). THE CARD IS WHAT COUNTS. Prove the row's statement (the work); the ties are given (YtlkhafpkcfdlcaaDoorTie.lean); close each card by the builder's one call (the guide's Derived/Test/ToyasCard.lean, 'card_holds'). Laid BY PROGRAM, IN A SANDBOX (cutbox-door.mjs). By AI agents, Wed Nov 11 2026. No macro, syntax, notation, axiom, sorry.
-/
import Derived.Test.YtlkhafpkcfdlcaaDoorRows
import GoSem.ClaimSeven
namespace Go.Proofs.YtlkhafpkcfdlcaaDoor
namespace Rows

/-- THE TIED CARD OF 'twistlocklaw01.FracRatios'. -/
def fracRatiosCard : Claim7 := { stood := { row := fracRatiosRow, standIns := [], harness := (true, "f33ae9936c8bcbb1ccd6fe307b0f32b4e061e055bee96d5725be30c89ab7ff2a"), looks := false }, kinds := [], alts := [], laidByText := true, laidKinds := [.data, .pinned], laidTests := true, laidLooks := .later }
def FracRatiosCardSaid : Prop := Claim7.holds Tryd.pinned (.plain (OpenSpec.ofChange fracRatiosSpec)) fracRatiosCard

/-- THE TIED CARD OF 'twistlocklaw01.FracField'. -/
def fracFieldCard : Claim7 := { stood := { row := fracFieldRow, standIns := [], harness := (true, "f33ae9936c8bcbb1ccd6fe307b0f32b4e061e055bee96d5725be30c89ab7ff2a"), looks := false }, kinds := [], alts := [], laidByText := true, laidKinds := [.data, .pinned], laidTests := true, laidLooks := .later }
def FracFieldCardSaid : Prop := Claim7.holds Tryd.pinned (.plain (OpenSpec.ofChange fracFieldSpec)) fracFieldCard

/-- THE TIED CARD OF 'twistlocklaw01.FracTurns'. -/
def fracTurnsCard : Claim7 := { stood := { row := fracTurnsRow, standIns := [], harness := (true, "f33ae9936c8bcbb1ccd6fe307b0f32b4e061e055bee96d5725be30c89ab7ff2a"), looks := false }, kinds := [], alts := [], laidByText := true, laidKinds := [.data, .pinned], laidTests := true, laidLooks := .later }
def FracTurnsCardSaid : Prop := Claim7.holds Tryd.pinned (.plain (OpenSpec.ofChange fracTurnsSpec)) fracTurnsCard

/-- THE TIED CARD OF 'twistlocklaw01.FracLong'. -/
def fracLongCard : Claim7 := { stood := { row := fracLongRow, standIns := [], harness := (true, "f33ae9936c8bcbb1ccd6fe307b0f32b4e061e055bee96d5725be30c89ab7ff2a"), looks := false }, kinds := [], alts := [], laidByText := true, laidKinds := [.data, .pinned], laidTests := true, laidLooks := .later }
def FracLongCardSaid : Prop := Claim7.holds Tryd.pinned (.plain (OpenSpec.ofChange fracLongSpec)) fracLongCard

/-- THE TIED CARD OF 'twistlocklaw01.FracTexts'. -/
def fracTextsCard : Claim7 := { stood := { row := fracTextsRow, standIns := [], harness := (true, "f33ae9936c8bcbb1ccd6fe307b0f32b4e061e055bee96d5725be30c89ab7ff2a"), looks := false }, kinds := [], alts := [], laidByText := true, laidKinds := [.data, .pinned], laidTests := true, laidLooks := .later }
def FracTextsCardSaid : Prop := Claim7.holds Tryd.pinned (.plain (OpenSpec.ofChange fracTextsSpec)) fracTextsCard

/-- THE TIED CARD OF 'twistlocklaw01.FracOrder'. -/
def fracOrderCard : Claim7 := { stood := { row := fracOrderRow, standIns := [], harness := (true, "f33ae9936c8bcbb1ccd6fe307b0f32b4e061e055bee96d5725be30c89ab7ff2a"), looks := false }, kinds := [], alts := [], laidByText := true, laidKinds := [.data, .pinned], laidTests := true, laidLooks := .later }
def FracOrderCardSaid : Prop := Claim7.holds Tryd.pinned (.plain (OpenSpec.ofChange fracOrderSpec)) fracOrderCard

/-- THE TIED CARD OF 'twistlocklaw01.FracFloors'. -/
def fracFloorsCard : Claim7 := { stood := { row := fracFloorsRow, standIns := [], harness := (true, "f33ae9936c8bcbb1ccd6fe307b0f32b4e061e055bee96d5725be30c89ab7ff2a"), looks := false }, kinds := [], alts := [], laidByText := true, laidKinds := [.data, .pinned], laidTests := true, laidLooks := .later }
def FracFloorsCardSaid : Prop := Claim7.holds Tryd.pinned (.plain (OpenSpec.ofChange fracFloorsSpec)) fracFloorsCard

/-- THE TIED CARD OF 'twistlocklaw01.FracWrong'. -/
def fracWrongCard : Claim7 := { stood := { row := fracWrongRow, standIns := [], harness := (true, "f33ae9936c8bcbb1ccd6fe307b0f32b4e061e055bee96d5725be30c89ab7ff2a"), looks := false }, kinds := [], alts := [], laidByText := true, laidKinds := [.data, .pinned], laidTests := true, laidLooks := .later }
def FracWrongCardSaid : Prop := Claim7.holds Tryd.pinned (.plain (OpenSpec.ofChange fracWrongSpec)) fracWrongCard

/-- THE SECOND FORM's CARD OF 'twistlocklaw01.FracRatios'. -/
def fracRatiosUptoCard : Claim7 := { stood := { row := fracRatiosUptoRow, standIns := [], harness := (true, "f33ae9936c8bcbb1ccd6fe307b0f32b4e061e055bee96d5725be30c89ab7ff2a"), looks := false }, kinds := [], alts := [], laidByText := true, laidKinds := [.data, .pinned], laidTests := true, laidLooks := .later }
def FracRatiosUptoCardSaid : Prop := Claim7.holds Tryd.pinned (.plain (OpenSpec.upto fracRatiosSpec)) fracRatiosUptoCard

/-- THE SECOND FORM's CARD OF 'twistlocklaw01.FracField'. -/
def fracFieldUptoCard : Claim7 := { stood := { row := fracFieldUptoRow, standIns := [], harness := (true, "f33ae9936c8bcbb1ccd6fe307b0f32b4e061e055bee96d5725be30c89ab7ff2a"), looks := false }, kinds := [], alts := [], laidByText := true, laidKinds := [.data, .pinned], laidTests := true, laidLooks := .later }
def FracFieldUptoCardSaid : Prop := Claim7.holds Tryd.pinned (.plain (OpenSpec.upto fracFieldSpec)) fracFieldUptoCard

/-- THE SECOND FORM's CARD OF 'twistlocklaw01.FracTurns'. -/
def fracTurnsUptoCard : Claim7 := { stood := { row := fracTurnsUptoRow, standIns := [], harness := (true, "f33ae9936c8bcbb1ccd6fe307b0f32b4e061e055bee96d5725be30c89ab7ff2a"), looks := false }, kinds := [], alts := [], laidByText := true, laidKinds := [.data, .pinned], laidTests := true, laidLooks := .later }
def FracTurnsUptoCardSaid : Prop := Claim7.holds Tryd.pinned (.plain (OpenSpec.upto fracTurnsSpec)) fracTurnsUptoCard

/-- THE SECOND FORM's CARD OF 'twistlocklaw01.FracLong'. -/
def fracLongUptoCard : Claim7 := { stood := { row := fracLongUptoRow, standIns := [], harness := (true, "f33ae9936c8bcbb1ccd6fe307b0f32b4e061e055bee96d5725be30c89ab7ff2a"), looks := false }, kinds := [], alts := [], laidByText := true, laidKinds := [.data, .pinned], laidTests := true, laidLooks := .later }
def FracLongUptoCardSaid : Prop := Claim7.holds Tryd.pinned (.plain (OpenSpec.upto fracLongSpec)) fracLongUptoCard

/-- THE SECOND FORM's CARD OF 'twistlocklaw01.FracTexts'. -/
def fracTextsUptoCard : Claim7 := { stood := { row := fracTextsUptoRow, standIns := [], harness := (true, "f33ae9936c8bcbb1ccd6fe307b0f32b4e061e055bee96d5725be30c89ab7ff2a"), looks := false }, kinds := [], alts := [], laidByText := true, laidKinds := [.data, .pinned], laidTests := true, laidLooks := .later }
def FracTextsUptoCardSaid : Prop := Claim7.holds Tryd.pinned (.plain (OpenSpec.upto fracTextsSpec)) fracTextsUptoCard

/-- THE SECOND FORM's CARD OF 'twistlocklaw01.FracOrder'. -/
def fracOrderUptoCard : Claim7 := { stood := { row := fracOrderUptoRow, standIns := [], harness := (true, "f33ae9936c8bcbb1ccd6fe307b0f32b4e061e055bee96d5725be30c89ab7ff2a"), looks := false }, kinds := [], alts := [], laidByText := true, laidKinds := [.data, .pinned], laidTests := true, laidLooks := .later }
def FracOrderUptoCardSaid : Prop := Claim7.holds Tryd.pinned (.plain (OpenSpec.upto fracOrderSpec)) fracOrderUptoCard

/-- THE SECOND FORM's CARD OF 'twistlocklaw01.FracFloors'. -/
def fracFloorsUptoCard : Claim7 := { stood := { row := fracFloorsUptoRow, standIns := [], harness := (true, "f33ae9936c8bcbb1ccd6fe307b0f32b4e061e055bee96d5725be30c89ab7ff2a"), looks := false }, kinds := [], alts := [], laidByText := true, laidKinds := [.data, .pinned], laidTests := true, laidLooks := .later }
def FracFloorsUptoCardSaid : Prop := Claim7.holds Tryd.pinned (.plain (OpenSpec.upto fracFloorsSpec)) fracFloorsUptoCard

/-- THE SECOND FORM's CARD OF 'twistlocklaw01.FracWrong'. -/
def fracWrongUptoCard : Claim7 := { stood := { row := fracWrongUptoRow, standIns := [], harness := (true, "f33ae9936c8bcbb1ccd6fe307b0f32b4e061e055bee96d5725be30c89ab7ff2a"), looks := false }, kinds := [], alts := [], laidByText := true, laidKinds := [.data, .pinned], laidTests := true, laidLooks := .later }
def FracWrongUptoCardSaid : Prop := Claim7.holds Tryd.pinned (.plain (OpenSpec.upto fracWrongSpec)) fracWrongUptoCard
end Rows
end Go.Proofs.YtlkhafpkcfdlcaaDoor
