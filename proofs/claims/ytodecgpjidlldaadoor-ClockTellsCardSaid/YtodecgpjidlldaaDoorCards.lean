/-
  DERIVED. GIVEN WITH THE SEED: THE CARDS: each row of YtodecgpjidlldaaDoorRows.lean that lists a variable, with what it lists TIED to the program's text (the seventh form; the later family's looks); each row that meets fmt, with fmt's text TOLD by the authors' own Lean function (tested against real Go, not proved from fmt's source: count such statements apart). THE CARD IS WHAT COUNTS. Prove the row's statement (the work); the ties are given (YtodecgpjidlldaaDoorTie.lean); close each card by the builder's one call (the guide's Derived/Test/ToyasCard.lean, 'card_holds'). Laid BY PROGRAM, IN A SANDBOX (cutbox-door.mjs). By AI agents, Wed Nov 11 2026. No macro, syntax, notation, axiom, sorry.
-/
import Derived.Test.YtodecgpjidlldaaDoorRows
import GoSem.ClaimSeven
namespace Go.Proofs.YtodecgpjidlldaaDoor
namespace Rows

/-- THE TIED CARD OF 'twistlocklaw02.ClockTides'. -/
def clockTidesCard : Claim7 := { stood := { row := clockTidesRow, standIns := [], harness := (true, "c3d3f3fc19b3e9d8ba0b955eea679e490638664d74ed89636df405ca48b28270"), looks := true }, kinds := [], alts := [], laidByText := true, laidKinds := [.data, .data, .data, .data, .sentinel, .sentinel, .widerDeep, .pinned], laidTests := true, laidLooks := .later }
def ClockTidesCardSaid : Prop := Claim7.holds Tryd.pinned (.plain (OpenSpec.ofChange clockTidesSpec)) clockTidesCard

/-- THE TIED CARD OF 'twistlocklaw02.ClockTexts'. -/
def clockTextsCard : Claim7 := { stood := { row := clockTextsRow, standIns := [], harness := (true, "c3d3f3fc19b3e9d8ba0b955eea679e490638664d74ed89636df405ca48b28270"), looks := true }, kinds := [], alts := [], laidByText := true, laidKinds := [.data, .data, .data, .data, .sentinel, .sentinel, .widerDeep, .pinned], laidTests := true, laidLooks := .later }
def ClockTextsCardSaid : Prop := Claim7.holds Tryd.pinned (.plain (OpenSpec.ofChange clockTextsSpec)) clockTextsCard

/-- THE TIED CARD OF 'twistlocklaw02.ClockTurns'. -/
def clockTurnsCard : Claim7 := { stood := { row := clockTurnsRow, standIns := [], harness := (true, "c3d3f3fc19b3e9d8ba0b955eea679e490638664d74ed89636df405ca48b28270"), looks := true }, kinds := [], alts := [], laidByText := true, laidKinds := [.data, .data, .data, .data, .sentinel, .sentinel, .widerDeep, .pinned], laidTests := true, laidLooks := .later }
def ClockTurnsCardSaid : Prop := Claim7.holds Tryd.pinned (.plain (OpenSpec.ofChange clockTurnsSpec)) clockTurnsCard

/-- THE TIED CARD OF 'twistlocklaw02.ClockLater'. -/
def clockLaterCard : Claim7 := { stood := { row := clockLaterRow, standIns := [], harness := (true, "c3d3f3fc19b3e9d8ba0b955eea679e490638664d74ed89636df405ca48b28270"), looks := true }, kinds := [], alts := [], laidByText := true, laidKinds := [.data, .data, .data, .data, .sentinel, .sentinel, .widerDeep, .pinned], laidTests := true, laidLooks := .later }
def ClockLaterCardSaid : Prop := Claim7.holds Tryd.pinned (.plain (OpenSpec.ofChange clockLaterSpec)) clockLaterCard

/-- THE TIED CARD OF 'twistlocklaw02.ClockWrites'. -/
def clockWritesCard : Claim7 := { stood := { row := clockWritesRow, standIns := [], harness := (true, "c3d3f3fc19b3e9d8ba0b955eea679e490638664d74ed89636df405ca48b28270"), looks := true }, kinds := [], alts := [], laidByText := true, laidKinds := [.data, .data, .data, .data, .sentinel, .sentinel, .widerDeep, .pinned], laidTests := true, laidLooks := .later }
def ClockWritesCardSaid : Prop := Claim7.holds Tryd.pinned (.plain (OpenSpec.ofChange clockWritesSpec)) clockWritesCard

/-- THE TIED CARD OF 'twistlocklaw02.ClockTells'. -/
def clockTellsCard : Claim7 := { stood := { row := clockTellsRow, standIns := [], harness := (true, "c3d3f3fc19b3e9d8ba0b955eea679e490638664d74ed89636df405ca48b28270"), looks := true }, kinds := [], alts := [], laidByText := true, laidKinds := [.data, .data, .data, .data, .sentinel, .sentinel, .widerDeep, .pinned], laidTests := true, laidLooks := .later }
def ClockTellsCardSaid : Prop := Claim7.holds Tryd.pinned (.plain (OpenSpec.ofChange clockTellsSpec)) clockTellsCard

/-- THE TIED CARD OF 'twistlocklaw02.ClockWorks'. -/
def clockWorksCard : Claim7 := { stood := { row := clockWorksRow, standIns := [], harness := (true, "c3d3f3fc19b3e9d8ba0b955eea679e490638664d74ed89636df405ca48b28270"), looks := true }, kinds := [], alts := [], laidByText := true, laidKinds := [.data, .data, .data, .data, .sentinel, .sentinel, .widerDeep, .pinned], laidTests := true, laidLooks := .later }
def ClockWorksCardSaid : Prop := Claim7.holds Tryd.pinned (.plain (OpenSpec.ofChange clockWorksSpec)) clockWorksCard

/-- THE TIED CARD OF 'twistlocklaw02.ClockOpens'. -/
def clockOpensCard : Claim7 := { stood := { row := clockOpensRow, standIns := [], harness := (true, "c3d3f3fc19b3e9d8ba0b955eea679e490638664d74ed89636df405ca48b28270"), looks := true }, kinds := [], alts := [], laidByText := true, laidKinds := [.data, .data, .data, .data, .sentinel, .sentinel, .widerDeep, .pinned], laidTests := true, laidLooks := .later }
def ClockOpensCardSaid : Prop := Claim7.holds Tryd.pinned (.plain (OpenSpec.ofChange clockOpensSpec)) clockOpensCard

/-- THE TIED CARD OF 'twistlocklaw02.ClockLists'. -/
def clockListsCard : Claim7 := { stood := { row := clockListsRow, standIns := [], harness := (true, "c3d3f3fc19b3e9d8ba0b955eea679e490638664d74ed89636df405ca48b28270"), looks := true }, kinds := [], alts := [], laidByText := true, laidKinds := [.data, .data, .data, .data, .sentinel, .sentinel, .widerDeep, .pinned], laidTests := true, laidLooks := .later }
def ClockListsCardSaid : Prop := Claim7.holds Tryd.pinned (.plain (OpenSpec.ofChange clockListsSpec)) clockListsCard

/-- THE TIED CARD OF 'twistlocklaw02.ClockBoth'. -/
def clockBothCard : Claim7 := { stood := { row := clockBothRow, standIns := [], harness := (true, "c3d3f3fc19b3e9d8ba0b955eea679e490638664d74ed89636df405ca48b28270"), looks := true }, kinds := [], alts := [], laidByText := true, laidKinds := [.data, .data, .data, .data, .sentinel, .sentinel, .widerDeep, .pinned], laidTests := true, laidLooks := .later }
def ClockBothCardSaid : Prop := Claim7.holds Tryd.pinned (.plain (OpenSpec.ofChange clockBothSpec)) clockBothCard

/-- THE TIED CARD OF 'twistlocklaw02.ClockWrong'. -/
def clockWrongCard : Claim7 := { stood := { row := clockWrongRow, standIns := [], harness := (true, "c3d3f3fc19b3e9d8ba0b955eea679e490638664d74ed89636df405ca48b28270"), looks := true }, kinds := [], alts := [], laidByText := true, laidKinds := [.data, .data, .data, .data, .sentinel, .sentinel, .widerDeep, .pinned], laidTests := true, laidLooks := .later }
def ClockWrongCardSaid : Prop := Claim7.holds Tryd.pinned (.plain (OpenSpec.ofChange clockWrongSpec)) clockWrongCard

/-- THE SECOND FORM's CARD OF 'twistlocklaw02.ClockTides'. -/
def clockTidesUptoCard : Claim7 := { stood := { row := clockTidesUptoRow, standIns := [], harness := (true, "c3d3f3fc19b3e9d8ba0b955eea679e490638664d74ed89636df405ca48b28270"), looks := true }, kinds := [], alts := [], laidByText := true, laidKinds := [.data, .data, .data, .data, .sentinel, .sentinel, .widerDeep, .pinned], laidTests := true, laidLooks := .later }
def ClockTidesUptoCardSaid : Prop := Claim7.holds Tryd.pinned (.plain (OpenSpec.upto clockTidesSpec)) clockTidesUptoCard

/-- THE SECOND FORM's CARD OF 'twistlocklaw02.ClockTexts'. -/
def clockTextsUptoCard : Claim7 := { stood := { row := clockTextsUptoRow, standIns := [], harness := (true, "c3d3f3fc19b3e9d8ba0b955eea679e490638664d74ed89636df405ca48b28270"), looks := true }, kinds := [], alts := [], laidByText := true, laidKinds := [.data, .data, .data, .data, .sentinel, .sentinel, .widerDeep, .pinned], laidTests := true, laidLooks := .later }
def ClockTextsUptoCardSaid : Prop := Claim7.holds Tryd.pinned (.plain (OpenSpec.upto clockTextsSpec)) clockTextsUptoCard

/-- THE SECOND FORM's CARD OF 'twistlocklaw02.ClockTurns'. -/
def clockTurnsUptoCard : Claim7 := { stood := { row := clockTurnsUptoRow, standIns := [], harness := (true, "c3d3f3fc19b3e9d8ba0b955eea679e490638664d74ed89636df405ca48b28270"), looks := true }, kinds := [], alts := [], laidByText := true, laidKinds := [.data, .data, .data, .data, .sentinel, .sentinel, .widerDeep, .pinned], laidTests := true, laidLooks := .later }
def ClockTurnsUptoCardSaid : Prop := Claim7.holds Tryd.pinned (.plain (OpenSpec.upto clockTurnsSpec)) clockTurnsUptoCard

/-- THE SECOND FORM's CARD OF 'twistlocklaw02.ClockLater'. -/
def clockLaterUptoCard : Claim7 := { stood := { row := clockLaterUptoRow, standIns := [], harness := (true, "c3d3f3fc19b3e9d8ba0b955eea679e490638664d74ed89636df405ca48b28270"), looks := true }, kinds := [], alts := [], laidByText := true, laidKinds := [.data, .data, .data, .data, .sentinel, .sentinel, .widerDeep, .pinned], laidTests := true, laidLooks := .later }
def ClockLaterUptoCardSaid : Prop := Claim7.holds Tryd.pinned (.plain (OpenSpec.upto clockLaterSpec)) clockLaterUptoCard

/-- THE SECOND FORM's CARD OF 'twistlocklaw02.ClockWrites'. -/
def clockWritesUptoCard : Claim7 := { stood := { row := clockWritesUptoRow, standIns := [], harness := (true, "c3d3f3fc19b3e9d8ba0b955eea679e490638664d74ed89636df405ca48b28270"), looks := true }, kinds := [], alts := [], laidByText := true, laidKinds := [.data, .data, .data, .data, .sentinel, .sentinel, .widerDeep, .pinned], laidTests := true, laidLooks := .later }
def ClockWritesUptoCardSaid : Prop := Claim7.holds Tryd.pinned (.plain (OpenSpec.upto clockWritesSpec)) clockWritesUptoCard

/-- THE SECOND FORM's CARD OF 'twistlocklaw02.ClockTells'. -/
def clockTellsUptoCard : Claim7 := { stood := { row := clockTellsUptoRow, standIns := [], harness := (true, "c3d3f3fc19b3e9d8ba0b955eea679e490638664d74ed89636df405ca48b28270"), looks := true }, kinds := [], alts := [], laidByText := true, laidKinds := [.data, .data, .data, .data, .sentinel, .sentinel, .widerDeep, .pinned], laidTests := true, laidLooks := .later }
def ClockTellsUptoCardSaid : Prop := Claim7.holds Tryd.pinned (.plain (OpenSpec.upto clockTellsSpec)) clockTellsUptoCard

/-- THE SECOND FORM's CARD OF 'twistlocklaw02.ClockWorks'. -/
def clockWorksUptoCard : Claim7 := { stood := { row := clockWorksUptoRow, standIns := [], harness := (true, "c3d3f3fc19b3e9d8ba0b955eea679e490638664d74ed89636df405ca48b28270"), looks := true }, kinds := [], alts := [], laidByText := true, laidKinds := [.data, .data, .data, .data, .sentinel, .sentinel, .widerDeep, .pinned], laidTests := true, laidLooks := .later }
def ClockWorksUptoCardSaid : Prop := Claim7.holds Tryd.pinned (.plain (OpenSpec.upto clockWorksSpec)) clockWorksUptoCard

/-- THE SECOND FORM's CARD OF 'twistlocklaw02.ClockOpens'. -/
def clockOpensUptoCard : Claim7 := { stood := { row := clockOpensUptoRow, standIns := [], harness := (true, "c3d3f3fc19b3e9d8ba0b955eea679e490638664d74ed89636df405ca48b28270"), looks := true }, kinds := [], alts := [], laidByText := true, laidKinds := [.data, .data, .data, .data, .sentinel, .sentinel, .widerDeep, .pinned], laidTests := true, laidLooks := .later }
def ClockOpensUptoCardSaid : Prop := Claim7.holds Tryd.pinned (.plain (OpenSpec.upto clockOpensSpec)) clockOpensUptoCard

/-- THE SECOND FORM's CARD OF 'twistlocklaw02.ClockLists'. -/
def clockListsUptoCard : Claim7 := { stood := { row := clockListsUptoRow, standIns := [], harness := (true, "c3d3f3fc19b3e9d8ba0b955eea679e490638664d74ed89636df405ca48b28270"), looks := true }, kinds := [], alts := [], laidByText := true, laidKinds := [.data, .data, .data, .data, .sentinel, .sentinel, .widerDeep, .pinned], laidTests := true, laidLooks := .later }
def ClockListsUptoCardSaid : Prop := Claim7.holds Tryd.pinned (.plain (OpenSpec.upto clockListsSpec)) clockListsUptoCard

/-- THE SECOND FORM's CARD OF 'twistlocklaw02.ClockBoth'. -/
def clockBothUptoCard : Claim7 := { stood := { row := clockBothUptoRow, standIns := [], harness := (true, "c3d3f3fc19b3e9d8ba0b955eea679e490638664d74ed89636df405ca48b28270"), looks := true }, kinds := [], alts := [], laidByText := true, laidKinds := [.data, .data, .data, .data, .sentinel, .sentinel, .widerDeep, .pinned], laidTests := true, laidLooks := .later }
def ClockBothUptoCardSaid : Prop := Claim7.holds Tryd.pinned (.plain (OpenSpec.upto clockBothSpec)) clockBothUptoCard

/-- THE SECOND FORM's CARD OF 'twistlocklaw02.ClockWrong'. -/
def clockWrongUptoCard : Claim7 := { stood := { row := clockWrongUptoRow, standIns := [], harness := (true, "c3d3f3fc19b3e9d8ba0b955eea679e490638664d74ed89636df405ca48b28270"), looks := true }, kinds := [], alts := [], laidByText := true, laidKinds := [.data, .data, .data, .data, .sentinel, .sentinel, .widerDeep, .pinned], laidTests := true, laidLooks := .later }
def ClockWrongUptoCardSaid : Prop := Claim7.holds Tryd.pinned (.plain (OpenSpec.upto clockWrongSpec)) clockWrongUptoCard
end Rows
end Go.Proofs.YtodecgpjidlldaaDoor
