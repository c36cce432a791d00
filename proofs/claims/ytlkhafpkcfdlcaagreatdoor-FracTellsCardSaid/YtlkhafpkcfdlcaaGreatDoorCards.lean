/-
  DERIVED. GIVEN WITH THE SEED: THE CARDS: each row of YtlkhafpkcfdlcaaGreatDoorRows.lean that lists a variable, with what it lists TIED to the program's text (the seventh form; the later family's looks); each row that meets fmt, with fmt's text TOLD by the authors' own Lean function (tested against real Go, not proved from fmt's source: count such statements apart). THE CARD IS WHAT COUNTS. Prove the row's statement (the work); the ties are given (YtlkhafpkcfdlcaaGreatDoorTie.lean); close each card by the builder's one call (the guide's Derived/Test/ToyasCard.lean, 'card_holds'). Laid BY PROGRAM, IN A SANDBOX (cutbox-door.mjs). By AI agents, Wed Nov 11 2026. No macro, syntax, notation, axiom, sorry.
-/
import Derived.Test.YtlkhafpkcfdlcaaGreatDoorRows
import GoSem.ClaimSeven
namespace Go.Proofs.YtlkhafpkcfdlcaaGreatDoor
namespace Rows

/-- THE TIED CARD OF 'twistlocklaw01.FracReads'. -/
def fracReadsCard : Claim7 := { stood := { row := fracReadsRow, standIns := [], harness := (true, "4dd3ec4a23dc00331944643eb82d0602474279eb1e1d07f6c8c5a086260ebd76"), looks := false }, kinds := [], alts := [], laidByText := true, laidKinds := [.data, .pinned], laidTests := true, laidLooks := .later }
def FracReadsCardSaid : Prop := Claim7.holds Tryz.pinned (.plain (OpenSpec.ofChange fracReadsSpec)) fracReadsCard

/-- THE TIED CARD OF 'twistlocklaw01.FracSums'. -/
def fracSumsCard : Claim7 := { stood := { row := fracSumsRow, standIns := [], harness := (true, "4dd3ec4a23dc00331944643eb82d0602474279eb1e1d07f6c8c5a086260ebd76"), looks := false }, kinds := [], alts := [], laidByText := true, laidKinds := [.data, .pinned], laidTests := true, laidLooks := .later }
def FracSumsCardSaid : Prop := Claim7.holds Tryz.pinned (.plain (OpenSpec.ofChange fracSumsSpec)) fracSumsCard

/-- THE TIED CARD OF 'twistlocklaw01.FracTells'. -/
def fracTellsCard : Claim7 := { stood := { row := fracTellsRow, standIns := [], harness := (true, "4dd3ec4a23dc00331944643eb82d0602474279eb1e1d07f6c8c5a086260ebd76"), looks := false }, kinds := [], alts := [], laidByText := true, laidKinds := [.data, .pinned], laidTests := true, laidLooks := .later }
def FracTellsCardSaid : Prop := Claim7.holds Tryz.pinned (.plain (OpenSpec.ofChange fracTellsSpec)) fracTellsCard

/-- THE TIED CARD OF 'twistlocklaw01.FracSmall'. -/
def fracSmallCard : Claim7 := { stood := { row := fracSmallRow, standIns := [], harness := (true, "4dd3ec4a23dc00331944643eb82d0602474279eb1e1d07f6c8c5a086260ebd76"), looks := false }, kinds := [], alts := [], laidByText := true, laidKinds := [.data, .pinned], laidTests := true, laidLooks := .later }
def FracSmallCardSaid : Prop := Claim7.holds Tryz.pinned (.plain (OpenSpec.ofChange fracSmallSpec)) fracSmallCard

/-- THE SECOND FORM's CARD OF 'twistlocklaw01.FracReads'. -/
def fracReadsUptoCard : Claim7 := { stood := { row := fracReadsUptoRow, standIns := [], harness := (true, "4dd3ec4a23dc00331944643eb82d0602474279eb1e1d07f6c8c5a086260ebd76"), looks := false }, kinds := [], alts := [], laidByText := true, laidKinds := [.data, .pinned], laidTests := true, laidLooks := .later }
def FracReadsUptoCardSaid : Prop := Claim7.holds Tryz.pinned (.plain (OpenSpec.upto fracReadsSpec)) fracReadsUptoCard

/-- THE SECOND FORM's CARD OF 'twistlocklaw01.FracSums'. -/
def fracSumsUptoCard : Claim7 := { stood := { row := fracSumsUptoRow, standIns := [], harness := (true, "4dd3ec4a23dc00331944643eb82d0602474279eb1e1d07f6c8c5a086260ebd76"), looks := false }, kinds := [], alts := [], laidByText := true, laidKinds := [.data, .pinned], laidTests := true, laidLooks := .later }
def FracSumsUptoCardSaid : Prop := Claim7.holds Tryz.pinned (.plain (OpenSpec.upto fracSumsSpec)) fracSumsUptoCard

/-- THE SECOND FORM's CARD OF 'twistlocklaw01.FracTells'. -/
def fracTellsUptoCard : Claim7 := { stood := { row := fracTellsUptoRow, standIns := [], harness := (true, "4dd3ec4a23dc00331944643eb82d0602474279eb1e1d07f6c8c5a086260ebd76"), looks := false }, kinds := [], alts := [], laidByText := true, laidKinds := [.data, .pinned], laidTests := true, laidLooks := .later }
def FracTellsUptoCardSaid : Prop := Claim7.holds Tryz.pinned (.plain (OpenSpec.upto fracTellsSpec)) fracTellsUptoCard

/-- THE SECOND FORM's CARD OF 'twistlocklaw01.FracSmall'. -/
def fracSmallUptoCard : Claim7 := { stood := { row := fracSmallUptoRow, standIns := [], harness := (true, "4dd3ec4a23dc00331944643eb82d0602474279eb1e1d07f6c8c5a086260ebd76"), looks := false }, kinds := [], alts := [], laidByText := true, laidKinds := [.data, .pinned], laidTests := true, laidLooks := .later }
def FracSmallUptoCardSaid : Prop := Claim7.holds Tryz.pinned (.plain (OpenSpec.upto fracSmallSpec)) fracSmallUptoCard
end Rows
end Go.Proofs.YtlkhafpkcfdlcaaGreatDoor
