/-
  DERIVED. GIVEN WITH THE SEED: THE CARDS: each row of YtdohcglpcgahaaaDoorRows.lean that lists a variable, with what it lists TIED to the program's text (the seventh form; the later family's looks); each row that meets fmt, with fmt's text TOLD by the authors' own Lean function (tested against real Go, not proved from fmt's source: count such statements apart). THE CARD IS WHAT COUNTS. Prove the row's statement (the work); the ties are given (YtdohcglpcgahaaaDoorTie.lean); close each card by the builder's one call (the guide's Derived/Test/ToyasCard.lean, 'card_holds'). Laid BY PROGRAM, IN A SANDBOX (cutbox-door.mjs). By AI agents, Wed Nov 11 2026. No macro, syntax, notation, axiom, sorry.
-/
import Derived.Test.YtdohcglpcgahaaaDoorRows
import GoSem.ClaimSeven
namespace Go.Proofs.YtdohcglpcgahaaaDoor
namespace Rows

/-- THE TIED CARD OF 'twistlocklaw05.SegmentReads'. -/
def segmentReadsCard : Claim7 := { stood := { row := segmentReadsRow, standIns := [], harness := (true, "9abdae64e7f9f27b5c00c8d72489211e875d8ed568810749a0f98973af70e932"), looks := false }, kinds := [], alts := [], laidByText := true, laidKinds := [.data, .data, .data], laidTests := true, laidLooks := .later }
def SegmentReadsCardSaid : Prop := Claim7.holds Tryd.pinned (.plain (OpenSpec.ofChange segmentReadsSpec)) segmentReadsCard

/-- THE TIED CARD OF 'twistlocklaw05.SegmentWrites'. -/
def segmentWritesCard : Claim7 := { stood := { row := segmentWritesRow, standIns := [], harness := (true, "9abdae64e7f9f27b5c00c8d72489211e875d8ed568810749a0f98973af70e932"), looks := false }, kinds := [], alts := [], laidByText := true, laidKinds := [.data, .data, .data], laidTests := true, laidLooks := .later }
def SegmentWritesCardSaid : Prop := Claim7.holds Tryd.pinned (.plain (OpenSpec.ofChange segmentWritesSpec)) segmentWritesCard

/-- THE TIED CARD OF 'twistlocklaw05.SegmentTrims'. -/
def segmentTrimsCard : Claim7 := { stood := { row := segmentTrimsRow, standIns := [], harness := (true, "9abdae64e7f9f27b5c00c8d72489211e875d8ed568810749a0f98973af70e932"), looks := false }, kinds := [], alts := [], laidByText := true, laidKinds := [.data, .data, .data], laidTests := true, laidLooks := .later }
def SegmentTrimsCardSaid : Prop := Claim7.holds Tryd.pinned (.plain (OpenSpec.ofChange segmentTrimsSpec)) segmentTrimsCard

/-- THE TIED CARD OF 'twistlocklaw05.SegmentBack'. -/
def segmentBackCard : Claim7 := { stood := { row := segmentBackRow, standIns := [], harness := (true, "9abdae64e7f9f27b5c00c8d72489211e875d8ed568810749a0f98973af70e932"), looks := false }, kinds := [], alts := [], laidByText := true, laidKinds := [.data, .data, .data], laidTests := true, laidLooks := .later }
def SegmentBackCardSaid : Prop := Claim7.holds Tryd.pinned (.plain (OpenSpec.ofChange segmentBackSpec)) segmentBackCard

/-- THE TIED CARD OF 'twistlocklaw05.SegmentAgain'. -/
def segmentAgainCard : Claim7 := { stood := { row := segmentAgainRow, standIns := [], harness := (true, "9abdae64e7f9f27b5c00c8d72489211e875d8ed568810749a0f98973af70e932"), looks := false }, kinds := [], alts := [], laidByText := true, laidKinds := [.data, .data, .data], laidTests := true, laidLooks := .later }
def SegmentAgainCardSaid : Prop := Claim7.holds Tryd.pinned (.plain (OpenSpec.ofChange segmentAgainSpec)) segmentAgainCard

/-- THE TIED CARD OF 'twistlocklaw05.SegmentFields'. -/
def segmentFieldsCard : Claim7 := { stood := { row := segmentFieldsRow, standIns := [], harness := (true, "9abdae64e7f9f27b5c00c8d72489211e875d8ed568810749a0f98973af70e932"), looks := false }, kinds := [], alts := [], laidByText := true, laidKinds := [.data, .data, .data], laidTests := true, laidLooks := .later }
def SegmentFieldsCardSaid : Prop := Claim7.holds Tryd.pinned (.plain (OpenSpec.ofChange segmentFieldsSpec)) segmentFieldsCard

/-- THE SECOND FORM's CARD OF 'twistlocklaw05.SegmentReads'. -/
def segmentReadsUptoCard : Claim7 := { stood := { row := segmentReadsUptoRow, standIns := [], harness := (true, "9abdae64e7f9f27b5c00c8d72489211e875d8ed568810749a0f98973af70e932"), looks := false }, kinds := [], alts := [], laidByText := true, laidKinds := [.data, .data, .data], laidTests := true, laidLooks := .later }
def SegmentReadsUptoCardSaid : Prop := Claim7.holds Tryd.pinned (.plain (OpenSpec.upto segmentReadsSpec)) segmentReadsUptoCard

/-- THE SECOND FORM's CARD OF 'twistlocklaw05.SegmentWrites'. -/
def segmentWritesUptoCard : Claim7 := { stood := { row := segmentWritesUptoRow, standIns := [], harness := (true, "9abdae64e7f9f27b5c00c8d72489211e875d8ed568810749a0f98973af70e932"), looks := false }, kinds := [], alts := [], laidByText := true, laidKinds := [.data, .data, .data], laidTests := true, laidLooks := .later }
def SegmentWritesUptoCardSaid : Prop := Claim7.holds Tryd.pinned (.plain (OpenSpec.upto segmentWritesSpec)) segmentWritesUptoCard

/-- THE SECOND FORM's CARD OF 'twistlocklaw05.SegmentTrims'. -/
def segmentTrimsUptoCard : Claim7 := { stood := { row := segmentTrimsUptoRow, standIns := [], harness := (true, "9abdae64e7f9f27b5c00c8d72489211e875d8ed568810749a0f98973af70e932"), looks := false }, kinds := [], alts := [], laidByText := true, laidKinds := [.data, .data, .data], laidTests := true, laidLooks := .later }
def SegmentTrimsUptoCardSaid : Prop := Claim7.holds Tryd.pinned (.plain (OpenSpec.upto segmentTrimsSpec)) segmentTrimsUptoCard

/-- THE SECOND FORM's CARD OF 'twistlocklaw05.SegmentBack'. -/
def segmentBackUptoCard : Claim7 := { stood := { row := segmentBackUptoRow, standIns := [], harness := (true, "9abdae64e7f9f27b5c00c8d72489211e875d8ed568810749a0f98973af70e932"), looks := false }, kinds := [], alts := [], laidByText := true, laidKinds := [.data, .data, .data], laidTests := true, laidLooks := .later }
def SegmentBackUptoCardSaid : Prop := Claim7.holds Tryd.pinned (.plain (OpenSpec.upto segmentBackSpec)) segmentBackUptoCard

/-- THE SECOND FORM's CARD OF 'twistlocklaw05.SegmentAgain'. -/
def segmentAgainUptoCard : Claim7 := { stood := { row := segmentAgainUptoRow, standIns := [], harness := (true, "9abdae64e7f9f27b5c00c8d72489211e875d8ed568810749a0f98973af70e932"), looks := false }, kinds := [], alts := [], laidByText := true, laidKinds := [.data, .data, .data], laidTests := true, laidLooks := .later }
def SegmentAgainUptoCardSaid : Prop := Claim7.holds Tryd.pinned (.plain (OpenSpec.upto segmentAgainSpec)) segmentAgainUptoCard

/-- THE SECOND FORM's CARD OF 'twistlocklaw05.SegmentFields'. -/
def segmentFieldsUptoCard : Claim7 := { stood := { row := segmentFieldsUptoRow, standIns := [], harness := (true, "9abdae64e7f9f27b5c00c8d72489211e875d8ed568810749a0f98973af70e932"), looks := false }, kinds := [], alts := [], laidByText := true, laidKinds := [.data, .data, .data], laidTests := true, laidLooks := .later }
def SegmentFieldsUptoCardSaid : Prop := Claim7.holds Tryd.pinned (.plain (OpenSpec.upto segmentFieldsSpec)) segmentFieldsUptoCard
end Rows
end Go.Proofs.YtdohcglpcgahaaaDoor
