/-
  DERIVED. GIVEN WITH THE SEED: THE CARDS: each row of YtedpadjlkddgjaaDoorRows.lean that lists a variable, with what it lists TIED to the program's text (the seventh form; the later family's looks); each row that meets fmt, with fmt's text TOLD by the authors' own Lean function (tested against real Go, not proved from fmt's source: count such statements apart). THE CARD IS WHAT COUNTS. Prove the row's statement (the work); the ties are given (YtedpadjlkddgjaaDoorTie.lean); close each card by the builder's one call (the guide's Derived/Test/ToyasCard.lean, 'card_holds'). Laid BY PROGRAM, IN A SANDBOX (cutbox-door.mjs). By AI agents, Wed Nov 11 2026. No macro, syntax, notation, axiom, sorry.
-/
import Derived.Test.YtedpadjlkddgjaaDoorRows
import GoSem.ClaimSeven
namespace Go.Proofs.YtedpadjlkddgjaaDoor
namespace Rows

/-- THE TIED CARD OF 'twistlocklaw03.IsoTells'. -/
def isoTellsCard : Claim7 := { stood := { row := isoTellsRow, standIns := [], harness := (true, "935e74c36ee97e11907b9246a66822b76eaacac179b2aab417506f1982cc0246"), looks := false }, kinds := [], alts := [], laidByText := true, laidKinds := [.data], laidTests := true, laidLooks := .later }
def IsoTellsCardSaid : Prop := Claim7.holds Tryd.pinned (.plain (OpenSpec.ofChange isoTellsSpec)) isoTellsCard

/-- THE TIED CARD OF 'twistlocklaw03.IsoMisses'. -/
def isoMissesCard : Claim7 := { stood := { row := isoMissesRow, standIns := [], harness := (true, "935e74c36ee97e11907b9246a66822b76eaacac179b2aab417506f1982cc0246"), looks := false }, kinds := [], alts := [], laidByText := true, laidKinds := [.data], laidTests := true, laidLooks := .later }
def IsoMissesCardSaid : Prop := Claim7.holds Tryd.pinned (.plain (OpenSpec.ofChange isoMissesSpec)) isoMissesCard

/-- THE TIED CARD OF 'twistlocklaw03.IsoBack'. -/
def isoBackCard : Claim7 := { stood := { row := isoBackRow, standIns := [], harness := (true, "935e74c36ee97e11907b9246a66822b76eaacac179b2aab417506f1982cc0246"), looks := false }, kinds := [], alts := [], laidByText := true, laidKinds := [.data], laidTests := true, laidLooks := .later }
def IsoBackCardSaid : Prop := Claim7.holds Tryd.pinned (.plain (OpenSpec.ofChange isoBackSpec)) isoBackCard

/-- THE TIED CARD OF 'twistlocklaw03.IsoSwaps'. -/
def isoSwapsCard : Claim7 := { stood := { row := isoSwapsRow, standIns := [], harness := (true, "935e74c36ee97e11907b9246a66822b76eaacac179b2aab417506f1982cc0246"), looks := false }, kinds := [], alts := [], laidByText := true, laidKinds := [.data], laidTests := true, laidLooks := .later }
def IsoSwapsCardSaid : Prop := Claim7.holds Tryd.pinned (.plain (OpenSpec.ofChange isoSwapsSpec)) isoSwapsCard

/-- THE TIED CARD OF 'twistlocklaw03.IsoCodes'. -/
def isoCodesCard : Claim7 := { stood := { row := isoCodesRow, standIns := [], harness := (true, "935e74c36ee97e11907b9246a66822b76eaacac179b2aab417506f1982cc0246"), looks := false }, kinds := [], alts := [], laidByText := true, laidKinds := [.data], laidTests := true, laidLooks := .later }
def IsoCodesCardSaid : Prop := Claim7.holds Tryd.pinned (.plain (OpenSpec.ofChange isoCodesSpec)) isoCodesCard

/-- THE TIED CARD OF 'twistlocklaw03.IsoKinds'. -/
def isoKindsCard : Claim7 := { stood := { row := isoKindsRow, standIns := [], harness := (true, "935e74c36ee97e11907b9246a66822b76eaacac179b2aab417506f1982cc0246"), looks := false }, kinds := [], alts := [], laidByText := true, laidKinds := [.data], laidTests := true, laidLooks := .later }
def IsoKindsCardSaid : Prop := Claim7.holds Tryd.pinned (.plain (OpenSpec.ofChange isoKindsSpec)) isoKindsCard

/-- THE TIED CARD OF 'twistlocklaw03.IsoSmall'. -/
def isoSmallCard : Claim7 := { stood := { row := isoSmallRow, standIns := [], harness := (true, "935e74c36ee97e11907b9246a66822b76eaacac179b2aab417506f1982cc0246"), looks := false }, kinds := [], alts := [], laidByText := true, laidKinds := [.data], laidTests := true, laidLooks := .later }
def IsoSmallCardSaid : Prop := Claim7.holds Tryd.pinned (.plain (OpenSpec.ofChange isoSmallSpec)) isoSmallCard

/-- THE SECOND FORM's CARD OF 'twistlocklaw03.IsoTells'. -/
def isoTellsUptoCard : Claim7 := { stood := { row := isoTellsUptoRow, standIns := [], harness := (true, "935e74c36ee97e11907b9246a66822b76eaacac179b2aab417506f1982cc0246"), looks := false }, kinds := [], alts := [], laidByText := true, laidKinds := [.data], laidTests := true, laidLooks := .later }
def IsoTellsUptoCardSaid : Prop := Claim7.holds Tryd.pinned (.plain (OpenSpec.upto isoTellsSpec)) isoTellsUptoCard

/-- THE SECOND FORM's CARD OF 'twistlocklaw03.IsoMisses'. -/
def isoMissesUptoCard : Claim7 := { stood := { row := isoMissesUptoRow, standIns := [], harness := (true, "935e74c36ee97e11907b9246a66822b76eaacac179b2aab417506f1982cc0246"), looks := false }, kinds := [], alts := [], laidByText := true, laidKinds := [.data], laidTests := true, laidLooks := .later }
def IsoMissesUptoCardSaid : Prop := Claim7.holds Tryd.pinned (.plain (OpenSpec.upto isoMissesSpec)) isoMissesUptoCard

/-- THE SECOND FORM's CARD OF 'twistlocklaw03.IsoBack'. -/
def isoBackUptoCard : Claim7 := { stood := { row := isoBackUptoRow, standIns := [], harness := (true, "935e74c36ee97e11907b9246a66822b76eaacac179b2aab417506f1982cc0246"), looks := false }, kinds := [], alts := [], laidByText := true, laidKinds := [.data], laidTests := true, laidLooks := .later }
def IsoBackUptoCardSaid : Prop := Claim7.holds Tryd.pinned (.plain (OpenSpec.upto isoBackSpec)) isoBackUptoCard

/-- THE SECOND FORM's CARD OF 'twistlocklaw03.IsoSwaps'. -/
def isoSwapsUptoCard : Claim7 := { stood := { row := isoSwapsUptoRow, standIns := [], harness := (true, "935e74c36ee97e11907b9246a66822b76eaacac179b2aab417506f1982cc0246"), looks := false }, kinds := [], alts := [], laidByText := true, laidKinds := [.data], laidTests := true, laidLooks := .later }
def IsoSwapsUptoCardSaid : Prop := Claim7.holds Tryd.pinned (.plain (OpenSpec.upto isoSwapsSpec)) isoSwapsUptoCard

/-- THE SECOND FORM's CARD OF 'twistlocklaw03.IsoCodes'. -/
def isoCodesUptoCard : Claim7 := { stood := { row := isoCodesUptoRow, standIns := [], harness := (true, "935e74c36ee97e11907b9246a66822b76eaacac179b2aab417506f1982cc0246"), looks := false }, kinds := [], alts := [], laidByText := true, laidKinds := [.data], laidTests := true, laidLooks := .later }
def IsoCodesUptoCardSaid : Prop := Claim7.holds Tryd.pinned (.plain (OpenSpec.upto isoCodesSpec)) isoCodesUptoCard

/-- THE SECOND FORM's CARD OF 'twistlocklaw03.IsoKinds'. -/
def isoKindsUptoCard : Claim7 := { stood := { row := isoKindsUptoRow, standIns := [], harness := (true, "935e74c36ee97e11907b9246a66822b76eaacac179b2aab417506f1982cc0246"), looks := false }, kinds := [], alts := [], laidByText := true, laidKinds := [.data], laidTests := true, laidLooks := .later }
def IsoKindsUptoCardSaid : Prop := Claim7.holds Tryd.pinned (.plain (OpenSpec.upto isoKindsSpec)) isoKindsUptoCard

/-- THE SECOND FORM's CARD OF 'twistlocklaw03.IsoSmall'. -/
def isoSmallUptoCard : Claim7 := { stood := { row := isoSmallUptoRow, standIns := [], harness := (true, "935e74c36ee97e11907b9246a66822b76eaacac179b2aab417506f1982cc0246"), looks := false }, kinds := [], alts := [], laidByText := true, laidKinds := [.data], laidTests := true, laidLooks := .later }
def IsoSmallUptoCardSaid : Prop := Claim7.holds Tryd.pinned (.plain (OpenSpec.upto isoSmallSpec)) isoSmallUptoCard
end Rows
end Go.Proofs.YtedpadjlkddgjaaDoor
