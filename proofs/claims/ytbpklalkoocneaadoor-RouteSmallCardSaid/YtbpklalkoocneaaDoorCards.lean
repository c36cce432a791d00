/-
  DERIVED. GIVEN WITH THE SEED: THE CARDS: each row of YtbpklalkoocneaaDoorRows.lean that lists a variable, with what it lists TIED to the program's text (the seventh form; the later family's looks); each row that meets fmt, with fmt's text TOLD by the authors' own Lean function (tested against real Go, not proved from fmt's source: count such statements apart). THE CARD IS WHAT COUNTS. Prove the row's statement (the work); the ties are given (YtbpklalkoocneaaDoorTie.lean); close each card by the builder's one call (the guide's Derived/Test/ToyasCard.lean, 'card_holds'). Laid BY PROGRAM, IN A SANDBOX (cutbox-door.mjs). By AI agents, Wed Nov 11 2026. No macro, syntax, notation, axiom, sorry.
-/
import Derived.Test.YtbpklalkoocneaaDoorRows
import GoSem.ClaimSeven
namespace Go.Proofs.YtbpklalkoocneaaDoor
namespace Rows

/-- THE TIED CARD OF 'twistlocklaw20.RouteDelays'. -/
def routeDelaysCard : Claim7 := { stood := { row := routeDelaysRow, standIns := [], harness := (true, "06c20f0e090e679b7e6d34c7ee3093e835e61ea04cb5fb45170a6f2ce3301e77"), looks := true }, kinds := [], alts := [], laidByText := true, laidKinds := [.data, .data, .data, .data, .sentinel, .sentinel, .pinned], laidTests := true, laidLooks := .later }
def RouteDelaysCardSaid : Prop := Claim7.holds Tryd.pinned (.plain (OpenSpec.ofChange routeDelaysSpec)) routeDelaysCard

/-- THE TIED CARD OF 'twistlocklaw20.RouteTexts'. -/
def routeTextsCard : Claim7 := { stood := { row := routeTextsRow, standIns := [], harness := (true, "06c20f0e090e679b7e6d34c7ee3093e835e61ea04cb5fb45170a6f2ce3301e77"), looks := true }, kinds := [], alts := [], laidByText := true, laidKinds := [.data, .data, .data, .data, .sentinel, .sentinel, .pinned], laidTests := true, laidLooks := .later }
def RouteTextsCardSaid : Prop := Claim7.holds Tryd.pinned (.plain (OpenSpec.ofChange routeTextsSpec)) routeTextsCard

/-- THE TIED CARD OF 'twistlocklaw20.RouteBack'. -/
def routeBackCard : Claim7 := { stood := { row := routeBackRow, standIns := [], harness := (true, "06c20f0e090e679b7e6d34c7ee3093e835e61ea04cb5fb45170a6f2ce3301e77"), looks := true }, kinds := [], alts := [], laidByText := true, laidKinds := [.data, .data, .data, .data, .sentinel, .sentinel, .pinned], laidTests := true, laidLooks := .later }
def RouteBackCardSaid : Prop := Claim7.holds Tryd.pinned (.plain (OpenSpec.ofChange routeBackSpec)) routeBackCard

/-- THE TIED CARD OF 'twistlocklaw20.RouteMinutes'. -/
def routeMinutesCard : Claim7 := { stood := { row := routeMinutesRow, standIns := [], harness := (true, "06c20f0e090e679b7e6d34c7ee3093e835e61ea04cb5fb45170a6f2ce3301e77"), looks := true }, kinds := [], alts := [], laidByText := true, laidKinds := [.data, .data, .data, .data, .sentinel, .sentinel, .pinned], laidTests := true, laidLooks := .later }
def RouteMinutesCardSaid : Prop := Claim7.holds Tryd.pinned (.plain (OpenSpec.ofChange routeMinutesSpec)) routeMinutesCard

/-- THE TIED CARD OF 'twistlocklaw20.RouteWhere'. -/
def routeWhereCard : Claim7 := { stood := { row := routeWhereRow, standIns := [], harness := (true, "06c20f0e090e679b7e6d34c7ee3093e835e61ea04cb5fb45170a6f2ce3301e77"), looks := true }, kinds := [], alts := [], laidByText := true, laidKinds := [.data, .data, .data, .data, .sentinel, .sentinel, .pinned], laidTests := true, laidLooks := .later }
def RouteWhereCardSaid : Prop := Claim7.holds Tryd.pinned (.plain (OpenSpec.ofChange routeWhereSpec)) routeWhereCard

/-- THE TIED CARD OF 'twistlocklaw20.RouteLimit'. -/
def routeLimitCard : Claim7 := { stood := { row := routeLimitRow, standIns := [], harness := (true, "06c20f0e090e679b7e6d34c7ee3093e835e61ea04cb5fb45170a6f2ce3301e77"), looks := true }, kinds := [], alts := [], laidByText := true, laidKinds := [.data, .data, .data, .data, .sentinel, .sentinel, .pinned], laidTests := true, laidLooks := .later }
def RouteLimitCardSaid : Prop := Claim7.holds Tryd.pinned (.plain (OpenSpec.ofChange routeLimitSpec)) routeLimitCard

/-- THE TIED CARD OF 'twistlocklaw20.RouteDelay'. -/
def routeDelayCard : Claim7 := { stood := { row := routeDelayRow, standIns := [], harness := (true, "06c20f0e090e679b7e6d34c7ee3093e835e61ea04cb5fb45170a6f2ce3301e77"), looks := true }, kinds := [], alts := [], laidByText := true, laidKinds := [.data, .data, .data, .data, .sentinel, .sentinel, .pinned], laidTests := true, laidLooks := .later }
def RouteDelayCardSaid : Prop := Claim7.holds Tryd.pinned (.plain (OpenSpec.ofChange routeDelaySpec)) routeDelayCard

/-- THE TIED CARD OF 'twistlocklaw20.RouteWrong'. -/
def routeWrongCard : Claim7 := { stood := { row := routeWrongRow, standIns := [], harness := (true, "06c20f0e090e679b7e6d34c7ee3093e835e61ea04cb5fb45170a6f2ce3301e77"), looks := true }, kinds := [], alts := [], laidByText := true, laidKinds := [.data, .data, .data, .data, .sentinel, .sentinel, .pinned], laidTests := true, laidLooks := .later }
def RouteWrongCardSaid : Prop := Claim7.holds Tryd.pinned (.plain (OpenSpec.ofChange routeWrongSpec)) routeWrongCard

/-- THE TIED CARD OF 'twistlocklaw20.RouteTells'. -/
def routeTellsCard : Claim7 := { stood := { row := routeTellsRow, standIns := [], harness := (true, "06c20f0e090e679b7e6d34c7ee3093e835e61ea04cb5fb45170a6f2ce3301e77"), looks := true }, kinds := [], alts := [], laidByText := true, laidKinds := [.data, .data, .data, .data, .sentinel, .sentinel, .pinned], laidTests := true, laidLooks := .later }
def RouteTellsCardSaid : Prop := Claim7.holds Tryd.pinned (.plain (OpenSpec.ofChange routeTellsSpec)) routeTellsCard

/-- THE TIED CARD OF 'twistlocklaw20.RouteSmall'. -/
def routeSmallCard : Claim7 := { stood := { row := routeSmallRow, standIns := [], harness := (true, "06c20f0e090e679b7e6d34c7ee3093e835e61ea04cb5fb45170a6f2ce3301e77"), looks := true }, kinds := [], alts := [], laidByText := true, laidKinds := [.data, .data, .data, .data, .sentinel, .sentinel, .pinned], laidTests := true, laidLooks := .later }
def RouteSmallCardSaid : Prop := Claim7.holds Tryd.pinned (.plain (OpenSpec.ofChange routeSmallSpec)) routeSmallCard

/-- THE TIED CARD OF 'twistlocklaw20.RoutePorts'. -/
def routePortsCard : Claim7 := { stood := { row := routePortsRow, standIns := [], harness := (true, "06c20f0e090e679b7e6d34c7ee3093e835e61ea04cb5fb45170a6f2ce3301e77"), looks := true }, kinds := [], alts := [], laidByText := true, laidKinds := [.data, .data, .data, .data, .sentinel, .sentinel, .pinned], laidTests := true, laidLooks := .later }
def RoutePortsCardSaid : Prop := Claim7.holds Tryd.pinned (.plain (OpenSpec.ofChange routePortsSpec)) routePortsCard

/-- THE SECOND FORM's CARD OF 'twistlocklaw20.RouteDelays'. -/
def routeDelaysUptoCard : Claim7 := { stood := { row := routeDelaysUptoRow, standIns := [], harness := (true, "06c20f0e090e679b7e6d34c7ee3093e835e61ea04cb5fb45170a6f2ce3301e77"), looks := true }, kinds := [], alts := [], laidByText := true, laidKinds := [.data, .data, .data, .data, .sentinel, .sentinel, .pinned], laidTests := true, laidLooks := .later }
def RouteDelaysUptoCardSaid : Prop := Claim7.holds Tryd.pinned (.plain (OpenSpec.upto routeDelaysSpec)) routeDelaysUptoCard

/-- THE SECOND FORM's CARD OF 'twistlocklaw20.RouteTexts'. -/
def routeTextsUptoCard : Claim7 := { stood := { row := routeTextsUptoRow, standIns := [], harness := (true, "06c20f0e090e679b7e6d34c7ee3093e835e61ea04cb5fb45170a6f2ce3301e77"), looks := true }, kinds := [], alts := [], laidByText := true, laidKinds := [.data, .data, .data, .data, .sentinel, .sentinel, .pinned], laidTests := true, laidLooks := .later }
def RouteTextsUptoCardSaid : Prop := Claim7.holds Tryd.pinned (.plain (OpenSpec.upto routeTextsSpec)) routeTextsUptoCard

/-- THE SECOND FORM's CARD OF 'twistlocklaw20.RouteBack'. -/
def routeBackUptoCard : Claim7 := { stood := { row := routeBackUptoRow, standIns := [], harness := (true, "06c20f0e090e679b7e6d34c7ee3093e835e61ea04cb5fb45170a6f2ce3301e77"), looks := true }, kinds := [], alts := [], laidByText := true, laidKinds := [.data, .data, .data, .data, .sentinel, .sentinel, .pinned], laidTests := true, laidLooks := .later }
def RouteBackUptoCardSaid : Prop := Claim7.holds Tryd.pinned (.plain (OpenSpec.upto routeBackSpec)) routeBackUptoCard

/-- THE SECOND FORM's CARD OF 'twistlocklaw20.RouteMinutes'. -/
def routeMinutesUptoCard : Claim7 := { stood := { row := routeMinutesUptoRow, standIns := [], harness := (true, "06c20f0e090e679b7e6d34c7ee3093e835e61ea04cb5fb45170a6f2ce3301e77"), looks := true }, kinds := [], alts := [], laidByText := true, laidKinds := [.data, .data, .data, .data, .sentinel, .sentinel, .pinned], laidTests := true, laidLooks := .later }
def RouteMinutesUptoCardSaid : Prop := Claim7.holds Tryd.pinned (.plain (OpenSpec.upto routeMinutesSpec)) routeMinutesUptoCard

/-- THE SECOND FORM's CARD OF 'twistlocklaw20.RouteWhere'. -/
def routeWhereUptoCard : Claim7 := { stood := { row := routeWhereUptoRow, standIns := [], harness := (true, "06c20f0e090e679b7e6d34c7ee3093e835e61ea04cb5fb45170a6f2ce3301e77"), looks := true }, kinds := [], alts := [], laidByText := true, laidKinds := [.data, .data, .data, .data, .sentinel, .sentinel, .pinned], laidTests := true, laidLooks := .later }
def RouteWhereUptoCardSaid : Prop := Claim7.holds Tryd.pinned (.plain (OpenSpec.upto routeWhereSpec)) routeWhereUptoCard

/-- THE SECOND FORM's CARD OF 'twistlocklaw20.RouteLimit'. -/
def routeLimitUptoCard : Claim7 := { stood := { row := routeLimitUptoRow, standIns := [], harness := (true, "06c20f0e090e679b7e6d34c7ee3093e835e61ea04cb5fb45170a6f2ce3301e77"), looks := true }, kinds := [], alts := [], laidByText := true, laidKinds := [.data, .data, .data, .data, .sentinel, .sentinel, .pinned], laidTests := true, laidLooks := .later }
def RouteLimitUptoCardSaid : Prop := Claim7.holds Tryd.pinned (.plain (OpenSpec.upto routeLimitSpec)) routeLimitUptoCard

/-- THE SECOND FORM's CARD OF 'twistlocklaw20.RouteDelay'. -/
def routeDelayUptoCard : Claim7 := { stood := { row := routeDelayUptoRow, standIns := [], harness := (true, "06c20f0e090e679b7e6d34c7ee3093e835e61ea04cb5fb45170a6f2ce3301e77"), looks := true }, kinds := [], alts := [], laidByText := true, laidKinds := [.data, .data, .data, .data, .sentinel, .sentinel, .pinned], laidTests := true, laidLooks := .later }
def RouteDelayUptoCardSaid : Prop := Claim7.holds Tryd.pinned (.plain (OpenSpec.upto routeDelaySpec)) routeDelayUptoCard

/-- THE SECOND FORM's CARD OF 'twistlocklaw20.RouteWrong'. -/
def routeWrongUptoCard : Claim7 := { stood := { row := routeWrongUptoRow, standIns := [], harness := (true, "06c20f0e090e679b7e6d34c7ee3093e835e61ea04cb5fb45170a6f2ce3301e77"), looks := true }, kinds := [], alts := [], laidByText := true, laidKinds := [.data, .data, .data, .data, .sentinel, .sentinel, .pinned], laidTests := true, laidLooks := .later }
def RouteWrongUptoCardSaid : Prop := Claim7.holds Tryd.pinned (.plain (OpenSpec.upto routeWrongSpec)) routeWrongUptoCard

/-- THE SECOND FORM's CARD OF 'twistlocklaw20.RouteTells'. -/
def routeTellsUptoCard : Claim7 := { stood := { row := routeTellsUptoRow, standIns := [], harness := (true, "06c20f0e090e679b7e6d34c7ee3093e835e61ea04cb5fb45170a6f2ce3301e77"), looks := true }, kinds := [], alts := [], laidByText := true, laidKinds := [.data, .data, .data, .data, .sentinel, .sentinel, .pinned], laidTests := true, laidLooks := .later }
def RouteTellsUptoCardSaid : Prop := Claim7.holds Tryd.pinned (.plain (OpenSpec.upto routeTellsSpec)) routeTellsUptoCard

/-- THE SECOND FORM's CARD OF 'twistlocklaw20.RouteSmall'. -/
def routeSmallUptoCard : Claim7 := { stood := { row := routeSmallUptoRow, standIns := [], harness := (true, "06c20f0e090e679b7e6d34c7ee3093e835e61ea04cb5fb45170a6f2ce3301e77"), looks := true }, kinds := [], alts := [], laidByText := true, laidKinds := [.data, .data, .data, .data, .sentinel, .sentinel, .pinned], laidTests := true, laidLooks := .later }
def RouteSmallUptoCardSaid : Prop := Claim7.holds Tryd.pinned (.plain (OpenSpec.upto routeSmallSpec)) routeSmallUptoCard

/-- THE SECOND FORM's CARD OF 'twistlocklaw20.RoutePorts'. -/
def routePortsUptoCard : Claim7 := { stood := { row := routePortsUptoRow, standIns := [], harness := (true, "06c20f0e090e679b7e6d34c7ee3093e835e61ea04cb5fb45170a6f2ce3301e77"), looks := true }, kinds := [], alts := [], laidByText := true, laidKinds := [.data, .data, .data, .data, .sentinel, .sentinel, .pinned], laidTests := true, laidLooks := .later }
def RoutePortsUptoCardSaid : Prop := Claim7.holds Tryd.pinned (.plain (OpenSpec.upto routePortsSpec)) routePortsUptoCard
end Rows
end Go.Proofs.YtbpklalkoocneaaDoor
