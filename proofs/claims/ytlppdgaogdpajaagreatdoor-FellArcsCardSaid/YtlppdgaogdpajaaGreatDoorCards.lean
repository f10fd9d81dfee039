/-
  DERIVED. GIVEN WITH THE SEED: THE CARDS: each row of YtlppdgaogdpajaaGreatDoorRows.lean that lists a variable, with what it lists TIED to the program's text (the seventh form; the later family's looks); each row that meets fmt, with fmt's text TOLD by the authors' own Lean function (tested against real Go, not proved from fmt's source: count such statements apart). THE CARD IS WHAT COUNTS. Prove the row's statement (the work); the ties are given (YtlppdgaogdpajaaGreatDoorTie.lean); close each card by the builder's one call (the guide's Derived/Test/ToyasCard.lean, 'card_holds'). Laid BY PROGRAM, IN A SANDBOX (cutbox-door.mjs). By AI agents, Wed Nov 11 2026. No macro, syntax, notation, axiom, sorry.
-/
import Derived.Test.YtlppdgaogdpajaaGreatDoorRows
import GoSem.ClaimSeven
namespace Go.Proofs.YtlppdgaogdpajaaGreatDoor
namespace Rows

/-- THE TIED CARD OF 'couchantlaw05.FellChecks'. -/
def fellChecksCard : Claim7 := { stood := { row := fellChecksRow, standIns := [], harness := (true, "7cdab54cf9c46f67db45a187f078fa02df54bbc51bd4e6ce1f19ed612abdd6fb"), looks := true }, kinds := [], alts := [], laidByText := true, laidKinds := [.data, .data, .data, .data, .sentinel, .sentinel, .pinned], laidTests := true, laidLooks := .later }
def FellChecksCardSaid : Prop := Claim7.holds Tryz.pinned (.plain (OpenSpec.ofChange fellChecksSpec)) fellChecksCard

/-- THE TIED CARD OF 'couchantlaw05.FellReports'. -/
def fellReportsCard : Claim7 := { stood := { row := fellReportsRow, standIns := [], harness := (true, "7cdab54cf9c46f67db45a187f078fa02df54bbc51bd4e6ce1f19ed612abdd6fb"), looks := true }, kinds := [], alts := [], laidByText := true, laidKinds := [.data, .data, .data, .data, .sentinel, .sentinel, .pinned], laidTests := true, laidLooks := .later }
def FellReportsCardSaid : Prop := Claim7.holds Tryz.pinned (.plain (OpenSpec.ofChange fellReportsSpec)) fellReportsCard

/-- THE TIED CARD OF 'couchantlaw05.FellNarrows'. -/
def fellNarrowsCard : Claim7 := { stood := { row := fellNarrowsRow, standIns := [], harness := (true, "7cdab54cf9c46f67db45a187f078fa02df54bbc51bd4e6ce1f19ed612abdd6fb"), looks := true }, kinds := [], alts := [], laidByText := true, laidKinds := [.data, .data, .data, .data, .sentinel, .sentinel, .pinned], laidTests := true, laidLooks := .later }
def FellNarrowsCardSaid : Prop := Claim7.holds Tryz.pinned (.plain (OpenSpec.ofChange fellNarrowsSpec)) fellNarrowsCard

/-- THE TIED CARD OF 'couchantlaw05.FellOrder'. -/
def fellOrderCard : Claim7 := { stood := { row := fellOrderRow, standIns := [], harness := (true, "7cdab54cf9c46f67db45a187f078fa02df54bbc51bd4e6ce1f19ed612abdd6fb"), looks := true }, kinds := [], alts := [], laidByText := true, laidKinds := [.data, .data, .data, .data, .sentinel, .sentinel, .pinned], laidTests := true, laidLooks := .later }
def FellOrderCardSaid : Prop := Claim7.holds Tryz.pinned (.plain (OpenSpec.ofChange fellOrderSpec)) fellOrderCard

/-- THE TIED CARD OF 'couchantlaw05.FellMemory'. -/
def fellMemoryCard : Claim7 := { stood := { row := fellMemoryRow, standIns := [], harness := (true, "7cdab54cf9c46f67db45a187f078fa02df54bbc51bd4e6ce1f19ed612abdd6fb"), looks := true }, kinds := [], alts := [], laidByText := true, laidKinds := [.data, .data, .data, .data, .sentinel, .sentinel, .pinned], laidTests := true, laidLooks := .later }
def FellMemoryCardSaid : Prop := Claim7.holds Tryz.pinned (.plain (OpenSpec.ofChange fellMemorySpec)) fellMemoryCard

/-- THE TIED CARD OF 'couchantlaw05.FellTexts'. -/
def fellTextsCard : Claim7 := { stood := { row := fellTextsRow, standIns := [], harness := (true, "7cdab54cf9c46f67db45a187f078fa02df54bbc51bd4e6ce1f19ed612abdd6fb"), looks := true }, kinds := [], alts := [], laidByText := true, laidKinds := [.data, .data, .data, .data, .sentinel, .sentinel, .pinned], laidTests := true, laidLooks := .later }
def FellTextsCardSaid : Prop := Claim7.holds Tryz.pinned (.plain (OpenSpec.ofChange fellTextsSpec)) fellTextsCard

/-- THE TIED CARD OF 'couchantlaw05.FellNets'. -/
def fellNetsCard : Claim7 := { stood := { row := fellNetsRow, standIns := [], harness := (true, "7cdab54cf9c46f67db45a187f078fa02df54bbc51bd4e6ce1f19ed612abdd6fb"), looks := true }, kinds := [], alts := [], laidByText := true, laidKinds := [.data, .data, .data, .data, .sentinel, .sentinel, .pinned], laidTests := true, laidLooks := .later }
def FellNetsCardSaid : Prop := Claim7.holds Tryz.pinned (.plain (OpenSpec.ofChange fellNetsSpec)) fellNetsCard

/-- THE TIED CARD OF 'couchantlaw05.FellWays'. -/
def fellWaysCard : Claim7 := { stood := { row := fellWaysRow, standIns := [], harness := (true, "7cdab54cf9c46f67db45a187f078fa02df54bbc51bd4e6ce1f19ed612abdd6fb"), looks := true }, kinds := [], alts := [], laidByText := true, laidKinds := [.data, .data, .data, .data, .sentinel, .sentinel, .pinned], laidTests := true, laidLooks := .later }
def FellWaysCardSaid : Prop := Claim7.holds Tryz.pinned (.plain (OpenSpec.ofChange fellWaysSpec)) fellWaysCard

/-- THE TIED CARD OF 'couchantlaw05.FellArcs'. -/
def fellArcsCard : Claim7 := { stood := { row := fellArcsRow, standIns := [], harness := (true, "7cdab54cf9c46f67db45a187f078fa02df54bbc51bd4e6ce1f19ed612abdd6fb"), looks := true }, kinds := [], alts := [], laidByText := true, laidKinds := [.data, .data, .data, .data, .sentinel, .sentinel, .pinned], laidTests := true, laidLooks := .later }
def FellArcsCardSaid : Prop := Claim7.holds Tryz.pinned (.plain (OpenSpec.ofChange fellArcsSpec)) fellArcsCard

/-- THE TIED CARD OF 'couchantlaw05.FellSays'. -/
def fellSaysCard : Claim7 := { stood := { row := fellSaysRow, standIns := [], harness := (true, "7cdab54cf9c46f67db45a187f078fa02df54bbc51bd4e6ce1f19ed612abdd6fb"), looks := true }, kinds := [], alts := [], laidByText := true, laidKinds := [.data, .data, .data, .data, .sentinel, .sentinel, .pinned], laidTests := true, laidLooks := .later }
def FellSaysCardSaid : Prop := Claim7.holds Tryz.pinned (.plain (OpenSpec.ofChange fellSaysSpec)) fellSaysCard

/-- THE TIED CARD OF 'couchantlaw05.FellPlaces'. -/
def fellPlacesCard : Claim7 := { stood := { row := fellPlacesRow, standIns := [], harness := (true, "7cdab54cf9c46f67db45a187f078fa02df54bbc51bd4e6ce1f19ed612abdd6fb"), looks := true }, kinds := [], alts := [], laidByText := true, laidKinds := [.data, .data, .data, .data, .sentinel, .sentinel, .pinned], laidTests := true, laidLooks := .later }
def FellPlacesCardSaid : Prop := Claim7.holds Tryz.pinned (.plain (OpenSpec.ofChange fellPlacesSpec)) fellPlacesCard

/-- THE TIED CARD OF 'couchantlaw05.FellNodes'. -/
def fellNodesCard : Claim7 := { stood := { row := fellNodesRow, standIns := [], harness := (true, "7cdab54cf9c46f67db45a187f078fa02df54bbc51bd4e6ce1f19ed612abdd6fb"), looks := true }, kinds := [], alts := [], laidByText := true, laidKinds := [.data, .data, .data, .data, .sentinel, .sentinel, .pinned], laidTests := true, laidLooks := .later }
def FellNodesCardSaid : Prop := Claim7.holds Tryz.pinned (.plain (OpenSpec.ofChange fellNodesSpec)) fellNodesCard

/-- THE TIED CARD OF 'couchantlaw05.FellCounting'. -/
def fellCountingCard : Claim7 := { stood := { row := fellCountingRow, standIns := [], harness := (true, "7cdab54cf9c46f67db45a187f078fa02df54bbc51bd4e6ce1f19ed612abdd6fb"), looks := true }, kinds := [], alts := [], laidByText := true, laidKinds := [.data, .data, .data, .data, .sentinel, .sentinel, .pinned], laidTests := true, laidLooks := .later }
def FellCountingCardSaid : Prop := Claim7.holds Tryz.pinned (.plain (OpenSpec.ofChange fellCountingSpec)) fellCountingCard

/-- THE TIED CARD OF 'couchantlaw05.FellPresent'. -/
def fellPresentCard : Claim7 := { stood := { row := fellPresentRow, standIns := [], harness := (true, "7cdab54cf9c46f67db45a187f078fa02df54bbc51bd4e6ce1f19ed612abdd6fb"), looks := true }, kinds := [], alts := [], laidByText := true, laidKinds := [.data, .data, .data, .data, .sentinel, .sentinel, .pinned], laidTests := true, laidLooks := .later }
def FellPresentCardSaid : Prop := Claim7.holds Tryz.pinned (.plain (OpenSpec.ofChange fellPresentSpec)) fellPresentCard

/-- THE TIED CARD OF 'couchantlaw05.FellFlows'. -/
def fellFlowsCard : Claim7 := { stood := { row := fellFlowsRow, standIns := [], harness := (true, "7cdab54cf9c46f67db45a187f078fa02df54bbc51bd4e6ce1f19ed612abdd6fb"), looks := true }, kinds := [], alts := [], laidByText := true, laidKinds := [.data, .data, .data, .data, .sentinel, .sentinel, .pinned], laidTests := true, laidLooks := .later }
def FellFlowsCardSaid : Prop := Claim7.holds Tryz.pinned (.plain (OpenSpec.ofChange fellFlowsSpec)) fellFlowsCard

/-- THE TIED CARD OF 'couchantlaw05.FellNumbers'. -/
def fellNumbersCard : Claim7 := { stood := { row := fellNumbersRow, standIns := [], harness := (true, "7cdab54cf9c46f67db45a187f078fa02df54bbc51bd4e6ce1f19ed612abdd6fb"), looks := true }, kinds := [], alts := [], laidByText := true, laidKinds := [.data, .data, .data, .data, .sentinel, .sentinel, .pinned], laidTests := true, laidLooks := .later }
def FellNumbersCardSaid : Prop := Claim7.holds Tryz.pinned (.plain (OpenSpec.ofChange fellNumbersSpec)) fellNumbersCard

/-- THE SECOND FORM's CARD OF 'couchantlaw05.FellChecks'. -/
def fellChecksUptoCard : Claim7 := { stood := { row := fellChecksUptoRow, standIns := [], harness := (true, "7cdab54cf9c46f67db45a187f078fa02df54bbc51bd4e6ce1f19ed612abdd6fb"), looks := true }, kinds := [], alts := [], laidByText := true, laidKinds := [.data, .data, .data, .data, .sentinel, .sentinel, .pinned], laidTests := true, laidLooks := .later }
def FellChecksUptoCardSaid : Prop := Claim7.holds Tryz.pinned (.plain (OpenSpec.upto fellChecksSpec)) fellChecksUptoCard

/-- THE SECOND FORM's CARD OF 'couchantlaw05.FellReports'. -/
def fellReportsUptoCard : Claim7 := { stood := { row := fellReportsUptoRow, standIns := [], harness := (true, "7cdab54cf9c46f67db45a187f078fa02df54bbc51bd4e6ce1f19ed612abdd6fb"), looks := true }, kinds := [], alts := [], laidByText := true, laidKinds := [.data, .data, .data, .data, .sentinel, .sentinel, .pinned], laidTests := true, laidLooks := .later }
def FellReportsUptoCardSaid : Prop := Claim7.holds Tryz.pinned (.plain (OpenSpec.upto fellReportsSpec)) fellReportsUptoCard

/-- THE SECOND FORM's CARD OF 'couchantlaw05.FellNarrows'. -/
def fellNarrowsUptoCard : Claim7 := { stood := { row := fellNarrowsUptoRow, standIns := [], harness := (true, "7cdab54cf9c46f67db45a187f078fa02df54bbc51bd4e6ce1f19ed612abdd6fb"), looks := true }, kinds := [], alts := [], laidByText := true, laidKinds := [.data, .data, .data, .data, .sentinel, .sentinel, .pinned], laidTests := true, laidLooks := .later }
def FellNarrowsUptoCardSaid : Prop := Claim7.holds Tryz.pinned (.plain (OpenSpec.upto fellNarrowsSpec)) fellNarrowsUptoCard

/-- THE SECOND FORM's CARD OF 'couchantlaw05.FellOrder'. -/
def fellOrderUptoCard : Claim7 := { stood := { row := fellOrderUptoRow, standIns := [], harness := (true, "7cdab54cf9c46f67db45a187f078fa02df54bbc51bd4e6ce1f19ed612abdd6fb"), looks := true }, kinds := [], alts := [], laidByText := true, laidKinds := [.data, .data, .data, .data, .sentinel, .sentinel, .pinned], laidTests := true, laidLooks := .later }
def FellOrderUptoCardSaid : Prop := Claim7.holds Tryz.pinned (.plain (OpenSpec.upto fellOrderSpec)) fellOrderUptoCard

/-- THE SECOND FORM's CARD OF 'couchantlaw05.FellMemory'. -/
def fellMemoryUptoCard : Claim7 := { stood := { row := fellMemoryUptoRow, standIns := [], harness := (true, "7cdab54cf9c46f67db45a187f078fa02df54bbc51bd4e6ce1f19ed612abdd6fb"), looks := true }, kinds := [], alts := [], laidByText := true, laidKinds := [.data, .data, .data, .data, .sentinel, .sentinel, .pinned], laidTests := true, laidLooks := .later }
def FellMemoryUptoCardSaid : Prop := Claim7.holds Tryz.pinned (.plain (OpenSpec.upto fellMemorySpec)) fellMemoryUptoCard

/-- THE SECOND FORM's CARD OF 'couchantlaw05.FellTexts'. -/
def fellTextsUptoCard : Claim7 := { stood := { row := fellTextsUptoRow, standIns := [], harness := (true, "7cdab54cf9c46f67db45a187f078fa02df54bbc51bd4e6ce1f19ed612abdd6fb"), looks := true }, kinds := [], alts := [], laidByText := true, laidKinds := [.data, .data, .data, .data, .sentinel, .sentinel, .pinned], laidTests := true, laidLooks := .later }
def FellTextsUptoCardSaid : Prop := Claim7.holds Tryz.pinned (.plain (OpenSpec.upto fellTextsSpec)) fellTextsUptoCard

/-- THE SECOND FORM's CARD OF 'couchantlaw05.FellNets'. -/
def fellNetsUptoCard : Claim7 := { stood := { row := fellNetsUptoRow, standIns := [], harness := (true, "7cdab54cf9c46f67db45a187f078fa02df54bbc51bd4e6ce1f19ed612abdd6fb"), looks := true }, kinds := [], alts := [], laidByText := true, laidKinds := [.data, .data, .data, .data, .sentinel, .sentinel, .pinned], laidTests := true, laidLooks := .later }
def FellNetsUptoCardSaid : Prop := Claim7.holds Tryz.pinned (.plain (OpenSpec.upto fellNetsSpec)) fellNetsUptoCard

/-- THE SECOND FORM's CARD OF 'couchantlaw05.FellWays'. -/
def fellWaysUptoCard : Claim7 := { stood := { row := fellWaysUptoRow, standIns := [], harness := (true, "7cdab54cf9c46f67db45a187f078fa02df54bbc51bd4e6ce1f19ed612abdd6fb"), looks := true }, kinds := [], alts := [], laidByText := true, laidKinds := [.data, .data, .data, .data, .sentinel, .sentinel, .pinned], laidTests := true, laidLooks := .later }
def FellWaysUptoCardSaid : Prop := Claim7.holds Tryz.pinned (.plain (OpenSpec.upto fellWaysSpec)) fellWaysUptoCard

/-- THE SECOND FORM's CARD OF 'couchantlaw05.FellArcs'. -/
def fellArcsUptoCard : Claim7 := { stood := { row := fellArcsUptoRow, standIns := [], harness := (true, "7cdab54cf9c46f67db45a187f078fa02df54bbc51bd4e6ce1f19ed612abdd6fb"), looks := true }, kinds := [], alts := [], laidByText := true, laidKinds := [.data, .data, .data, .data, .sentinel, .sentinel, .pinned], laidTests := true, laidLooks := .later }
def FellArcsUptoCardSaid : Prop := Claim7.holds Tryz.pinned (.plain (OpenSpec.upto fellArcsSpec)) fellArcsUptoCard

/-- THE SECOND FORM's CARD OF 'couchantlaw05.FellSays'. -/
def fellSaysUptoCard : Claim7 := { stood := { row := fellSaysUptoRow, standIns := [], harness := (true, "7cdab54cf9c46f67db45a187f078fa02df54bbc51bd4e6ce1f19ed612abdd6fb"), looks := true }, kinds := [], alts := [], laidByText := true, laidKinds := [.data, .data, .data, .data, .sentinel, .sentinel, .pinned], laidTests := true, laidLooks := .later }
def FellSaysUptoCardSaid : Prop := Claim7.holds Tryz.pinned (.plain (OpenSpec.upto fellSaysSpec)) fellSaysUptoCard

/-- THE SECOND FORM's CARD OF 'couchantlaw05.FellPlaces'. -/
def fellPlacesUptoCard : Claim7 := { stood := { row := fellPlacesUptoRow, standIns := [], harness := (true, "7cdab54cf9c46f67db45a187f078fa02df54bbc51bd4e6ce1f19ed612abdd6fb"), looks := true }, kinds := [], alts := [], laidByText := true, laidKinds := [.data, .data, .data, .data, .sentinel, .sentinel, .pinned], laidTests := true, laidLooks := .later }
def FellPlacesUptoCardSaid : Prop := Claim7.holds Tryz.pinned (.plain (OpenSpec.upto fellPlacesSpec)) fellPlacesUptoCard

/-- THE SECOND FORM's CARD OF 'couchantlaw05.FellNodes'. -/
def fellNodesUptoCard : Claim7 := { stood := { row := fellNodesUptoRow, standIns := [], harness := (true, "7cdab54cf9c46f67db45a187f078fa02df54bbc51bd4e6ce1f19ed612abdd6fb"), looks := true }, kinds := [], alts := [], laidByText := true, laidKinds := [.data, .data, .data, .data, .sentinel, .sentinel, .pinned], laidTests := true, laidLooks := .later }
def FellNodesUptoCardSaid : Prop := Claim7.holds Tryz.pinned (.plain (OpenSpec.upto fellNodesSpec)) fellNodesUptoCard

/-- THE SECOND FORM's CARD OF 'couchantlaw05.FellCounting'. -/
def fellCountingUptoCard : Claim7 := { stood := { row := fellCountingUptoRow, standIns := [], harness := (true, "7cdab54cf9c46f67db45a187f078fa02df54bbc51bd4e6ce1f19ed612abdd6fb"), looks := true }, kinds := [], alts := [], laidByText := true, laidKinds := [.data, .data, .data, .data, .sentinel, .sentinel, .pinned], laidTests := true, laidLooks := .later }
def FellCountingUptoCardSaid : Prop := Claim7.holds Tryz.pinned (.plain (OpenSpec.upto fellCountingSpec)) fellCountingUptoCard

/-- THE SECOND FORM's CARD OF 'couchantlaw05.FellPresent'. -/
def fellPresentUptoCard : Claim7 := { stood := { row := fellPresentUptoRow, standIns := [], harness := (true, "7cdab54cf9c46f67db45a187f078fa02df54bbc51bd4e6ce1f19ed612abdd6fb"), looks := true }, kinds := [], alts := [], laidByText := true, laidKinds := [.data, .data, .data, .data, .sentinel, .sentinel, .pinned], laidTests := true, laidLooks := .later }
def FellPresentUptoCardSaid : Prop := Claim7.holds Tryz.pinned (.plain (OpenSpec.upto fellPresentSpec)) fellPresentUptoCard

/-- THE SECOND FORM's CARD OF 'couchantlaw05.FellFlows'. -/
def fellFlowsUptoCard : Claim7 := { stood := { row := fellFlowsUptoRow, standIns := [], harness := (true, "7cdab54cf9c46f67db45a187f078fa02df54bbc51bd4e6ce1f19ed612abdd6fb"), looks := true }, kinds := [], alts := [], laidByText := true, laidKinds := [.data, .data, .data, .data, .sentinel, .sentinel, .pinned], laidTests := true, laidLooks := .later }
def FellFlowsUptoCardSaid : Prop := Claim7.holds Tryz.pinned (.plain (OpenSpec.upto fellFlowsSpec)) fellFlowsUptoCard

/-- THE SECOND FORM's CARD OF 'couchantlaw05.FellNumbers'. -/
def fellNumbersUptoCard : Claim7 := { stood := { row := fellNumbersUptoRow, standIns := [], harness := (true, "7cdab54cf9c46f67db45a187f078fa02df54bbc51bd4e6ce1f19ed612abdd6fb"), looks := true }, kinds := [], alts := [], laidByText := true, laidKinds := [.data, .data, .data, .data, .sentinel, .sentinel, .pinned], laidTests := true, laidLooks := .later }
def FellNumbersUptoCardSaid : Prop := Claim7.holds Tryz.pinned (.plain (OpenSpec.upto fellNumbersSpec)) fellNumbersUptoCard
end Rows
end Go.Proofs.YtlppdgaogdpajaaGreatDoor
