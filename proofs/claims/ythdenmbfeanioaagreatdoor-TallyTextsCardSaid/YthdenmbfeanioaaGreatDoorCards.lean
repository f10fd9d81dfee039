/-
  DERIVED. GIVEN WITH THE SEED: THE CARDS: each row of YthdenmbfeanioaaGreatDoorRows.lean that lists a variable, with what it lists TIED to the program's text (the seventh form; the later family's looks); each row that meets fmt, with fmt's text TOLD by the authors' own Lean function (tested against real Go, not proved from fmt's source: count such statements apart). THE CARD IS WHAT COUNTS. Prove the row's statement (the work); the ties are given (YthdenmbfeanioaaGreatDoorTie.lean); close each card by the builder's one call (the guide's Derived/Test/ToyasCard.lean, 'card_holds'). Laid BY PROGRAM, IN A SANDBOX (cutbox-door.mjs). By AI agents, Wed Nov 11 2026. No macro, syntax, notation, axiom, sorry.
-/
import Derived.Test.YthdenmbfeanioaaGreatDoorRows
import GoSem.ClaimSeven
namespace Go.Proofs.YthdenmbfeanioaaGreatDoor
namespace Rows

/-- THE TIED CARD OF 'couchantlaw04.TallyLines'. -/
def tallyLinesCard : Claim7 := { stood := { row := tallyLinesRow, standIns := [], harness := (true, "49ab7f2f25118f0029894c9e256ec669cdd9203d50aba6521880901a5c2507eb"), looks := true }, kinds := [], alts := [], laidByText := true, laidKinds := [.data, .data, .data, .data, .sentinel, .sentinel, .pinned], laidTests := true, laidLooks := .later }
def TallyLinesCardSaid : Prop := Claim7.holds Tryz.pinned (.plain (OpenSpec.ofChange tallyLinesSpec)) tallyLinesCard

/-- THE TIED CARD OF 'couchantlaw04.TallyTexts'. -/
def tallyTextsCard : Claim7 := { stood := { row := tallyTextsRow, standIns := [], harness := (true, "49ab7f2f25118f0029894c9e256ec669cdd9203d50aba6521880901a5c2507eb"), looks := true }, kinds := [], alts := [], laidByText := true, laidKinds := [.data, .data, .data, .data, .sentinel, .sentinel, .pinned], laidTests := true, laidLooks := .later }
def TallyTextsCardSaid : Prop := Claim7.holds Tryz.pinned (.plain (OpenSpec.ofChange tallyTextsSpec)) tallyTextsCard

/-- THE SECOND FORM's CARD OF 'couchantlaw04.TallyLines'. -/
def tallyLinesUptoCard : Claim7 := { stood := { row := tallyLinesUptoRow, standIns := [], harness := (true, "49ab7f2f25118f0029894c9e256ec669cdd9203d50aba6521880901a5c2507eb"), looks := true }, kinds := [], alts := [], laidByText := true, laidKinds := [.data, .data, .data, .data, .sentinel, .sentinel, .pinned], laidTests := true, laidLooks := .later }
def TallyLinesUptoCardSaid : Prop := Claim7.holds Tryz.pinned (.plain (OpenSpec.upto tallyLinesSpec)) tallyLinesUptoCard

/-- THE SECOND FORM's CARD OF 'couchantlaw04.TallyTexts'. -/
def tallyTextsUptoCard : Claim7 := { stood := { row := tallyTextsUptoRow, standIns := [], harness := (true, "49ab7f2f25118f0029894c9e256ec669cdd9203d50aba6521880901a5c2507eb"), looks := true }, kinds := [], alts := [], laidByText := true, laidKinds := [.data, .data, .data, .data, .sentinel, .sentinel, .pinned], laidTests := true, laidLooks := .later }
def TallyTextsUptoCardSaid : Prop := Claim7.holds Tryz.pinned (.plain (OpenSpec.upto tallyTextsSpec)) tallyTextsUptoCard
end Rows
end Go.Proofs.YthdenmbfeanioaaGreatDoor
