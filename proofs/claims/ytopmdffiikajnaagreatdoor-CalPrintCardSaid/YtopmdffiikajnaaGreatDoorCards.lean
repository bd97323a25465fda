/-
  DERIVED. GIVEN WITH THE SEED: THE CARDS: each row of YtopmdffiikajnaaGreatDoorRows.lean that lists a variable, with what it lists TIED to the program's text (the seventh form; the later family's looks); each row that meets fmt, with fmt's text TOLD by the authors' own Lean function (tested against real Go, not proved from fmt's source: count such statements apart). THE CARD IS WHAT COUNTS. Prove the row's statement (the work); the ties are given (YtopmdffiikajnaaGreatDoorTie.lean); close each card by the builder's one call (the guide's Derived/Test/ToyasCard.lean, 'card_holds'). Laid BY PROGRAM, IN A SANDBOX (cutbox-door.mjs). By AI agents, Wed Nov 11 2026. No macro, syntax, notation, axiom, sorry.
-/
import Derived.Test.YtopmdffiikajnaaGreatDoorRows
import GoSem.ClaimSeven
namespace Go.Proofs.YtopmdffiikajnaaGreatDoor
namespace Rows

/-- THE TIED CARD OF 'matinslaw4.CalParse'. -/
def calParseCard : Claim7 := { stood := { row := calParseRow, standIns := [], harness := (true, "0841c315f7e5bfd5075ca942dea3d919ca4d30615abb07ade134a8dc8fd1bf31"), looks := true }, kinds := [], alts := [], laidByText := true, laidKinds := [.data, .data, .data, .data, .sentinel, .sentinel, .pinned], laidTests := true, laidLooks := .later }
def CalParseCardSaid : Prop := Claim7.holds Tryz.pinned (.plain (OpenSpec.ofChange calParseSpec)) calParseCard

/-- THE TIED CARD OF 'matinslaw4.CalPrint'. -/
def calPrintCard : Claim7 := { stood := { row := calPrintRow, standIns := [], harness := (true, "0841c315f7e5bfd5075ca942dea3d919ca4d30615abb07ade134a8dc8fd1bf31"), looks := true }, kinds := [], alts := [], laidByText := true, laidKinds := [.data, .data, .data, .data, .sentinel, .sentinel, .pinned], laidTests := true, laidLooks := .later }
def CalPrintCardSaid : Prop := Claim7.holds Tryz.pinned (.plain (OpenSpec.ofChange calPrintSpec)) calPrintCard

/-- THE TIED CARD OF 'matinslaw4.CalTurn'. -/
def calTurnCard : Claim7 := { stood := { row := calTurnRow, standIns := [], harness := (true, "0841c315f7e5bfd5075ca942dea3d919ca4d30615abb07ade134a8dc8fd1bf31"), looks := true }, kinds := [], alts := [], laidByText := true, laidKinds := [.data, .data, .data, .data, .sentinel, .sentinel, .pinned], laidTests := true, laidLooks := .later }
def CalTurnCardSaid : Prop := Claim7.holds Tryz.pinned (.plain (OpenSpec.ofChange calTurnSpec)) calTurnCard

/-- THE TIED CARD OF 'matinslaw4.CalNext'. -/
def calNextCard : Claim7 := { stood := { row := calNextRow, standIns := [], harness := (true, "0841c315f7e5bfd5075ca942dea3d919ca4d30615abb07ade134a8dc8fd1bf31"), looks := true }, kinds := [], alts := [], laidByText := true, laidKinds := [.data, .data, .data, .data, .sentinel, .sentinel, .pinned], laidTests := true, laidLooks := .later }
def CalNextCardSaid : Prop := Claim7.holds Tryz.pinned (.plain (OpenSpec.ofChange calNextSpec)) calNextCard

/-- THE TIED CARD OF 'matinslaw4.CalLeast'. -/
def calLeastCard : Claim7 := { stood := { row := calLeastRow, standIns := [], harness := (true, "0841c315f7e5bfd5075ca942dea3d919ca4d30615abb07ade134a8dc8fd1bf31"), looks := true }, kinds := [], alts := [], laidByText := true, laidKinds := [.data, .data, .data, .data, .sentinel, .sentinel, .pinned], laidTests := true, laidLooks := .later }
def CalLeastCardSaid : Prop := Claim7.holds Tryz.pinned (.plain (OpenSpec.ofChange calLeastSpec)) calLeastCard

/-- THE TIED CARD OF 'matinslaw4.CalRow'. -/
def calRowCard : Claim7 := { stood := { row := calRowRow, standIns := [], harness := (true, "0841c315f7e5bfd5075ca942dea3d919ca4d30615abb07ade134a8dc8fd1bf31"), looks := true }, kinds := [], alts := [], laidByText := true, laidKinds := [.data, .data, .data, .data, .sentinel, .sentinel, .pinned], laidTests := true, laidLooks := .later }
def CalRowCardSaid : Prop := Claim7.holds Tryz.pinned (.plain (OpenSpec.ofChange calRowSpec)) calRowCard

/-- THE TIED CARD OF 'matinslaw4.CalDays'. -/
def calDaysCard : Claim7 := { stood := { row := calDaysRow, standIns := [], harness := (true, "0841c315f7e5bfd5075ca942dea3d919ca4d30615abb07ade134a8dc8fd1bf31"), looks := true }, kinds := [], alts := [], laidByText := true, laidKinds := [.data, .data, .data, .data, .sentinel, .sentinel, .pinned], laidTests := true, laidLooks := .later }
def CalDaysCardSaid : Prop := Claim7.holds Tryz.pinned (.plain (OpenSpec.ofChange calDaysSpec)) calDaysCard

/-- THE TIED CARD OF 'matinslaw4.CalPart'. -/
def calPartCard : Claim7 := { stood := { row := calPartRow, standIns := [], harness := (true, "0841c315f7e5bfd5075ca942dea3d919ca4d30615abb07ade134a8dc8fd1bf31"), looks := true }, kinds := [], alts := [], laidByText := true, laidKinds := [.data, .data, .data, .data, .sentinel, .sentinel, .pinned], laidTests := true, laidLooks := .later }
def CalPartCardSaid : Prop := Claim7.holds Tryz.pinned (.plain (OpenSpec.ofChange calPartSpec)) calPartCard

/-- THE TIED CARD OF 'matinslaw4.CalUnion'. -/
def calUnionCard : Claim7 := { stood := { row := calUnionRow, standIns := [], harness := (true, "0841c315f7e5bfd5075ca942dea3d919ca4d30615abb07ade134a8dc8fd1bf31"), looks := true }, kinds := [], alts := [], laidByText := true, laidKinds := [.data, .data, .data, .data, .sentinel, .sentinel, .pinned], laidTests := true, laidLooks := .later }
def CalUnionCardSaid : Prop := Claim7.holds Tryz.pinned (.plain (OpenSpec.ofChange calUnionSpec)) calUnionCard

/-- THE TIED CARD OF 'matinslaw4.CalLess'. -/
def calLessCard : Claim7 := { stood := { row := calLessRow, standIns := [], harness := (true, "0841c315f7e5bfd5075ca942dea3d919ca4d30615abb07ade134a8dc8fd1bf31"), looks := true }, kinds := [], alts := [], laidByText := true, laidKinds := [.data, .data, .data, .data, .sentinel, .sentinel, .pinned], laidTests := true, laidLooks := .later }
def CalLessCardSaid : Prop := Claim7.holds Tryz.pinned (.plain (OpenSpec.ofChange calLessSpec)) calLessCard

/-- THE SECOND FORM's CARD OF 'matinslaw4.CalParse'. -/
def calParseUptoCard : Claim7 := { stood := { row := calParseUptoRow, standIns := [], harness := (true, "0841c315f7e5bfd5075ca942dea3d919ca4d30615abb07ade134a8dc8fd1bf31"), looks := true }, kinds := [], alts := [], laidByText := true, laidKinds := [.data, .data, .data, .data, .sentinel, .sentinel, .pinned], laidTests := true, laidLooks := .later }
def CalParseUptoCardSaid : Prop := Claim7.holds Tryz.pinned (.plain (OpenSpec.upto calParseSpec)) calParseUptoCard

/-- THE SECOND FORM's CARD OF 'matinslaw4.CalPrint'. -/
def calPrintUptoCard : Claim7 := { stood := { row := calPrintUptoRow, standIns := [], harness := (true, "0841c315f7e5bfd5075ca942dea3d919ca4d30615abb07ade134a8dc8fd1bf31"), looks := true }, kinds := [], alts := [], laidByText := true, laidKinds := [.data, .data, .data, .data, .sentinel, .sentinel, .pinned], laidTests := true, laidLooks := .later }
def CalPrintUptoCardSaid : Prop := Claim7.holds Tryz.pinned (.plain (OpenSpec.upto calPrintSpec)) calPrintUptoCard

/-- THE SECOND FORM's CARD OF 'matinslaw4.CalTurn'. -/
def calTurnUptoCard : Claim7 := { stood := { row := calTurnUptoRow, standIns := [], harness := (true, "0841c315f7e5bfd5075ca942dea3d919ca4d30615abb07ade134a8dc8fd1bf31"), looks := true }, kinds := [], alts := [], laidByText := true, laidKinds := [.data, .data, .data, .data, .sentinel, .sentinel, .pinned], laidTests := true, laidLooks := .later }
def CalTurnUptoCardSaid : Prop := Claim7.holds Tryz.pinned (.plain (OpenSpec.upto calTurnSpec)) calTurnUptoCard

/-- THE SECOND FORM's CARD OF 'matinslaw4.CalNext'. -/
def calNextUptoCard : Claim7 := { stood := { row := calNextUptoRow, standIns := [], harness := (true, "0841c315f7e5bfd5075ca942dea3d919ca4d30615abb07ade134a8dc8fd1bf31"), looks := true }, kinds := [], alts := [], laidByText := true, laidKinds := [.data, .data, .data, .data, .sentinel, .sentinel, .pinned], laidTests := true, laidLooks := .later }
def CalNextUptoCardSaid : Prop := Claim7.holds Tryz.pinned (.plain (OpenSpec.upto calNextSpec)) calNextUptoCard

/-- THE SECOND FORM's CARD OF 'matinslaw4.CalLeast'. -/
def calLeastUptoCard : Claim7 := { stood := { row := calLeastUptoRow, standIns := [], harness := (true, "0841c315f7e5bfd5075ca942dea3d919ca4d30615abb07ade134a8dc8fd1bf31"), looks := true }, kinds := [], alts := [], laidByText := true, laidKinds := [.data, .data, .data, .data, .sentinel, .sentinel, .pinned], laidTests := true, laidLooks := .later }
def CalLeastUptoCardSaid : Prop := Claim7.holds Tryz.pinned (.plain (OpenSpec.upto calLeastSpec)) calLeastUptoCard

/-- THE SECOND FORM's CARD OF 'matinslaw4.CalRow'. -/
def calRowUptoCard : Claim7 := { stood := { row := calRowUptoRow, standIns := [], harness := (true, "0841c315f7e5bfd5075ca942dea3d919ca4d30615abb07ade134a8dc8fd1bf31"), looks := true }, kinds := [], alts := [], laidByText := true, laidKinds := [.data, .data, .data, .data, .sentinel, .sentinel, .pinned], laidTests := true, laidLooks := .later }
def CalRowUptoCardSaid : Prop := Claim7.holds Tryz.pinned (.plain (OpenSpec.upto calRowSpec)) calRowUptoCard

/-- THE SECOND FORM's CARD OF 'matinslaw4.CalDays'. -/
def calDaysUptoCard : Claim7 := { stood := { row := calDaysUptoRow, standIns := [], harness := (true, "0841c315f7e5bfd5075ca942dea3d919ca4d30615abb07ade134a8dc8fd1bf31"), looks := true }, kinds := [], alts := [], laidByText := true, laidKinds := [.data, .data, .data, .data, .sentinel, .sentinel, .pinned], laidTests := true, laidLooks := .later }
def CalDaysUptoCardSaid : Prop := Claim7.holds Tryz.pinned (.plain (OpenSpec.upto calDaysSpec)) calDaysUptoCard

/-- THE SECOND FORM's CARD OF 'matinslaw4.CalPart'. -/
def calPartUptoCard : Claim7 := { stood := { row := calPartUptoRow, standIns := [], harness := (true, "0841c315f7e5bfd5075ca942dea3d919ca4d30615abb07ade134a8dc8fd1bf31"), looks := true }, kinds := [], alts := [], laidByText := true, laidKinds := [.data, .data, .data, .data, .sentinel, .sentinel, .pinned], laidTests := true, laidLooks := .later }
def CalPartUptoCardSaid : Prop := Claim7.holds Tryz.pinned (.plain (OpenSpec.upto calPartSpec)) calPartUptoCard

/-- THE SECOND FORM's CARD OF 'matinslaw4.CalUnion'. -/
def calUnionUptoCard : Claim7 := { stood := { row := calUnionUptoRow, standIns := [], harness := (true, "0841c315f7e5bfd5075ca942dea3d919ca4d30615abb07ade134a8dc8fd1bf31"), looks := true }, kinds := [], alts := [], laidByText := true, laidKinds := [.data, .data, .data, .data, .sentinel, .sentinel, .pinned], laidTests := true, laidLooks := .later }
def CalUnionUptoCardSaid : Prop := Claim7.holds Tryz.pinned (.plain (OpenSpec.upto calUnionSpec)) calUnionUptoCard

/-- THE SECOND FORM's CARD OF 'matinslaw4.CalLess'. -/
def calLessUptoCard : Claim7 := { stood := { row := calLessUptoRow, standIns := [], harness := (true, "0841c315f7e5bfd5075ca942dea3d919ca4d30615abb07ade134a8dc8fd1bf31"), looks := true }, kinds := [], alts := [], laidByText := true, laidKinds := [.data, .data, .data, .data, .sentinel, .sentinel, .pinned], laidTests := true, laidLooks := .later }
def CalLessUptoCardSaid : Prop := Claim7.holds Tryz.pinned (.plain (OpenSpec.upto calLessSpec)) calLessUptoCard
end Rows
end Go.Proofs.YtopmdffiikajnaaGreatDoor
