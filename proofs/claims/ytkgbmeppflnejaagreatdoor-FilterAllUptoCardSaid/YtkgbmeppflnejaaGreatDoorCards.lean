/-
  DERIVED. GIVEN WITH THE SEED: THE CARDS: each row of YtkgbmeppflnejaaGreatDoorRows.lean that lists a variable, with what it lists TIED to the program's text (the seventh form; the later family's looks); each row that meets fmt, with fmt's text TOLD by the authors' own Lean function (tested against real Go, not proved from fmt's source: count such statements apart). THE CARD IS WHAT COUNTS. Prove the row's statement (the work); the ties are given (YtkgbmeppflnejaaGreatDoorTie.lean); close each card by the builder's one call (the guide's Derived/Test/ToyasCard.lean, 'card_holds'). Laid BY PROGRAM, IN A SANDBOX (cutbox-door.mjs). By AI agents, Wed Nov 11 2026. No macro, syntax, notation, axiom, sorry.
-/
import Derived.Test.YtkgbmeppflnejaaGreatDoorRows
import GoSem.ClaimSeven
namespace Go.Proofs.YtkgbmeppflnejaaGreatDoor
namespace Rows

/-- THE TIED CARD OF 'matinslaw33.FilterReads'. -/
def filterReadsCard : Claim7 := { stood := { row := filterReadsRow, standIns := [], harness := (true, "e3a04cc0ccd065411658fef08ab08ce4fbecd85f747dba8d7b58b5f5308d8c47"), looks := true }, kinds := [], alts := [], laidByText := true, laidKinds := [.data, .data, .data, .sentinel, .sentinel], laidTests := true, laidLooks := .later }
def FilterReadsCardSaid : Prop := Claim7.holds Tryz.pinned (.plain (OpenSpec.ofChange filterReadsSpec)) filterReadsCard

/-- THE TIED CARD OF 'matinslaw33.FilterTurn'. -/
def filterTurnCard : Claim7 := { stood := { row := filterTurnRow, standIns := [], harness := (true, "e3a04cc0ccd065411658fef08ab08ce4fbecd85f747dba8d7b58b5f5308d8c47"), looks := true }, kinds := [], alts := [], laidByText := true, laidKinds := [.data, .data, .data, .sentinel, .sentinel], laidTests := true, laidLooks := .later }
def FilterTurnCardSaid : Prop := Claim7.holds Tryz.pinned (.plain (OpenSpec.ofChange filterTurnSpec)) filterTurnCard

/-- THE TIED CARD OF 'matinslaw33.FilterAll'. -/
def filterAllCard : Claim7 := { stood := { row := filterAllRow, standIns := [], harness := (true, "e3a04cc0ccd065411658fef08ab08ce4fbecd85f747dba8d7b58b5f5308d8c47"), looks := true }, kinds := [], alts := [], laidByText := true, laidKinds := [.data, .data, .data, .sentinel, .sentinel], laidTests := true, laidLooks := .later }
def FilterAllCardSaid : Prop := Claim7.holds Tryz.pinned (.plain (OpenSpec.ofChange filterAllSpec)) filterAllCard

/-- THE TIED CARD OF 'matinslaw33.FilterBoth'. -/
def filterBothCard : Claim7 := { stood := { row := filterBothRow, standIns := [], harness := (true, "e3a04cc0ccd065411658fef08ab08ce4fbecd85f747dba8d7b58b5f5308d8c47"), looks := true }, kinds := [], alts := [], laidByText := true, laidKinds := [.data, .data, .data, .sentinel, .sentinel], laidTests := true, laidLooks := .later }
def FilterBothCardSaid : Prop := Claim7.holds Tryz.pinned (.plain (OpenSpec.ofChange filterBothSpec)) filterBothCard

/-- THE SECOND FORM's CARD OF 'matinslaw33.FilterReads'. -/
def filterReadsUptoCard : Claim7 := { stood := { row := filterReadsUptoRow, standIns := [], harness := (true, "e3a04cc0ccd065411658fef08ab08ce4fbecd85f747dba8d7b58b5f5308d8c47"), looks := true }, kinds := [], alts := [], laidByText := true, laidKinds := [.data, .data, .data, .sentinel, .sentinel], laidTests := true, laidLooks := .later }
def FilterReadsUptoCardSaid : Prop := Claim7.holds Tryz.pinned (.plain (OpenSpec.upto filterReadsSpec)) filterReadsUptoCard

/-- THE SECOND FORM's CARD OF 'matinslaw33.FilterTurn'. -/
def filterTurnUptoCard : Claim7 := { stood := { row := filterTurnUptoRow, standIns := [], harness := (true, "e3a04cc0ccd065411658fef08ab08ce4fbecd85f747dba8d7b58b5f5308d8c47"), looks := true }, kinds := [], alts := [], laidByText := true, laidKinds := [.data, .data, .data, .sentinel, .sentinel], laidTests := true, laidLooks := .later }
def FilterTurnUptoCardSaid : Prop := Claim7.holds Tryz.pinned (.plain (OpenSpec.upto filterTurnSpec)) filterTurnUptoCard

/-- THE SECOND FORM's CARD OF 'matinslaw33.FilterAll'. -/
def filterAllUptoCard : Claim7 := { stood := { row := filterAllUptoRow, standIns := [], harness := (true, "e3a04cc0ccd065411658fef08ab08ce4fbecd85f747dba8d7b58b5f5308d8c47"), looks := true }, kinds := [], alts := [], laidByText := true, laidKinds := [.data, .data, .data, .sentinel, .sentinel], laidTests := true, laidLooks := .later }
def FilterAllUptoCardSaid : Prop := Claim7.holds Tryz.pinned (.plain (OpenSpec.upto filterAllSpec)) filterAllUptoCard

/-- THE SECOND FORM's CARD OF 'matinslaw33.FilterBoth'. -/
def filterBothUptoCard : Claim7 := { stood := { row := filterBothUptoRow, standIns := [], harness := (true, "e3a04cc0ccd065411658fef08ab08ce4fbecd85f747dba8d7b58b5f5308d8c47"), looks := true }, kinds := [], alts := [], laidByText := true, laidKinds := [.data, .data, .data, .sentinel, .sentinel], laidTests := true, laidLooks := .later }
def FilterBothUptoCardSaid : Prop := Claim7.holds Tryz.pinned (.plain (OpenSpec.upto filterBothSpec)) filterBothUptoCard
end Rows
end Go.Proofs.YtkgbmeppflnejaaGreatDoor
