/-
  DERIVED. GIVEN WITH THE SEED: THE CARDS: each row of YthdefhfgbanfpaaDoorRows.lean that lists a variable, with what it lists TIED to the program's text (the seventh form; the later family's looks); each row that meets fmt, with fmt's text TOLD by the authors' own Lean function (tested against real Go, not proved from fmt's source: count such statements apart). THE CARD IS WHAT COUNTS. Prove the row's statement (the work); the ties are given (YthdefhfgbanfpaaDoorTie.lean); close each card by the builder's one call (the guide's Derived/Test/ToyasCard.lean, 'card_holds'). Laid BY PROGRAM, IN A SANDBOX (cutbox-door.mjs). By AI agents, Wed Nov 11 2026. No macro, syntax, notation, axiom, sorry.
-/
import Derived.Test.YthdefhfgbanfpaaDoorRows
import GoSem.ClaimSeven
namespace Go.Proofs.YthdefhfgbanfpaaDoor
namespace Rows

/-- THE TIED CARD OF 'matinslaw31.RowTurn'. -/
def rowTurnCard : Claim7 := { stood := { row := rowTurnRow, standIns := [], harness := (true, "97725ef6ae80db5b6babd40331ec7588e5f79e607fd719af648de8984997411d"), looks := true }, kinds := [], alts := [], laidByText := true, laidKinds := [.data, .data, .data, .data, .sentinel, .sentinel, .pinned], laidTests := true, laidLooks := .later }
def RowTurnCardSaid : Prop := Claim7.holds Tryd.pinned (.plain (OpenSpec.ofChange rowTurnSpec)) rowTurnCard

/-- THE TIED CARD OF 'matinslaw31.RowOrder'. -/
def rowOrderCard : Claim7 := { stood := { row := rowOrderRow, standIns := [], harness := (true, "97725ef6ae80db5b6babd40331ec7588e5f79e607fd719af648de8984997411d"), looks := true }, kinds := [], alts := [], laidByText := true, laidKinds := [.data, .data, .data, .data, .sentinel, .sentinel, .pinned], laidTests := true, laidLooks := .later }
def RowOrderCardSaid : Prop := Claim7.holds Tryd.pinned (.plain (OpenSpec.ofChange rowOrderSpec)) rowOrderCard

/-- THE SECOND FORM's CARD OF 'matinslaw31.RowTurn'. -/
def rowTurnUptoCard : Claim7 := { stood := { row := rowTurnUptoRow, standIns := [], harness := (true, "97725ef6ae80db5b6babd40331ec7588e5f79e607fd719af648de8984997411d"), looks := true }, kinds := [], alts := [], laidByText := true, laidKinds := [.data, .data, .data, .data, .sentinel, .sentinel, .pinned], laidTests := true, laidLooks := .later }
def RowTurnUptoCardSaid : Prop := Claim7.holds Tryd.pinned (.plain (OpenSpec.upto rowTurnSpec)) rowTurnUptoCard

/-- THE SECOND FORM's CARD OF 'matinslaw31.RowOrder'. -/
def rowOrderUptoCard : Claim7 := { stood := { row := rowOrderUptoRow, standIns := [], harness := (true, "97725ef6ae80db5b6babd40331ec7588e5f79e607fd719af648de8984997411d"), looks := true }, kinds := [], alts := [], laidByText := true, laidKinds := [.data, .data, .data, .data, .sentinel, .sentinel, .pinned], laidTests := true, laidLooks := .later }
def RowOrderUptoCardSaid : Prop := Claim7.holds Tryd.pinned (.plain (OpenSpec.upto rowOrderSpec)) rowOrderUptoCard
end Rows
end Go.Proofs.YthdefhfgbanfpaaDoor
