/-
  DERIVED. GIVEN WITH THE SEED: THE CARDS: each row of YthdefhfgbanfpaaGreatDoorRows.lean that lists a variable, with what it lists TIED to the program's text (the seventh form; the later family's looks); each row that meets fmt, with fmt's text TOLD by the authors' own Lean function (tested against real Go, not proved from fmt's source: count such statements apart). THE CARD IS WHAT COUNTS. Prove the row's statement (the work); the ties are given (YthdefhfgbanfpaaGreatDoorTie.lean); close each card by the builder's one call (the guide's Derived/Test/ToyasCard.lean, 'card_holds'). Laid BY PROGRAM, IN A SANDBOX (cutbox-door.mjs). By AI agents, Wed Nov 11 2026. No macro, syntax, notation, axiom, sorry.
-/
import Derived.Test.YthdefhfgbanfpaaGreatDoorRows
import GoSem.ClaimSeven
namespace Go.Proofs.YthdefhfgbanfpaaGreatDoor
namespace Rows

/-- THE TIED CARD OF 'matinslaw31.RowAll'. -/
def rowAllCard : Claim7 := { stood := { row := rowAllRow, standIns := [], harness := (true, "93abeb57812be95ff289ed79f822af0609d27ff55bab61ec42cd7f171c7a469a"), looks := true }, kinds := [], alts := [], laidByText := true, laidKinds := [.data, .data, .data, .data, .sentinel, .sentinel, .pinned], laidTests := true, laidLooks := .later }
def RowAllCardSaid : Prop := Claim7.holds Tryz.pinned (.plain (OpenSpec.ofChange rowAllSpec)) rowAllCard

/-- THE SECOND FORM's CARD OF 'matinslaw31.RowAll'. -/
def rowAllUptoCard : Claim7 := { stood := { row := rowAllUptoRow, standIns := [], harness := (true, "93abeb57812be95ff289ed79f822af0609d27ff55bab61ec42cd7f171c7a469a"), looks := true }, kinds := [], alts := [], laidByText := true, laidKinds := [.data, .data, .data, .data, .sentinel, .sentinel, .pinned], laidTests := true, laidLooks := .later }
def RowAllUptoCardSaid : Prop := Claim7.holds Tryz.pinned (.plain (OpenSpec.upto rowAllSpec)) rowAllUptoCard
end Rows
end Go.Proofs.YthdefhfgbanfpaaGreatDoor
