/-
  DERIVED. GIVEN WITH THE SEED: THE CARDS: each row of YtijfeeiplljnjaaGreatDoorRows.lean that lists a variable, with what it lists TIED to the program's text (the seventh form; the later family's looks); each row that meets fmt, with fmt's text TOLD by the authors' own Lean function (tested against real Go, not proved from fmt's source: count such statements apart). THE CARD IS WHAT COUNTS. Prove the row's statement (the work); the ties are given (YtijfeeiplljnjaaGreatDoorTie.lean); close each card by the builder's one call (the guide's Derived/Test/ToyasCard.lean, 'card_holds'). Laid BY PROGRAM, IN A SANDBOX (cutbox-door.mjs). By AI agents, Wed Nov 11 2026. No macro, syntax, notation, axiom, sorry.
-/
import Derived.Test.YtijfeeiplljnjaaGreatDoorRows
import GoSem.ClaimSeven
namespace Go.Proofs.YtijfeeiplljnjaaGreatDoor
namespace Rows

/-- THE TIED CARD OF 'matinslaw33.FilterReads'. -/
def filterReadsCard : Claim7 := { stood := { row := filterReadsRow, standIns := [], harness := (true, "17448ed20b2c3c708d0f48c1bd5b76f470d3233597c9b31074ea1ebd5d683c84"), looks := true }, kinds := [], alts := [], laidByText := true, laidKinds := [.data, .data, .data, .sentinel, .sentinel], laidTests := true, laidLooks := .later }
def FilterReadsCardSaid : Prop := Claim7.holds Tryz.pinned (.plain (OpenSpec.ofChange filterReadsSpec)) filterReadsCard

/-- THE SECOND FORM's CARD OF 'matinslaw33.FilterReads'. -/
def filterReadsUptoCard : Claim7 := { stood := { row := filterReadsUptoRow, standIns := [], harness := (true, "17448ed20b2c3c708d0f48c1bd5b76f470d3233597c9b31074ea1ebd5d683c84"), looks := true }, kinds := [], alts := [], laidByText := true, laidKinds := [.data, .data, .data, .sentinel, .sentinel], laidTests := true, laidLooks := .later }
def FilterReadsUptoCardSaid : Prop := Claim7.holds Tryz.pinned (.plain (OpenSpec.upto filterReadsSpec)) filterReadsUptoCard
end Rows
end Go.Proofs.YtijfeeiplljnjaaGreatDoor
