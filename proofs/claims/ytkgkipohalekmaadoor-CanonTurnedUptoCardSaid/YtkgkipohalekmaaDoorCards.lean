/-
  DERIVED. GIVEN WITH THE SEED: THE CARDS: each row of YtkgkipohalekmaaDoorRows.lean that lists a variable, with what it lists TIED to the program's text (the seventh form; the later family's looks); each row that meets fmt, with fmt's text TOLD by the authors' own Lean function (tested against real Go, not proved from fmt's source: count such statements apart). THE CARD IS WHAT COUNTS. Prove the row's statement (the work); the ties are given (YtkgkipohalekmaaDoorTie.lean); close each card by the builder's one call (the guide's Derived/Test/ToyasCard.lean, 'card_holds'). Laid BY PROGRAM, IN A SANDBOX (cutbox-door.mjs). By AI agents, Wed Nov 11 2026. No macro, syntax, notation, axiom, sorry.
-/
import Derived.Test.YtkgkipohalekmaaDoorRows
import GoSem.ClaimSeven
namespace Go.Proofs.YtkgkipohalekmaaDoor
namespace Rows

/-- THE TIED CARD OF 'matinslaw37.CanonSame'. -/
def canonSameCard : Claim7 := { stood := { row := canonSameRow, standIns := [], harness := (true, "2328d258aae37f7771141ce061c78a97f998465c32fbe3aa36c202e0056ad76e"), looks := false }, kinds := [], alts := [], laidByText := true, laidKinds := [.data, .data, .data], laidTests := true, laidLooks := .later }
def CanonSameCardSaid : Prop := Claim7.holds Tryd.pinned (.plain (OpenSpec.ofChange canonSameSpec)) canonSameCard

/-- THE TIED CARD OF 'matinslaw37.CanonTurned'. -/
def canonTurnedCard : Claim7 := { stood := { row := canonTurnedRow, standIns := [], harness := (true, "2328d258aae37f7771141ce061c78a97f998465c32fbe3aa36c202e0056ad76e"), looks := false }, kinds := [], alts := [], laidByText := true, laidKinds := [.data, .data, .data], laidTests := true, laidLooks := .later }
def CanonTurnedCardSaid : Prop := Claim7.holds Tryd.pinned (.plain (OpenSpec.ofChange canonTurnedSpec)) canonTurnedCard

/-- THE SECOND FORM's CARD OF 'matinslaw37.CanonSame'. -/
def canonSameUptoCard : Claim7 := { stood := { row := canonSameUptoRow, standIns := [], harness := (true, "2328d258aae37f7771141ce061c78a97f998465c32fbe3aa36c202e0056ad76e"), looks := false }, kinds := [], alts := [], laidByText := true, laidKinds := [.data, .data, .data], laidTests := true, laidLooks := .later }
def CanonSameUptoCardSaid : Prop := Claim7.holds Tryd.pinned (.plain (OpenSpec.upto canonSameSpec)) canonSameUptoCard

/-- THE SECOND FORM's CARD OF 'matinslaw37.CanonTurned'. -/
def canonTurnedUptoCard : Claim7 := { stood := { row := canonTurnedUptoRow, standIns := [], harness := (true, "2328d258aae37f7771141ce061c78a97f998465c32fbe3aa36c202e0056ad76e"), looks := false }, kinds := [], alts := [], laidByText := true, laidKinds := [.data, .data, .data], laidTests := true, laidLooks := .later }
def CanonTurnedUptoCardSaid : Prop := Claim7.holds Tryd.pinned (.plain (OpenSpec.upto canonTurnedSpec)) canonTurnedUptoCard
end Rows
end Go.Proofs.YtkgkipohalekmaaDoor
