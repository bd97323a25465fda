/-
  DERIVED. GIVEN WITH THE SEED: THE CARDS: each row of YtpkpoglmmjaoeaaGreatDoorRows.lean that lists a variable, with what it lists TIED to the program's text (the seventh form; the later family's looks); each row that meets fmt, with fmt's text TOLD by the authors' own Lean function (tested against real Go, not proved from fmt's source: count such statements apart). THE CARD IS WHAT COUNTS. Prove the row's statement (the work); the ties are given (YtpkpoglmmjaoeaaGreatDoorTie.lean); close each card by the builder's one call (the guide's Derived/Test/ToyasCard.lean, 'card_holds'). Laid BY PROGRAM, IN A SANDBOX (cutbox-door.mjs). By AI agents, Wed Nov 11 2026. No macro, syntax, notation, axiom, sorry.
-/
import Derived.Test.YtpkpoglmmjaoeaaGreatDoorRows
import GoSem.ClaimSeven
namespace Go.Proofs.YtpkpoglmmjaoeaaGreatDoor
namespace Rows

/-- THE TIED CARD OF 'matinslaw4.CalNext'. -/
def calNextCard : Claim7 := { stood := { row := calNextRow, standIns := [], harness := (true, "c73496eda3bda3791c93bd1070dfca17480ac6bbeb6cd17c8e8275316b4dc774"), looks := true }, kinds := [], alts := [], laidByText := true, laidKinds := [.data, .data, .data, .data, .sentinel, .sentinel, .pinned], laidTests := true, laidLooks := .later }
def CalNextCardSaid : Prop := Claim7.holds Tryz.pinned (.plain (OpenSpec.ofChange calNextSpec)) calNextCard

/-- THE SECOND FORM's CARD OF 'matinslaw4.CalNext'. -/
def calNextUptoCard : Claim7 := { stood := { row := calNextUptoRow, standIns := [], harness := (true, "c73496eda3bda3791c93bd1070dfca17480ac6bbeb6cd17c8e8275316b4dc774"), looks := true }, kinds := [], alts := [], laidByText := true, laidKinds := [.data, .data, .data, .data, .sentinel, .sentinel, .pinned], laidTests := true, laidLooks := .later }
def CalNextUptoCardSaid : Prop := Claim7.holds Tryz.pinned (.plain (OpenSpec.upto calNextSpec)) calNextUptoCard
end Rows
end Go.Proofs.YtpkpoglmmjaoeaaGreatDoor
