/-
  DERIVED. GIVEN WITH THE SEED: THE CARDS: each row of YtnfbhhffclahjaaDoorRows.lean that lists a variable, with what it lists TIED to the program's text (the seventh form; the later family's looks); each row that meets fmt, with fmt's text TOLD by the authors' own Lean function (tested against real Go, not proved from fmt's source: count such statements apart). THE CARD IS WHAT COUNTS. Prove the row's statement (the work); the ties are given (YtnfbhhffclahjaaDoorTie.lean); close each card by the builder's one call (the guide's Derived/Test/ToyasCard.lean, 'card_holds'). Laid BY PROGRAM, IN A SANDBOX (cutbox-door.mjs). By AI agents, Wed Nov 11 2026. No macro, syntax, notation, axiom, sorry.
-/
import Derived.Test.YtnfbhhffclahjaaDoorRows
import GoSem.ClaimSeven
namespace Go.Proofs.YtnfbhhffclahjaaDoor
namespace Rows

/-- THE TIED CARD OF 'matinslaw2.SpanAll'. -/
def spanAllCard : Claim7 := { stood := { row := spanAllRow, standIns := [], harness := (true, "1f7ea698c3be4cd543f09cca588544a9b721f9bb7e802670f51b558dec6a978f"), looks := true }, kinds := [], alts := [], laidByText := true, laidKinds := [.data, .data, .data, .sentinel, .sentinel], laidTests := true, laidLooks := .later }
def SpanAllCardSaid : Prop := Claim7.holds Tryd.pinned (.plain (OpenSpec.ofChange spanAllSpec)) spanAllCard

/-- THE TIED CARD OF 'matinslaw2.SpanTurn'. -/
def spanTurnCard : Claim7 := { stood := { row := spanTurnRow, standIns := [], harness := (true, "1f7ea698c3be4cd543f09cca588544a9b721f9bb7e802670f51b558dec6a978f"), looks := true }, kinds := [], alts := [], laidByText := true, laidKinds := [.data, .data, .data, .sentinel, .sentinel], laidTests := true, laidLooks := .later }
def SpanTurnCardSaid : Prop := Claim7.holds Tryd.pinned (.plain (OpenSpec.ofChange spanTurnSpec)) spanTurnCard

/-- THE TIED CARD OF 'matinslaw2.SpanWords'. -/
def spanWordsCard : Claim7 := { stood := { row := spanWordsRow, standIns := [], harness := (true, "1f7ea698c3be4cd543f09cca588544a9b721f9bb7e802670f51b558dec6a978f"), looks := true }, kinds := [], alts := [], laidByText := true, laidKinds := [.data, .data, .data, .sentinel, .sentinel], laidTests := true, laidLooks := .later }
def SpanWordsCardSaid : Prop := Claim7.holds Tryd.pinned (.plain (OpenSpec.ofChange spanWordsSpec)) spanWordsCard

/-- THE TIED CARD OF 'matinslaw2.SpanSum'. -/
def spanSumCard : Claim7 := { stood := { row := spanSumRow, standIns := [], harness := (true, "1f7ea698c3be4cd543f09cca588544a9b721f9bb7e802670f51b558dec6a978f"), looks := true }, kinds := [], alts := [], laidByText := true, laidKinds := [.data, .data, .data, .sentinel, .sentinel], laidTests := true, laidLooks := .later }
def SpanSumCardSaid : Prop := Claim7.holds Tryd.pinned (.plain (OpenSpec.ofChange spanSumSpec)) spanSumCard

/-- THE SECOND FORM's CARD OF 'matinslaw2.SpanAll'. -/
def spanAllUptoCard : Claim7 := { stood := { row := spanAllUptoRow, standIns := [], harness := (true, "1f7ea698c3be4cd543f09cca588544a9b721f9bb7e802670f51b558dec6a978f"), looks := true }, kinds := [], alts := [], laidByText := true, laidKinds := [.data, .data, .data, .sentinel, .sentinel], laidTests := true, laidLooks := .later }
def SpanAllUptoCardSaid : Prop := Claim7.holds Tryd.pinned (.plain (OpenSpec.upto spanAllSpec)) spanAllUptoCard

/-- THE SECOND FORM's CARD OF 'matinslaw2.SpanTurn'. -/
def spanTurnUptoCard : Claim7 := { stood := { row := spanTurnUptoRow, standIns := [], harness := (true, "1f7ea698c3be4cd543f09cca588544a9b721f9bb7e802670f51b558dec6a978f"), looks := true }, kinds := [], alts := [], laidByText := true, laidKinds := [.data, .data, .data, .sentinel, .sentinel], laidTests := true, laidLooks := .later }
def SpanTurnUptoCardSaid : Prop := Claim7.holds Tryd.pinned (.plain (OpenSpec.upto spanTurnSpec)) spanTurnUptoCard

/-- THE SECOND FORM's CARD OF 'matinslaw2.SpanWords'. -/
def spanWordsUptoCard : Claim7 := { stood := { row := spanWordsUptoRow, standIns := [], harness := (true, "1f7ea698c3be4cd543f09cca588544a9b721f9bb7e802670f51b558dec6a978f"), looks := true }, kinds := [], alts := [], laidByText := true, laidKinds := [.data, .data, .data, .sentinel, .sentinel], laidTests := true, laidLooks := .later }
def SpanWordsUptoCardSaid : Prop := Claim7.holds Tryd.pinned (.plain (OpenSpec.upto spanWordsSpec)) spanWordsUptoCard

/-- THE SECOND FORM's CARD OF 'matinslaw2.SpanSum'. -/
def spanSumUptoCard : Claim7 := { stood := { row := spanSumUptoRow, standIns := [], harness := (true, "1f7ea698c3be4cd543f09cca588544a9b721f9bb7e802670f51b558dec6a978f"), looks := true }, kinds := [], alts := [], laidByText := true, laidKinds := [.data, .data, .data, .sentinel, .sentinel], laidTests := true, laidLooks := .later }
def SpanSumUptoCardSaid : Prop := Claim7.holds Tryd.pinned (.plain (OpenSpec.upto spanSumSpec)) spanSumUptoCard
end Rows
end Go.Proofs.YtnfbhhffclahjaaDoor
