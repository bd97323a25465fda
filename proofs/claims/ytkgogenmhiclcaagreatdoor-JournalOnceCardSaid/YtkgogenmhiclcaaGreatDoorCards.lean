/-
  DERIVED. GIVEN WITH THE SEED: THE CARDS: each row of YtkgogenmhiclcaaGreatDoorRows.lean that lists a variable, with what it lists TIED to the program's text (the seventh form; the later family's looks); each row that meets fmt, with fmt's text TOLD by the authors' own Lean function (tested against real Go, not proved from fmt's source: count such statements apart). THE CARD IS WHAT COUNTS. Prove the row's statement (the work); the ties are given (YtkgogenmhiclcaaGreatDoorTie.lean); close each card by the builder's one call (the guide's Derived/Test/ToyasCard.lean, 'card_holds'). Laid BY PROGRAM, IN A SANDBOX (cutbox-door.mjs). By AI agents, Wed Nov 11 2026. No macro, syntax, notation, axiom, sorry.
-/
import Derived.Test.YtkgogenmhiclcaaGreatDoorRows
import GoSem.ClaimSeven
namespace Go.Proofs.YtkgogenmhiclcaaGreatDoor
namespace Rows

/-- THE TIED CARD OF 'matinslaw32.JournalAdd'. -/
def journalAddCard : Claim7 := { stood := { row := journalAddRow, standIns := [], harness := (true, "c6c7c1791d1b31802cea6840ec1b4b638d479e692aeb23e55f61bd78d4556b48"), looks := true }, kinds := [], alts := [], laidByText := true, laidKinds := [.data, .data, .data, .data, .sentinel, .sentinel, .pinned], laidTests := true, laidLooks := .later }
def JournalAddCardSaid : Prop := Claim7.holds Tryz.pinned (.plain (OpenSpec.ofChange journalAddSpec)) journalAddCard

/-- THE TIED CARD OF 'matinslaw32.JournalFrom'. -/
def journalFromCard : Claim7 := { stood := { row := journalFromRow, standIns := [], harness := (true, "c6c7c1791d1b31802cea6840ec1b4b638d479e692aeb23e55f61bd78d4556b48"), looks := true }, kinds := [], alts := [], laidByText := true, laidKinds := [.data, .data, .data, .data, .sentinel, .sentinel, .pinned], laidTests := true, laidLooks := .later }
def JournalFromCardSaid : Prop := Claim7.holds Tryz.pinned (.plain (OpenSpec.ofChange journalFromSpec)) journalFromCard

/-- THE TIED CARD OF 'matinslaw32.JournalOnce'. -/
def journalOnceCard : Claim7 := { stood := { row := journalOnceRow, standIns := [], harness := (true, "c6c7c1791d1b31802cea6840ec1b4b638d479e692aeb23e55f61bd78d4556b48"), looks := true }, kinds := [], alts := [], laidByText := true, laidKinds := [.data, .data, .data, .data, .sentinel, .sentinel, .pinned], laidTests := true, laidLooks := .later }
def JournalOnceCardSaid : Prop := Claim7.holds Tryz.pinned (.plain (OpenSpec.ofChange journalOnceSpec)) journalOnceCard

/-- THE TIED CARD OF 'matinslaw32.JournalOrder'. -/
def journalOrderCard : Claim7 := { stood := { row := journalOrderRow, standIns := [], harness := (true, "c6c7c1791d1b31802cea6840ec1b4b638d479e692aeb23e55f61bd78d4556b48"), looks := true }, kinds := [], alts := [], laidByText := true, laidKinds := [.data, .data, .data, .data, .sentinel, .sentinel, .pinned], laidTests := true, laidLooks := .later }
def JournalOrderCardSaid : Prop := Claim7.holds Tryz.pinned (.plain (OpenSpec.ofChange journalOrderSpec)) journalOrderCard

/-- THE TIED CARD OF 'matinslaw32.JournalKeep'. -/
def journalKeepCard : Claim7 := { stood := { row := journalKeepRow, standIns := [], harness := (true, "c6c7c1791d1b31802cea6840ec1b4b638d479e692aeb23e55f61bd78d4556b48"), looks := true }, kinds := [], alts := [], laidByText := true, laidKinds := [.data, .data, .data, .data, .sentinel, .sentinel, .pinned], laidTests := true, laidLooks := .later }
def JournalKeepCardSaid : Prop := Claim7.holds Tryz.pinned (.plain (OpenSpec.ofChange journalKeepSpec)) journalKeepCard

/-- THE SECOND FORM's CARD OF 'matinslaw32.JournalAdd'. -/
def journalAddUptoCard : Claim7 := { stood := { row := journalAddUptoRow, standIns := [], harness := (true, "c6c7c1791d1b31802cea6840ec1b4b638d479e692aeb23e55f61bd78d4556b48"), looks := true }, kinds := [], alts := [], laidByText := true, laidKinds := [.data, .data, .data, .data, .sentinel, .sentinel, .pinned], laidTests := true, laidLooks := .later }
def JournalAddUptoCardSaid : Prop := Claim7.holds Tryz.pinned (.plain (OpenSpec.upto journalAddSpec)) journalAddUptoCard

/-- THE SECOND FORM's CARD OF 'matinslaw32.JournalFrom'. -/
def journalFromUptoCard : Claim7 := { stood := { row := journalFromUptoRow, standIns := [], harness := (true, "c6c7c1791d1b31802cea6840ec1b4b638d479e692aeb23e55f61bd78d4556b48"), looks := true }, kinds := [], alts := [], laidByText := true, laidKinds := [.data, .data, .data, .data, .sentinel, .sentinel, .pinned], laidTests := true, laidLooks := .later }
def JournalFromUptoCardSaid : Prop := Claim7.holds Tryz.pinned (.plain (OpenSpec.upto journalFromSpec)) journalFromUptoCard

/-- THE SECOND FORM's CARD OF 'matinslaw32.JournalOnce'. -/
def journalOnceUptoCard : Claim7 := { stood := { row := journalOnceUptoRow, standIns := [], harness := (true, "c6c7c1791d1b31802cea6840ec1b4b638d479e692aeb23e55f61bd78d4556b48"), looks := true }, kinds := [], alts := [], laidByText := true, laidKinds := [.data, .data, .data, .data, .sentinel, .sentinel, .pinned], laidTests := true, laidLooks := .later }
def JournalOnceUptoCardSaid : Prop := Claim7.holds Tryz.pinned (.plain (OpenSpec.upto journalOnceSpec)) journalOnceUptoCard

/-- THE SECOND FORM's CARD OF 'matinslaw32.JournalOrder'. -/
def journalOrderUptoCard : Claim7 := { stood := { row := journalOrderUptoRow, standIns := [], harness := (true, "c6c7c1791d1b31802cea6840ec1b4b638d479e692aeb23e55f61bd78d4556b48"), looks := true }, kinds := [], alts := [], laidByText := true, laidKinds := [.data, .data, .data, .data, .sentinel, .sentinel, .pinned], laidTests := true, laidLooks := .later }
def JournalOrderUptoCardSaid : Prop := Claim7.holds Tryz.pinned (.plain (OpenSpec.upto journalOrderSpec)) journalOrderUptoCard

/-- THE SECOND FORM's CARD OF 'matinslaw32.JournalKeep'. -/
def journalKeepUptoCard : Claim7 := { stood := { row := journalKeepUptoRow, standIns := [], harness := (true, "c6c7c1791d1b31802cea6840ec1b4b638d479e692aeb23e55f61bd78d4556b48"), looks := true }, kinds := [], alts := [], laidByText := true, laidKinds := [.data, .data, .data, .data, .sentinel, .sentinel, .pinned], laidTests := true, laidLooks := .later }
def JournalKeepUptoCardSaid : Prop := Claim7.holds Tryz.pinned (.plain (OpenSpec.upto journalKeepSpec)) journalKeepUptoCard
end Rows
end Go.Proofs.YtkgogenmhiclcaaGreatDoor
