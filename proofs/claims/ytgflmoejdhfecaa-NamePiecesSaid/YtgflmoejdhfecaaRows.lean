/-
  No cell of these rows narrows 'for every input' (looked for: loops, veiled, ifaces, maps, wideKeys, modest, calm, conditions, laid).
  DERIVED. THE GIVEN ROWS OF THIS SEAT. 6 by the template 'for every input the law returns true; each argument reads behind the call as it read before'; 0 by the template 'total and deterministic' (their statements: YtgflmoejdhfecaaTotals.lean).
  GIVEN WITH THE SEED: the statements are not yours to turn. If you find one false, say at which input.
  Laid BY PROGRAM, IN A SANDBOX (cutbox-rows.mjs): the forced cells as the released guide's own fill.sh prints them over the translation 337a53574a3ebc53… (all of the seat's roots in one cut). By AI agents, Wed Nov 11 2026. No macro, syntax, notation, axiom, sorry.
-/
import Derived.Test.YtgflmoejdhfecaaChecked
import GoSem.Claim
import GoSem.ClaimJoined
import GoSem.ClaimMapViews
import Derived.JoinedTies
import Derived.KernelRfl
namespace Go.Proofs.Ytgflmoejdhfecaa
/- THE CELL 'sum', in the pinned program and in every row, IS THE sha256 OF THE DUMP (.gsa) THAT YtgflmoejdhfecaaProg.lean LOADS. Nothing in Lean hashes anything: it is a label: what it is worth is what the hold of that sum in a sandbox is worth. -/
noncomputable def Try.pinned : Pinned := { name := "ytgflmoejdhfecaa", sum := "337a53574a3ebc53aa963b946e58a292de98e6c21a482e0b66800f0f368606de", checked := Try.checked }
namespace Rows
def none {H : Type} : Left H := { results := [], args := [] }

/-- 'matinslaw1.NameAll': WHATEVER THE INPUT: true; the input reads as it did. -/
def nameAllSpec : ChangeSpec := { name := "nameAll", fn := fun _ => fun
  | [d] => { results := [.lit (.bool true)], args := [d] }
  | _ => none }
def nameAllRow : OpenClaim := { program := "ytgflmoejdhfecaa", sum := "337a53574a3ebc53aa963b946e58a292de98e6c21a482e0b66800f0f368606de", func := "matins/matinslaw1.NameAll", spec := "nameAll", inPlace := ["internal/bytealg.IndexByteString", "internal/bytealg.IndexString", "internal/abi.NoEscape"], unfollowed := true, recurses := true, named := ["internal/bytealg.MaxLen"], apart := false }
def NameAllSaid : Prop := nameAllRow.holds Try.pinned (OpenSpec.ofChange nameAllSpec)

/-- ITS FALSE NEIGHBOUR: 'it returns false'. Refute it at one input. -/
def nameAllWrong : ChangeSpec := { name := "nameAll", fn := fun _ => fun
  | [d] => { results := [.lit (.bool false)], args := [d] }
  | _ => none }
def NameAllWrongFalsely : Prop := nameAllRow.holds Try.pinned (OpenSpec.ofChange nameAllWrong)

/-- 'matinslaw1.NameMake': WHATEVER THE INPUT: true; the input reads as it did. -/
def nameMakeSpec : ChangeSpec := { name := "nameMake", fn := fun _ => fun
  | [d1, d2, d3] => { results := [.lit (.bool true)], args := [d1, d2, d3] }
  | _ => none }
def nameMakeRow : OpenClaim := { program := "ytgflmoejdhfecaa", sum := "337a53574a3ebc53aa963b946e58a292de98e6c21a482e0b66800f0f368606de", func := "matins/matinslaw1.NameMake", spec := "nameMake", inPlace := ["internal/bytealg.IndexByteString", "internal/bytealg.IndexString", "internal/abi.NoEscape"], unfollowed := true, recurses := true, named := ["internal/bytealg.MaxLen"], apart := false }
def NameMakeSaid : Prop := nameMakeRow.holds Try.pinned (OpenSpec.ofChange nameMakeSpec)

/-- ITS FALSE NEIGHBOUR: 'it returns false'. Refute it at one input. -/
def nameMakeWrong : ChangeSpec := { name := "nameMake", fn := fun _ => fun
  | [d1, d2, d3] => { results := [.lit (.bool false)], args := [d1, d2, d3] }
  | _ => none }
def NameMakeWrongFalsely : Prop := nameMakeRow.holds Try.pinned (OpenSpec.ofChange nameMakeWrong)

/-- 'matinslaw1.NamePieces': WHATEVER THE INPUT: true; the input reads as it did. -/
def namePiecesSpec : ChangeSpec := { name := "namePieces", fn := fun _ => fun
  | [d] => { results := [.lit (.bool true)], args := [d] }
  | _ => none }
def namePiecesRow : OpenClaim := { program := "ytgflmoejdhfecaa", sum := "337a53574a3ebc53aa963b946e58a292de98e6c21a482e0b66800f0f368606de", func := "matins/matinslaw1.NamePieces", spec := "namePieces", inPlace := ["internal/bytealg.IndexByteString", "internal/bytealg.IndexString", "internal/abi.NoEscape"], unfollowed := true, recurses := true, named := ["internal/bytealg.MaxLen"], apart := false }
def NamePiecesSaid : Prop := namePiecesRow.holds Try.pinned (OpenSpec.ofChange namePiecesSpec)

/-- ITS FALSE NEIGHBOUR: 'it returns false'. Refute it at one input. -/
def namePiecesWrong : ChangeSpec := { name := "namePieces", fn := fun _ => fun
  | [d] => { results := [.lit (.bool false)], args := [d] }
  | _ => none }
def NamePiecesWrongFalsely : Prop := namePiecesRow.holds Try.pinned (OpenSpec.ofChange namePiecesWrong)

/-- 'matinslaw1.NameTurn': WHATEVER THE INPUT: true; the input reads as it did. -/
def nameTurnSpec : ChangeSpec := { name := "nameTurn", fn := fun _ => fun
  | [d1, d2] => { results := [.lit (.bool true)], args := [d1, d2] }
  | _ => none }
def nameTurnRow : OpenClaim := { program := "ytgflmoejdhfecaa", sum := "337a53574a3ebc53aa963b946e58a292de98e6c21a482e0b66800f0f368606de", func := "matins/matinslaw1.NameTurn", spec := "nameTurn", inPlace := ["internal/bytealg.IndexByteString", "internal/bytealg.IndexString", "internal/abi.NoEscape"], unfollowed := true, recurses := true, named := ["internal/bytealg.MaxLen"], apart := false }
def NameTurnSaid : Prop := nameTurnRow.holds Try.pinned (OpenSpec.ofChange nameTurnSpec)

/-- ITS FALSE NEIGHBOUR: 'it returns false'. Refute it at one input. -/
def nameTurnWrong : ChangeSpec := { name := "nameTurn", fn := fun _ => fun
  | [d1, d2] => { results := [.lit (.bool false)], args := [d1, d2] }
  | _ => none }
def NameTurnWrongFalsely : Prop := nameTurnRow.holds Try.pinned (OpenSpec.ofChange nameTurnWrong)

/-- 'matinslaw1.NameEscape': WHATEVER THE INPUT: true; the input reads as it did. -/
def nameEscapeSpec : ChangeSpec := { name := "nameEscape", fn := fun _ => fun
  | [d1, d2] => { results := [.lit (.bool true)], args := [d1, d2] }
  | _ => none }
def nameEscapeRow : OpenClaim := { program := "ytgflmoejdhfecaa", sum := "337a53574a3ebc53aa963b946e58a292de98e6c21a482e0b66800f0f368606de", func := "matins/matinslaw1.NameEscape", spec := "nameEscape", inPlace := ["internal/bytealg.IndexByteString", "internal/bytealg.IndexString", "internal/abi.NoEscape"], unfollowed := true, recurses := true, named := ["internal/bytealg.MaxLen"], apart := false }
def NameEscapeSaid : Prop := nameEscapeRow.holds Try.pinned (OpenSpec.ofChange nameEscapeSpec)

/-- ITS FALSE NEIGHBOUR: 'it returns false'. Refute it at one input. -/
def nameEscapeWrong : ChangeSpec := { name := "nameEscape", fn := fun _ => fun
  | [d1, d2] => { results := [.lit (.bool false)], args := [d1, d2] }
  | _ => none }
def NameEscapeWrongFalsely : Prop := nameEscapeRow.holds Try.pinned (OpenSpec.ofChange nameEscapeWrong)

/-- 'matinslaw1.NameJoin': WHATEVER THE INPUT: true; the input reads as it did. -/
def nameJoinSpec : ChangeSpec := { name := "nameJoin", fn := fun _ => fun
  | [d1, d2] => { results := [.lit (.bool true)], args := [d1, d2] }
  | _ => none }
def nameJoinRow : OpenClaim := { program := "ytgflmoejdhfecaa", sum := "337a53574a3ebc53aa963b946e58a292de98e6c21a482e0b66800f0f368606de", func := "matins/matinslaw1.NameJoin", spec := "nameJoin", inPlace := ["internal/bytealg.IndexByteString", "internal/bytealg.IndexString", "internal/abi.NoEscape"], unfollowed := true, recurses := true, named := ["internal/bytealg.MaxLen"], apart := false }
def NameJoinSaid : Prop := nameJoinRow.holds Try.pinned (OpenSpec.ofChange nameJoinSpec)

/-- ITS FALSE NEIGHBOUR: 'it returns false'. Refute it at one input. -/
def nameJoinWrong : ChangeSpec := { name := "nameJoin", fn := fun _ => fun
  | [d1, d2] => { results := [.lit (.bool false)], args := [d1, d2] }
  | _ => none }
def NameJoinWrongFalsely : Prop := nameJoinRow.holds Try.pinned (OpenSpec.ofChange nameJoinWrong)

/- THE SECOND FORM. 'bulk': how many values and letters a reading holds, each counted each time it is reached (what is shared counts as often as it is met; a slice's spare places count too). A statement '..UptoSaid' is the law's where the arguments, and the package variables that the reading takes, are together of bulk at most 1048576: NARROWER than '..Said'. Prove '..Said' where nothing that the law and all that it calls make is longer than what came in: it says more and counts as full. Else prove '..UptoSaid'. A law counts once. -/
mutual
def uptoBulk {H : Type} : DataW H → Nat
  | .lit (.string bytes) => bytes.length + 1
  | .lit _ => 1
  | .nil => 1
  | .ptr d => uptoBulk d + 1
  | .slice elems spare => uptoBulkAll elems + uptoBulkAll spare + 1
  | .agg parts => uptoBulkAll parts + 1
  | .iface _ d => uptoBulk d + 1
  | .map entries => uptoBulkEntries entries + 1
  | .held _ => 1
def uptoBulkAll {H : Type} : List (DataW H) → Nat
  | [] => 0
  | d :: r => uptoBulk d + uptoBulkAll r
def uptoBulkEntries {H : Type} : List (Lit × DataW H) → Nat
  | [] => 0
  | x :: r => uptoBulkEntry x + uptoBulkEntries r
def uptoBulkEntry {H : Type} : Lit × DataW H → Nat
  | (.string bytes, d) => bytes.length + uptoBulk d + 1
  | (_, d) => uptoBulk d + 1
 end
def uptoSmall : (H : Type) → List (DataW H) → Bool := fun _ ds => decide (uptoBulkAll ds ≤ 1048576)
def OpenSpec.upto (s : _root_.Go.ChangeSpec) : _root_.Go.OpenSpec := { _root_.Go.OpenSpec.ofChange s with cond := some uptoSmall }

/-- 'matinslaw1.NameAll', WHERE WHAT IT READS IS OF BULK AT MOST 1048576: true; the input reads as it did. -/
def nameAllUptoRow : OpenClaim := { program := "ytgflmoejdhfecaa", sum := "337a53574a3ebc53aa963b946e58a292de98e6c21a482e0b66800f0f368606de", func := "matins/matinslaw1.NameAll", spec := "nameAll", inPlace := ["internal/bytealg.IndexByteString", "internal/bytealg.IndexString", "internal/abi.NoEscape"], unfollowed := true, recurses := true, named := ["internal/bytealg.MaxLen"], apart := false, narrowed := true }
def NameAllUptoSaid : Prop := nameAllUptoRow.holds Try.pinned (OpenSpec.upto nameAllSpec)

/-- 'matinslaw1.NameMake', WHERE WHAT IT READS IS OF BULK AT MOST 1048576: true; the input reads as it did. -/
def nameMakeUptoRow : OpenClaim := { program := "ytgflmoejdhfecaa", sum := "337a53574a3ebc53aa963b946e58a292de98e6c21a482e0b66800f0f368606de", func := "matins/matinslaw1.NameMake", spec := "nameMake", inPlace := ["internal/bytealg.IndexByteString", "internal/bytealg.IndexString", "internal/abi.NoEscape"], unfollowed := true, recurses := true, named := ["internal/bytealg.MaxLen"], apart := false, narrowed := true }
def NameMakeUptoSaid : Prop := nameMakeUptoRow.holds Try.pinned (OpenSpec.upto nameMakeSpec)

/-- 'matinslaw1.NamePieces', WHERE WHAT IT READS IS OF BULK AT MOST 1048576: true; the input reads as it did. -/
def namePiecesUptoRow : OpenClaim := { program := "ytgflmoejdhfecaa", sum := "337a53574a3ebc53aa963b946e58a292de98e6c21a482e0b66800f0f368606de", func := "matins/matinslaw1.NamePieces", spec := "namePieces", inPlace := ["internal/bytealg.IndexByteString", "internal/bytealg.IndexString", "internal/abi.NoEscape"], unfollowed := true, recurses := true, named := ["internal/bytealg.MaxLen"], apart := false, narrowed := true }
def NamePiecesUptoSaid : Prop := namePiecesUptoRow.holds Try.pinned (OpenSpec.upto namePiecesSpec)

/-- 'matinslaw1.NameTurn', WHERE WHAT IT READS IS OF BULK AT MOST 1048576: true; the input reads as it did. -/
def nameTurnUptoRow : OpenClaim := { program := "ytgflmoejdhfecaa", sum := "337a53574a3ebc53aa963b946e58a292de98e6c21a482e0b66800f0f368606de", func := "matins/matinslaw1.NameTurn", spec := "nameTurn", inPlace := ["internal/bytealg.IndexByteString", "internal/bytealg.IndexString", "internal/abi.NoEscape"], unfollowed := true, recurses := true, named := ["internal/bytealg.MaxLen"], apart := false, narrowed := true }
def NameTurnUptoSaid : Prop := nameTurnUptoRow.holds Try.pinned (OpenSpec.upto nameTurnSpec)

/-- 'matinslaw1.NameEscape', WHERE WHAT IT READS IS OF BULK AT MOST 1048576: true; the input reads as it did. -/
def nameEscapeUptoRow : OpenClaim := { program := "ytgflmoejdhfecaa", sum := "337a53574a3ebc53aa963b946e58a292de98e6c21a482e0b66800f0f368606de", func := "matins/matinslaw1.NameEscape", spec := "nameEscape", inPlace := ["internal/bytealg.IndexByteString", "internal/bytealg.IndexString", "internal/abi.NoEscape"], unfollowed := true, recurses := true, named := ["internal/bytealg.MaxLen"], apart := false, narrowed := true }
def NameEscapeUptoSaid : Prop := nameEscapeUptoRow.holds Try.pinned (OpenSpec.upto nameEscapeSpec)

/-- 'matinslaw1.NameJoin', WHERE WHAT IT READS IS OF BULK AT MOST 1048576: true; the input reads as it did. -/
def nameJoinUptoRow : OpenClaim := { program := "ytgflmoejdhfecaa", sum := "337a53574a3ebc53aa963b946e58a292de98e6c21a482e0b66800f0f368606de", func := "matins/matinslaw1.NameJoin", spec := "nameJoin", inPlace := ["internal/bytealg.IndexByteString", "internal/bytealg.IndexString", "internal/abi.NoEscape"], unfollowed := true, recurses := true, named := ["internal/bytealg.MaxLen"], apart := false, narrowed := true }
def NameJoinUptoSaid : Prop := nameJoinUptoRow.holds Try.pinned (OpenSpec.upto nameJoinSpec)

end Rows
end Go.Proofs.Ytgflmoejdhfecaa
