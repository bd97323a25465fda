/-
  No cell of these rows narrows 'for every input' (looked for: loops, veiled, ifaces, maps, wideKeys, modest, calm, conditions, laid).
  DERIVED. THE GIVEN ROWS OF THIS SEAT. 5 by the template 'for every input the law returns true; each argument reads behind the call as it read before'; 0 by the template 'total and deterministic' (their statements: YtcefnglmacpehaaTotals.lean).
  GIVEN WITH THE SEED: the statements are not yours to turn. If you find one false, say at which input.
  Laid BY PROGRAM, IN A SANDBOX (cutbox-rows.mjs): the forced cells as the released guide's own fill.sh prints them over the translation 288639ef4905d962… (all of the seat's roots in one cut). By AI agents, Wed Nov 11 2026. No macro, syntax, notation, axiom, sorry.
-/
import Derived.Test.YtcefnglmacpehaaChecked
import GoSem.Claim
import GoSem.ClaimJoined
import GoSem.ClaimMapViews
import Derived.JoinedTies
import Derived.KernelRfl
namespace Go.Proofs.Ytcefnglmacpehaa
/- THE CELL 'sum', in the pinned program and in every row, IS THE sha256 OF THE DUMP (.gsa) THAT YtcefnglmacpehaaProg.lean LOADS. Nothing in Lean hashes anything: it is a label: what it is worth is what the hold of that sum in a sandbox is worth. -/
noncomputable def Try.pinned : Pinned := { name := "ytcefnglmacpehaa", sum := "288639ef4905d9625444794f635c5e82a1c82670270202afc6209f270fbaf3e1", checked := Try.checked }
namespace Rows
def none {H : Type} : Left H := { results := [], args := [] }

/-- 'matinslaw6.ExpandSpec': WHATEVER THE INPUT: true; the input reads as it did. -/
def expandSpecSpec : ChangeSpec := { name := "expandSpec", fn := fun _ => fun
  | [d1, d2] => { results := [.lit (.bool true)], args := [d1, d2] }
  | _ => none }
def expandSpecRow : OpenClaim := { program := "ytcefnglmacpehaa", sum := "288639ef4905d9625444794f635c5e82a1c82670270202afc6209f270fbaf3e1", func := "matins/matinslaw6.ExpandSpec", spec := "expandSpec", inPlace := ["internal/bytealg.IndexByteString", "internal/bytealg.IndexString", "internal/abi.NoEscape"], unfollowed := true, recurses := true, named := ["internal/bytealg.MaxLen"], apart := false }
def ExpandSpecSaid : Prop := expandSpecRow.holds Try.pinned (OpenSpec.ofChange expandSpecSpec)

/-- ITS FALSE NEIGHBOUR: 'it returns false'. Refute it at one input. -/
def expandSpecWrong : ChangeSpec := { name := "expandSpec", fn := fun _ => fun
  | [d1, d2] => { results := [.lit (.bool false)], args := [d1, d2] }
  | _ => none }
def ExpandSpecWrongFalsely : Prop := expandSpecRow.holds Try.pinned (OpenSpec.ofChange expandSpecWrong)

/-- 'matinslaw6.ExpandVars': WHATEVER THE INPUT: true; the input reads as it did. -/
def expandVarsSpec : ChangeSpec := { name := "expandVars", fn := fun _ => fun
  | [d1, d2] => { results := [.lit (.bool true)], args := [d1, d2] }
  | _ => none }
def expandVarsRow : OpenClaim := { program := "ytcefnglmacpehaa", sum := "288639ef4905d9625444794f635c5e82a1c82670270202afc6209f270fbaf3e1", func := "matins/matinslaw6.ExpandVars", spec := "expandVars", inPlace := ["internal/bytealg.IndexByteString", "internal/bytealg.IndexString", "internal/abi.NoEscape"], unfollowed := true, recurses := true, named := ["internal/bytealg.MaxLen"], apart := false }
def ExpandVarsSaid : Prop := expandVarsRow.holds Try.pinned (OpenSpec.ofChange expandVarsSpec)

/-- ITS FALSE NEIGHBOUR: 'it returns false'. Refute it at one input. -/
def expandVarsWrong : ChangeSpec := { name := "expandVars", fn := fun _ => fun
  | [d1, d2] => { results := [.lit (.bool false)], args := [d1, d2] }
  | _ => none }
def ExpandVarsWrongFalsely : Prop := expandVarsRow.holds Try.pinned (OpenSpec.ofChange expandVarsWrong)

/-- 'matinslaw6.ExpandPercent': WHATEVER THE INPUT: true; the input reads as it did. -/
def expandPercentSpec : ChangeSpec := { name := "expandPercent", fn := fun _ => fun
  | [d1, d2, d3] => { results := [.lit (.bool true)], args := [d1, d2, d3] }
  | _ => none }
def expandPercentRow : OpenClaim := { program := "ytcefnglmacpehaa", sum := "288639ef4905d9625444794f635c5e82a1c82670270202afc6209f270fbaf3e1", func := "matins/matinslaw6.ExpandPercent", spec := "expandPercent", inPlace := ["internal/bytealg.IndexByteString", "internal/bytealg.IndexString", "internal/abi.NoEscape"], unfollowed := true, recurses := true, named := ["internal/bytealg.MaxLen"], apart := false }
def ExpandPercentSaid : Prop := expandPercentRow.holds Try.pinned (OpenSpec.ofChange expandPercentSpec)

/-- ITS FALSE NEIGHBOUR: 'it returns false'. Refute it at one input. -/
def expandPercentWrong : ChangeSpec := { name := "expandPercent", fn := fun _ => fun
  | [d1, d2, d3] => { results := [.lit (.bool false)], args := [d1, d2, d3] }
  | _ => none }
def ExpandPercentWrongFalsely : Prop := expandPercentRow.holds Try.pinned (OpenSpec.ofChange expandPercentWrong)

/-- 'matinslaw6.ExpandLast': WHATEVER THE INPUT: true; the input reads as it did. -/
def expandLastSpec : ChangeSpec := { name := "expandLast", fn := fun _ => fun
  | [d1, d2, d3, d4, d5] => { results := [.lit (.bool true)], args := [d1, d2, d3, d4, d5] }
  | _ => none }
def expandLastRow : OpenClaim := { program := "ytcefnglmacpehaa", sum := "288639ef4905d9625444794f635c5e82a1c82670270202afc6209f270fbaf3e1", func := "matins/matinslaw6.ExpandLast", spec := "expandLast", inPlace := ["internal/bytealg.IndexByteString", "internal/bytealg.IndexString", "internal/abi.NoEscape"], unfollowed := true, recurses := true, named := ["internal/bytealg.MaxLen"], apart := false }
def ExpandLastSaid : Prop := expandLastRow.holds Try.pinned (OpenSpec.ofChange expandLastSpec)

/-- ITS FALSE NEIGHBOUR: 'it returns false'. Refute it at one input. -/
def expandLastWrong : ChangeSpec := { name := "expandLast", fn := fun _ => fun
  | [d1, d2, d3, d4, d5] => { results := [.lit (.bool false)], args := [d1, d2, d3, d4, d5] }
  | _ => none }
def ExpandLastWrongFalsely : Prop := expandLastRow.holds Try.pinned (OpenSpec.ofChange expandLastWrong)

/-- 'matinslaw6.ExpandPlain': WHATEVER THE INPUT: true; the input reads as it did. -/
def expandPlainSpec : ChangeSpec := { name := "expandPlain", fn := fun _ => fun
  | [d1, d2] => { results := [.lit (.bool true)], args := [d1, d2] }
  | _ => none }
def expandPlainRow : OpenClaim := { program := "ytcefnglmacpehaa", sum := "288639ef4905d9625444794f635c5e82a1c82670270202afc6209f270fbaf3e1", func := "matins/matinslaw6.ExpandPlain", spec := "expandPlain", inPlace := ["internal/bytealg.IndexByteString", "internal/bytealg.IndexString", "internal/abi.NoEscape"], unfollowed := true, recurses := true, named := ["internal/bytealg.MaxLen"], apart := false }
def ExpandPlainSaid : Prop := expandPlainRow.holds Try.pinned (OpenSpec.ofChange expandPlainSpec)

/-- ITS FALSE NEIGHBOUR: 'it returns false'. Refute it at one input. -/
def expandPlainWrong : ChangeSpec := { name := "expandPlain", fn := fun _ => fun
  | [d1, d2] => { results := [.lit (.bool false)], args := [d1, d2] }
  | _ => none }
def ExpandPlainWrongFalsely : Prop := expandPlainRow.holds Try.pinned (OpenSpec.ofChange expandPlainWrong)

/- THE SECOND FORM. 'bulk': how many values and letters a reading holds, each counted each time it is reached (what is shared counts as often as it is met; a slice's spare places count too). A statement '..UptoSaid' is the law's where the arguments, and the package variables that the reading takes, are together of bulk at most 1048576: NARROWER than '..Said'. Prove '..Said' where nothing that the law and all that it calls make is longer than what came in: it says more and counts as full. Else prove '..UptoSaid'. A law counts once. -/
mutual
def uptoBulk {H : Type} : DataW H → Nat
  | .lit (.string bytes) => bytes.length + 1
  | .lit _ => 1
  | .nil => 1
  | .ptr d => uptoBulk d + 1
  | .slice elems spare => uptoBulkAll elems + uptoBulkAll spare + 1
  | .agg parts => uptoBulkAll parts + 1
  | .iface _ d => uptoBulk d + 1
  | .map entries => uptoBulkEntries entries + 1
  | .held _ => 1
def uptoBulkAll {H : Type} : List (DataW H) → Nat
  | [] => 0
  | d :: r => uptoBulk d + uptoBulkAll r
def uptoBulkEntries {H : Type} : List (Lit × DataW H) → Nat
  | [] => 0
  | x :: r => uptoBulkEntry x + uptoBulkEntries r
def uptoBulkEntry {H : Type} : Lit × DataW H → Nat
  | (.string bytes, d) => bytes.length + uptoBulk d + 1
  | (_, d) => uptoBulk d + 1
 end
def uptoSmall : (H : Type) → List (DataW H) → Bool := fun _ ds => decide (uptoBulkAll ds ≤ 1048576)
def OpenSpec.upto (s : _root_.Go.ChangeSpec) : _root_.Go.OpenSpec := { _root_.Go.OpenSpec.ofChange s with cond := some uptoSmall }

/-- 'matinslaw6.ExpandSpec', WHERE WHAT IT READS IS OF BULK AT MOST 1048576: true; the input reads as it did. -/
def expandSpecUptoRow : OpenClaim := { program := "ytcefnglmacpehaa", sum := "288639ef4905d9625444794f635c5e82a1c82670270202afc6209f270fbaf3e1", func := "matins/matinslaw6.ExpandSpec", spec := "expandSpec", inPlace := ["internal/bytealg.IndexByteString", "internal/bytealg.IndexString", "internal/abi.NoEscape"], unfollowed := true, recurses := true, named := ["internal/bytealg.MaxLen"], apart := false, narrowed := true }
def ExpandSpecUptoSaid : Prop := expandSpecUptoRow.holds Try.pinned (OpenSpec.upto expandSpecSpec)

/-- 'matinslaw6.ExpandVars', WHERE WHAT IT READS IS OF BULK AT MOST 1048576: true; the input reads as it did. -/
def expandVarsUptoRow : OpenClaim := { program := "ytcefnglmacpehaa", sum := "288639ef4905d9625444794f635c5e82a1c82670270202afc6209f270fbaf3e1", func := "matins/matinslaw6.ExpandVars", spec := "expandVars", inPlace := ["internal/bytealg.IndexByteString", "internal/bytealg.IndexString", "internal/abi.NoEscape"], unfollowed := true, recurses := true, named := ["internal/bytealg.MaxLen"], apart := false, narrowed := true }
def ExpandVarsUptoSaid : Prop := expandVarsUptoRow.holds Try.pinned (OpenSpec.upto expandVarsSpec)

/-- 'matinslaw6.ExpandPercent', WHERE WHAT IT READS IS OF BULK AT MOST 1048576: true; the input reads as it did. -/
def expandPercentUptoRow : OpenClaim := { program := "ytcefnglmacpehaa", sum := "288639ef4905d9625444794f635c5e82a1c82670270202afc6209f270fbaf3e1", func := "matins/matinslaw6.ExpandPercent", spec := "expandPercent", inPlace := ["internal/bytealg.IndexByteString", "internal/bytealg.IndexString", "internal/abi.NoEscape"], unfollowed := true, recurses := true, named := ["internal/bytealg.MaxLen"], apart := false, narrowed := true }
def ExpandPercentUptoSaid : Prop := expandPercentUptoRow.holds Try.pinned (OpenSpec.upto expandPercentSpec)

/-- 'matinslaw6.ExpandLast', WHERE WHAT IT READS IS OF BULK AT MOST 1048576: true; the input reads as it did. -/
def expandLastUptoRow : OpenClaim := { program := "ytcefnglmacpehaa", sum := "288639ef4905d9625444794f635c5e82a1c82670270202afc6209f270fbaf3e1", func := "matins/matinslaw6.ExpandLast", spec := "expandLast", inPlace := ["internal/bytealg.IndexByteString", "internal/bytealg.IndexString", "internal/abi.NoEscape"], unfollowed := true, recurses := true, named := ["internal/bytealg.MaxLen"], apart := false, narrowed := true }
def ExpandLastUptoSaid : Prop := expandLastUptoRow.holds Try.pinned (OpenSpec.upto expandLastSpec)

/-- 'matinslaw6.ExpandPlain', WHERE WHAT IT READS IS OF BULK AT MOST 1048576: true; the input reads as it did. -/
def expandPlainUptoRow : OpenClaim := { program := "ytcefnglmacpehaa", sum := "288639ef4905d9625444794f635c5e82a1c82670270202afc6209f270fbaf3e1", func := "matins/matinslaw6.ExpandPlain", spec := "expandPlain", inPlace := ["internal/bytealg.IndexByteString", "internal/bytealg.IndexString", "internal/abi.NoEscape"], unfollowed := true, recurses := true, named := ["internal/bytealg.MaxLen"], apart := false, narrowed := true }
def ExpandPlainUptoSaid : Prop := expandPlainUptoRow.holds Try.pinned (OpenSpec.upto expandPlainSpec)

end Rows
end Go.Proofs.Ytcefnglmacpehaa
