/-
  No cell of these rows narrows 'for every input' (looked for: loops, veiled, ifaces, maps, wideKeys, modest, calm, conditions, laid).
  DERIVED. THE GIVEN ROWS OF THIS SEAT. 6 by the template 'for every input the law returns true; each argument reads behind the call as it read before'; 0 by the template 'total and deterministic' (their statements: YtkfeicgeobhccaaTotals.lean).
  GIVEN WITH THE SEED: the statements are not yours to turn. If you find one false, say at which input.
  Laid BY PROGRAM, IN A SANDBOX (cutbox-rows.mjs): the forced cells as the released guide's own fill.sh prints them over the translation c950e112debc83af… (all of the seat's roots in one cut). By AI agents, Wed Nov 11 2026. No macro, syntax, notation, axiom, sorry.
-/
import Derived.Test.YtkfeicgeobhccaaChecked
import GoSem.Claim
import GoSem.ClaimJoined
import GoSem.ClaimMapViews
import Derived.JoinedTies
import Derived.KernelRfl
namespace Go.Proofs.Ytkfeicgeobhccaa
/- THE CELL 'sum', in the pinned program and in every row, IS THE sha256 OF THE DUMP (.gsa) THAT YtkfeicgeobhccaaProg.lean LOADS. Nothing in Lean hashes anything: it is a label: what it is worth is what the hold of that sum in a sandbox is worth. -/
noncomputable def Try.pinned : Pinned := { name := "ytkfeicgeobhccaa", sum := "c950e112debc83af7cbe376072d6cce2dc25ef62399d6a6e65911f79e4a32817", checked := Try.checked }
namespace Rows
def none {H : Type} : Left H := { results := [], args := [] }

/-- 'matinslaw22.WorldMay': WHATEVER THE INPUT: true; the input reads as it did. -/
def worldMaySpec : ChangeSpec := { name := "worldMay", fn := fun _ => fun
  | [d] => { results := [.lit (.bool true)], args := [d] }
  | _ => none }
def worldMayRow : OpenClaim := { program := "ytkfeicgeobhccaa", sum := "c950e112debc83af7cbe376072d6cce2dc25ef62399d6a6e65911f79e4a32817", func := "matins/matinslaw22.WorldMay", spec := "worldMay", inPlace := ["internal/bytealg.IndexByteString", "internal/bytealg.IndexString"], unfollowed := true, recurses := true, named := ["internal/bytealg.MaxLen"], apart := false }
def WorldMaySaid : Prop := worldMayRow.holds Try.pinned (OpenSpec.ofChange worldMaySpec)

/-- ITS FALSE NEIGHBOUR: 'it returns false'. Refute it at one input. -/
def worldMayWrong : ChangeSpec := { name := "worldMay", fn := fun _ => fun
  | [d] => { results := [.lit (.bool false)], args := [d] }
  | _ => none }
def WorldMayWrongFalsely : Prop := worldMayRow.holds Try.pinned (OpenSpec.ofChange worldMayWrong)

/-- 'matinslaw22.WorldFind': WHATEVER THE INPUT: true; the input reads as it did. -/
def worldFindSpec : ChangeSpec := { name := "worldFind", fn := fun _ => fun
  | [d1, d2, d3, d4, d5] => { results := [.lit (.bool true)], args := [d1, d2, d3, d4, d5] }
  | _ => none }
def worldFindRow : OpenClaim := { program := "ytkfeicgeobhccaa", sum := "c950e112debc83af7cbe376072d6cce2dc25ef62399d6a6e65911f79e4a32817", func := "matins/matinslaw22.WorldFind", spec := "worldFind", inPlace := ["internal/bytealg.IndexByteString", "internal/bytealg.IndexString"], unfollowed := true, recurses := true, named := ["internal/bytealg.MaxLen"], apart := false }
def WorldFindSaid : Prop := worldFindRow.holds Try.pinned (OpenSpec.ofChange worldFindSpec)

/-- ITS FALSE NEIGHBOUR: 'it returns false'. Refute it at one input. -/
def worldFindWrong : ChangeSpec := { name := "worldFind", fn := fun _ => fun
  | [d1, d2, d3, d4, d5] => { results := [.lit (.bool false)], args := [d1, d2, d3, d4, d5] }
  | _ => none }
def WorldFindWrongFalsely : Prop := worldFindRow.holds Try.pinned (OpenSpec.ofChange worldFindWrong)

/-- 'matinslaw22.WorldHears': WHATEVER THE INPUT: true; the input reads as it did. -/
def worldHearsSpec : ChangeSpec := { name := "worldHears", fn := fun _ => fun
  | [d1, d2, d3, d4] => { results := [.lit (.bool true)], args := [d1, d2, d3, d4] }
  | _ => none }
def worldHearsRow : OpenClaim := { program := "ytkfeicgeobhccaa", sum := "c950e112debc83af7cbe376072d6cce2dc25ef62399d6a6e65911f79e4a32817", func := "matins/matinslaw22.WorldHears", spec := "worldHears", inPlace := ["internal/bytealg.IndexByteString", "internal/bytealg.IndexString"], unfollowed := true, recurses := true, named := ["internal/bytealg.MaxLen"], apart := false }
def WorldHearsSaid : Prop := worldHearsRow.holds Try.pinned (OpenSpec.ofChange worldHearsSpec)

/-- ITS FALSE NEIGHBOUR: 'it returns false'. Refute it at one input. -/
def worldHearsWrong : ChangeSpec := { name := "worldHears", fn := fun _ => fun
  | [d1, d2, d3, d4] => { results := [.lit (.bool false)], args := [d1, d2, d3, d4] }
  | _ => none }
def WorldHearsWrongFalsely : Prop := worldHearsRow.holds Try.pinned (OpenSpec.ofChange worldHearsWrong)

/-- 'matinslaw22.WorldMore': WHATEVER THE INPUT: true; the input reads as it did. -/
def worldMoreSpec : ChangeSpec := { name := "worldMore", fn := fun _ => fun
  | [d1, d2, d3, d4, d5, d6] => { results := [.lit (.bool true)], args := [d1, d2, d3, d4, d5, d6] }
  | _ => none }
def worldMoreRow : OpenClaim := { program := "ytkfeicgeobhccaa", sum := "c950e112debc83af7cbe376072d6cce2dc25ef62399d6a6e65911f79e4a32817", func := "matins/matinslaw22.WorldMore", spec := "worldMore", inPlace := ["internal/bytealg.IndexByteString", "internal/bytealg.IndexString"], unfollowed := true, recurses := true, named := ["internal/bytealg.MaxLen"], apart := false }
def WorldMoreSaid : Prop := worldMoreRow.holds Try.pinned (OpenSpec.ofChange worldMoreSpec)

/-- ITS FALSE NEIGHBOUR: 'it returns false'. Refute it at one input. -/
def worldMoreWrong : ChangeSpec := { name := "worldMore", fn := fun _ => fun
  | [d1, d2, d3, d4, d5, d6] => { results := [.lit (.bool false)], args := [d1, d2, d3, d4, d5, d6] }
  | _ => none }
def WorldMoreWrongFalsely : Prop := worldMoreRow.holds Try.pinned (OpenSpec.ofChange worldMoreWrong)

/-- 'matinslaw22.WorldOnce': WHATEVER THE INPUT: true; the input reads as it did. -/
def worldOnceSpec : ChangeSpec := { name := "worldOnce", fn := fun _ => fun
  | [d1, d2, d3, d4] => { results := [.lit (.bool true)], args := [d1, d2, d3, d4] }
  | _ => none }
def worldOnceRow : OpenClaim := { program := "ytkfeicgeobhccaa", sum := "c950e112debc83af7cbe376072d6cce2dc25ef62399d6a6e65911f79e4a32817", func := "matins/matinslaw22.WorldOnce", spec := "worldOnce", inPlace := ["internal/bytealg.IndexByteString", "internal/bytealg.IndexString"], unfollowed := true, recurses := true, named := ["internal/bytealg.MaxLen"], apart := false }
def WorldOnceSaid : Prop := worldOnceRow.holds Try.pinned (OpenSpec.ofChange worldOnceSpec)

/-- ITS FALSE NEIGHBOUR: 'it returns false'. Refute it at one input. -/
def worldOnceWrong : ChangeSpec := { name := "worldOnce", fn := fun _ => fun
  | [d1, d2, d3, d4] => { results := [.lit (.bool false)], args := [d1, d2, d3, d4] }
  | _ => none }
def WorldOnceWrongFalsely : Prop := worldOnceRow.holds Try.pinned (OpenSpec.ofChange worldOnceWrong)

/-- 'matinslaw22.WorldPorts': WHATEVER THE INPUT: true; the input reads as it did. -/
def worldPortsSpec : ChangeSpec := { name := "worldPorts", fn := fun _ => fun
  | [d1, d2, d3] => { results := [.lit (.bool true)], args := [d1, d2, d3] }
  | _ => none }
def worldPortsRow : OpenClaim := { program := "ytkfeicgeobhccaa", sum := "c950e112debc83af7cbe376072d6cce2dc25ef62399d6a6e65911f79e4a32817", func := "matins/matinslaw22.WorldPorts", spec := "worldPorts", inPlace := ["internal/bytealg.IndexByteString", "internal/bytealg.IndexString"], unfollowed := true, recurses := true, named := ["internal/bytealg.MaxLen"], apart := false }
def WorldPortsSaid : Prop := worldPortsRow.holds Try.pinned (OpenSpec.ofChange worldPortsSpec)

/-- ITS FALSE NEIGHBOUR: 'it returns false'. Refute it at one input. -/
def worldPortsWrong : ChangeSpec := { name := "worldPorts", fn := fun _ => fun
  | [d1, d2, d3] => { results := [.lit (.bool false)], args := [d1, d2, d3] }
  | _ => none }
def WorldPortsWrongFalsely : Prop := worldPortsRow.holds Try.pinned (OpenSpec.ofChange worldPortsWrong)

/- THE SECOND FORM. 'bulk': how many values and letters a reading holds, each counted each time it is reached (what is shared counts as often as it is met; a slice's spare places count too). A statement '..UptoSaid' is the law's where the arguments, and the package variables that the reading takes, are together of bulk at most 1048576: NARROWER than '..Said'. Prove '..Said' where nothing that the law and all that it calls make is longer than what came in: it says more and counts as full. Else prove '..UptoSaid'. A law counts once. -/
mutual
def uptoBulk {H : Type} : DataW H → Nat
  | .lit (.string bytes) => bytes.length + 1
  | .lit _ => 1
  | .nil => 1
  | .ptr d => uptoBulk d + 1
  | .slice elems spare => uptoBulkAll elems + uptoBulkAll spare + 1
  | .agg parts => uptoBulkAll parts + 1
  | .iface _ d => uptoBulk d + 1
  | .map entries => uptoBulkEntries entries + 1
  | .held _ => 1
def uptoBulkAll {H : Type} : List (DataW H) → Nat
  | [] => 0
  | d :: r => uptoBulk d + uptoBulkAll r
def uptoBulkEntries {H : Type} : List (Lit × DataW H) → Nat
  | [] => 0
  | x :: r => uptoBulkEntry x + uptoBulkEntries r
def uptoBulkEntry {H : Type} : Lit × DataW H → Nat
  | (.string bytes, d) => bytes.length + uptoBulk d + 1
  | (_, d) => uptoBulk d + 1
 end
def uptoSmall : (H : Type) → List (DataW H) → Bool := fun _ ds => decide (uptoBulkAll ds ≤ 1048576)
def OpenSpec.upto (s : _root_.Go.ChangeSpec) : _root_.Go.OpenSpec := { _root_.Go.OpenSpec.ofChange s with cond := some uptoSmall }

/-- 'matinslaw22.WorldMay', WHERE WHAT IT READS IS OF BULK AT MOST 1048576: true; the input reads as it did. -/
def worldMayUptoRow : OpenClaim := { program := "ytkfeicgeobhccaa", sum := "c950e112debc83af7cbe376072d6cce2dc25ef62399d6a6e65911f79e4a32817", func := "matins/matinslaw22.WorldMay", spec := "worldMay", inPlace := ["internal/bytealg.IndexByteString", "internal/bytealg.IndexString"], unfollowed := true, recurses := true, named := ["internal/bytealg.MaxLen"], apart := false, narrowed := true }
def WorldMayUptoSaid : Prop := worldMayUptoRow.holds Try.pinned (OpenSpec.upto worldMaySpec)

/-- 'matinslaw22.WorldFind', WHERE WHAT IT READS IS OF BULK AT MOST 1048576: true; the input reads as it did. -/
def worldFindUptoRow : OpenClaim := { program := "ytkfeicgeobhccaa", sum := "c950e112debc83af7cbe376072d6cce2dc25ef62399d6a6e65911f79e4a32817", func := "matins/matinslaw22.WorldFind", spec := "worldFind", inPlace := ["internal/bytealg.IndexByteString", "internal/bytealg.IndexString"], unfollowed := true, recurses := true, named := ["internal/bytealg.MaxLen"], apart := false, narrowed := true }
def WorldFindUptoSaid : Prop := worldFindUptoRow.holds Try.pinned (OpenSpec.upto worldFindSpec)

/-- 'matinslaw22.WorldHears', WHERE WHAT IT READS IS OF BULK AT MOST 1048576: true; the input reads as it did. -/
def worldHearsUptoRow : OpenClaim := { program := "ytkfeicgeobhccaa", sum := "c950e112debc83af7cbe376072d6cce2dc25ef62399d6a6e65911f79e4a32817", func := "matins/matinslaw22.WorldHears", spec := "worldHears", inPlace := ["internal/bytealg.IndexByteString", "internal/bytealg.IndexString"], unfollowed := true, recurses := true, named := ["internal/bytealg.MaxLen"], apart := false, narrowed := true }
def WorldHearsUptoSaid : Prop := worldHearsUptoRow.holds Try.pinned (OpenSpec.upto worldHearsSpec)

/-- 'matinslaw22.WorldMore', WHERE WHAT IT READS IS OF BULK AT MOST 1048576: true; the input reads as it did. -/
def worldMoreUptoRow : OpenClaim := { program := "ytkfeicgeobhccaa", sum := "c950e112debc83af7cbe376072d6cce2dc25ef62399d6a6e65911f79e4a32817", func := "matins/matinslaw22.WorldMore", spec := "worldMore", inPlace := ["internal/bytealg.IndexByteString", "internal/bytealg.IndexString"], unfollowed := true, recurses := true, named := ["internal/bytealg.MaxLen"], apart := false, narrowed := true }
def WorldMoreUptoSaid : Prop := worldMoreUptoRow.holds Try.pinned (OpenSpec.upto worldMoreSpec)

/-- 'matinslaw22.WorldOnce', WHERE WHAT IT READS IS OF BULK AT MOST 1048576: true; the input reads as it did. -/
def worldOnceUptoRow : OpenClaim := { program := "ytkfeicgeobhccaa", sum := "c950e112debc83af7cbe376072d6cce2dc25ef62399d6a6e65911f79e4a32817", func := "matins/matinslaw22.WorldOnce", spec := "worldOnce", inPlace := ["internal/bytealg.IndexByteString", "internal/bytealg.IndexString"], unfollowed := true, recurses := true, named := ["internal/bytealg.MaxLen"], apart := false, narrowed := true }
def WorldOnceUptoSaid : Prop := worldOnceUptoRow.holds Try.pinned (OpenSpec.upto worldOnceSpec)

/-- 'matinslaw22.WorldPorts', WHERE WHAT IT READS IS OF BULK AT MOST 1048576: true; the input reads as it did. -/
def worldPortsUptoRow : OpenClaim := { program := "ytkfeicgeobhccaa", sum := "c950e112debc83af7cbe376072d6cce2dc25ef62399d6a6e65911f79e4a32817", func := "matins/matinslaw22.WorldPorts", spec := "worldPorts", inPlace := ["internal/bytealg.IndexByteString", "internal/bytealg.IndexString"], unfollowed := true, recurses := true, named := ["internal/bytealg.MaxLen"], apart := false, narrowed := true }
def WorldPortsUptoSaid : Prop := worldPortsUptoRow.holds Try.pinned (OpenSpec.upto worldPortsSpec)

end Rows
end Go.Proofs.Ytkfeicgeobhccaa
