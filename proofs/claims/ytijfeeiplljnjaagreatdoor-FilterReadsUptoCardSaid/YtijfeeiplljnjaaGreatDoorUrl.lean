/-
  What the rows' lists of variables give, and a world in which they lie so.
-/
import Derived.Test.YtijfeeiplljnjaaGreatDoorRc
import Derived.Test.YtijfeeiplljnjaaGreatDoorGo
import Derived.Lib.LaidTab
import Derived.Lib.ItoaNum
import Derived.Lib.AppendIntMem
import Derived.Stop.LaidErr
import Derived.Deep.DeepLaidRun
import Derived.MakeChecks
import Derived.WideWitness
import Derived.Shelf.Vars
namespace Go.Proofs.YtijfeeiplljnjaaGreatDoor
open Go Go.RowKit

/-- the list that each row bears -/
def laidAll : List (String × DataW Unit) := [("math/bits.deBruijn32tab", Rows.laid_math_bits_deBruijn32tab), ("math/bits.deBruijn64tab", Rows.laid_math_bits_deBruijn64tab), ("internal/strconv.uint64pow10", Rows.laid_internal_strconv_uint64pow10), ("strconv.ErrRange", Rows.laid_strconv_ErrRange), ("strconv.ErrSyntax", Rows.laid_strconv_ErrSyntax)]
theorem gTab : Tryz.prog.globalNamed "internal/strconv.uint64pow10" = some 1 := by kernel_rfl
theorem gTabType : (Tryz.prog.globals[1]?).map (·.type) = some 142 := by kernel_rfl
theorem cellsTab : Tryz.prog.cellsOf 142 = 20 := by kernel_rfl
theorem cellsOne : Tryz.prog.cellsOf 123 = 1 := by kernel_rfl
theorem pow10_eq : Lib.pow10Tab = [1, 10, 100, 1000, 10000, 100000, 1000000, 10000000, 100000000, 1000000000, 10000000000, 100000000000, 1000000000000, 10000000000000, 100000000000000, 1000000000000000, 10000000000000000, 100000000000000000, 1000000000000000000, 10000000000000000000] := by decide +kernel
theorem laid_plain {W : World} (h : laidMetH Tryz.prog laidAll W) : laidMet Tryz.prog laidAll W := by
  rw [MakeChecks.laidMetH_plain _ _ _ (by kernel_rfl)] at h
  exact h
theorem table {W : World} (h : laidMetH Tryz.prog laidAll W) : Lib.TabIs Tryz.prog W "internal/strconv.uint64pow10" .u64 Lib.pow10Tab := by
  have h := laid_plain h
  rw [pow10_eq]
  exact Lib.tabIs_of_head gTab gTabType Tryz.underlying142 Tryz.underlying123 cellsOne cellsTab h.tail.tail
theorem below_cell {W w' : World} {p : Addr} {v : Value} (h : W.cell? p = some v) (hb : Below W.heap.size W w') : w'.cell? p = some v := by
  have hlt : p.block < W.heap.size := by
    unfold World.cell? at h
    split at h
    · rename_i hx; exact (Array.getElem?_eq_some_iff.1 hx).1
    · cases h
  exact (hb.cell hlt).trans h
theorem iface_in {P : Program} {W : World} {n nm : String} {x : DataW Unit} {r : List (String × DataW Unit)} {g : Nat} {ti : TypeId} {ms : Array (String × TypeId)}
    (h : laidMet P ((n, .iface nm (.ptr x)) :: r) W) (hg : P.globalNamed n = some g) (ht : (P.globals[g]?).map (·.type) = some ti) (hi : P.underlying ti = some (.interface ms)) : ∃ t p, W.cell? ⟨g, 0, none⟩ = some (.iface t p) := by
  obtain ⟨ps, ⟨g0, t0, cs0, f0, p0, q0, hg0, ht0, hv0, hd0, _, e0⟩, _, _⟩ := h
  obtain rfl := Option.some.inj (hg.symm.trans hg0)
  obtain rfl := Option.some.inj (ht.symm.trans ht0)
  obtain ⟨l0⟩ := cs0
  obtain ⟨f1, u, v, rfl, _, _⟩ := Go.iface_of_trod hi hd0
  exact ⟨u, v, by rw [World.var?_cell hg0 hv0 0]; rfl⟩
theorem env_of {W : World} (h : laidMetH Tryz.prog laidAll W) (hS : W.ShapedOpen Tryz.prog) : Env W := by
  have h1 := laid_plain h
  obtain ⟨ts, ps, hs⟩ := iface_in h1.tail.tail.tail.tail (g := 2) (by kernel_rfl) (by kernel_rfl) Tryz.underlying98
  obtain ⟨tr, pr, hr⟩ := iface_in h1.tail.tail.tail (g := 3) (by kernel_rfl) (by kernel_rfl) Tryz.underlying98
  obtain ⟨m, hm⟩ := cell_of_shapedOpen_int (g := 0) (zero := #[.int .i64 0]) (t := 3) hS (of_decide_eq_true (by kernel_rfl)) (by kernel_rfl) rfl (by kernel_rfl) (by kernel_rfl) Tryz.underlying3
  intro w' hb
  exact ⟨Lib.tabBelow_of_tabIs (table h) w' hb, ⟨ts, ps, below_cell hs hb⟩, ⟨tr, pr, below_cell hr hb⟩, ⟨m, below_cell hm hb⟩⟩

/-- the values of a table -/
def flatVals (d : DataW Unit) : List Value := match d with
  | .agg ds => ds.flatMap fun x => match x with | .lit l => [l.value] | .agg es => es.map (fun y => match y with | .lit l => l.value | _ => undef) | _ => [undef]
  | _ => []
noncomputable def low : Nat := (World.holding Tryz.prog default ⟨#[], #[], []⟩).heap.size
def setB (vs : Array Value) : Obj → Obj
  | .cells _ t frozen => .cells vs t frozen
  | o => o
noncomputable def laidWorld (os : Os) : World :=
  let w0 := World.holding Tryz.prog os ⟨#[.cells #[.string ⟨#[118, 97, 108, 117, 101, 32, 111, 117, 116, 32, 111, 102, 32, 114, 97, 110, 103, 101]⟩] 159, .cells #[.string ⟨#[105, 110, 118, 97, 108, 105, 100, 32, 115, 121, 110, 116, 97, 120]⟩] 159], #[], []⟩
  { w0 with heap := ((((w0.heap.modify 4 (setB (flatVals Rows.laid_math_bits_deBruijn32tab).toArray)).modify 5 (setB (flatVals Rows.laid_math_bits_deBruijn64tab).toArray)).modify 1 (setB (flatVals Rows.laid_internal_strconv_uint64pow10).toArray)).modify
      3 (setB #[.iface 157 (.pointer (some ⟨low, 0, none⟩))])).modify 2 (setB #[.iface 157 (.pointer (some ⟨low + 1, 0, none⟩))]) }
theorem laid_met (os : Os) (args : Array Value) : laidMet Tryz.prog laidAll ((laidWorld os).forCall (fun _ _ => 0) ⟨#[], args, []⟩).memory :=
  laidMet_of_run3 8 (by kernel_rfl) (by kernel_rfl) (by kernel_rfl)

end Go.Proofs.YtijfeeiplljnjaaGreatDoor
