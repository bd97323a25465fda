/-
  Machines that come in, opened; what the rows' lists of variables give, and a world in which they lie so.
-/
import Derived.Test.YtkgkipohalekmaaDoorHd
import Derived.Lib.LaidTab
import Derived.Lib.ItoaNum
import Derived.Lib.AppendIntMem
import Derived.Stop.LaidErr
import Derived.Deep.DeepLaidRun
import Derived.MakeChecks
import Derived.WideWitness
import Derived.Shelf.Vars
namespace Go.Proofs.YtkgkipohalekmaaDoor
open Go Go.RowKit Go.ChangeShapes Go.WideShapes Go.Deep Go.Joins
theorem shape_mach : shapeOf Tryd.prog 12 34 = some qMach := by kernel_rfl
section
variable {H : Type} {enc : TypeId × Value → H} {w : World} {base : Nat} {held : Bool}
set_option maxRecDepth 100000 in
theorem mach_raw {v : Value} {r : Reach} {b0 : Nat} {d : DataW H} {p : List MemPlace} (hok : Value.okWide Tryd.prog w r b0 34 v)
    (h : DataW.Trod enc Tryd.prog w base (fun _ => true) held 34 v d p) (hp : ∀ x ∈ p, x.block < w.heap.size) (hw : ∀ m ∈ d.weights Tryd.prog 34, m ≤ reachBytes) :
    ∃ (D : List Ce × Array Value), v = .agg D.2 ∧ Ce.Ats w w.heap.size D.1 D.2.toList ∧ Ce.Oks D.1 qMach ∧ Ce.bulks D.1 ≤ Rows.uptoBulk d := by
  obtain ⟨cs, rfl, hsz⟩ := okWide_struct Tryd.underlying34 hok
  obtain ⟨fuel, hf⟩ := h
  obtain ⟨ds, h1, h2, h3⟩ := open_ce 12 34 qMach shape_mach fuel _ _ hf hp hw
  exact ⟨(ds, cs), rfl, h2, h1, h3⟩
end
theorem canonsame_any (D0 D1 : List Ce × Array Value) (W : World) (h0 : MIn W D0.1 D0.2) (h1 : MIn W D1.1 D1.2) (E : Env W) : Calls Tryd.prog 3 #[.agg D0.2, .agg D1.2] W fun e w' => e = .returned (.bool true) ∧ Below W.heap.size W w' := csamelaw E h0 h1
/-- the list that each row bears -/
def laidAll : List (String × DataW Unit) := [("math/bits.deBruijn32tab", Rows.laid_math_bits_deBruijn32tab), ("math/bits.deBruijn64tab", Rows.laid_math_bits_deBruijn64tab), ("internal/strconv.uint64pow10", Rows.laid_internal_strconv_uint64pow10)]
theorem gTab : Tryd.prog.globalNamed "internal/strconv.uint64pow10" = some 0 := by kernel_rfl
theorem gTabType : (Tryd.prog.globals[0]?).map (·.type) = some 180 := by kernel_rfl
theorem cellsTab : Tryd.prog.cellsOf 180 = 20 := by kernel_rfl
theorem cellsOne : Tryd.prog.cellsOf 166 = 1 := by kernel_rfl
theorem pow10_eq : Lib.pow10Tab = [1, 10, 100, 1000, 10000, 100000, 1000000, 10000000, 100000000, 1000000000, 10000000000, 100000000000, 1000000000000, 10000000000000, 100000000000000, 1000000000000000, 10000000000000000, 100000000000000000, 1000000000000000000, 10000000000000000000] := by decide +kernel
theorem laid_plain {W : World} (h : laidMetH Tryd.prog laidAll W) : laidMet Tryd.prog laidAll W := by
  rw [MakeChecks.laidMetH_plain _ _ _ (by kernel_rfl)] at h
  exact h
theorem table {W : World} (h : laidMetH Tryd.prog laidAll W) : Lib.TabIs Tryd.prog W "internal/strconv.uint64pow10" .u64 Lib.pow10Tab := by
  have h := laid_plain h
  rw [pow10_eq]
  exact Lib.tabIs_of_head gTab gTabType Tryd.underlying180 Tryd.underlying166 cellsOne cellsTab h.tail.tail
theorem env_of {W : World} (h : laidMetH Tryd.prog laidAll W) (_hS : W.ShapedOpen Tryd.prog) : Env W := fun w' hb => Lib.tabBelow_of_tabIs (table h) w' hb
/-- the values of a table -/
def flatVals (d : DataW Unit) : List Value := match d with
  | .agg ds => ds.flatMap fun x => match x with | .lit l => [l.value] | .agg es => es.map (fun y => match y with | .lit l => l.value | _ => undef) | _ => [undef]
  | _ => []
def setB (vs : Array Value) : Obj → Obj
  | .cells _ t frozen => .cells vs t frozen
  | o => o
noncomputable def laidWorld (os : Os) : World :=
  let w0 := World.holding Tryd.prog os ⟨#[], #[], []⟩
  { w0 with heap := (((w0.heap.modify 1 (setB (flatVals Rows.laid_math_bits_deBruijn32tab).toArray)).modify 2 (setB (flatVals Rows.laid_math_bits_deBruijn64tab).toArray)).modify 0 (setB (flatVals Rows.laid_internal_strconv_uint64pow10).toArray)) }
theorem laid_met (os : Os) (args : Array Value) : laidMet Tryd.prog laidAll ((laidWorld os).forCall (fun _ _ => 0) ⟨#[], args, []⟩).memory :=
  laidMet_of_run3 8 (by kernel_rfl) (by kernel_rfl) (by kernel_rfl)

end Go.Proofs.YtkgkipohalekmaaDoor
