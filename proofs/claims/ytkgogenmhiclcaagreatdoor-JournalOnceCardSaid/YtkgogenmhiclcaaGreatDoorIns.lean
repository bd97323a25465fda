/-
  The library's insertion sort at this translation, laid by the shelf's own program in plain words.
-/
import Derived.Shelf.SlSortCmp.InsertionK
import Derived.Test.YtkgogenmhiclcaaGreatDoorProg
namespace Go.Proofs
open Go.Shelf
def Tryz.lIns_ren : Go.Shelf.Ren := ⟨fun | 20 => 55 | n => n, fun | 24 => 37 | 22 => 22 | 3 => 3 | 25 => 44 | 4 => 4 | 0 => 0 | n => n, fun | n => n⟩
theorem Tryz.lIns : Go.Proofs.SlLaysF0.n20 Tryz.prog Tryz.lIns_ren := {
  mixed := by kernel_rfl
  f20 := ⟨Tryz.f55.name, by decide, Tryz.func55.trans (congrArg some (by kernel_rfl))⟩
  t0 := Tryz.underlying0
  a0 := Tryz.isAgg0
  z0 := Tryz.sizeOf0
  v0 := Tryz.zeroValue0
  t3 := Tryz.underlying3
  a3 := Tryz.isAgg3
  z3 := Tryz.sizeOf3
  v3 := Tryz.zeroValue3
  t4 := Tryz.underlying4
  a4 := Tryz.isAgg4
  z4 := Tryz.sizeOf4
  v4 := Tryz.zeroValue4
  t22 := Tryz.underlying22
  a22 := Tryz.isAgg22
  z22 := Tryz.sizeOf22
  v22 := Tryz.zeroValue22
  t25 := Tryz.underlying44
  a25 := Tryz.isAgg44
  z25 := Tryz.sizeOf44
  v25 := Tryz.zeroValue44 }
end Go.Proofs
