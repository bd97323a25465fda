/-
  The library's insertion sort at this translation, laid by the shelf's own program in plain words.
-/
import Derived.Shelf.SlSortCmp.InsertionK
import Derived.Test.YtkfeicgeobhccaaProg
namespace Go.Proofs
open Go.Shelf
def Try.lIns_ren : Go.Shelf.Ren := ⟨fun | 20 => 55 | n => n, fun | 24 => 54 | 22 => 23 | 3 => 3 | 25 => 69 | 4 => 4 | 0 => 0 | n => n, fun | n => n⟩
theorem Try.lIns : Go.Proofs.SlLaysF0.n20 Try.prog Try.lIns_ren := {
  mixed := by kernel_rfl
  f20 := ⟨Try.f55.name, by decide, Try.func55.trans (congrArg some (by kernel_rfl))⟩
  t0 := Try.underlying0
  a0 := Try.isAgg0
  z0 := Try.sizeOf0
  v0 := Try.zeroValue0
  t3 := Try.underlying3
  a3 := Try.isAgg3
  z3 := Try.sizeOf3
  v3 := Try.zeroValue3
  t4 := Try.underlying4
  a4 := Try.isAgg4
  z4 := Try.sizeOf4
  v4 := Try.zeroValue4
  t22 := Try.underlying23
  a22 := Try.isAgg23
  z22 := Try.sizeOf23
  v22 := Try.zeroValue23
  t25 := Try.underlying69
  a25 := Try.isAgg69
  z25 := Try.sizeOf69
  v25 := Try.zeroValue69 }
end Go.Proofs
