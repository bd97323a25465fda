/-
  The walk of the law that says of any world what any command does, at a world and a unit as they come in.
-/
import Derived.Test.YtkfeicgeobhccaaWw
import Derived.Test.YtkfeicgeobhccaaWx
namespace Go.Proofs.Ytkfeicgeobhccaa
open Go.RowKit

theorem worldfind_row (D : WorldD) (U : UnitD) (part num att : Int) (w : World) (h : WorldGood w D) (_ : True) :
    Calls Try.prog 4 #[worldV D, unitV U, .int .i64 part, .int .i64 num, .int .i64 att] w fun e w' => e = .returned (.bool true) ∧ Below w.heap.size w w' :=
  worldfind_any D U.nm U.ty (U.u 1) (U.u 2) (U.u 3) (U.u 4) (U.u 5) (U.u 6) (U.u 8) (U.u 9) (U.u 10) (U.u 11) (U.u 12) (U.u 13) (U.u 14) (U.u 15) (U.u 16) (U.u 17) (U.u 18) (U.u 19) (U.u 20) (U.u 21) (U.u 22) (U.u 23) (U.u 24) (U.u 25) (U.u 26) (U.u 27) (U.u 28) (U.u 29) (U.u 30) (U.u 31) (U.u 32) (U.u 33) (U.u 34) part num att w h

end Go.Proofs.Ytkfeicgeobhccaa
