/-
  The walk of the reference's Of: a name in its pieces.
-/
import Derived.Test.YthdefhfgbanfpaaDoorNm3
import Derived.RegionTactic
import Derived.ChangeAlike
namespace Go.Proofs.YthdefhfgbanfpaaDoor
open Go.RowKit

/-- the value that the reference's pieces are -/
def cutV (c : Int × List UInt8 × List UInt8 × Bool) : Value := .agg #[.int .i64 c.1, .string ⟨c.2.1.toArray⟩, .string ⟨c.2.2.1.toArray⟩, .bool c.2.2.2]

end Go.Proofs.YthdefhfgbanfpaaDoor
