/-
  The walks of the reference's Escape and Unescape.
-/
import Derived.Test.YtcefnglmacpehaaNm9
namespace Go.Proofs.Ytcefnglmacpehaa
open Go.RowKit

end Go.Proofs.Ytcefnglmacpehaa
