/-
  The walks of the reference's functions on names: a name of its pieces, templates, instances, changes.
-/
import Derived.Test.YthdefhfgbanfpaaDoorNm5
namespace Go.Proofs.YthdefhfgbanfpaaDoor
open Go.RowKit

theorem of_ex (l : List UInt8) : ∃ (k : Int) (p i : ByteArray) (a : Bool), Hid (Sp.ofL l = (k, p.data.toList, i.data.toList, a)) ∧ p.size ≤ 60 ∧ i.size ≤ 60 :=
  ⟨(Sp.ofL l).1, ⟨(Sp.ofL l).2.1.toArray⟩, ⟨(Sp.ofL l).2.2.1.toArray⟩, (Sp.ofL l).2.2.2, Lib.hid rfl, (Sp.ofL_len l).1, (Sp.ofL_len l).2⟩

end Go.Proofs.YthdefhfgbanfpaaDoor
