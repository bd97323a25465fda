/-
  The walks of the reference's functions on names: a name of its pieces, templates, instances, changes.
-/
import Derived.Test.YtijfeeiplljnjaaGreatDoorNm5
namespace Go.Proofs.YtijfeeiplljnjaaGreatDoor
open Go.RowKit

@[go_sem] theorem cut_field0 (k : Int) (p i : ByteArray) (a : Bool) (w : World) : (Instr.field 103 (.agg #[.int .i64 k, .string p, .string i, .bool a]) 0).run Tryz.prog w = .ok (.int .i64 k) w := by kernel_rfl
@[go_sem] theorem cut_field1 (k : Int) (p i : ByteArray) (a : Bool) (w : World) : (Instr.field 103 (.agg #[.int .i64 k, .string p, .string i, .bool a]) 1).run Tryz.prog w = .ok (.string p) w := by kernel_rfl
@[go_sem] theorem cut_field2 (k : Int) (p i : ByteArray) (a : Bool) (w : World) : (Instr.field 103 (.agg #[.int .i64 k, .string p, .string i, .bool a]) 2).run Tryz.prog w = .ok (.string i) w := by kernel_rfl
@[go_sem] theorem cut_field3 (k : Int) (p i : ByteArray) (a : Bool) (w : World) : (Instr.field 103 (.agg #[.int .i64 k, .string p, .string i, .bool a]) 3).run Tryz.prog w = .ok (.bool a) w := by kernel_rfl

theorem of_as (s : ByteArray) (w : World) (k : Int) (p i : ByteArray) (a : Bool) (h : Hid (Sp.ofL s.data.toList = (k, p.data.toList, i.data.toList, a))) :
    Calls Tryz.prog 73 #[.string s] w fun e w' => e = .returned (.agg #[.int .i64 k, .string p, .string i, .bool a]) ∧ Below w.heap.size w w' := by
  refine (of_any s w).mono fun e w' ⟨h1, h2⟩ => ⟨?_, h2⟩
  rw [h1, h.out]
  rfl

theorem of_ex (l : List UInt8) : ∃ (k : Int) (p i : ByteArray) (a : Bool), Hid (Sp.ofL l = (k, p.data.toList, i.data.toList, a)) ∧ p.size ≤ 60 ∧ i.size ≤ 60 :=
  ⟨(Sp.ofL l).1, ⟨(Sp.ofL l).2.1.toArray⟩, ⟨(Sp.ofL l).2.2.1.toArray⟩, (Sp.ofL l).2.2.2, Lib.hid rfl, (Sp.ofL_len l).1, (Sp.ofL_len l).2⟩

set_option maxHeartbeats 400000 in
theorem rmay_any (s : ByteArray) (w : World) :
    Calls Tryz.prog 44 #[.string s] w fun e w' => e = .returned (.bool (decide (0 < (Sp.ofL s.data.toList).1))) ∧ Below w.heap.size w w' := by
  obtain ⟨k, p, i, a, HO, hp, hi⟩ := of_ex s.data.toList
  have HF : Hid ((Sp.ofL s.data.toList).1 = k) := Lib.hid (by rw [HO.out])
  go_enter Tryz.func44, Tryz.ntmps44
  go_wp2_with (go_at_call 73; refine (of_as _ _ k p i a HO).mono ?_; rintro e w1 ⟨rfl, hb⟩)
  go_ret
  exact ⟨ret_bool (by rw [HF.out]), hb⟩

end Go.Proofs.YtijfeeiplljnjaaGreatDoor
