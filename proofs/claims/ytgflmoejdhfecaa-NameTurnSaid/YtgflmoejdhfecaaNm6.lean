/-
  The walks of the reference's functions on names: a name of its pieces, templates, instances, changes.
-/
import Derived.Test.YtgflmoejdhfecaaNm5
namespace Go.Proofs.Ytgflmoejdhfecaa
open Go.RowKit

@[go_sem] theorem cut_field0 (k : Int) (p i : ByteArray) (a : Bool) (w : World) : (Instr.field 24 (.agg #[.int .i64 k, .string p, .string i, .bool a]) 0).run Try.prog w = .ok (.int .i64 k) w := by kernel_rfl
@[go_sem] theorem cut_field1 (k : Int) (p i : ByteArray) (a : Bool) (w : World) : (Instr.field 24 (.agg #[.int .i64 k, .string p, .string i, .bool a]) 1).run Try.prog w = .ok (.string p) w := by kernel_rfl
@[go_sem] theorem cut_field2 (k : Int) (p i : ByteArray) (a : Bool) (w : World) : (Instr.field 24 (.agg #[.int .i64 k, .string p, .string i, .bool a]) 2).run Try.prog w = .ok (.string i) w := by kernel_rfl
@[go_sem] theorem cut_field3 (k : Int) (p i : ByteArray) (a : Bool) (w : World) : (Instr.field 24 (.agg #[.int .i64 k, .string p, .string i, .bool a]) 3).run Try.prog w = .ok (.bool a) w := by kernel_rfl

set_option maxHeartbeats 400000 in
theorem rmake_any (k : Int) (p i : ByteArray) (b : Bool) (w : World) (hp : p.size ≤ 281474976710656) (hi : i.size ≤ 281474976710656) :
    Calls Try.prog 32 #[.agg #[.int .i64 k, .string p, .string i, .bool b]] w fun e w' => e = .returned (.string ⟨(Sp.rmakeL k p.data.toList i.data.toList b).toArray⟩) ∧ Below w.heap.size w w' := by
  have hk := Sp.suffix_len k
  cases b
  · go_enter Try.func32, Try.ntmps32
    go_wp2
    go_quiet ((go_at_call 21; exact quiet_same (rsuffix_any _ _)))
    go_wp2
    go_ret
    exact ⟨ret_str (by simp [Sp.rmakeL]), below_drewN ((Below.refl _ _).alloc (Nat.le_refl _) _) _⟩
  · go_enter Try.func32, Try.ntmps32
    go_wp2
    go_quiet ((go_at_call 21; exact quiet_same (rsuffix_any _ _)))
    go_wp2
    go_ret
    exact ⟨ret_str (by simp [Sp.rmakeL]), below_drewN ((Below.refl _ _).alloc (Nat.le_refl _) _) _⟩

theorem of_as (s : ByteArray) (w : World) (k : Int) (p i : ByteArray) (a : Bool) (h : Hid (Sp.ofL s.data.toList = (k, p.data.toList, i.data.toList, a))) :
    Calls Try.prog 10 #[.string s] w fun e w' => e = .returned (.agg #[.int .i64 k, .string p, .string i, .bool a]) ∧ Below w.heap.size w w' := by
  refine (of_any s w).mono fun e w' ⟨h1, h2⟩ => ⟨?_, h2⟩
  rw [h1, h.out]
  rfl

theorem of_ex (l : List UInt8) : ∃ (k : Int) (p i : ByteArray) (a : Bool), Hid (Sp.ofL l = (k, p.data.toList, i.data.toList, a)) ∧ p.size ≤ 60 ∧ i.size ≤ 60 :=
  ⟨(Sp.ofL l).1, ⟨(Sp.ofL l).2.1.toArray⟩, ⟨(Sp.ofL l).2.2.1.toArray⟩, (Sp.ofL l).2.2.2, Lib.hid rfl, (Sp.ofL_len l).1, (Sp.ofL_len l).2⟩

set_option maxHeartbeats 400000 in
theorem rmay_any (s : ByteArray) (w : World) :
    Calls Try.prog 35 #[.string s] w fun e w' => e = .returned (.bool (decide (0 < (Sp.ofL s.data.toList).1))) ∧ Below w.heap.size w w' := by
  obtain ⟨k, p, i, a, HO, hp, hi⟩ := of_ex s.data.toList
  have HF : Hid ((Sp.ofL s.data.toList).1 = k) := Lib.hid (by rw [HO.out])
  go_enter Try.func35, Try.ntmps35
  go_wp2_with (go_at_call 10; refine (of_as _ _ k p i a HO).mono ?_; rintro e w1 ⟨rfl, hb⟩)
  go_ret
  exact ⟨ret_bool (by rw [HF.out]), hb⟩

set_option maxHeartbeats 400000 in
theorem risTemplate_any (s : ByteArray) (w : World) :
    Calls Try.prog 34 #[.string s] w fun e w' => e = .returned (.bool ((Sp.ofL s.data.toList).2.2.2 && (Sp.ofL s.data.toList).2.2.1.isEmpty)) ∧ Below w.heap.size w w' := by
  obtain ⟨k, p, i, a, HO, hp, hi⟩ := of_ex s.data.toList
  have HF : Hid (((Sp.ofL s.data.toList).2.2.2 && (Sp.ofL s.data.toList).2.2.1.isEmpty) = (a && i.toList.isEmpty)) := Lib.hid (by rw [HO.out, Lib.toList_data])
  cases a
  · go_enter Try.func34, Try.ntmps34
    go_wp2_with (go_at_call 10; refine (of_as _ _ k p i _ HO).mono ?_; rintro e w1 ⟨rfl, hb⟩)
    go_ret
    exact ⟨ret_bool (by rw [HF.out]; rfl), hb⟩
  · go_enter Try.func34, Try.ntmps34
    go_wp2_with fail
    refine (of_as _ _ k p i _ HO).mono ?_
    rintro e w1 ⟨rfl, hb⟩
    go_wp2_with fail
    refine (of_as _ _ k p i _ HO).mono ?_
    rintro e w2 ⟨rfl, hb2⟩
    go_wp2_with fail
    go_ret
    exact ⟨ret_bool (by rw [HF.out]; simp), hb.trans (hb2.mono hb.size)⟩

set_option maxHeartbeats 400000 in
theorem risInstance_any (s : ByteArray) (w : World) :
    Calls Try.prog 31 #[.string s] w fun e w' => e = .returned (.bool ((Sp.ofL s.data.toList).2.2.2 && !(Sp.ofL s.data.toList).2.2.1.isEmpty)) ∧ Below w.heap.size w w' := by
  obtain ⟨k, p, i, a, HO, hp, hi⟩ := of_ex s.data.toList
  have HF : Hid (((Sp.ofL s.data.toList).2.2.2 && !(Sp.ofL s.data.toList).2.2.1.isEmpty) = (a && !i.toList.isEmpty)) := Lib.hid (by rw [HO.out, Lib.toList_data])
  cases a
  · go_enter Try.func31, Try.ntmps31
    go_wp2_with (go_at_call 10; refine (of_as _ _ k p i _ HO).mono ?_; rintro e w1 ⟨rfl, hb⟩)
    go_ret
    exact ⟨ret_bool (by rw [HF.out]; rfl), hb⟩
  · go_enter Try.func31, Try.ntmps31
    go_wp2_with fail
    refine (of_as _ _ k p i _ HO).mono ?_
    rintro e w1 ⟨rfl, hb⟩
    go_wp2_with fail
    refine (of_as _ _ k p i _ HO).mono ?_
    rintro e w2 ⟨rfl, hb2⟩
    go_wp2_with fail
    go_ret
    exact ⟨ret_bool (by rw [HF.out]; simp), hb.trans (hb2.mono hb.size)⟩

set_option maxHeartbeats 400000 in
theorem rtemplate_any (s : ByteArray) (w : World) :
    Calls Try.prog 15 #[.string s] w fun e w' => e = .returned (.string ⟨(Sp.rtemplateL s.data.toList).toArray⟩) ∧ Below w.heap.size w w' := by
  obtain ⟨k, p, i, a, HO, hp, hi⟩ := of_ex s.data.toList
  by_cases hc : ((Sp.ofL s.data.toList).2.2.2 && !(Sp.ofL s.data.toList).2.2.1.isEmpty) = true
  · have HT : Hid (Sp.rtemplateL s.data.toList = Sp.rmakeL k p.data.toList [] a) := Lib.hid (by unfold Sp.rtemplateL; rw [if_pos hc, HO.out])
    have HC := Lib.hid hc
    clear hc
    go_enter Try.func15, Try.ntmps15
    go_wp2_with fail
    refine (risInstance_any _ _).mono ?_
    rintro e w1 ⟨rfl, hb⟩
    rw [HC.out]
    go_wp2_with fail
    refine (of_as _ _ k p i _ HO).mono ?_
    rintro e w2 ⟨rfl, hb2⟩
    have hb3 := hb.trans (hb2.mono hb.size)
    go_wp2_with fail
    refine (rmake_any k p ⟨#[]⟩ a _ (by omega) (Nat.zero_le _)).mono ?_
    rintro e w3 ⟨rfl, hb4⟩
    go_wp2_with fail
    go_ret
    exact ⟨ret_str (by rw [HT.out]), hb3.trans (((Below.refl _ _).alloc hb3.size _).trans (hb4.mono (by have := hb3.size; simp; omega)))⟩
  · have hc2 : ((Sp.ofL s.data.toList).2.2.2 && !(Sp.ofL s.data.toList).2.2.1.isEmpty) = false := by simpa using hc
    have HT : Hid (Sp.rtemplateL s.data.toList = []) := Lib.hid (by unfold Sp.rtemplateL; rw [if_neg hc])
    have HC := Lib.hid hc2
    clear hc hc2
    go_enter Try.func15, Try.ntmps15
    go_wp2_with fail
    refine (risInstance_any _ _).mono ?_
    rintro e w1 ⟨rfl, hb⟩
    rw [HC.out]
    go_wp2_with fail
    go_ret
    exact ⟨ret_str (by rw [HT.out]), hb⟩
end Go.Proofs.Ytgflmoejdhfecaa
