/-
  The walks of names' kinds, parts, templates, instances, changes.
-/
import Derived.Test.YtijfeeiplljnjaaGreatDoorNm3
namespace Go.Proofs.YtijfeeiplljnjaaGreatDoor
open Go.RowKit

set_option maxHeartbeats 400000 in
theorem kind_any (s : ByteArray) (w : World) (hs : s.size ≤ 281474976710656) :
    Calls Tryz.prog 52 #[.string s] w fun e w' => e = .returned (.int .i64 (Sp.kindL s.data.toList)) ∧ Below w.heap.size w w' := by
  generalize hh : (Sp.cutDot s.data.toList).1 = head
  generalize ht : (Sp.cutDot s.data.toList).2 = tail
  generalize hp : (Sp.cutAt head).1 = pre
  generalize hi : (Sp.cutAt head).2.1 = ins
  generalize hat : (Sp.cutAt head).2.2 = at0
  have HH := Lib.hid hh; have HT := Lib.hid ht; have HP := Lib.hid hp; have HI := Lib.hid hi; have HA := Lib.hid hat
  clear hh ht hp hi hat
  have hl : head.length ≤ s.size := by have := (Sp.cutDot_len s.data.toList).1; rw [HH.out] at this; simpa using this
  have hl2 : pre.length ≤ 281474976710656 := by have := (Sp.cutAt_len head).1; rw [HP.out] at this; omega
  have hl3 : ins.length ≤ 281474976710656 := by have := (Sp.cutAt_len head).2; rw [HI.out] at this; omega
  have hl4 : pre.length ≤ 9223372036854775807 := by omega
  have hl5 : ins.length ≤ 9223372036854775807 := by omega
  have HK : Hid (Sp.kindL s.data.toList = if 60 < (s.size : Int) ∨ pre = [] ∨ Sp.allName pre = false ∨ Sp.allName ins = false then 0 else Sp.kindOfSuffix tail) := by
    refine Lib.hid ?_
    unfold Sp.kindL; rw [HH.out, HT.out, HP.out, HI.out]
    have e : (s.data.toList.length : Int) = s.size := by simp
    simp only [Bool.or_eq_true, decide_eq_true_eq, List.isEmpty_iff, Bool.not_eq_true']
    congr 1
    rw [eq_iff_iff, or_assoc, or_assoc]
    exact or_congr (by omega) Iff.rfl
  go_enter Tryz.func52, Tryz.ntmps52
  go_wp2_with fail
  refine (cut_any _ _ hs).mono ?_
  rintro e w' ⟨rfl, n, rfl⟩
  rw [HH.out, HT.out]
  go_wp2_with fail
  refine (scut_any _ _ (Nat.le_trans hl hs)).mono ?_
  rintro e w' ⟨rfl, n2, rfl⟩
  rw [HP.out, HI.out, HA.out]
  clear HH HT HP HI HA
  go_wp2_with fail
  · go_ret
    exact ⟨ret_int (by rw [HK.out, if_pos (by simp_all)]), belowQ (Below.refl _ _) _⟩
  · refine (plain_any ⟨pre.toArray⟩ _ hl4).mono ?_
    rintro e w1 ⟨rfl, hb1⟩
    go_wp2_with fail
    · refine (plain_any ⟨ins.toArray⟩ _ hl5).mono ?_
      rintro e w2 ⟨rfl, hb2⟩
      have hb : Below w.heap.size w w2 := (belowQ (Below.refl _ _) _).trans ((hb1.mono (by simp)).trans (hb2.mono (by have := hb1.size; simp at this; omega)))
      clear hb1 hb2
      go_wp2_with fail
      · go_ret
        exact ⟨ret_int (by rw [HK.out, if_pos (by simp_all)]), hb⟩
      · refine wp_loop_rounds 5 ?_
        rw [rounds_succ]
        go_wp2_with (go_at_call 76; refine (suffix_any _ _).mono ?_; rintro e w' ⟨rfl, rfl⟩)
        · go_ret
          exact ⟨ret_int (by rw [HK.out, if_neg (by simp_all)]; simp_all [Sp.kindOfSuffix]), hb⟩
        rw [rounds_succ]
        go_wp2_with (go_at_call 76; refine (suffix_any _ _).mono ?_; rintro e w' ⟨rfl, rfl⟩)
        · go_ret
          exact ⟨ret_int (by rw [HK.out, if_neg (by simp_all)]; simp_all [Sp.kindOfSuffix]), hb⟩
        rw [rounds_succ]
        go_wp2_with (go_at_call 76; refine (suffix_any _ _).mono ?_; rintro e w' ⟨rfl, rfl⟩)
        · go_ret
          exact ⟨ret_int (by rw [HK.out, if_neg (by simp_all)]; simp_all [Sp.kindOfSuffix]), hb⟩
        rw [rounds_succ]
        go_wp2_with (go_at_call 76; refine (suffix_any _ _).mono ?_; rintro e w' ⟨rfl, rfl⟩)
        · go_ret
          exact ⟨ret_int (by rw [HK.out, if_neg (by simp_all)]; simp_all [Sp.kindOfSuffix]), hb⟩
        rw [rounds_succ]
        go_wp2
        go_ret
        exact ⟨ret_int (by rw [HK.out, if_neg (by simp_all)]; simp_all [Sp.kindOfSuffix]), hb⟩
    · go_ret
      exact ⟨ret_int (by rw [HK.out, if_pos (by simp_all)]), (belowQ (Below.refl _ _) _).trans (hb1.mono (by simp))⟩
  · go_ret
    exact ⟨ret_int (by rw [HK.out, if_pos (by simp_all)]), belowQ (Below.refl _ _) _⟩

set_option maxHeartbeats 400000 in
theorem may_any (s : ByteArray) (w : World) (hs : s.size ≤ 281474976710656) :
    Calls Tryz.prog 21 #[.string s] w fun e w' => e = .returned (.bool (Sp.mayL s.data.toList)) ∧ Below w.heap.size w w' := by
  go_enter Tryz.func21, Tryz.ntmps21
  go_wp2_with (go_at_call 52; refine (kind_any _ _ hs).mono ?_; rintro e w1 ⟨rfl, hb⟩)
  go_ret
  exact ⟨ret_bool (by simp [Sp.mayL]), hb⟩

end Go.Proofs.YtijfeeiplljnjaaGreatDoor
