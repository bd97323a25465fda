/-
  The walks of names' kinds, parts, templates, instances, changes.
-/
import Derived.Test.YtgflmoejdhfecaaNm3
namespace Go.Proofs.Ytgflmoejdhfecaa
open Go.RowKit

set_option maxHeartbeats 400000 in
theorem kind_any (s : ByteArray) (w : World) (hs : s.size ≤ 281474976710656) :
    Calls Try.prog 13 #[.string s] w fun e w' => e = .returned (.int .i64 (Sp.kindL s.data.toList)) ∧ Below w.heap.size w w' := by
  generalize hh : (Sp.cutDot s.data.toList).1 = head
  generalize ht : (Sp.cutDot s.data.toList).2 = tail
  generalize hp : (Sp.cutAt head).1 = pre
  generalize hi : (Sp.cutAt head).2.1 = ins
  generalize hat : (Sp.cutAt head).2.2 = at0
  have HH := Lib.hid hh; have HT := Lib.hid ht; have HP := Lib.hid hp; have HI := Lib.hid hi; have HA := Lib.hid hat
  clear hh ht hp hi hat
  have hl : head.length ≤ s.size := by have := (Sp.cutDot_len s.data.toList).1; rw [HH.out] at this; simpa using this
  have hl2 : pre.length ≤ 281474976710656 := by have := (Sp.cutAt_len head).1; rw [HP.out] at this; omega
  have hl3 : ins.length ≤ 281474976710656 := by have := (Sp.cutAt_len head).2; rw [HI.out] at this; omega
  have hl4 : pre.length ≤ 9223372036854775807 := by omega
  have hl5 : ins.length ≤ 9223372036854775807 := by omega
  have HK : Hid (Sp.kindL s.data.toList = if 60 < (s.size : Int) ∨ pre = [] ∨ Sp.allName pre = false ∨ Sp.allName ins = false then 0 else Sp.kindOfSuffix tail) := by
    refine Lib.hid ?_
    unfold Sp.kindL; rw [HH.out, HT.out, HP.out, HI.out]
    have e : (s.data.toList.length : Int) = s.size := by simp
    simp only [Bool.or_eq_true, decide_eq_true_eq, List.isEmpty_iff, Bool.not_eq_true']
    congr 1
    rw [eq_iff_iff, or_assoc, or_assoc]
    exact or_congr (by omega) Iff.rfl
  go_enter Try.func13, Try.ntmps13
  go_wp2_with fail
  refine (cut_any _ _ hs).mono ?_
  rintro e w' ⟨rfl, n, rfl⟩
  rw [HH.out, HT.out]
  go_wp2_with fail
  refine (scut_any _ _ (Nat.le_trans hl hs)).mono ?_
  rintro e w' ⟨rfl, n2, rfl⟩
  rw [HP.out, HI.out, HA.out]
  clear HH HT HP HI HA
  go_wp2_with fail
  · go_ret
    exact ⟨ret_int (by rw [HK.out, if_pos (by simp_all)]), below_drewN (Below.refl _ _) _⟩
  · refine (plain_any ⟨pre.toArray⟩ _ hl4).mono ?_
    rintro e w1 ⟨rfl, hb1⟩
    go_wp2_with fail
    · refine (plain_any ⟨ins.toArray⟩ _ hl5).mono ?_
      rintro e w2 ⟨rfl, hb2⟩
      have hb : Below w.heap.size w w2 := (below_drewN (Below.refl _ _) _).trans ((hb1.mono (by simp)).trans (hb2.mono (by have := hb1.size; simp at this; omega)))
      clear hb1 hb2
      go_wp2_with fail
      · go_ret
        exact ⟨ret_int (by rw [HK.out, if_pos (by simp_all)]), hb⟩
      · refine wp_loop_rounds 5 ?_
        rw [rounds_succ]
        go_wp2_with (go_at_call 20; refine (suffix_any _ _).mono ?_; rintro e w' ⟨rfl, rfl⟩)
        · go_ret
          exact ⟨ret_int (by rw [HK.out, if_neg (by simp_all)]; simp_all [Sp.kindOfSuffix]), hb⟩
        rw [rounds_succ]
        go_wp2_with (go_at_call 20; refine (suffix_any _ _).mono ?_; rintro e w' ⟨rfl, rfl⟩)
        · go_ret
          exact ⟨ret_int (by rw [HK.out, if_neg (by simp_all)]; simp_all [Sp.kindOfSuffix]), hb⟩
        rw [rounds_succ]
        go_wp2_with (go_at_call 20; refine (suffix_any _ _).mono ?_; rintro e w' ⟨rfl, rfl⟩)
        · go_ret
          exact ⟨ret_int (by rw [HK.out, if_neg (by simp_all)]; simp_all [Sp.kindOfSuffix]), hb⟩
        rw [rounds_succ]
        go_wp2_with (go_at_call 20; refine (suffix_any _ _).mono ?_; rintro e w' ⟨rfl, rfl⟩)
        · go_ret
          exact ⟨ret_int (by rw [HK.out, if_neg (by simp_all)]; simp_all [Sp.kindOfSuffix]), hb⟩
        rw [rounds_succ]
        go_wp2
        go_ret
        exact ⟨ret_int (by rw [HK.out, if_neg (by simp_all)]; simp_all [Sp.kindOfSuffix]), hb⟩
    · go_ret
      exact ⟨ret_int (by rw [HK.out, if_pos (by simp_all)]), (below_drewN (Below.refl _ _) _).trans (hb1.mono (by simp))⟩
  · go_ret
    exact ⟨ret_int (by rw [HK.out, if_pos (by simp_all)]), below_drewN (Below.refl _ _) _⟩

set_option maxHeartbeats 400000 in
theorem may_any (s : ByteArray) (w : World) (hs : s.size ≤ 281474976710656) :
    Calls Try.prog 12 #[.string s] w fun e w' => e = .returned (.bool (Sp.mayL s.data.toList)) ∧ Below w.heap.size w w' := by
  go_enter Try.func12, Try.ntmps12
  go_wp2_with (go_at_call 13; refine (kind_any _ _ hs).mono ?_; rintro e w1 ⟨rfl, hb⟩)
  go_ret
  exact ⟨ret_bool (by simp [Sp.mayL]), hb⟩

set_option maxHeartbeats 400000 in
theorem parts_any (s : ByteArray) (w : World) (hs : s.size ≤ 281474976710656) :
    Calls Try.prog 11 #[.string s] w fun e w' => e = .returned (.tuple #[.string ⟨(Sp.partsL s.data.toList).1.toArray⟩, .string ⟨(Sp.partsL s.data.toList).2.1.toArray⟩, .bool (Sp.partsL s.data.toList).2.2]) ∧ Below w.heap.size w w' := by
  by_cases hm : Sp.mayL s.data.toList = true
  · have e : Sp.partsL s.data.toList = Sp.cutAt (Sp.cutDot s.data.toList).1 := by simp [Sp.partsL, hm]
    rw [e]
    generalize hh : (Sp.cutDot s.data.toList).1 = head
    generalize ht : (Sp.cutDot s.data.toList).2 = tail
    have hl : head.length ≤ s.size := by have := (Sp.cutDot_len s.data.toList).1; rw [hh] at this; simpa using this
    have HH := Lib.hid hh; have HT := Lib.hid ht; clear hh ht
    go_enter Try.func11, Try.ntmps11
    go_wp2_with (go_at_call 12; refine (may_any _ _ hs).mono ?_; rintro e w1 ⟨rfl, hb⟩)
    refine (cut_any _ _ hs).mono ?_
    rintro e w' ⟨rfl, n, rfl⟩
    rw [HH.out, HT.out]
    go_wp2_with fail
    refine (scut_any ⟨head.toArray⟩ _ (Nat.le_trans hl hs)).mono ?_
    rintro e w' ⟨rfl, n2, rfl⟩
    go_wp2_with fail
    go_ret3
    exact ⟨rfl, below_drewN hb _⟩
  · have e : Sp.partsL s.data.toList = ([], [], false) := by simp [Sp.partsL, hm]
    rw [e]
    have hm2 : Sp.mayL s.data.toList = false := by simpa using hm
    go_enter Try.func11, Try.ntmps11
    go_wp2_with (go_at_call 12; refine (may_any _ _ hs).mono ?_; rintro e w1 ⟨rfl, hb⟩)
    go_ret3
    exact ⟨rfl, hb⟩

set_option maxHeartbeats 400000 in
theorem bare_any (s : ByteArray) (w : World) (hs : s.size ≤ 281474976710656) :
    Calls Try.prog 33 #[.string s] w fun e w' => e = .returned (.bool (Sp.bareL s.data.toList)) ∧ Below w.heap.size w w' := by
  go_enter Try.func33, Try.ntmps33
  go_wp2_with (go_at_call 11; refine (parts_any _ _ hs).mono ?_; rintro e w1 ⟨rfl, hb⟩)
  all_goals
    go_ret
    exact ⟨ret_bool (by simp_all [Sp.bareL]), hb⟩

set_option maxHeartbeats 400000 in
theorem template_any (s : ByteArray) (w : World) (hs : s.size ≤ 281474976710656) :
    Calls Try.prog 14 #[.string s] w fun e w' => e = .returned (.string ⟨(Sp.templateL s.data.toList).toArray⟩) ∧ Below w.heap.size w w' := by
  generalize hp : (Sp.partsL s.data.toList).1 = pre
  generalize hi : (Sp.partsL s.data.toList).2.1 = ins
  generalize hat : (Sp.partsL s.data.toList).2.2 = at0
  have hl : pre.length ≤ s.size := by have := (Sp.partsL_len s.data.toList).1; rw [hp] at this; simpa using this
  have HP := Lib.hid hp; have HI := Lib.hid hi; have HA := Lib.hid hat
  have HT : Hid (Sp.templateL s.data.toList = if ins = [] then [] else Sp.madeL pre [] (Sp.kindL s.data.toList)) := Lib.hid (by simp [Sp.templateL, hp, hi])
  clear hp hi hat
  go_enter Try.func14, Try.ntmps14
  go_wp2_with fail
  refine (parts_any _ _ hs).mono ?_
  rintro e w1 ⟨rfl, hb⟩
  rw [HP.out, HI.out, HA.out]
  go_wp2_with fail
  · go_ret
    exact ⟨ret_str (by rw [HT.out, if_pos (by simp_all)]), hb⟩
  · refine (kind_any _ _ hs).mono ?_
    rintro e w2 ⟨rfl, hb2⟩
    go_wp2_with fail
    refine (made_any ⟨pre.toArray⟩ ⟨#[]⟩ _ _ (Nat.le_trans hl hs) (Nat.zero_le _)).mono ?_
    rintro e w' ⟨rfl, rfl⟩
    go_wp2_with fail
    go_ret
    exact ⟨ret_str (by rw [HT.out, if_neg (by simp_all)]), hb.trans (hb2.mono hb.size)⟩

set_option maxHeartbeats 400000 in
theorem instance_any (s i : ByteArray) (w : World) (hs : s.size ≤ 281474976710656) (hi : i.size ≤ 140737488355328) :
    Calls Try.prog 16 #[.string s, .string i] w fun e w' => e = .returned (.tuple #[.string ⟨(Sp.instanceL s.data.toList i.data.toList).1.toArray⟩, .bool (Sp.instanceL s.data.toList i.data.toList).2]) ∧ Below w.heap.size w w' := by
  generalize hp : (Sp.partsL s.data.toList).1 = pre
  generalize hi2 : (Sp.partsL s.data.toList).2.1 = ins
  generalize hat : (Sp.partsL s.data.toList).2.2 = at0
  generalize hm : Sp.madeL pre i.data.toList (Sp.kindL s.data.toList) = m
  have hl : pre.length ≤ 60 := by have := (Sp.partsL_len60 s.data.toList).1; rw [hp] at this; exact this
  have hml : m.length ≤ 281474976710656 := by
    have h1 := Sp.suffix_len (Sp.kindL s.data.toList)
    have h2 : i.data.toList.length = i.size := by simp
    rw [← hm]; simp only [Sp.madeL, List.length_append, List.length_cons, List.length_nil]; omega
  have HT : Hid (Sp.instanceL s.data.toList i.data.toList = if Sp.bareL s.data.toList = false ∨ i.data.toList = [] ∨ Sp.mayL m = false then ([], false) else (m, true)) :=
    Lib.hid (by simp [Sp.instanceL, hp, hm, or_assoc])
  have HP := Lib.hid hp; have HI := Lib.hid hi2; have HA := Lib.hid hat; have HM := Lib.hid hm
  clear hp hi2 hat hm
  go_enter Try.func16, Try.ntmps16
  go_wp2_with fail
  refine (parts_any _ _ hs).mono ?_
  rintro e w1 ⟨rfl, hb⟩
  rw [HP.out, HI.out, HA.out]
  go_wp2_with fail
  refine (kind_any _ _ hs).mono ?_
  rintro e w2 ⟨rfl, hb2⟩
  have hb3 : Below w.heap.size w w2 := hb.trans (hb2.mono hb.size)
  clear hb hb2
  go_wp2_with fail
  refine (made_any ⟨pre.toArray⟩ _ _ _ (show pre.length ≤ 281474976710656 by omega) (by omega)).mono ?_
  rintro e w' ⟨rfl, rfl⟩
  rw [show Sp.madeL (ByteArray.mk pre.toArray).data.toList i.data.toList (Sp.kindL s.data.toList) = m from HM.out]
  go_wp2_with fail
  refine (bare_any _ _ hs).mono ?_
  rintro e w4 ⟨rfl, hb4⟩
  have hb5 := hb3.trans (hb4.mono hb3.size)
  clear hb4 hb3
  go_wp2_with fail
  · go_ret2
    exact ⟨by rw [HT.out, if_pos (by simp_all [Lib.toList_data])]; rfl, hb5⟩
  · refine (may_any ⟨m.toArray⟩ _ hml).mono ?_
    rintro e w5 ⟨rfl, hb6⟩
    have hb7 := hb5.trans (hb6.mono hb5.size)
    clear hb6 hb5
    go_wp2_with fail
    · go_ret2
      exact ⟨by rw [HT.out, if_pos (by simp_all)]; rfl, hb7⟩
    · go_ret2
      exact ⟨by rw [HT.out, if_neg (by simp_all [Lib.toList_data])]; rfl, hb7⟩
  · go_ret2
    exact ⟨by rw [HT.out, if_pos (by simp_all)]; rfl, hb5⟩

set_option maxHeartbeats 400000 in
theorem change_any (s : ByteArray) (k : Int) (w : World) (hs : s.size ≤ 140737488355328) :
    Calls Try.prog 18 #[.string s, .int .i64 k] w fun e w' => e = .returned (.string ⟨(Sp.changeL s.data.toList k).toArray⟩) ∧ Below w.heap.size w w' := by
  generalize hh : (Sp.cutDot s.data.toList).1 = head
  generalize ht : (Sp.cutDot s.data.toList).2 = tail
  generalize hm : head ++ [46] ++ Sp.suffix k = m
  have hl : head.length ≤ s.size := by have := (Sp.cutDot_len s.data.toList).1; rw [hh] at this; simpa using this
  have hk := Sp.suffix_len k
  have hml : m.length ≤ 281474976710656 := by
    rw [← hm]; simp only [List.length_append, List.length_cons, List.length_nil]; omega
  have HT : Hid (Sp.changeL s.data.toList k = if Sp.mayL s.data.toList = false ∨ Sp.mayL m = false then [] else m) :=
    Lib.hid (by simp [Sp.changeL, hh, ← hm])
  have HH := Lib.hid hh; have HT2 := Lib.hid ht
  have HM : Hid (ByteArray.mk head.toArray ++ ByteArray.mk #[46] ++ ByteArray.mk (Sp.suffix k).toArray = ByteArray.mk m.toArray) :=
    Lib.hid (by apply ByteArray.ext; apply Array.toList_inj.1; simp [← hm])
  clear hh ht hm
  go_enter Try.func18, Try.ntmps18
  go_wp2_with fail
  refine (cut_any _ _ (by omega)).mono ?_
  rintro e w1 ⟨rfl, n, rfl⟩
  rw [HH.out, HT2.out]
  go_wp2_with fail
  refine (suffix_any _ _).mono ?_
  rintro e w' ⟨rfl, rfl⟩
  go_wp2_with fail
  refine (may_any _ _ (by omega)).mono ?_
  rintro e w4 ⟨rfl, hb4⟩
  have hb5 := (below_drewN (Below.refl w.heap.size w) n).trans (hb4.mono (by simp))
  clear hb4
  rw [HM.out]
  go_wp2_with fail
  · refine (may_any ⟨m.toArray⟩ _ hml).mono ?_
    rintro e w5 ⟨rfl, hb6⟩
    have hb7 := hb5.trans (hb6.mono hb5.size)
    clear hb6 hb5
    go_wp2_with fail
    · go_ret
      exact ⟨ret_str (by rw [HT.out, if_pos (by simp_all)]), hb7⟩
    · go_ret
      exact ⟨ret_str (by rw [HT.out, if_neg (by simp_all)]), hb7⟩
  · go_ret
    exact ⟨ret_str (by rw [HT.out, if_pos (by simp_all)]), hb5⟩
end Go.Proofs.Ytgflmoejdhfecaa
