/-
  The walks of NameMake, NamePieces, NameTurn.
-/
import Derived.Test.YtgflmoejdhfecaaNm13
import Derived.Test.YtgflmoejdhfecaaSp4
namespace Go.Proofs.Ytgflmoejdhfecaa
open Go.RowKit

theorem rinstance_p (s x : ByteArray) (w : World) (hx : x.size ≤ 281474976710656) :
    Calls Try.prog 17 #[.string s, .string x] w fun e w' => e = .returned (.tuple #[.string ⟨(Sp.instanceL s.data.toList x.data.toList).1.toArray⟩, .bool (Sp.instanceL s.data.toList x.data.toList).2]) ∧ Below w.heap.size w w' := by
  refine (rinstance_any s x w hx).mono fun e w' ⟨h1, h2⟩ => ⟨?_, h2⟩
  rw [h1, Sp.instance_eq]

theorem rchange_p (s : ByteArray) (j : Int) (w : World) :
    Calls Try.prog 19 #[.string s, .int .i64 j] w fun e w' => e = .returned (.string ⟨(Sp.changeL s.data.toList j).toArray⟩) ∧ Below w.heap.size w w' := by
  refine (rchange_any s j w).mono fun e w' ⟨h1, h2⟩ => ⟨?_, h2⟩
  rw [h1, Sp.change_eq]

set_option maxHeartbeats 1000000 in
theorem nameMake_r (s x : ByteArray) (j : Int) (w : World) (hs : s.size ≤ 140737488351232) (hx : x.size ≤ 140737488351232) :
    Calls Try.prog 4 #[.string s, .string x, .int .i64 j] w fun e w' => e = .returned (.bool true) ∧ Below w.heap.size w w' := by
  obtain ⟨y, b, hyb⟩ : ∃ (y : ByteArray) (b : Bool), Sp.instanceL s.data.toList x.data.toList = (y.data.toList, b) := ⟨⟨(Sp.instanceL s.data.toList x.data.toList).1.toArray⟩, _, rfl⟩
  obtain ⟨z, hz⟩ : ∃ z : ByteArray, Sp.changeL s.data.toList j = z.data.toList := ⟨⟨(Sp.changeL s.data.toList j).toArray⟩, rfl⟩
  have HY := Lib.hid hyb
  have HZ := Lib.hid hz
  clear hyb hz
  go_enter Try.func4, Try.ntmps4
  go_wp2_with fail
  refine (shown_any _).mono ?_
  rintro e w1 ⟨rfl, hb⟩
  go_wp2_with fail
  refine (instance_any s x _ (by omega) (by omega)).mono ?_
  rintro e w2 ⟨rfl, hb2⟩
  have hb3 := hb.trans (hb2.mono hb.size)
  clear hb hb2
  rw [HY.out]
  go_wp2_with fail
  refine (rinstance_p s x _ (by omega)).mono ?_
  rintro e w3 ⟨rfl, hb2⟩
  have hb4 := hb3.trans (hb2.mono hb3.size)
  clear hb3 hb2
  rw [HY.out]
  go_wp2_with fail
  refine (change_any s j _ (by omega)).mono ?_
  rintro e w4 ⟨rfl, hb2⟩
  have hb5 := hb4.trans (hb2.mono hb4.size)
  clear hb4 hb2
  rw [HZ.out]
  go_wp2_with fail
  refine (rchange_p s j _).mono ?_
  rintro e w5 ⟨rfl, hb2⟩
  have hb6 := hb5.trans (hb2.mono hb5.size)
  clear hb5 hb2
  rw [HZ.out]
  go_wp2_with fail
  refine (suffix_any j _).mono ?_
  rintro e w6 ⟨rfl, rfl⟩
  go_wp2_with fail
  refine (rsuffix_any j _).mono ?_
  rintro e w6 ⟨rfl, rfl⟩
  go_wp2
  go_ret
  exact ⟨ret_bool (by simp), hb6⟩

set_option maxHeartbeats 1000000 in
theorem namePieces_r (s : ByteArray) (w : World) (hs : s.size ≤ 140737488351232) :
    Calls Try.prog 5 #[.string s] w fun e w' => e = .returned (.bool true) ∧ Below w.heap.size w w' := by
  obtain ⟨k, p, i, a, HP⟩ := pieces_ex s.data.toList
  have hs2 : s.size ≤ 281474976710656 := by omega
  have np := HP.np
  have ni := HP.ni
  by_cases hk : 0 < k
  · have hmay : Sp.mayL s.data.toList = true := by rw [Sp.may_iff, Sp.ofL_eq, HP.kind]; simpa using hk
    obtain ⟨hl, hne⟩ := Sp.pieces_law _ hmay
    rw [HP.parts, HP.kind] at hl
    rw [HP.parts] at hne
    simp only at hl hne
    have hk2 : decide (0 < k) = true := by simpa using hk
    have hpe : p.toList.isEmpty = false := by rw [Lib.toList_data]; simpa using hne
    have hsl := Sp.suffix_len k
    have HK := Lib.hid hk2
    have HL := Lib.hid hl
    clear hk hk2 hl hne hmay
    cases a
    · have he : ((p ++ ByteArray.mk #[46] ++ ByteArray.mk (Sp.suffix k).toArray).toList == s.toList) = true := by
        rw [Lib.toList_data, Lib.toList_data, beq_iff_eq]
        have := HL.out
        simp at this
        simpa using this
      go_enter Try.func5, Try.ntmps5
      go_wp2_with fail
      refine (shown_any _).mono ?_
      rintro e w1 ⟨rfl, hb⟩
      go_wp2_with fail
      refine (parts_p _ _ hs2 k p i _ HP).mono ?_
      rintro e w2 ⟨rfl, hb2⟩
      have hb3 := hb.trans (hb2.mono hb.size)
      clear hb hb2
      go_wp2_with fail
      refine (may_p _ _ hs2 k p i _ HP).mono ?_
      rintro e w3 ⟨rfl, hb2⟩
      have hb4 := hb3.trans (hb2.mono hb3.size)
      clear hb3 hb2
      rw [HK.out]
      go_wp2_with fail
      refine (kind_p _ _ hs2 k p i _ HP).mono ?_
      rintro e w4 ⟨rfl, hb2⟩
      have hb5 := hb4.trans (hb2.mono hb4.size)
      clear hb4 hb2
      go_wp2_with fail
      refine (suffix_any k _).mono ?_
      rintro e w6 ⟨rfl, rfl⟩
      go_wp2
      go_ret
      exact ⟨ret_bool rfl, hb5⟩
    · have he : ((p ++ (ByteArray.mk #[64] ++ i) ++ ByteArray.mk #[46] ++ ByteArray.mk (Sp.suffix k).toArray).toList == s.toList) = true := by
        rw [Lib.toList_data, Lib.toList_data, beq_iff_eq]
        have := HL.out
        simp at this
        simpa using this
      go_enter Try.func5, Try.ntmps5
      go_wp2_with fail
      refine (shown_any _).mono ?_
      rintro e w1 ⟨rfl, hb⟩
      go_wp2_with fail
      refine (parts_p _ _ hs2 k p i _ HP).mono ?_
      rintro e w2 ⟨rfl, hb2⟩
      have hb3 := hb.trans (hb2.mono hb.size)
      clear hb hb2
      go_wp2_with fail
      refine (may_p _ _ hs2 k p i _ HP).mono ?_
      rintro e w3 ⟨rfl, hb2⟩
      have hb4 := hb3.trans (hb2.mono hb3.size)
      clear hb3 hb2
      rw [HK.out]
      go_wp2_with fail
      refine (kind_p _ _ hs2 k p i _ HP).mono ?_
      rintro e w4 ⟨rfl, hb2⟩
      have hb5 := hb4.trans (hb2.mono hb4.size)
      clear hb4 hb2
      go_wp2_with fail
      refine (suffix_any k _).mono ?_
      rintro e w6 ⟨rfl, rfl⟩
      go_wp2
      go_ret
      exact ⟨ret_bool rfl, hb5⟩
  · have hmay : Sp.mayL s.data.toList = false := by
      rw [Sp.may_iff, Sp.ofL_eq, HP.kind]; simpa using hk
    have hpn : Sp.partsL s.data.toList = ([], [], false) := by simp [Sp.partsL, hmay]
    have hps := HP.parts
    rw [hpn] at hps
    simp only [Prod.mk.injEq] at hps
    obtain ⟨e1, e2, e3⟩ := hps
    have hpe : p.toList.isEmpty = true := by rw [Lib.toList_data, ← e1]; rfl
    have hie : i.toList.isEmpty = true := by rw [Lib.toList_data, ← e2]; rfl
    have hk2 : decide (0 < k) = false := by simpa using hk
    have HK := Lib.hid hk2
    clear hk hk2 e1 e2 hmay hpn
    subst e3
    go_enter Try.func5, Try.ntmps5
    go_wp2_with fail
    refine (shown_any _).mono ?_
    rintro e w1 ⟨rfl, hb⟩
    go_wp2_with fail
    refine (parts_p _ _ hs2 k p i _ HP).mono ?_
    rintro e w2 ⟨rfl, hb2⟩
    have hb3 := hb.trans (hb2.mono hb.size)
    clear hb hb2
    go_wp2_with fail
    refine (may_p _ _ hs2 k p i _ HP).mono ?_
    rintro e w3 ⟨rfl, hb2⟩
    have hb4 := hb3.trans (hb2.mono hb3.size)
    clear hb3 hb2
    rw [HK.out]
    go_wp2
    go_ret
    exact ⟨ret_bool rfl, hb4⟩
end Go.Proofs.Ytgflmoejdhfecaa
