/-
  What is written is read as it was: the law's walk.
-/
import Derived.Test.YtopmdffiikajnaaGreatDoorDr
import Derived.Test.YtopmdffiikajnaaGreatDoorDv
import Derived.Test.YtopmdffiikajnaaGreatDoorCf
namespace Go.Proofs.YtopmdffiikajnaaGreatDoor
open Go.RowKit Go.Shelf

theorem parse_none {l : List UInt8} {e : Ending} {W : World} (h : ParsePost l e W) (hc : Sp.parseP l = none) : e = .returned (.tuple #[.agg #[.slice none 0 0, .slice none 0 0, .slice none 0 0, .slice none 0 0, .slice none 0 0, .slice none 0 0, .slice none 0 0], .bool false]) := by
  rcases h with ⟨s, h1, _⟩ | ⟨_, h2⟩
  · rw [hc] at h1
    cases h1
  · exact h2
namespace Sp
theorem printC_yes {c : CalD} (h : mayCal c = true) : parseP (printC c) = some c := by
  unfold printC
  rw [if_pos h]
  exact parse_back c h
theorem parse_nil : parseP [] = none := by kernel_rfl
theorem printC_no {c : CalD} (h : mayCal c = false) : printC c = [] := by
  unfold printC
  rw [if_neg (by rw [h]; decide)]
end Sp
set_option maxRecDepth 100000 in
set_option maxHeartbeats 16000000 in
theorem calturn_any (s : CalS) (w : World) (h : CalGood w s) (E : Env w) :
    Calls Tryz.prog 5 #[calV s] w fun e w' => e = .returned (.bool true) ∧ Below w.heap.size w w' := by
  have HE := Lib.hid E
  obtain ⟨⟨dA, dn, dc⟩, ⟨A0, n0, c0⟩, ⟨A1, n1, c1⟩, ⟨A2, n2, c2⟩, ⟨A3, n3, c3⟩, ⟨A4, n4, c4⟩, ⟨A5, n5, c5⟩, cal⟩ := s
  have hA : Below w.heap.size w (w.alloc (.cells #[.slice dA dn dc, .slice A0 n0 c0, .slice A1 n1 c1, .slice A2 n2 c2, .slice A3 n3 c3, .slice A4 n4 c4, .slice A5 n5 c5] 26)) := (Below.refl _ w).alloc (Nat.le_refl _) _
  have hcb := CBox.new w ⟨⟨dA, dn, dc⟩, ⟨A0, n0, c0⟩, ⟨A1, n1, c1⟩, ⟨A2, n2, c2⟩, ⟨A3, n3, c3⟩, ⟨A4, n4, c4⟩, ⟨A5, n5, c5⟩, cal⟩
  have hlt : w.heap.size < (w.alloc (.cells #[.slice dA dn dc, .slice A0 n0 c0, .slice A1 n1 c1, .slice A2 n2 c2, .slice A3 n3 c3, .slice A4 n4 c4, .slice A5 n5 c5] 26)).heap.size := by simp
  have HSH := Lib.hid (shown_any _ (E.on hA))
  have HG := Lib.hid h
  simp only [calV, slV] at hcb HSH ⊢
  clear h E
  go_enter Tryz.func5, Tryz.ntmps5
  go_wp2_with fail
  refine HSH.out.mono ?_
  rintro e w1 ⟨rfl, hb1'⟩
  have HC1 : Hid (CBox w1 w.heap.size ⟨⟨dA, dn, dc⟩, ⟨A0, n0, c0⟩, ⟨A1, n1, c1⟩, ⟨A2, n2, c2⟩, ⟨A3, n3, c3⟩, ⟨A4, n4, c4⟩, ⟨A5, n5, c5⟩, cal⟩) := Lib.hid (CBox.on hcb hb1' hlt)
  have HW1 := Lib.hid (hA.trans (hb1'.mono hA.size))
  have hl1 : w.heap.size < w1.heap.size := Nat.lt_of_lt_of_le hlt hb1'.size
  have HNX : Hid (∀ (z : Int) (W : World), -9223372036854775808 ≤ z → Below w1.heap.size w1 W → Calls Tryz.prog 23 #[.agg #[.slice dA dn dc, .slice A0 n0 c0, .slice A1 n1 c1, .slice A2 n2 c2, .slice A3 n3 c3, .slice A4 n4 c4, .slice A5 n5 c5], .int .i64 z] W fun e w' => (∃ v ok, e = .returned (.tuple #[.int .i64 v, .bool ok]) ∧ Sp.NextIs cal z v ok) ∧ Below W.heap.size W w') := Lib.hid (fun z W hz hW => next_any ⟨⟨dA, dn, dc⟩, ⟨A0, n0, c0⟩, ⟨A1, n1, c1⟩, ⟨A2, n2, c2⟩, ⟨A3, n3, c3⟩, ⟨A4, n4, c4⟩, ⟨A5, n5, c5⟩, cal⟩ z W (HG.out.on (HW1.out.trans (hW.mono HW1.out.size))) hz)
  have HMT : Hid (∀ (z : Int) (W : World), -9223372036854775808 ≤ z → z ≤ 9223372036854775807 → Below w1.heap.size w1 W → Calls Tryz.prog 21 #[.agg #[.slice dA dn dc, .slice A0 n0 c0, .slice A1 n1 c1, .slice A2 n2 c2, .slice A3 n3 c3, .slice A4 n4 c4, .slice A5 n5 c5], .int .i64 z] W fun e w' => e = .returned (.bool (Sp.matchB cal z)) ∧ Below W.heap.size W w') := Lib.hid (fun z W hz hz2 hW => match_any ⟨⟨dA, dn, dc⟩, ⟨A0, n0, c0⟩, ⟨A1, n1, c1⟩, ⟨A2, n2, c2⟩, ⟨A3, n3, c3⟩, ⟨A4, n4, c4⟩, ⟨A5, n5, c5⟩, cal⟩ z W (HG.out.on (HW1.out.trans (hW.mono HW1.out.size))) ⟨hz, hz2⟩)
  clear hA hcb hlt HSH hb1'
  clear HNX HMT
  obtain ⟨M, hM⟩ : ∃ M, M = Sp.mayCal cal := ⟨_, rfl⟩
  obtain ⟨N, hN⟩ : ∃ N, N = Sp.bts (Sp.printC cal) := ⟨_, rfl⟩
  have HPR : Hid (∀ W : World, Below w1.heap.size w1 W → Calls Tryz.prog 19 #[.agg #[.slice dA dn dc, .slice A0 n0 c0, .slice A1 n1 c1, .slice A2 n2 c2, .slice A3 n3 c3, .slice A4 n4 c4, .slice A5 n5 c5]] W fun e w' => e = .returned (.string N) ∧ Below W.heap.size W w') := Lib.hid (fun W hW => by
    rw [hN]
    exact print_any ⟨⟨dA, dn, dc⟩, ⟨A0, n0, c0⟩, ⟨A1, n1, c1⟩, ⟨A2, n2, c2⟩, ⟨A3, n3, c3⟩, ⟨A4, n4, c4⟩, ⟨A5, n5, c5⟩, cal⟩ W (HG.out.on (HW1.out.trans (hW.mono HW1.out.size))) (HE.out.on (HW1.out.trans (hW.mono HW1.out.size))))
  have HMY : Hid (∀ W : World, Below w1.heap.size w1 W → Calls Tryz.prog 17 #[.agg #[.slice dA dn dc, .slice A0 n0 c0, .slice A1 n1 c1, .slice A2 n2 c2, .slice A3 n3 c3, .slice A4 n4 c4, .slice A5 n5 c5]] W fun e w' => e = .returned (.bool M) ∧ Below W.heap.size W w') := Lib.hid (fun W hW => by
    rw [hM]
    exact may_any ⟨⟨dA, dn, dc⟩, ⟨A0, n0, c0⟩, ⟨A1, n1, c1⟩, ⟨A2, n2, c2⟩, ⟨A3, n3, c3⟩, ⟨A4, n4, c4⟩, ⟨A5, n5, c5⟩, cal⟩ W (HG.out.on (HW1.out.trans (hW.mono HW1.out.size))))
  have HM := Lib.hid hM
  have HN := Lib.hid hN
  clear hM hN
  obtain ⟨k0, k1, k2, k3, k4, k5, k6⟩ := HC1.out.on (Below.refl _ _) hl1
  simp only [slV] at k0 k1 k2 k3 k4 k5 k6
  go_wp2_with fail
  refine (HPR.out w1 (Below.refl _ _)).mono ?_
  rintro e w2 ⟨rfl, hb2⟩
  have HB2 := Lib.hid hb2
  clear hb2 k0 k1 k2 k3 k4 k5 k6
  have HPS := Lib.hid (parse_any N w2 (HE.out.on (HW1.out.trans (HB2.out.mono HW1.out.size))))
  go_wp2_with fail
  refine HPS.out.mono ?_
  rintro e w3 ⟨hpp, hb3⟩
  have HB3 := Lib.hid (HB2.out.trans (hb3.mono HB2.out.size))
  clear hb3 HPS
  cases M with
  | true =>
    obtain ⟨s2, hc2, hg2, rfl⟩ := parse_some hpp (show Sp.parseP N.data.toList = some cal by rw [HN.out, bts_list]; exact Sp.printC_yes HM.out.symm)
    have hne : N.toList.isEmpty = false := by
      cases he : N.toList.isEmpty with
      | false => rfl
      | true =>
        have e1 : N.toList = [] := by simpa using he
        rw [Lib.toList_data] at e1
        have e2 : Sp.parseP N.data.toList = some cal := by rw [HN.out, bts_list]; exact Sp.printC_yes HM.out.symm
        rw [e1, Sp.parse_nil] at e2
        cases e2
    obtain ⟨⟨xA, xn, xc⟩, ⟨X0, y0, z0⟩, ⟨X1, y1, z1⟩, ⟨X2, y2, z2⟩, ⟨X3, y3, z3⟩, ⟨X4, y4, z4⟩, ⟨X5, y5, z5⟩, cal2⟩ := s2
    dsimp only at hc2
    subst hc2
    have hcb3 := CBox.new w3 ⟨⟨xA, xn, xc⟩, ⟨X0, y0, z0⟩, ⟨X1, y1, z1⟩, ⟨X2, y2, z2⟩, ⟨X3, y3, z3⟩, ⟨X4, y4, z4⟩, ⟨X5, y5, z5⟩, cal2⟩
    have hba3 : Below w3.heap.size w3 (w3.alloc (.cells #[.slice xA xn xc, .slice X0 y0 z0, .slice X1 y1 z1, .slice X2 y2 z2, .slice X3 y3 z3, .slice X4 y4 z4, .slice X5 y5 z5] 26)) := (Below.refl _ _).alloc (Nat.le_refl _) _
    have hlt3 : w3.heap.size < (w3.alloc (.cells #[.slice xA xn xc, .slice X0 y0 z0, .slice X1 y1 z1, .slice X2 y2 z2, .slice X3 y3 z3, .slice X4 y4 z4, .slice X5 y5 z5] 26)).heap.size := by simp
    have hg3 := hg2.on hba3
    simp only [calV, slV] at hcb3 ⊢
    clear hpp hg2
    go_upto_region 5 with fail
    generalize w3.alloc (.cells #[.slice xA xn xc, .slice X0 y0 z0, .slice X1 y1 z1, .slice X2 y2 z2, .slice X3 y3 z3, .slice X4 y4 z4, .slice X5 y5 z5] 26) = w4 at *
    have HB4 := Lib.hid (HB3.out.trans (hba3.mono HB3.out.size))
    have HC4 := Lib.hid hcb3
    have HG4 := Lib.hid hg3
    clear hcb3 hg3 HB3 hba3
    obtain ⟨k0, k1, k2, k3, k4, k5, k6⟩ := HC1.out.on HB4.out hl1
    simp only [slV] at k0 k1 k2 k3 k4 k5 k6
    go_wp2_with fail
    refine (HMY.out w4 HB4.out).mono ?_
    rintro e w5 ⟨rfl, hb5⟩
    have HB5 := Lib.hid (HB4.out.trans (hb5.mono HB4.out.size))
    have HC5 := Lib.hid (CBox.on HC4.out hb5 hlt3)
    have HG5 := Lib.hid (HG4.out.on hb5)
    clear k0 k1 k2 k3 k4 k5 k6 hb5 HC4 HG4
    obtain ⟨k0, k1, k2, k3, k4, k5, k6⟩ := HC1.out.on HB5.out hl1
    simp only [slV] at k0 k1 k2 k3 k4 k5 k6
    obtain ⟨q0, q1, q2, q3, q4, q5, q6⟩ := HC5.out
    simp only [slV] at q0 q1 q2 q3 q4 q5 q6
    have HSM := Lib.hid (same_any ⟨⟨dA, dn, dc⟩, ⟨A0, n0, c0⟩, ⟨A1, n1, c1⟩, ⟨A2, n2, c2⟩, ⟨A3, n3, c3⟩, ⟨A4, n4, c4⟩, ⟨A5, n5, c5⟩, cal2⟩ ⟨⟨xA, xn, xc⟩, ⟨X0, y0, z0⟩, ⟨X1, y1, z1⟩, ⟨X2, y2, z2⟩, ⟨X3, y3, z3⟩, ⟨X4, y4, z4⟩, ⟨X5, y5, z5⟩, cal2⟩ w5 (HG.out.on (HW1.out.trans (HB5.out.mono HW1.out.size))) HG5.out rfl)
    simp only [calV, slV] at HSM
    go_wp2_with fail
    refine HSM.out.mono ?_
    rintro e w6 ⟨rfl, hb6⟩
    have HF := Lib.hid (HW1.out.trans ((HB5.out.trans (hb6.mono HB5.out.size)).mono HW1.out.size))
    clear hb6
    go_wp2
    go_ret
    exact ⟨rfl, HF.out⟩
  | false =>
    have hNn : N = Sp.bts [] := by rw [HN.out, Sp.printC_no HM.out.symm]
    obtain rfl := parse_none hpp (show Sp.parseP N.data.toList = none by rw [hNn, bts_list]; exact Sp.parse_nil)
    have hne : N.toList.isEmpty = true := by rw [hNn, Lib.toList_data, bts_list]; rfl
    have hba3 : Below w3.heap.size w3 (w3.alloc (.cells #[.slice none 0 0, .slice none 0 0, .slice none 0 0, .slice none 0 0, .slice none 0 0, .slice none 0 0, .slice none 0 0] 26)) := (Below.refl _ _).alloc (Nat.le_refl _) _
    clear hpp hNn
    go_upto_region 5 with fail
    generalize w3.alloc (.cells #[.slice none 0 0, .slice none 0 0, .slice none 0 0, .slice none 0 0, .slice none 0 0, .slice none 0 0, .slice none 0 0] 26) = w4 at *
    have HB4 := Lib.hid (HB3.out.trans (hba3.mono HB3.out.size))
    clear HB3 hba3
    obtain ⟨k0, k1, k2, k3, k4, k5, k6⟩ := HC1.out.on HB4.out hl1
    simp only [slV] at k0 k1 k2 k3 k4 k5 k6
    go_wp2_with fail
    refine (HMY.out w4 HB4.out).mono ?_
    rintro e w5 ⟨rfl, hb5⟩
    have HF := Lib.hid (HW1.out.trans ((HB4.out.trans (hb5.mono HB4.out.size)).mono HW1.out.size))
    clear hb5
    go_wp2
    go_ret
    exact ⟨rfl, HF.out⟩

end Go.Proofs.YtopmdffiikajnaaGreatDoor
