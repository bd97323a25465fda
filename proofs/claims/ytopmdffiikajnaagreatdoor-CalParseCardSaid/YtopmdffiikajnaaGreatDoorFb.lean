/-
  The text that says a calendar, read twice: the law's walk.
-/
import Derived.Test.YtopmdffiikajnaaGreatDoorDo
import Derived.Test.YtopmdffiikajnaaGreatDoorDv
import Derived.Test.YtopmdffiikajnaaGreatDoorEj
namespace Go.Proofs.YtopmdffiikajnaaGreatDoor
open Go.RowKit Go.Shelf

theorem parse_both {l : List UInt8} {e : Ending} {W : World} (h : ParsePost l e W) : ∃ (s : CalS) (ok : Bool), e = .returned (.tuple #[calV s, .bool ok]) ∧ CalGood W s ∧ s.cal = (Sp.parseP l).getD ⟨[], [], [], [], [], [], []⟩ ∧ ok = (Sp.parseP l).isSome := by
  rcases h with ⟨s, h1, h2, h3⟩ | ⟨h1, h2⟩
  · exact ⟨s, true, h3, h2, by rw [h1]; rfl, by rw [h1]; rfl⟩
  · refine ⟨zeroS, false, h2, ⟨Rd.empty, fun i hi => ?_, Nat.zero_le _, fun i => ?_⟩, by rw [h1]; rfl, by rw [h1]; rfl⟩
    · have e : i = 0 ∨ i = 1 ∨ i = 2 ∨ i = 3 ∨ i = 4 ∨ i = 5 := by omega
      rcases e with rfl | rfl | rfl | rfl | rfl | rfl <;> exact Rd.empty
    · match i with
      | 0 => exact Nat.zero_le _
      | 1 => exact Nat.zero_le _
      | 2 => exact Nat.zero_le _
      | 3 => exact Nat.zero_le _
      | 4 => exact Nat.zero_le _
      | n + 5 => exact Nat.zero_le _
set_option maxRecDepth 100000 in
set_option maxHeartbeats 16000000 in
theorem calparse_any (s : ByteArray) (w : World) (E : Env w) :
    Calls Tryz.prog 3 #[.string s] w fun e w' => e = .returned (.bool true) ∧ Below w.heap.size w w' := by
  have HE := Lib.hid E
  have HSH := Lib.hid (shown_any w E)
  clear E
  go_enter Tryz.func3, Tryz.ntmps3
  go_wp2_with fail
  refine HSH.out.mono ?_
  rintro e w1 ⟨rfl, hb1⟩
  have HB1 := Lib.hid hb1
  clear hb1 HSH
  go_wp2_with fail
  refine (parse_any s w1 (HE.out.on HB1.out)).mono ?_
  rintro e w2 ⟨hpp, hb2⟩
  obtain ⟨aS, aok, rfl, hga, hca, hka⟩ := parse_both hpp
  have HB2 := Lib.hid (HB1.out.trans (hb2.mono HB1.out.size))
  clear hpp hb2 HB1
  obtain ⟨⟨aA, an, ac⟩, ⟨aA0, an0, ac0⟩, ⟨aA1, an1, ac1⟩, ⟨aA2, an2, ac2⟩, ⟨aA3, an3, ac3⟩, ⟨aA4, an4, ac4⟩, ⟨aA5, an5, ac5⟩, acal⟩ := aS
  have hcba := CBox.new w2 ⟨⟨aA, an, ac⟩, ⟨aA0, an0, ac0⟩, ⟨aA1, an1, ac1⟩, ⟨aA2, an2, ac2⟩, ⟨aA3, an3, ac3⟩, ⟨aA4, an4, ac4⟩, ⟨aA5, an5, ac5⟩, acal⟩
  have hbaa : Below w2.heap.size w2 (w2.alloc (.cells #[.slice aA an ac, .slice aA0 an0 ac0, .slice aA1 an1 ac1, .slice aA2 an2 ac2, .slice aA3 an3 ac3, .slice aA4 an4 ac4, .slice aA5 an5 ac5] 26)) := (Below.refl _ _).alloc (Nat.le_refl _) _
  have hlta : w2.heap.size < (w2.alloc (.cells #[.slice aA an ac, .slice aA0 an0 ac0, .slice aA1 an1 ac1, .slice aA2 an2 ac2, .slice aA3 an3 ac3, .slice aA4 an4 ac4, .slice aA5 an5 ac5] 26)).heap.size := by simp
  have hga2 := hga.on hbaa
  simp only [calV, slV] at hcba ⊢
  clear hga
  go_upto_region 4 with fail
  generalize (w2.alloc (.cells #[.slice aA an ac, .slice aA0 an0 ac0, .slice aA1 an1 ac1, .slice aA2 an2 ac2, .slice aA3 an3 ac3, .slice aA4 an4 ac4, .slice aA5 an5 ac5] 26)) = w3 at *
  have HB3 := Lib.hid (HB2.out.trans (hbaa.mono HB2.out.size))
  have HCA := Lib.hid hcba
  have HGA := Lib.hid hga2
  have HKA := Lib.hid hka
  have HXA := Lib.hid hca
  clear hcba hga2 hka hca hbaa HB2
  go_wp2_with fail
  refine (rparse_any s w3).mono ?_
  rintro e w4 ⟨hpp, hb4⟩
  obtain ⟨bS, bok, rfl, hgb, hcb, hkb⟩ := parse_both hpp
  have HB4 := Lib.hid (HB3.out.trans (hb4.mono HB3.out.size))
  have HCA4 := Lib.hid (CBox.on HCA.out hb4 hlta)
  have HGA4 := Lib.hid (HGA.out.on hb4)
  have hlt4 : w2.heap.size < w4.heap.size := Nat.lt_of_lt_of_le hlta hb4.size
  clear hpp hb4 HB3 HCA HGA hlta
  obtain ⟨⟨bA, bn, bc⟩, ⟨bA0, bn0, bc0⟩, ⟨bA1, bn1, bc1⟩, ⟨bA2, bn2, bc2⟩, ⟨bA3, bn3, bc3⟩, ⟨bA4, bn4, bc4⟩, ⟨bA5, bn5, bc5⟩, bcal⟩ := bS
  have hcbb := CBox.new w4 ⟨⟨bA, bn, bc⟩, ⟨bA0, bn0, bc0⟩, ⟨bA1, bn1, bc1⟩, ⟨bA2, bn2, bc2⟩, ⟨bA3, bn3, bc3⟩, ⟨bA4, bn4, bc4⟩, ⟨bA5, bn5, bc5⟩, bcal⟩
  have hbab : Below w4.heap.size w4 (w4.alloc (.cells #[.slice bA bn bc, .slice bA0 bn0 bc0, .slice bA1 bn1 bc1, .slice bA2 bn2 bc2, .slice bA3 bn3 bc3, .slice bA4 bn4 bc4, .slice bA5 bn5 bc5] 26)) := (Below.refl _ _).alloc (Nat.le_refl _) _
  have hltb : w4.heap.size < (w4.alloc (.cells #[.slice bA bn bc, .slice bA0 bn0 bc0, .slice bA1 bn1 bc1, .slice bA2 bn2 bc2, .slice bA3 bn3 bc3, .slice bA4 bn4 bc4, .slice bA5 bn5 bc5] 26)).heap.size := by simp
  have hgb2 := hgb.on hbab
  simp only [calV, slV] at hcbb ⊢
  clear hgb
  go_upto_region 5 with fail
  have HCA5 := Lib.hid (CBox.on HCA4.out hbab hlt4)
  have HGA5 := Lib.hid (HGA4.out.on hbab)
  generalize (w4.alloc (.cells #[.slice bA bn bc, .slice bA0 bn0 bc0, .slice bA1 bn1 bc1, .slice bA2 bn2 bc2, .slice bA3 bn3 bc3, .slice bA4 bn4 bc4, .slice bA5 bn5 bc5] 26)) = w5 at *
  have HB5 := Lib.hid (HB4.out.trans (hbab.mono HB4.out.size))
  have HCB5 := Lib.hid hcbb
  have HGB5 := Lib.hid hgb2
  obtain rfl : aok = bok := HKA.out.trans hkb.symm
  have hcc : acal = bcal := HXA.out.trans hcb.symm
  clear hcbb hgb2 hkb hcb hbab HB4 HXA HKA HCA4 HGA4
  subst hcc
  have HSM := Lib.hid (same_any ⟨⟨aA, an, ac⟩, ⟨aA0, an0, ac0⟩, ⟨aA1, an1, ac1⟩, ⟨aA2, an2, ac2⟩, ⟨aA3, an3, ac3⟩, ⟨aA4, an4, ac4⟩, ⟨aA5, an5, ac5⟩, acal⟩ ⟨⟨bA, bn, bc⟩, ⟨bA0, bn0, bc0⟩, ⟨bA1, bn1, bc1⟩, ⟨bA2, bn2, bc2⟩, ⟨bA3, bn3, bc3⟩, ⟨bA4, bn4, bc4⟩, ⟨bA5, bn5, bc5⟩, acal⟩ w5 HGA5.out HGB5.out rfl)
  simp only [calV, slV] at HSM
  obtain ⟨k0, k1, k2, k3, k4, k5, k6⟩ := HCA5.out
  obtain ⟨m0, m1, m2, m3, m4, m5, m6⟩ := HCB5.out
  simp only [slV] at k0 k1 k2 k3 k4 k5 k6 m0 m1 m2 m3 m4 m5 m6
  go_wp2_with fail
  refine HSM.out.mono ?_
  rintro e w6 ⟨rfl, hb6⟩
  have HF := Lib.hid (HB5.out.trans (hb6.mono HB5.out.size))
  clear hb6
  cases aok
  · go_wp2
    go_ret
    exact ⟨rfl, HF.out⟩
  · go_wp2
    go_ret
    exact ⟨rfl, HF.out⟩

end Go.Proofs.YtopmdffiikajnaaGreatDoor
