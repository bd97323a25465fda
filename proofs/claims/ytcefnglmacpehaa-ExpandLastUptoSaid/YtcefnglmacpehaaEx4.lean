/-
  The walk of the reference's text with percent signs.
-/
import Derived.Test.YtcefnglmacpehaaEx3
import Derived.Test.YtcefnglmacpehaaNm6
import Derived.Test.YtcefnglmacpehaaNm11
namespace Go.Proofs.Ytcefnglmacpehaa
open Go.RowKit

namespace Sp
theorem isSuffix_app (h t : List UInt8) : Lib.trimSuffix (h ++ t) t = h := by
  have : Lib.hasSuffix (h ++ t) t = true := by unfold Lib.hasSuffix; exact List.isSuffixOf_iff_suffix.2 (List.suffix_append h t)
  unfold Lib.trimSuffix
  rw [if_pos this]
  simp
theorem standsN (u : List UInt8) (k : Int) (hk : kindL u = k) (h0 : k ≠ 0) : (suffix k).length + 1 ≤ u.length ∧ Lib.trimSuffix u (46 :: suffix k) = u.take (u.length - (suffix k).length - 1) := by
  obtain ⟨n, h, h1, h2, h3, h4, _⟩ := kindL_some u (by rw [hk]; exact h0)
  rw [hk] at h4
  subst h4
  rw [h3, isSuffix_app]
  constructor
  · simp
  · rw [show (h ++ 46 :: suffix (n : Int)).length - (suffix (n : Int)).length - 1 = h.length from by simp; omega]; simp
theorem ext1 (s : ByteArray) (k : Nat) (h : k < s.size) : (s.extract k (k + 1)).data.toList = [s[k]] := by
  rw [Lib.extract_data]
  have h1 : k < s.data.toList.length := by simpa using h
  rw [show k + 1 - k = 1 from by omega, List.drop_eq_getElem_cons h1]
  simp [ByteArray.getElem_eq_getElem_data]
end Sp

/-- the four cells of a name's pieces -/
def Cut4 (b : Nat) (k : Int) (p i : ByteArray) (a : Bool) (B : Nat) (w W : World) : Prop :=
  Below B w W ∧ b < W.heap.size ∧ B ≤ W.heap.size ∧ W.cell? ⟨b, 0, none⟩ = some (.int .i64 k) ∧ W.cell? ⟨b, 1, none⟩ = some (.string p) ∧ W.cell? ⟨b, 2, none⟩ = some (.string i) ∧ W.cell? ⟨b, 3, none⟩ = some (.bool a)
theorem Cut4.after {b B : Nat} {k : Int} {p i : ByteArray} {a : Bool} {w W W' : World} (h : Cut4 b k p i a B w W) (hb : Below W.heap.size W W') : Cut4 b k p i a B w W' := by
  obtain ⟨h1, h2, h3, h4, h5, h6, h7⟩ := h
  have hz := hb.size
  exact ⟨h1.trans (hb.mono h3), by omega, by omega, by rw [hb.cell (p := ⟨b, 0, none⟩) h2]; exact h4, by rw [hb.cell (p := ⟨b, 1, none⟩) h2]; exact h5,
    by rw [hb.cell (p := ⟨b, 2, none⟩) h2]; exact h6, by rw [hb.cell (p := ⟨b, 3, none⟩) h2]; exact h7⟩

set_option maxRecDepth 100000 in
set_option maxHeartbeats 1000000 in
theorem rspec_any (s u : ByteArray) (w : World) (hs : s.size ≤ 1099511627776) :
    Calls Try.prog 10 #[.string s, .string u] w fun e w' => e = .returned (.tuple #[.string ⟨(Sp.specL s.data.toList u.data.toList).1.toArray⟩, .int .i64 (Sp.specL s.data.toList u.data.toList).2]) ∧ Below w.heap.size w w' := by
  obtain ⟨k0, p, i, a, HO, hp, hi⟩ := of_ex u.data.toList
  have HK : Hid (Sp.kindL u.data.toList = k0) := Lib.hid (by have := HO.out; rw [Sp.ofL_eq] at this; exact (Prod.mk.inj this).1)
  have HP : Hid (Sp.partsL u.data.toList = (p.data.toList, i.data.toList, a)) := Lib.hid (by have := HO.out; rw [Sp.ofL_eq] at this; exact (Prod.mk.inj this).2)
  by_cases h0 : k0 = 0
  · have e : Sp.specL s.data.toList u.data.toList = ([], 5) := by simp [Sp.specL, Sp.mayL, HK.out, h0]
    rw [e]
    have h0b : (k0 == 0) = true := by simpa using h0
    clear e h0
    go_enter Try.func10, Try.ntmps10
    go_wp2_with (go_at_call 21; refine (of_as _ _ k0 p i _ HO).mono ?_; rintro e w1 ⟨rfl, hb⟩)
    go_ret2
    exact ⟨rfl, hb.alloc hb.size _⟩
  have HM : Hid (Sp.mayL u.data.toList = true) := Lib.hid (by simp [Sp.mayL, HK.out, h0])
  have hu60 : u.size ≤ 60 := by have := Sp.mayL_len _ HM.out; simpa using this
  obtain ⟨hN1, hN2⟩ := Sp.standsN u.data.toList k0 HK.out h0
  have HN := Lib.hid hN2
  generalize hsf : Sp.suffix k0 = sl at hN1 HN
  have HSF := Lib.hid hsf
  have hN3 : sl.length + 1 ≤ u.size := by simpa using hN1
  have h0b : (k0 == 0) = false := by simpa using h0
  have HG : Hid (∀ o, Sp.goL u.data.toList s.data.toList = o → Sp.specL s.data.toList u.data.toList = match o with | some t => (t, 0) | none => ([], 14)) := Lib.hid (by
    intro o ho; unfold Sp.specL; rw [if_pos HM.out, ho]; cases o <;> rfl)
  clear hN1 hN2 hsf h0
  go_enter Try.func10, Try.ntmps10
  go_wp2_with (go_at_call 21; refine (of_as _ _ k0 p i _ HO).mono ?_; rintro e w1 ⟨rfl, hb1⟩)
  go_loopw [7, 8] (fun o j wr => ∃ (k : Nat) (ob : ByteArray), k ≤ s.size ∧ o = .string ob ∧ j = .int .i64 k ∧ Hid (Sp.SpecRel u.data.toList s.data.toList k ob.data.toList) ∧ Cut4 w1.heap.size k0 p i a w.heap.size w wr) (fun _ j _ => s.size - (intOf j).toNat)
  case atStart => exact ⟨0, ⟨#[]⟩, Nat.zero_le _, rfl, rfl, Lib.hid (Sp.SpecRel.start _ _), hb1.alloc hb1.size _, by go_simp, by have := hb1.size; simp; omega, by go_simp, by go_simp, by go_simp, by go_simp⟩
  case round =>
    obtain ⟨k, ob, hk, rfl, rfl, HR, hC⟩ := hrel
    have hac : ob.size ≤ 61 * k := HR.out.2
    by_cases hlt : k < s.size
    · by_cases hc : (s[k].toNat : Int) = 37
      · have hcb : ((s[k].toNat : Int) != 37) = false := by simpa using hc
        have hce : s[k] = 37 := UInt8.toNat_inj.1 (by simpa using (by omega : s[k].toNat = 37))
        by_cases hl : k + 1 < s.size
        · have hlb : ((k : Int) + 1 == (s.size : Int)) = false := by simp; omega
          have HC := Lib.hid hce
          have hl2 : ((k : Int) + 1) < (s.size : Int) := by omega
          have hl3 : (0 : Int) ≤ ((k : Int) + 1) := by omega
          clear hce hc
          have hcells := hC.2.2.2
          obtain ⟨hc0, hc1, hc2, hc3⟩ := hcells
          by_cases g37 : (s[k + 1].toNat : Int) = 37
          · have g37b : ((s[k + 1].toNat : Int) == 37) = true := by simpa using g37
            have gc : s[k + 1] = 37 := UInt8.toNat_inj.1 (by simpa using (by omega : s[k + 1].toNat = 37))
            have HS : Hid (Sp.standsL s[k + 1] u.data.toList = some [37]) := Lib.hid (by rw [gc]; simp [Sp.standsL])
            clear g37 gc
            go_wp2
            go_roundw
            case rel => exact ⟨k + 2, _, by omega, rfl, by go_num, Lib.hid (by have := HR.out.sign hl HC.out HM.out HS.out; simpa using this), hC⟩
            case measure => simp [intOf]; omega
          have g37b : ((s[k + 1].toNat : Int) == 37) = false := by simpa using g37
          by_cases g110 : (s[k + 1].toNat : Int) = 110
          · have g110b : ((s[k + 1].toNat : Int) == 110) = true := by simpa using g110
            have gc : s[k + 1] = 110 := UInt8.toNat_inj.1 (by simpa using (by omega : s[k + 1].toNat = 110))
            have HS : Hid (Sp.standsL s[k + 1] u.data.toList = some u.data.toList) := Lib.hid (by rw [gc]; simp [Sp.standsL])
            clear g110 gc
            go_wp2
            go_roundw
            case rel => exact ⟨k + 2, _, by omega, rfl, by go_num, Lib.hid (by have := HR.out.sign hl HC.out HM.out HS.out; simpa using this), hC⟩
            case measure => simp [intOf]; omega
          have g110b : ((s[k + 1].toNat : Int) == 110) = false := by simpa using g110
          by_cases g78 : (s[k + 1].toNat : Int) = 78
          · have g78b : ((s[k + 1].toNat : Int) == 78) = true := by simpa using g78
            have gc : s[k + 1] = 78 := UInt8.toNat_inj.1 (by simpa using (by omega : s[k + 1].toNat = 78))
            have HS : Hid (Sp.standsL s[k + 1] u.data.toList = some (u.data.toList.take (u.data.toList.length - sl.length - 1))) := Lib.hid (by rw [gc]; rw [← HN.out, ← HSF.out]; simp [Sp.standsL, HK.out])
            clear g78 gc
            have y1 : (0 : Int) ≤ (u.size : Int) - (sl.length : Int) - 1 := by omega
            have y2 : (u.size : Int) - (sl.length : Int) - 1 ≤ (u.size : Int) := by omega
            have y3 : (0 : Int) ≤ (u.size : Int) - (sl.length : Int) := by omega
            go_wp2_with (go_at_call 22; refine (rsuffix_any _ _).mono ?_; rintro e w2 ⟨rfl, rfl⟩; rw [HSF.out])
            go_roundw
            case rel => exact ⟨k + 2, _, by omega, rfl, by go_num, Lib.hid (by have := HR.out.sign hl HC.out HM.out HS.out; simpa using this), hC⟩
            case measure => simp [intOf]; omega
          have g78b : ((s[k + 1].toNat : Int) == 78) = false := by simpa using g78
          by_cases g112 : (s[k + 1].toNat : Int) = 112
          · have g112b : ((s[k + 1].toNat : Int) == 112) = true := by simpa using g112
            have gc : s[k + 1] = 112 := UInt8.toNat_inj.1 (by simpa using (by omega : s[k + 1].toNat = 112))
            have HS : Hid (Sp.standsL s[k + 1] u.data.toList = some p.data.toList) := Lib.hid (by rw [gc]; simp [Sp.standsL, HP.out])
            clear g112 gc
            go_wp2
            go_roundw
            case rel => exact ⟨k + 2, _, by omega, rfl, by go_num, Lib.hid (by have := HR.out.sign hl HC.out HM.out HS.out; simpa using this), hC⟩
            case measure => simp [intOf]; omega
          have g112b : ((s[k + 1].toNat : Int) == 112) = false := by simpa using g112
          by_cases g105 : (s[k + 1].toNat : Int) = 105
          · have g105b : ((s[k + 1].toNat : Int) == 105) = true := by simpa using g105
            have gc : s[k + 1] = 105 := UInt8.toNat_inj.1 (by simpa using (by omega : s[k + 1].toNat = 105))
            have HS : Hid (Sp.standsL s[k + 1] u.data.toList = some i.data.toList) := Lib.hid (by rw [gc]; simp [Sp.standsL, HP.out])
            clear g105 gc
            go_wp2
            go_roundw
            case rel => exact ⟨k + 2, _, by omega, rfl, by go_num, Lib.hid (by have := HR.out.sign hl HC.out HM.out HS.out; simpa using this), hC⟩
            case measure => simp [intOf]; omega
          have g105b : ((s[k + 1].toNat : Int) == 105) = false := by simpa using g105
          by_cases g73 : (s[k + 1].toNat : Int) = 73
          · have g73b : ((s[k + 1].toNat : Int) == 73) = true := by simpa using g73
            have gc : s[k + 1] = 73 := UInt8.toNat_inj.1 (by simpa using (by omega : s[k + 1].toNat = 73))
            cases hx : Sp.unescL i.data.toList with
            | none =>
              have HS : Hid (Sp.standsL s[k + 1] u.data.toList = some i.data.toList) := Lib.hid (by rw [gc]; simp [Sp.standsL, HP.out, hx])
              have HX := Lib.hid hx
              clear g73 gc hx
              go_wp2_with (go_at_call 23; refine (runescape_any _ _ (by omega)).mono ?_; rintro e w2 ⟨rfl, hb2⟩; rw [HX.out]; have hC2 := hC.after hb2; obtain ⟨-, -, -, hd0, hd1, hd2, hd3⟩ := hC2)
              go_roundw
              case rel => exact ⟨k + 2, _, by omega, rfl, by go_num, Lib.hid (by have := HR.out.sign hl HC.out HM.out HS.out; simpa using this), hC.after hb2⟩
              case measure => simp [intOf]; omega
            | some t =>
              have HS : Hid (Sp.standsL s[k + 1] u.data.toList = some t) := Lib.hid (by rw [gc]; simp [Sp.standsL, HP.out, hx])
              have HX := Lib.hid hx
              have ht : t.length ≤ 60 := Sp.standsL_len _ _ _ HM.out HS.out
              clear g73 gc hx
              go_wp2_with (go_at_call 23; refine (runescape_any _ _ (by omega)).mono ?_; rintro e w2 ⟨rfl, hb2⟩; rw [HX.out]; have hC2 := hC.after hb2; obtain ⟨-, -, -, hd0, hd1, hd2, hd3⟩ := hC2)
              go_roundw
              case rel => exact ⟨k + 2, _, by omega, rfl, by go_num, Lib.hid (by have := HR.out.sign hl HC.out HM.out HS.out; simpa using this), hC.after hb2⟩
              case measure => simp [intOf]; omega
          have g73b : ((s[k + 1].toNat : Int) == 73) = false := by simpa using g73
          have HS : Hid (Sp.standsL s[k + 1] u.data.toList = none) := Lib.hid (by
            generalize s[k + 1] = c at *
            unfold Sp.standsL
            have g : ∀ d : UInt8, (c.toNat : Int) ≠ d.toNat → c ≠ d := fun d h g => h (by rw [g])
            rw [if_neg (g 37 g37), if_neg (g 110 g110), if_neg (g 78 g78), if_neg (g 112 g112), if_neg (g 105 g105), if_neg (g 73 g73)])
          clear g37 g110 g78 g112 g105 g73
          go_wp2
          go_ret2
          exact ⟨by rw [HG.out _ (HR.out.stop hl HC.out HS.out)]; rfl, hC.1⟩
        · have hlb : ((k : Int) + 1 == (s.size : Int)) = true := by simp; omega
          have hl2 : k + 1 = s.size := by omega
          have HC := Lib.hid hce
          clear hce hc
          go_wp2
          go_ret2
          exact ⟨by rw [HG.out _ (HR.out.last hlt HC.out hl2)]; rfl, hC.1⟩
      · have hcb : ((s[k].toNat : Int) != 37) = true := by simpa using hc
        have hce : Hid (s[k] ≠ 37) := Lib.hid (fun h => hc (by rw [h]; rfl))
        have x1 : (0 : Int) ≤ (k : Int) + 1 := by omega
        have x2 : (k : Int) + 1 ≤ (s.size : Int) := by omega
        have x3 : (k : Int) ≤ (k : Int) + 1 := by omega
        have HX := Lib.hid (Sp.ext1 s k hlt)
        clear hc
        go_wp2
        go_roundw
        case rel => exact ⟨k + 1, _, by omega, rfl, by go_num, Lib.hid (by have := HR.out.plain hlt hce.out; rw [← HX.out] at this; simpa using this), hC⟩
        case measure => simp [intOf]; omega
    · go_wp2
      go_ret2
      exact ⟨by rw [HG.out _ (HR.out.done hlt)]; rfl, hC.1⟩

end Go.Proofs.Ytcefnglmacpehaa
