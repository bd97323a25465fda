/-
  The walks of what a byte behind a percent sign stands for, of a text with percent signs.
-/
import Derived.Test.YtcefnglmacpehaaEx1
import Derived.Test.YtcefnglmacpehaaNm4
namespace Go.Proofs.Ytcefnglmacpehaa
open Go.RowKit

set_option maxHeartbeats 1000000 in
theorem stands_any (c : UInt8) (u : ByteArray) (w : World) (hu : u.size ≤ 140737488355328) :
    Calls Try.prog 18 #[.int .u8 c.toNat, .string u] w fun e w' => e = .returned (.tuple #[.string ⟨((Sp.standsL c u.data.toList).getD []).toArray⟩, .bool (Sp.standsL c u.data.toList).isSome]) ∧ Below w.heap.size w w' := by
  have hl := Sp.partsL_len u.data.toList
  generalize hp : (Sp.partsL u.data.toList).1 = pre at hl
  generalize hi : (Sp.partsL u.data.toList).2.1 = ins at hl
  generalize ha : (Sp.partsL u.data.toList).2.2 = at0
  generalize hk : Sp.kindL u.data.toList = k
  have hl1 : ins.length ≤ 140737488355328 := by have := hl.2; simp at this; omega
  have hsl := Sp.suffix_len k
  have HP := Lib.hid hp; have HI := Lib.hid hi; have HA := Lib.hid ha; have HK := Lib.hid hk
  clear hp hi ha hk hl
  have e : ∀ x, Sp.standsL c u.data.toList = x → Hid (Sp.standsL c u.data.toList = x) := fun _ h => Lib.hid h
  by_cases h1 : (c.toNat : Int) = 37
  · have HS := e (some [37]) (by obtain rfl : c = 37 := UInt8.toNat_inj.1 (by simpa using (by omega : c.toNat = 37)); simp [Sp.standsL])
    have hcb : ((c.toNat : Int) == 37) = true := by simp; omega
    clear e
    go_enter Try.func18, Try.ntmps18
    go_wp2_with (go_at_call 35; refine (parts_any _ _ (by omega)).mono ?_; rintro e w1 ⟨rfl, hb⟩; rw [HP.out, HI.out, HA.out])
    go_ret2
    exact ⟨by rw [HS.out]; rfl, hb⟩
  have h1b : ((c.toNat : Int) == 37) = false := by simpa using h1
  by_cases h2 : (c.toNat : Int) = 110
  · have HS := e (some u.data.toList) (by obtain rfl : c = 110 := UInt8.toNat_inj.1 (by simpa using (by omega : c.toNat = 110)); simp [Sp.standsL])
    have hcb : ((c.toNat : Int) == 110) = true := by simp; omega
    clear e
    go_enter Try.func18, Try.ntmps18
    go_wp2_with (go_at_call 35; refine (parts_any _ _ (by omega)).mono ?_; rintro e w1 ⟨rfl, hb⟩; rw [HP.out, HI.out, HA.out])
    go_ret2
    exact ⟨by rw [HS.out]; rfl, hb⟩
  have h2b : ((c.toNat : Int) == 110) = false := by simpa using h2
  by_cases h3 : (c.toNat : Int) = 78
  · have HS := e (some (Lib.trimSuffix u.data.toList (46 :: Sp.suffix k))) (by obtain rfl : c = 78 := UInt8.toNat_inj.1 (by simpa using (by omega : c.toNat = 78)); simp [Sp.standsL, HK.out])
    have hcb : ((c.toNat : Int) == 78) = true := by simp; omega
    clear e
    go_enter Try.func18, Try.ntmps18
    go_wp2_with (go_at_call 35; refine (parts_any _ _ (by omega)).mono ?_; rintro e w1 ⟨rfl, hb⟩; rw [HP.out, HI.out, HA.out])
    refine (kind_any u _ (by omega)).mono ?_
    rintro e w2 ⟨rfl, hb2⟩
    rw [HK.out]
    go_wp2_with (first | (go_at_call 37; refine (suffix_any _ _).mono ?_; rintro e w' ⟨rfl, rfl⟩) | (go_at_call 36; refine (Try.strings_TrimSuffix _ _ _ (by omega)).mono ?_; rintro e w' ⟨rfl, rfl⟩))
    go_ret2
    exact ⟨by rw [HS.out]; rfl, hb.trans (hb2.mono hb.size)⟩
  have h3b : ((c.toNat : Int) == 78) = false := by simpa using h3
  by_cases h4 : (c.toNat : Int) = 112
  · have HS := e (some pre) (by obtain rfl : c = 112 := UInt8.toNat_inj.1 (by simpa using (by omega : c.toNat = 112)); simp [Sp.standsL, HP.out])
    have hcb : ((c.toNat : Int) == 112) = true := by simp; omega
    clear e
    go_enter Try.func18, Try.ntmps18
    go_wp2_with (go_at_call 35; refine (parts_any _ _ (by omega)).mono ?_; rintro e w1 ⟨rfl, hb⟩; rw [HP.out, HI.out, HA.out])
    go_ret2
    exact ⟨by rw [HS.out]; rfl, hb⟩
  have h4b : ((c.toNat : Int) == 112) = false := by simpa using h4
  by_cases h5 : (c.toNat : Int) = 105
  · have HS := e (some ins) (by obtain rfl : c = 105 := UInt8.toNat_inj.1 (by simpa using (by omega : c.toNat = 105)); simp [Sp.standsL, HI.out])
    have hcb : ((c.toNat : Int) == 105) = true := by simp; omega
    clear e
    go_enter Try.func18, Try.ntmps18
    go_wp2_with (go_at_call 35; refine (parts_any _ _ (by omega)).mono ?_; rintro e w1 ⟨rfl, hb⟩; rw [HP.out, HI.out, HA.out])
    go_ret2
    exact ⟨by rw [HS.out]; rfl, hb⟩
  have h5b : ((c.toNat : Int) == 105) = false := by simpa using h5
  by_cases h6 : (c.toNat : Int) = 73
  · have HS := e (some ((Sp.unescL ins).getD ins)) (by obtain rfl : c = 73 := UInt8.toNat_inj.1 (by simpa using (by omega : c.toNat = 73)); simp [Sp.standsL, HI.out])
    have hcb : ((c.toNat : Int) == 73) = true := by simp; omega
    clear e
    generalize hx : Sp.unescL ins = x at HS
    have HX := Lib.hid hx
    clear hx
    go_enter Try.func18, Try.ntmps18
    go_wp2_with (go_at_call 35; refine (parts_any _ _ (by omega)).mono ?_; rintro e w1 ⟨rfl, hb⟩; rw [HP.out, HI.out, HA.out])
    refine (unescape_any ⟨ins.toArray⟩ _ hl1).mono ?_
    rintro e w2 ⟨rfl, hb2⟩
    rw [HX.out]
    cases x with
    | none =>
      go_wp2
      go_ret2
      exact ⟨by rw [HS.out]; rfl, hb.trans (hb2.mono hb.size)⟩
    | some t =>
      go_wp2
      go_ret2
      exact ⟨by rw [HS.out]; rfl, hb.trans (hb2.mono hb.size)⟩
  have h6b : ((c.toNat : Int) == 73) = false := by simpa using h6
  have HS := e none (by
    unfold Sp.standsL
    have g : ∀ d : UInt8, (c.toNat : Int) ≠ d.toNat → c ≠ d := fun d h g => h (by rw [g])
    rw [if_neg (g 37 h1), if_neg (g 110 h2), if_neg (g 78 h3), if_neg (g 112 h4), if_neg (g 105 h5), if_neg (g 73 h6)])
  clear e
  go_enter Try.func18, Try.ntmps18
  go_wp2_with (go_at_call 35; refine (parts_any _ _ (by omega)).mono ?_; rintro e w1 ⟨rfl, hb⟩; rw [HP.out, HI.out, HA.out])
  go_ret2
  exact ⟨by rw [HS.out]; rfl, hb⟩

end Go.Proofs.Ytcefnglmacpehaa
