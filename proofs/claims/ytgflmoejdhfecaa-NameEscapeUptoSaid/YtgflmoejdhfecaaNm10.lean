/-
  The walks of the reference's Escape and Unescape.
-/
import Derived.Test.YtgflmoejdhfecaaNm9
namespace Go.Proofs.Ytgflmoejdhfecaa
open Go.RowKit

set_option maxHeartbeats 1000000 in
theorem rescape_any (s : ByteArray) (w : World) (hs : s.size ≤ 35184372088832) :
    Calls Try.prog 24 #[.string s] w fun e w' => e = .returned (.string ⟨(Sp.escL true s.data.toList).toArray⟩) ∧ Below w.heap.size w w' := by
  have hlen : ∀ k, (Sp.escL true (s.data.toList.take k)).length ≤ 4 * k := by
    intro k
    have h1 := Sp.escL_len true (s.data.toList.take k)
    have h2 : (s.data.toList.take k).length ≤ k := by rw [List.length_take]; omega
    omega
  have HL := Lib.hid hlen
  clear hlen
  go_enter Try.func24, Try.ntmps24
  go_wp2_with fail
  go_loopw [3, 4] (fun o i wr => ∃ (k n : Nat) (ob : ByteArray), k ≤ s.size ∧ i = .int .i64 k ∧ o = .string ob ∧ Hid (ob.data.toList = Sp.escL true (s.data.toList.take k)) ∧ wr = w.drewN n) (fun _ i _ => s.size - (intOf i).toNat)
  case atStart => exact ⟨0, 0, ⟨#[]⟩, Nat.zero_le _, rfl, rfl, Lib.hid (by simp [Sp.escL]), rfl⟩
  case round =>
    obtain ⟨k, n, ob, hk, rfl, rfl, HB, rfl⟩ := hrel
    have hob : ob.size ≤ 4 * k := by
      have h1 := HL.out k
      rw [← HB.out] at h1
      have : ob.data.toList.length = ob.size := by simp
      omega
    by_cases hlt : k < s.size
    · have HS := Lib.hid (Sp.escTo_succ s k hlt)
      have x1 : (0 : Int) ≤ (k : Int) + 1 := by omega
      have x2 : (k : Int) + 1 ≤ (s.size : Int) := by omega
      have x3 : (k : Int) ≤ (k : Int) + 1 := by omega
      have HX : Hid ((s.extract k (k + 1)).data.toList = [s[k]]) := Lib.hid (by
        rw [Lib.extract_data]
        have h1 : k < s.data.toList.length := by simpa using hlt
        rw [show k + 1 - k = 1 from by omega, List.drop_eq_getElem_cons h1]
        simp [ByteArray.getElem_eq_getElem_data])
      by_cases h47 : (s[k].toNat : Int) = 47
      · have h47b : ((s[k].toNat : Int) == 47) = true := by simpa using h47
        have HE : Hid (Sp.escB (decide (k = 0)) s[k] = [45]) := Lib.hid (by unfold Sp.escB; rw [if_pos h47])
        clear h47
        go_wp2
        go_roundw
        case rel => exact ⟨k + 1, n, _, by omega, by go_num, rfl, Lib.hid (by rw [HS.out, HE.out, ← HB.out]; simp), rfl⟩
        case measure => simp [intOf]; omega
      · have h47b : ((s[k].toNat : Int) == 47) = false := by simpa using h47
        cases hkp : Sp.kept s[k]
        · have HKP := Lib.hid hkp
          have HE : Hid (Sp.escB (decide (k = 0)) s[k] = Sp.byteL s[k]) := Lib.hid (by unfold Sp.escB; rw [if_neg h47, if_neg (by rw [hkp]; simp)])
          clear h47 hkp
          go_wp2_with (first
            | (go_at_call 43; refine (rplain_any _ _).mono ?_; rintro e w' ⟨rfl, rfl⟩; rw [HKP.out])
            | (go_at_call 44; refine (rhexByte_any _ _).mono ?_; rintro e w2 ⟨rfl, nb, rfl⟩))
          go_roundw
          case rel => exact ⟨k + 1, n + nb, _, by omega, by go_num, rfl, Lib.hid (by rw [HS.out, HE.out, ← HB.out]; simp [Sp.byteL]), by simp⟩
          case measure => simp [intOf]; omega
        · have HKP := Lib.hid hkp
          by_cases h46 : (s[k].toNat : Int) = 46
          · have h46b : ((s[k].toNat : Int) == 46) = true := by simpa using h46
            by_cases hk0 : k = 0
            · have HE : Hid (Sp.escB (decide (k = 0)) s[k] = Sp.byteL s[k]) := Lib.hid (by unfold Sp.escB; rw [if_neg h47, if_neg (fun h => h.2.elim (fun g => g h46) (fun g => by simp [hk0] at g))])
              have hk0b : (((k : Nat) : Int) == 0) = true := by simp; omega
              have HK0 := Lib.hid hk0
              clear h47 hkp h46 hk0
              go_wp2_with (first
                | (go_at_call 43; refine (rplain_any _ _).mono ?_; rintro e w' ⟨rfl, rfl⟩; rw [HKP.out])
                | (go_at_call 44; refine (rhexByte_any _ _).mono ?_; rintro e w2 ⟨rfl, nb, rfl⟩))
              go_roundw
              case rel => exact ⟨k + 1, n + nb, _, by omega, by go_num, rfl, Lib.hid (by rw [HS.out, HE.out, ← HB.out]; simp [Sp.byteL]), by simp⟩
              case measure => simp [intOf]; omega
            · have HE : Hid (Sp.escB (decide (k = 0)) s[k] = [s[k]]) := Lib.hid (by unfold Sp.escB; rw [if_neg h47, if_pos (by simp [hkp, hk0])])
              have hk0b : (((k : Nat) : Int) == 0) = false := by simp; omega
              clear h47 hkp h46 hk0
              go_wp2_with (first
                | (go_at_call 43; refine (rplain_any _ _).mono ?_; rintro e w' ⟨rfl, rfl⟩; rw [HKP.out]))
              go_roundw
              case rel => exact ⟨k + 1, n, _, by omega, by go_num, rfl, Lib.hid (by rw [HS.out, HE.out, ← HB.out, ← HX.out]; simp), rfl⟩
              case measure => simp [intOf]; omega
          · have h46b : ((s[k].toNat : Int) == 46) = false := by simpa using h46
            have HE : Hid (Sp.escB (decide (k = 0)) s[k] = [s[k]]) := Lib.hid (by unfold Sp.escB; rw [if_neg h47, if_pos (by simp [hkp, h46])])
            clear h47 hkp h46
            go_wp2_with (first
              | (go_at_call 43; refine (rplain_any _ _).mono ?_; rintro e w' ⟨rfl, rfl⟩; rw [HKP.out]))
            go_roundw
            case rel => exact ⟨k + 1, n, _, by omega, by go_num, rfl, Lib.hid (by rw [HS.out, HE.out, ← HB.out, ← HX.out]; simp), rfl⟩
            case measure => simp [intOf]; omega
    · go_wp2
      go_ret
      exact ⟨ret_str (by rw [HB.out, Sp.take_all s k hk hlt]), below_drewN (Below.refl _ _) _⟩
end Go.Proofs.Ytgflmoejdhfecaa
