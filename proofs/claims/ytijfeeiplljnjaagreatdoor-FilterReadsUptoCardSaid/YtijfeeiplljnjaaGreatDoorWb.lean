/-
  The walks of texts that may be, and of an act's texts.
-/
import Derived.Test.YtijfeeiplljnjaaGreatDoorWa
namespace Go.Proofs.YtijfeeiplljnjaaGreatDoor
open Go.RowKit

theorem clean_take (s : ByteArray) (k : Nat) (h : k < s.size) : cleanL (s.data.toList.take (k + 1)) = (cleanL (s.data.toList.take k) && cleanByte s[k]) := Sp.all_take_succ _ s k h
theorem clean_no (s : ByteArray) (k : Nat) (h : k < s.size) (hf : cleanByte s[k] = false) : cleanL s.data.toList = false := Sp.all_false _ s k h hf

set_option maxHeartbeats 1000000 in
theorem clean_any (s : ByteArray) (w : World) (hs : s.size ≤ 140737488355328) :
    Calls Tryz.prog 25 #[.string s, .int .i64 100] w fun e w' => e = .returned (.bool (cleanL s.data.toList && decide (s.size ≤ 100))) ∧ w = w' := by
  go_enter Tryz.func25, Tryz.ntmps25
  go_wp2_with fail
  go_loop [8] (fun i => ∃ k : Nat, k ≤ s.size ∧ i = .int .i64 k ∧ Hid (cleanL (s.data.toList.take k) = true)) (fun i => s.size - (intOf i).toNat)
  case atStart => exact ⟨0, Nat.zero_le _, rfl, Lib.hid rfl⟩
  case round =>
    obtain ⟨k, hk, rfl, HK⟩ := hrel
    by_cases hlt : k < s.size
    · cases hc : cleanByte s[k] with
      | false =>
        have HN := Lib.hid (clean_no s k hlt hc)
        have hor : (s[k].toNat : Int) < 32 ∨ (¬ (s[k].toNat : Int) < 32 ∧ (126 : Int) < (s[k].toNat : Int)) := by
          simp [cleanByte] at hc; omega
        clear hc
        rcases hor with h1 | ⟨h1, h2⟩
        · go_wp2
          go_ret
          exact ⟨ret_bool (by rw [HN.out]; rfl), rfl⟩
        · go_wp2
          go_ret
          exact ⟨ret_bool (by rw [HN.out]; rfl), rfl⟩
      | true =>
        have HN : Hid (cleanL (s.data.toList.take (k + 1)) = true) := Lib.hid (by rw [clean_take s k hlt, HK.out, hc]; rfl)
        have h1 : ¬ (s[k].toNat : Int) < 32 := by simp [cleanByte] at hc; omega
        have h2 : ¬ (126 : Int) < (s[k].toNat : Int) := by simp [cleanByte] at hc; omega
        clear hc
        go_wp2
        go_round
        case rel => exact ⟨k + 1, by omega, by go_num, HN⟩
        case measure => first | (simp [intOf]; done) | (simp [intOf]; omega)
    · have HN : Hid (cleanL s.data.toList = true) := Lib.hid (by rw [← Sp.take_all s k hk hlt]; exact HK.out)
      go_wp2
      go_ret
      exact ⟨ret_bool (by rw [HN.out, Bool.eq_iff_iff]; simp; try omega), rfl⟩

set_option maxHeartbeats 1000000 in
theorem wplain_any (s : ByteArray) (w : World) (hs : s.size ≤ 140737488355328) :
    Calls Tryz.prog 48 #[.string s, .int .i64 100] w fun e w' => e = .returned (.bool (cleanL s.data.toList && decide (s.size ≤ 100))) ∧ w = w' := by
  by_cases h100 : s.size ≤ 100
  · have hd : decide (s.size ≤ 100) = true := by simpa using h100
    have hi : ¬ (100 : Int) < (s.size : Int) := by omega
    rw [hd, Bool.and_true]
    clear hd
    go_enter Tryz.func48, Tryz.ntmps48
    go_wp2_with fail
    go_loop [5] (fun i => ∃ k : Nat, k ≤ s.size ∧ i = .int .i64 k ∧ Hid (cleanL (s.data.toList.take k) = true)) (fun i => s.size - (intOf i).toNat)
    case atStart => exact ⟨0, Nat.zero_le _, rfl, Lib.hid rfl⟩
    case round =>
      obtain ⟨k, hk, rfl, HK⟩ := hrel
      by_cases hlt : k < s.size
      · cases hc : cleanByte s[k] with
        | false =>
          have HN := Lib.hid (clean_no s k hlt hc)
          have hor : (s[k].toNat : Int) < 32 ∨ (¬ (s[k].toNat : Int) < 32 ∧ (126 : Int) < (s[k].toNat : Int)) := by
            simp [cleanByte] at hc; omega
          clear hc
          rcases hor with h1 | ⟨h1, h2⟩
          · go_wp2
            go_ret
            exact ⟨ret_bool (by rw [HN.out]), rfl⟩
          · go_wp2
            go_ret
            exact ⟨ret_bool (by rw [HN.out]), rfl⟩
        | true =>
          have HN : Hid (cleanL (s.data.toList.take (k + 1)) = true) := Lib.hid (by rw [clean_take s k hlt, HK.out, hc]; rfl)
          have h1 : ¬ (s[k].toNat : Int) < 32 := by simp [cleanByte] at hc; omega
          have h2 : ¬ (126 : Int) < (s[k].toNat : Int) := by simp [cleanByte] at hc; omega
          clear hc
          go_wp2
          go_round
          case rel => exact ⟨k + 1, by omega, by go_num, HN⟩
          case measure => first | (simp [intOf]; done) | (simp [intOf]; omega)
      · have HN : Hid (cleanL s.data.toList = true) := Lib.hid (by rw [← Sp.take_all s k hk hlt]; exact HK.out)
        go_wp2
        go_ret
        exact ⟨ret_bool (by rw [HN.out]), rfl⟩
  · have hd : decide (s.size ≤ 100) = false := by simpa using h100
    have hi : (100 : Int) < (s.size : Int) := by omega
    rw [hd, Bool.and_false]
    go_enter Tryz.func48, Tryz.ntmps48
    go_wp2
    go_ret
    exact ⟨rfl, rfl⟩

/-- the cells of an act's texts -/
def sayCells (l : List (Int × ByteArray)) : List Value := l.flatMap fun p => [.int .i64 p.1, .string p.2]
theorem sayCells_len (l : List (Int × ByteArray)) : (sayCells l).length = l.length * 2 := by
  induction l with
  | nil => rfl
  | cons p r ih => simp [sayCells] at ih ⊢; omega
theorem sayCells_at (l : List (Int × ByteArray)) (k : Nat) (h : k < l.length) : (sayCells l)[k * 2]? = some (.int .i64 l[k].1) ∧ (sayCells l)[k * 2 + 1]? = some (.string l[k].2) := by
  induction l generalizing k with
  | nil => simp at h
  | cons p r ih =>
    cases k with
    | zero => simp [sayCells]
    | succ k =>
      have h2 := ih k (by simpa using h)
      simp only [sayCells, List.flatMap_cons] at h2 ⊢
      rw [show (k + 1) * 2 = k * 2 + 2 from by omega, show k * 2 + 2 + 1 = (k * 2 + 1) + 2 from by omega]
      rw [List.getElem?_append_right (by simp), List.getElem?_append_right (by simp)]
      simpa using h2
/-- one text of an act, behind what was last -/
def sayB (last : Int) (p : Int × ByteArray) : Bool := spanB p.1 && !(p.1 == 1099511627776) && !decide (p.1 < last) && (cleanL p.2.data.toList && decide (p.2.size ≤ 100))
def saysFrom : Int → List (Int × ByteArray) → Bool
  | _, [] => true
  | last, p :: r => sayB last p && saysFrom p.1 r
def saysB (l : List (Int × ByteArray)) : Bool := saysFrom 0 l && decide (l.length ≤ 4)

end Go.Proofs.YtijfeeiplljnjaaGreatDoor
