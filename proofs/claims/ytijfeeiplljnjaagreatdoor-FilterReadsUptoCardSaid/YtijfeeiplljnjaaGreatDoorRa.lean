/-
  Rows by value, and the walks of the smallest functions of rows: which may be, which comes ahead, a unit's word and back.
-/
import Derived.Test.YtijfeeiplljnjaaGreatDoorWb
import Derived.Test.YtijfeeiplljnjaaGreatDoorNm4
import Derived.Test.YtijfeeiplljnjaaGreatDoorNm6
import Derived.Test.YtijfeeiplljnjaaGreatDoorSp3
import Derived.Sort.Walk0
namespace Go.Proofs.YtijfeeiplljnjaaGreatDoor
open Go.RowKit

set_option maxHeartbeats 1000000 in
theorem cleanm_any (s : ByteArray) (m : Nat) (w : World) (hs : s.size ≤ 140737488355328) :
    Calls Tryz.prog 25 #[.string s, .int .i64 m] w fun e w' => e = .returned (.bool (cleanL s.data.toList && decide (s.size ≤ m))) ∧ w = w' := by
  go_enter Tryz.func25, Tryz.ntmps25
  go_wp2_with fail
  go_loop [8] (fun i => ∃ k : Nat, k ≤ s.size ∧ i = .int .i64 k ∧ Hid (cleanL (s.data.toList.take k) = true)) (fun i => s.size - (intOf i).toNat)
  case atStart => exact ⟨0, Nat.zero_le _, rfl, Lib.hid rfl⟩
  case round =>
    obtain ⟨k, hk, rfl, HK⟩ := hrel
    by_cases hlt : k < s.size
    · cases hc : cleanByte s[k] with
      | false =>
        have HN := Lib.hid (clean_no s k hlt hc)
        have hor : (s[k].toNat : Int) < 32 ∨ (¬ (s[k].toNat : Int) < 32 ∧ (126 : Int) < (s[k].toNat : Int)) := by
          simp [cleanByte] at hc; omega
        clear hc
        rcases hor with h1 | ⟨h1, h2⟩
        · go_wp2
          go_ret
          exact ⟨ret_bool (by rw [HN.out]; rfl), rfl⟩
        · go_wp2
          go_ret
          exact ⟨ret_bool (by rw [HN.out]; rfl), rfl⟩
      | true =>
        have HN : Hid (cleanL (s.data.toList.take (k + 1)) = true) := Lib.hid (by rw [clean_take s k hlt, HK.out, hc]; rfl)
        have h1 : ¬ (s[k].toNat : Int) < 32 := by simp [cleanByte] at hc; omega
        have h2 : ¬ (126 : Int) < (s[k].toNat : Int) := by simp [cleanByte] at hc; omega
        clear hc
        go_wp2
        go_round
        case rel => exact ⟨k + 1, by omega, by go_num, HN⟩
        case measure => first | (simp [intOf]; done) | (simp [intOf]; omega)
    · have HN : Hid (cleanL s.data.toList = true) := Lib.hid (by rw [← Sp.take_all s k hk hlt]; exact HK.out)
      go_wp2
      go_ret
      exact ⟨ret_bool (by rw [HN.out, Bool.eq_iff_iff]; simp; try omega), rfl⟩

set_option maxHeartbeats 1000000 in
theorem rplainm_any (s : ByteArray) (m : Nat) (w : World) (hs : s.size ≤ 140737488355328) :
    Calls Tryz.prog 48 #[.string s, .int .i64 m] w fun e w' => e = .returned (.bool (cleanL s.data.toList && decide (s.size ≤ m))) ∧ w = w' := by
  by_cases h100 : s.size ≤ m
  · have hd : decide (s.size ≤ m) = true := by simpa using h100
    have hi : ¬ (m : Int) < (s.size : Int) := by omega
    rw [hd, Bool.and_true]
    clear hd
    go_enter Tryz.func48, Tryz.ntmps48
    go_wp2_with fail
    go_loop [5] (fun i => ∃ k : Nat, k ≤ s.size ∧ i = .int .i64 k ∧ Hid (cleanL (s.data.toList.take k) = true)) (fun i => s.size - (intOf i).toNat)
    case atStart => exact ⟨0, Nat.zero_le _, rfl, Lib.hid rfl⟩
    case round =>
      obtain ⟨k, hk, rfl, HK⟩ := hrel
      by_cases hlt : k < s.size
      · cases hc : cleanByte s[k] with
        | false =>
          have HN := Lib.hid (clean_no s k hlt hc)
          have hor : (s[k].toNat : Int) < 32 ∨ (¬ (s[k].toNat : Int) < 32 ∧ (126 : Int) < (s[k].toNat : Int)) := by
            simp [cleanByte] at hc; omega
          clear hc
          rcases hor with h1 | ⟨h1, h2⟩
          · go_wp2
            go_ret
            exact ⟨ret_bool (by rw [HN.out]), rfl⟩
          · go_wp2
            go_ret
            exact ⟨ret_bool (by rw [HN.out]), rfl⟩
        | true =>
          have HN : Hid (cleanL (s.data.toList.take (k + 1)) = true) := Lib.hid (by rw [clean_take s k hlt, HK.out, hc]; rfl)
          have h1 : ¬ (s[k].toNat : Int) < 32 := by simp [cleanByte] at hc; omega
          have h2 : ¬ (126 : Int) < (s[k].toNat : Int) := by simp [cleanByte] at hc; omega
          clear hc
          go_wp2
          go_round
          case rel => exact ⟨k + 1, by omega, by go_num, HN⟩
          case measure => first | (simp [intOf]; done) | (simp [intOf]; omega)
      · have HN : Hid (cleanL s.data.toList = true) := Lib.hid (by rw [← Sp.take_all s k hk hlt]; exact HK.out)
        go_wp2
        go_ret
        exact ⟨ret_bool (by rw [HN.out]), rfl⟩
  · have hd : decide (s.size ≤ m) = false := by simpa using h100
    have hi : (m : Int) < (s.size : Int) := by omega
    rw [hd, Bool.and_false]
    go_enter Tryz.func48, Tryz.ntmps48
    go_wp2
    go_ret
    exact ⟨rfl, rfl⟩

/-- a row -/
structure RowD where
  time : Int
  unit : ByteArray
  n : Int
  kind : Int
  text : ByteArray
def rowC (r : RowD) : List Value := [.int .i64 r.time, .string r.unit, .int .i64 r.n, .int .i64 r.kind, .string r.text]
def rowV (r : RowD) : Value := .agg (rowC r).toArray
/-- may it be? -/
def mayRowB (r : RowD) : Bool := timeB r.time && ((r.unit.toList.isEmpty || Sp.mayL r.unit.data.toList) && (decide (1 ≤ r.n) && (decide (r.n ≤ 1000000) && (decide (1 ≤ r.kind) && (decide (r.kind ≤ 6) && (cleanL r.text.data.toList && decide (r.text.size ≤ 200)))))))
/-- does a come ahead of b? -/
def lessB (a b : RowD) : Bool := if a.time == b.time then (if a.unit.toList == b.unit.toList then decide (a.n < b.n) else Op.bytesLess a.unit.toList b.unit.toList) else decide (a.time < b.time)
/-- a unit's word, and back -/
def unitW (u : ByteArray) : ByteArray := if u.toList.isEmpty then ⟨#[45]⟩ else u
def backW (u : ByteArray) : ByteArray := if u.toList == [45] then ⟨#[]⟩ else u

theorem rmayL_any (s : ByteArray) (w : World) :
    Calls Tryz.prog 44 #[.string s] w fun e w' => e = .returned (.bool (Sp.mayL s.data.toList)) ∧ Below w.heap.size w w' := by
  have h := rmay_any s w
  rw [Sp.ofL_eq] at h
  have e : Sp.mayL s.data.toList = decide (0 < Sp.kindL s.data.toList) := by have := (Sp.kindL_range s.data.toList).1; rw [Bool.eq_iff_iff]; simp [Sp.mayL]; omega
  rw [e]
  exact h

end Go.Proofs.YtijfeeiplljnjaaGreatDoor
