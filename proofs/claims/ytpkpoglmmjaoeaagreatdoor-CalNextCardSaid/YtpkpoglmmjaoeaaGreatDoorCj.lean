/-
  Days and seconds: the program's walks.
-/
import Derived.Test.YtpkpoglmmjaoeaaGreatDoorShelf
import Derived.Test.YtpkpoglmmjaoeaaGreatDoorCi
import Derived.WalkKit
import Derived.Below
namespace Go.Proofs.YtpkpoglmmjaoeaaGreatDoor
open Go.RowKit
namespace Sp
theorem tmod_zero (y k : Int) : (y.tmod k == 0) = (y % k == 0) := by
  rw [Bool.eq_iff_iff, beq_iff_eq, beq_iff_eq, ← Int.dvd_iff_tmod_eq_zero, ← Int.dvd_iff_emod_eq_zero]
end Sp
theorem leap_any (y : Int) (w : World) : Calls Tryz.prog 70 #[.int .i64 y] w fun e w' => e = .returned (.bool (Sp.leapB y)) ∧ w = w' := by
  have e1 := Sp.tmod_zero y 4
  have e2 := Sp.tmod_zero y 100
  have e3 := Sp.tmod_zero y 400
  have hl : Sp.leapB y = ((y % 4 == 0) && ((y % 100 != 0) || (y % 400 == 0))) := rfl
  have e4 : (y.tmod 100 != 0) = (y % 100 != 0) := by unfold bne; rw [e2]
  rw [← e1, ← e3, ← e4] at hl
  rw [hl]
  clear hl e1 e2 e3 e4
  generalize h1 : (y.tmod 4 == 0) = a at *
  generalize h2 : (y.tmod 100 != 0) = b at *
  generalize h3 : (y.tmod 400 == 0) = c at *
  go_enter Tryz.func70, Tryz.ntmps70
  cases a <;> cases b <;> cases c
  all_goals
    go_wp2
    go_ret
    exact ⟨rfl, rfl⟩
theorem long_any (y : Int) (w : World) : Calls Tryz.prog 42 #[.int .i64 y] w fun e w' => e = .returned (.int .i64 (Sp.longY y)) ∧ w = w' := by
  have hl : Sp.longY y = if Sp.leapB y then 366 else 365 := rfl
  have H := Lib.hid (fun w => leap_any y w)
  rw [hl]
  generalize Sp.leapB y = a at *
  clear hl
  go_enter Tryz.func42, Tryz.ntmps42
  go_wp2_with fail
  refine (H.out _).mono ?_
  rintro e w1 ⟨rfl, rfl⟩
  cases a
  all_goals
    go_wp2
    go_ret
    exact ⟨rfl, rfl⟩
set_option maxHeartbeats 4000000 in
theorem dim_any (y m : Int) (w : World) : Calls Tryz.prog 43 #[.int .i64 y, .int .i64 m] w fun e w' => e = .returned (.int .i64 (Sp.dimB y m)) ∧ w = w' := by
  have H := Lib.hid (fun w => leap_any y w)
  by_cases h : 1 ≤ m ∧ m ≤ 12
  · have h : m = 1 ∨ m = 2 ∨ m = 3 ∨ m = 4 ∨ m = 5 ∨ m = 6 ∨ m = 7 ∨ m = 8 ∨ m = 9 ∨ m = 10 ∨ m = 11 ∨ m = 12 := by omega
    rcases h with rfl | rfl | rfl | rfl | rfl | rfl | rfl | rfl | rfl | rfl | rfl | rfl
    · have hl : Sp.dimB y 1 = 31 := rfl
      rw [hl]
      go_enter Tryz.func43, Tryz.ntmps43
      go_wp2
      go_ret
      exact ⟨rfl, rfl⟩
    · have hl : Sp.dimB y 2 = if Sp.leapB y then 29 else 28 := rfl
      rw [hl]
      generalize Sp.leapB y = a at *
      clear hl
      go_enter Tryz.func43, Tryz.ntmps43
      go_wp2_with fail
      refine (H.out _).mono ?_
      rintro e w1 ⟨rfl, rfl⟩
      cases a
      all_goals
        go_wp2
        go_ret
        exact ⟨rfl, rfl⟩
    · have hl : Sp.dimB y 3 = 31 := rfl
      rw [hl]
      go_enter Tryz.func43, Tryz.ntmps43
      go_wp2
      go_ret
      exact ⟨rfl, rfl⟩
    · have hl : Sp.dimB y 4 = 30 := rfl
      rw [hl]
      go_enter Tryz.func43, Tryz.ntmps43
      go_wp2
      go_ret
      exact ⟨rfl, rfl⟩
    · have hl : Sp.dimB y 5 = 31 := rfl
      rw [hl]
      go_enter Tryz.func43, Tryz.ntmps43
      go_wp2
      go_ret
      exact ⟨rfl, rfl⟩
    · have hl : Sp.dimB y 6 = 30 := rfl
      rw [hl]
      go_enter Tryz.func43, Tryz.ntmps43
      go_wp2
      go_ret
      exact ⟨rfl, rfl⟩
    · have hl : Sp.dimB y 7 = 31 := rfl
      rw [hl]
      go_enter Tryz.func43, Tryz.ntmps43
      go_wp2
      go_ret
      exact ⟨rfl, rfl⟩
    · have hl : Sp.dimB y 8 = 31 := rfl
      rw [hl]
      go_enter Tryz.func43, Tryz.ntmps43
      go_wp2
      go_ret
      exact ⟨rfl, rfl⟩
    · have hl : Sp.dimB y 9 = 30 := rfl
      rw [hl]
      go_enter Tryz.func43, Tryz.ntmps43
      go_wp2
      go_ret
      exact ⟨rfl, rfl⟩
    · have hl : Sp.dimB y 10 = 31 := rfl
      rw [hl]
      go_enter Tryz.func43, Tryz.ntmps43
      go_wp2
      go_ret
      exact ⟨rfl, rfl⟩
    · have hl : Sp.dimB y 11 = 30 := rfl
      rw [hl]
      go_enter Tryz.func43, Tryz.ntmps43
      go_wp2
      go_ret
      exact ⟨rfl, rfl⟩
    · have hl : Sp.dimB y 12 = 31 := rfl
      rw [hl]
      go_enter Tryz.func43, Tryz.ntmps43
      go_wp2
      go_ret
      exact ⟨rfl, rfl⟩
  · have hl : Sp.dimB y m = 0 := by
      unfold Sp.dimB
      rw [if_neg (by omega), if_neg (by omega), if_neg (by omega)]
    rw [hl]
    have t1 : (m == 1) = false := by simp; omega
    have t2 : (m == 2) = false := by simp; omega
    have t3 : (m == 3) = false := by simp; omega
    have t4 : (m == 4) = false := by simp; omega
    have t5 : (m == 5) = false := by simp; omega
    have t6 : (m == 6) = false := by simp; omega
    have t7 : (m == 7) = false := by simp; omega
    have t8 : (m == 8) = false := by simp; omega
    have t9 : (m == 9) = false := by simp; omega
    have t10 : (m == 10) = false := by simp; omega
    have t11 : (m == 11) = false := by simp; omega
    have t12 : (m == 12) = false := by simp; omega
    go_enter Tryz.func43, Tryz.ntmps43
    go_wp2
    go_ret
    exact ⟨rfl, rfl⟩
theorem within_any (n a b : Int) (w : World) : Calls Tryz.prog 72 #[.int .i64 n, .int .i64 a, .int .i64 b] w fun e w' => e = .returned (.bool (decide (a ≤ n) && decide (n ≤ b))) ∧ w = w' := by
  generalize h1 : decide (a ≤ n) = x
  generalize h2 : decide (n ≤ b) = y
  cases x
  · have g1 : ¬ n ≥ a := of_decide_eq_false h1
    clear h1 h2
    go_enter Tryz.func72, Tryz.ntmps72
    go_wp2
    go_ret
    exact ⟨rfl, rfl⟩
  · have g1 : n ≥ a := of_decide_eq_true h1
    cases y
    · have g2 : ¬ n ≤ b := of_decide_eq_false h2
      clear h1 h2
      go_enter Tryz.func72, Tryz.ntmps72
      go_wp2
      go_ret
      exact ⟨rfl, rfl⟩
    · have g2 : n ≤ b := of_decide_eq_true h2
      clear h1 h2
      go_enter Tryz.func72, Tryz.ntmps72
      go_wp2
      go_ret
      exact ⟨rfl, rfl⟩

end Go.Proofs.YtpkpoglmmjaoeaaGreatDoor
