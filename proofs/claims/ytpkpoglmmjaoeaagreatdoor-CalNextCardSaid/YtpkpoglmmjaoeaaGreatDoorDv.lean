/-
  Two calendars that are alike: the walk of matinsref3.Same.
-/
import Derived.Test.YtpkpoglmmjaoeaaGreatDoorDd
import Derived.Test.YtpkpoglmmjaoeaaGreatDoorGr
namespace Go.Proofs.YtpkpoglmmjaoeaaGreatDoor
open Go.RowKit Go.Shelf

set_option maxRecDepth 100000 in
set_option maxHeartbeats 4000000 in
theorem field_any (s : CalS) (i : Nat) (hi : i < 6) (w : World) : Calls Tryz.prog 18 #[calV s, .int .i64 i] w fun e w' => e = .returned (slV (s.sl i)) ∧ Below w.heap.size w w' := by
  obtain ⟨⟨daA, dan, dac⟩, ⟨aA0, an0, ac0⟩, ⟨aA1, an1, ac1⟩, ⟨aA2, an2, ac2⟩, ⟨aA3, an3, ac3⟩, ⟨aA4, an4, ac4⟩, ⟨aA5, an5, ac5⟩, cal⟩ := s
  have e : i = 0 ∨ i = 1 ∨ i = 2 ∨ i = 3 ∨ i = 4 ∨ i = 5 := by omega
  rcases e with rfl | rfl | rfl | rfl | rfl | rfl
  all_goals
    simp only [calV, slV, CalS.sl]
    go_enter Tryz.func18, Tryz.ntmps18
    go_wp2
    go_ret
    exact ⟨rfl, ((Below.refl _ _).alloc (Nat.le_refl _) _).alloc (by simp) _⟩
@[go_sem] theorem eq_part (x y z : Int) (w : World) : (Op.equalIn 10000 62 (.agg #[.int .i64 x, .int .i64 y, .int .i64 z]) (.agg #[.int .i64 x, .int .i64 y, .int .i64 z])).run Tryz.prog w = .ok true w := by
  have u3 := Tryz.underlying3
  have hS : Tryz.prog.underlying 62 = some (.struct (Tryz.prog.fieldsOf 62)) := by kernel_rfl
  have hp : Tryz.prog.stoodInHeld 62 = false := by kernel_rfl
  rw [show (10000 : Nat) = 9999 + 1 from rfl, run_equalIn_agg w 9999 62 _ _ hS hp]
  simp only [Program.fieldsOf, Tryz.underlying62]
  go_simp
@[go_sem] theorem guard_part (x y : Operand) (xs ys : Array Value) (w : World) : (eqGuard .neq 62 x y (.agg xs) (.agg ys)).run Tryz.prog w = .ok () w := run_eqGuard_agg w _ _ _ _ _ _ (by kernel_rfl)

end Go.Proofs.YtpkpoglmmjaoeaaGreatDoor
