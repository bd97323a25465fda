/-
  The walks of name.plain: a text's bytes asked one by one by a function value that asks three others.
-/
import Derived.Test.YtijfeeiplljnjaaGreatDoorNm1
import Derived.Test.YtijfeeiplljnjaaGreatDoorShelf
import Derived.Lib.Hide
namespace Go.Proofs.YtijfeeiplljnjaaGreatDoor
open Go.RowKit

set_option maxHeartbeats 400000 in
theorem in1_any (c : UInt8) (w : World) (d : Nat) (h : w.cell? ⟨d, 0, none⟩ = some (.string ⟨#[58, 45, 95, 46, 92]⟩)) :
    Calls Tryz.prog 130 #[.int .u8 c.toNat, .pointer (some ⟨d, 0, none⟩)] w fun e w' => e = .returned (.bool (Sp.moreB c)) ∧ w = w' := by
  go_enter Tryz.func130, Tryz.ntmps130
  go_wp2_with (go_at_call 57; refine (Tryz.strings_IndexByte _ _ _).mono ?_; rintro e w' ⟨rfl, rfl⟩)
  go_ret
  exact ⟨ret_bool (by simp [Sp.moreB]), rfl⟩

/-- what lies behind the function value that name.plain makes -/
def AnyAt (a b d : Nat) (w : World) : Prop :=
  w.cell? ⟨a, 0, none⟩ = some (.slice (some ⟨b, 0, none⟩) 3 3) ∧ w.cell? ⟨b, 0, none⟩ = some (.func (.func 100) #[] #[]) ∧ w.cell? ⟨b, 1, none⟩ = some (.func (.func 101) #[] #[]) ∧
  w.cell? ⟨b, 2, none⟩ = some (.func (.func 130) #[] #[.pointer (some ⟨d, 0, none⟩)]) ∧ w.cell? ⟨d, 0, none⟩ = some (.string ⟨#[58, 45, 95, 46, 92]⟩)

set_option maxHeartbeats 400000 in
theorem any1_any (c : UInt8) (w : World) (a b d : Nat) (h : AnyAt a b d w) :
    Calls Tryz.prog 129 #[.int .u8 c.toNat, .pointer (some ⟨a, 0, none⟩)] w fun e w' => e = .returned (.bool (Sp.anyB c)) ∧ w = w' := by
  obtain ⟨h1, h2, h3, h4, h5⟩ := h
  go_enter Tryz.func129, Tryz.ntmps129
  go_wp2_with fail
  refine wp_loop_rounds 4 ?_
  rw [rounds_succ]
  go_wp2_with (go_at_call 100; refine (letter_any _ _).mono ?_; rintro e w' ⟨rfl, rfl⟩)
  · go_ret; exact ⟨ret_bool (by simp_all [Sp.anyB]), rfl⟩
  rw [rounds_succ]
  go_wp2_with (go_at_call 101; refine (digit_any _ _).mono ?_; rintro e w' ⟨rfl, rfl⟩)
  · go_ret; exact ⟨ret_bool (by simp_all [Sp.anyB]), rfl⟩
  rw [rounds_succ]
  go_wp2_with (go_at_call 130; refine (in1_any _ _ d h5).mono ?_; rintro e w' ⟨rfl, rfl⟩)
  · go_ret; exact ⟨ret_bool (by simp_all [Sp.anyB]), rfl⟩
  rw [rounds_succ]
  go_wp2
  go_ret; exact ⟨ret_bool (by simp_all [Sp.anyB]), rfl⟩

set_option maxHeartbeats 400000 in
theorem all_any (s : ByteArray) (w : World) (a b d : Nat) (hs : s.size ≤ 9223372036854775807) (h : AnyAt a b d w) :
    Calls Tryz.prog 80 #[.string s, .func (.func 129) #[] #[.pointer (some ⟨a, 0, none⟩)]] w fun e w' => e = .returned (.bool (Sp.allName s.data.toList)) ∧ w = w' := by
  go_enter Tryz.func80, Tryz.ntmps80
  go_wp2_with fail
  go_loop [8] (fun i => ∃ k : Nat, k ≤ s.size ∧ i = .int .i64 k ∧ Hid (Sp.allName (s.data.toList.take k) = true)) (fun i => s.size - (intOf i).toNat)
  case atStart => exact ⟨0, Nat.zero_le _, rfl, Lib.hid (Sp.allName_nil _)⟩
  case round =>
    obtain ⟨k, hk, rfl, HA⟩ := hrel
    by_cases hlt : k < s.size
    · go_wp2_with (go_at_call 129; refine (any1_any _ _ a b d h).mono ?_; rintro e w' ⟨rfl, rfl⟩)
      · have hb : Sp.anyB s[k] = false := by simp_all
        go_ret
        exact ⟨ret_bool (Sp.allName_false s k hlt (by rw [← Sp.anyB_eq]; exact hb)).symm, rfl⟩
      · have hb : Sp.anyB s[k] = true := by simp_all
        go_round
        case rel => exact ⟨k + 1, by omega, by go_num, Lib.hid (by rw [Sp.allName_succ s k hlt, HA.out, ← Sp.anyB_eq, hb]; rfl)⟩
        case measure => simp [intOf]; omega
    · go_wp2
      go_ret
      exact ⟨ret_bool (by rw [← Sp.take_all s k hk hlt]; exact HA.out.symm), rfl⟩

set_option maxHeartbeats 400000 in
theorem plain_any (s : ByteArray) (w : World) (hs : s.size ≤ 9223372036854775807) :
    Calls Tryz.prog 75 #[.string s] w fun e w' => e = .returned (.bool (Sp.allName s.data.toList)) ∧ Below w.heap.size w w' := by
  go_enter Tryz.func75, Tryz.ntmps75
  go_wp2_with (first | (go_at_call 102; go_in) | (go_at_call 99; go_in))
  refine (all_any s _ (w.heap.size + 1 + 1) (w.heap.size + 1) w.heap.size hs ?_).mono ?_
  · refine ⟨?_, ?_, ?_, ?_, ?_⟩ <;> go_simp
  rintro e w' ⟨rfl, rfl⟩
  go_wp2
  go_ret
  exact ⟨rfl, (((Below.refl _ _).alloc (Nat.le_refl _) _).alloc (by simp) _).alloc (by simp; omega) _⟩

end Go.Proofs.YtijfeeiplljnjaaGreatDoor
