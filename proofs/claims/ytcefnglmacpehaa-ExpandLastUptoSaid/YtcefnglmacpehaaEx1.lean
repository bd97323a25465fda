/-
  The walks of variables' names, of what a byte behind a percent sign stands for, of a text with percent signs.
-/
import Derived.Test.YtcefnglmacpehaaNm9
import Derived.Test.YtcefnglmacpehaaSpE
namespace Go.Proofs.Ytcefnglmacpehaa
open Go.RowKit

namespace Sp
def underB (c : UInt8) : Bool := decide (0 ≤ Lib.indexByte [95] c)
def anyU (c : UInt8) : Bool := letter c || digit c || underB c
theorem under_eq (c : UInt8) : underB c = ((c.toNat : Int) == 95) := by
  have h : ∀ c : Fin 256, underB (UInt8.ofNat c.val) = (((UInt8.ofNat c.val).toNat : Int) == 95) := by decide +kernel
  have := h ⟨c.toNat, c.toNat_lt⟩
  simpa using this
theorem anyU_eq (c : UInt8) : anyU c = varByte c := by
  unfold anyU varByte
  rw [under_eq]
def allVar (l : List UInt8) : Bool := l.all varByte
theorem allVar_nil (l : List UInt8) : allVar (l.take 0) = true := by simp [allVar]
theorem allVar_succ (s : ByteArray) (k : Nat) (h : k < s.size) : allVar (s.data.toList.take (k + 1)) = (allVar (s.data.toList.take k) && varByte s[k]) := all_take_succ _ s k h
theorem allVar_false (s : ByteArray) (k : Nat) (h : k < s.size) (hf : varByte s[k] = false) : allVar s.data.toList = false := all_false _ s k h hf
end Sp

set_option maxHeartbeats 400000 in
theorem in1u_any (c : UInt8) (w : World) (d : Nat) (h : w.cell? ⟨d, 0, none⟩ = some (.string ⟨#[95]⟩)) :
    Calls Try.prog 63 #[.int .u8 c.toNat, .pointer (some ⟨d, 0, none⟩)] w fun e w' => e = .returned (.bool (Sp.underB c)) ∧ w = w' := by
  go_enter Try.func63, Try.ntmps63
  go_wp2_with (go_at_call 64; refine (Try.strings_IndexByte _ _ _).mono ?_; rintro e w' ⟨rfl, rfl⟩)
  go_ret
  exact ⟨ret_bool (by simp [Sp.underB]), rfl⟩

/-- what lies behind the function value that chars.Variable makes -/
def AnyAtU (a b d : Nat) (w : World) : Prop :=
  w.cell? ⟨a, 0, none⟩ = some (.slice (some ⟨b, 0, none⟩) 3 3) ∧ w.cell? ⟨b, 0, none⟩ = some (.func (.func 45) #[] #[]) ∧ w.cell? ⟨b, 1, none⟩ = some (.func (.func 46) #[] #[]) ∧
  w.cell? ⟨b, 2, none⟩ = some (.func (.func 63) #[] #[.pointer (some ⟨d, 0, none⟩)]) ∧ w.cell? ⟨d, 0, none⟩ = some (.string ⟨#[95]⟩)

set_option maxHeartbeats 400000 in
theorem any1u_any (c : UInt8) (w : World) (a b d : Nat) (h : AnyAtU a b d w) :
    Calls Try.prog 62 #[.int .u8 c.toNat, .pointer (some ⟨a, 0, none⟩)] w fun e w' => e = .returned (.bool (Sp.anyU c)) ∧ w = w' := by
  obtain ⟨h1, h2, h3, h4, h5⟩ := h
  go_enter Try.func62, Try.ntmps62
  go_wp2_with fail
  refine wp_loop_rounds 4 ?_
  rw [rounds_succ]
  go_wp2_with (go_at_call 45; refine (letter_any _ _).mono ?_; rintro e w' ⟨rfl, rfl⟩)
  · go_ret; exact ⟨ret_bool (by simp_all [Sp.anyU]), rfl⟩
  rw [rounds_succ]
  go_wp2_with (go_at_call 46; refine (digit_any _ _).mono ?_; rintro e w' ⟨rfl, rfl⟩)
  · go_ret; exact ⟨ret_bool (by simp_all [Sp.anyU]), rfl⟩
  rw [rounds_succ]
  go_wp2_with (go_at_call 63; refine (in1u_any _ _ d h5).mono ?_; rintro e w' ⟨rfl, rfl⟩)
  · go_ret; exact ⟨ret_bool (by simp_all [Sp.anyU]), rfl⟩
  rw [rounds_succ]
  go_wp2
  go_ret; exact ⟨ret_bool (by simp_all [Sp.anyU]), rfl⟩

set_option maxHeartbeats 400000 in
theorem allu_any (s : ByteArray) (w : World) (a b d : Nat) (hs : s.size ≤ 9223372036854775807) (h : AnyAtU a b d w) :
    Calls Try.prog 61 #[.string s, .func (.func 62) #[] #[.pointer (some ⟨a, 0, none⟩)]] w fun e w' => e = .returned (.bool (Sp.allVar s.data.toList)) ∧ w = w' := by
  go_enter Try.func61, Try.ntmps61
  go_wp2_with fail
  go_loop [8] (fun i => ∃ k : Nat, k ≤ s.size ∧ i = .int .i64 k ∧ Hid (Sp.allVar (s.data.toList.take k) = true)) (fun i => s.size - (intOf i).toNat)
  case atStart => exact ⟨0, Nat.zero_le _, rfl, Lib.hid (Sp.allVar_nil _)⟩
  case round =>
    obtain ⟨k, hk, rfl, HA⟩ := hrel
    by_cases hlt : k < s.size
    · go_wp2_with (go_at_call 62; refine (any1u_any _ _ a b d h).mono ?_; rintro e w' ⟨rfl, rfl⟩)
      · have hb : Sp.anyU s[k] = false := by simp_all
        go_ret
        exact ⟨ret_bool (Sp.allVar_false s k hlt (by rw [← Sp.anyU_eq]; exact hb)).symm, rfl⟩
      · have hb : Sp.anyU s[k] = true := by simp_all
        go_round
        case rel => exact ⟨k + 1, by omega, by go_num, Lib.hid (by rw [Sp.allVar_succ s k hlt, HA.out, ← Sp.anyU_eq, hb]; rfl)⟩
        case measure => simp [intOf]; omega
    · go_wp2
      go_ret
      exact ⟨ret_bool (by rw [← Sp.take_all s k hk hlt]; exact HA.out.symm), rfl⟩

namespace Sp
/-- from one to so many bytes of a kind -/
def longU (l : List UInt8) : Bool := !l.isEmpty && decide (l.length ≤ 60) && allVar l
theorem varL_eq (l : List UInt8) : varL l = (longU l && match l with | [] => false | c :: _ => !digit c) := by
  cases l <;> simp [varL, longU, allVar]
end Sp

set_option maxHeartbeats 400000 in
theorem longu_any (s : ByteArray) (w : World) (a b d : Nat) (hs : s.size ≤ 9223372036854775807) (h : AnyAtU a b d w) :
    Calls Try.prog 43 #[.string s, .int .i64 60, .func (.func 62) #[] #[.pointer (some ⟨a, 0, none⟩)]] w fun e w' => e = .returned (.bool (Sp.longU s.data.toList)) ∧ w = w' := by
  by_cases h0 : s.data.toList = []
  · have he : s.toList.isEmpty = true := by rw [Lib.toList_data, h0]; rfl
    have e : Sp.longU s.data.toList = false := by simp [Sp.longU, h0]
    rw [e]; clear e h0
    go_enter Try.func43, Try.ntmps43
    go_wp2
    go_ret
    exact ⟨rfl, rfl⟩
  · have he : s.toList.isEmpty = false := by rw [Lib.toList_data]; simpa using h0
    by_cases h6 : s.size ≤ 60
    · have h6i : (s.size : Int) ≤ 60 := by omega
      have e : Sp.longU s.data.toList = Sp.allVar s.data.toList := by simp [Sp.longU, h6]; intro _ hh; exact absurd hh (by simpa using h0)
      rw [e]; clear e h0
      go_enter Try.func43, Try.ntmps43
      go_wp2_with (go_at_call 61; refine (allu_any _ _ a b d hs h).mono ?_; rintro e w' ⟨rfl, rfl⟩)
      go_ret
      exact ⟨rfl, rfl⟩
    · have h6i : ¬ (s.size : Int) ≤ 60 := by omega
      have e : Sp.longU s.data.toList = false := by simp [Sp.longU, h6]
      rw [e]; clear e h0
      go_enter Try.func43, Try.ntmps43
      go_wp2
      go_ret
      exact ⟨rfl, rfl⟩

set_option maxHeartbeats 400000 in
theorem variable_any (s : ByteArray) (w : World) (hs : s.size ≤ 9223372036854775807) :
    Calls Try.prog 25 #[.string s] w fun e w' => e = .returned (.bool (Sp.varL s.data.toList)) ∧ Below w.heap.size w w' := by
  have hV := Sp.varL_eq s.data.toList
  by_cases hl : Sp.longU s.data.toList = true
  · have h0 : 0 < s.size := by
      rcases Nat.eq_zero_or_pos s.size with h | h
      · have : s.data.toList = [] := List.eq_nil_of_length_eq_zero (by simpa using h)
        rw [this] at hl; simp [Sp.longU] at hl
      · exact h
    have hc : s.data.toList = s[0] :: s.data.toList.drop 1 := by
      have h1 : 0 < s.data.toList.length := by simpa using h0
      rw [← List.drop_zero (l := s.data.toList), List.drop_eq_getElem_cons h1]
      simp [ByteArray.getElem_eq_getElem_data]
    have e : Sp.varL s.data.toList = !Sp.digit s[0] := by
      rw [hV, hl]
      generalize s.data.toList.drop 1 = r at hc
      rw [hc]; rfl
    rw [e]
    have HL := Lib.hid hl
    clear e hc hV hl
    go_enter Try.func25, Try.ntmps25
    go_wp2_with (first | (go_at_call 47; go_in) | (go_at_call 44; go_in))
    refine (longu_any s _ (w.heap.size + 1 + 1) (w.heap.size + 1) w.heap.size hs ?_).mono ?_
    · refine ⟨?_, ?_, ?_, ?_, ?_⟩ <;> go_simp
    rintro e w' ⟨rfl, rfl⟩
    rw [HL.out]
    go_wp2_with (go_at_call 46; refine (digit_any _ _).mono ?_; rintro e w' ⟨rfl, rfl⟩)
    go_ret
    exact ⟨rfl, (((Below.refl _ _).alloc (Nat.le_refl _) _).alloc (by simp) _).alloc (by simp; omega) _⟩
  · have hl2 : Sp.longU s.data.toList = false := by simpa using hl
    rw [hV, hl2, Bool.false_and]
    have HL := Lib.hid hl2
    clear hl hV hl2
    go_enter Try.func25, Try.ntmps25
    go_wp2_with (first | (go_at_call 47; go_in) | (go_at_call 44; go_in))
    refine (longu_any s _ (w.heap.size + 1 + 1) (w.heap.size + 1) w.heap.size hs ?_).mono ?_
    · refine ⟨?_, ?_, ?_, ?_, ?_⟩ <;> go_simp
    rintro e w' ⟨rfl, rfl⟩
    rw [HL.out]
    go_wp2
    go_ret
    exact ⟨rfl, (((Below.refl _ _).alloc (Nat.le_refl _) _).alloc (by simp) _).alloc (by simp; omega) _⟩

end Go.Proofs.Ytcefnglmacpehaa
