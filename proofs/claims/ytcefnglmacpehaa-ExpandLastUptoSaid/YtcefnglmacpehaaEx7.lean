/-
  The walks of a text's words, and of the reference's small functions.
-/
import Derived.Test.YtcefnglmacpehaaSpF
import Derived.Test.YtcefnglmacpehaaEx5
import Derived.Shelf.GgClosure.Gives
import Derived.Test.YtcefnglmacpehaaNm8
namespace Go.Proofs.Ytcefnglmacpehaa
open Go.RowKit

namespace Sp
def blankB (c : UInt8) : Bool := decide (0 ≤ Lib.indexByte [32, 9] c)
theorem blankB_eq (c : UInt8) : blankB c = blank c := by
  have h : ∀ c : Fin 256, blankB (UInt8.ofNat c.val) = blank (UInt8.ofNat c.val) := by decide +kernel
  have := h ⟨c.toNat, c.toNat_lt⟩
  simpa using this
end Sp

set_option maxHeartbeats 400000 in
theorem blank_any (c : UInt8) (k : Int) (hk : k = (c.toNat : Int)) (w : World) :
    Calls Try.prog 50 #[.int .u8 k] w fun e w' => e = .returned (.bool (Sp.blank c)) ∧ w = w' := by
  subst hk
  go_enter Try.func50, Try.ntmps50
  go_wp2_with (go_at_call 64; refine (Try.strings_IndexByte _ _ _).mono ?_; rintro e w' ⟨rfl, rfl⟩)
  go_ret
  exact ⟨ret_bool (by rw [← Sp.blankB_eq]; simp [Sp.blankB]), rfl⟩

set_option maxHeartbeats 400000 in
theorem parts1_any (x : Nat) (hx : x ≤ 1114111) (w : World) :
    Calls Try.prog 49 #[.int .i32 x] w fun e w' => e = .returned (.bool (Sp.blankR x)) ∧ w = w' := by
  by_cases h : x < 128
  · have h1 : (x : Int) < 128 := by omega
    have e1 : (UInt8.ofNat x).toNat = x := by simp; omega
    have e2 : Hid (Sp.blank (UInt8.ofNat x) = Sp.blankR x) := Lib.hid (by
      have := Sp.blank_low (UInt8.ofNat x) (by omega)
      rw [e1] at this; exact this.symm)
    go_enter Try.func49, Try.ntmps49
    go_wp2_with (go_at_call 50; refine (blank_any (UInt8.ofNat x) _ (by rw [e1]) _).mono ?_; rintro e w' ⟨rfl, rfl⟩)
    go_ret
    exact ⟨ret_bool e2.out, rfl⟩
  · have h1 : ¬ (x : Int) < 128 := by omega
    have e2 : Sp.blankR x = false := by unfold Sp.blankR; simp; omega
    rw [e2]
    go_enter Try.func49, Try.ntmps49
    go_wp2
    go_ret
    exact ⟨rfl, rfl⟩

/-- texts as cells -/
def strCells (l : List ByteArray) : List Value := l.map Value.string

set_option maxHeartbeats 400000 in
theorem parts_row (s : ByteArray) (w : World) (hs : s.size ≤ 4294967296) :
    Calls Try.prog 26 #[.string s] w fun e w' => ∃ (A : Option Addr) (l : List ByteArray), e = .returned (.slice A l.length l.length) ∧ l.map (fun b => b.data.toList) = Sp.partsOf s.data.toList ∧
      Rd w' w'.heap.size 1 A l.length (strCells l) ∧ Below w.heap.size w w' := by
  go_enter Try.func26, Try.ntmps26
  go_wp2_with fail
  refine (Try.strings_FieldsFunc_runes 49 #[] (enters_of Try.func49 (by kernel_rfl) rfl) Sp.blankR s w hs ?_).mono ?_
  · intro W x hx _
    refine (parts1_any x hx W).mono ?_
    rintro e w' ⟨rfl, rfl⟩
    exact ⟨rfl, 0, rfl⟩
  · rintro e w' ⟨A, rfl, hA, hown, hb⟩
    go_wp2
    go_ret
    exact ⟨some ⟨A, 0, none⟩, Lib.goFieldsP Sp.blankR s, rfl, Sp.fields_eq s, Rd.of_own hown, hb⟩

set_option maxHeartbeats 400000 in
theorem rvarName_any (s : ByteArray) (w : World) (hs : s.size ≤ 9223372036854775807) :
    Calls Try.prog 15 #[.string s] w fun e w' => e = .returned (.bool (Sp.varL s.data.toList)) ∧ w = w' := by
  have hz : s.data.toList.length = s.size := by simp
  by_cases h1 : s.size < 1
  · have h1i : (s.size : Int) < 1 := by omega
    have e : Sp.varL s.data.toList = false := by
      have : s.data.toList = [] := List.eq_nil_of_length_eq_zero (by omega)
      rw [this]; rfl
    rw [e]; clear e hz
    go_enter Try.func15, Try.ntmps15
    go_wp2
    go_ret
    exact ⟨rfl, rfl⟩
  have h1i : ¬ (s.size : Int) < 1 := by omega
  have h0 : 0 < s.size := by omega
  have h0i : (0 : Int) < (s.size : Int) := by omega
  have hc : s.data.toList = s[0] :: s.data.toList.drop 1 := by
    rw [← List.drop_zero (l := s.data.toList), List.drop_eq_getElem_cons (by omega)]
    simp [ByteArray.getElem_eq_getElem_data]
  have hV : Sp.varL s.data.toList = (decide (s.size ≤ 60) && Sp.allVar s.data.toList && !Sp.digit s[0]) := by
    rw [← hz]; unfold Sp.varL Sp.allVar
    generalize s.data.toList.drop 1 = r at hc
    rw [hc]
  by_cases h2 : s.size ≤ 60
  · have h2i : ¬ 60 < (s.size : Int) := by omega
    cases hd : Sp.digit s[0] with
    | true =>
      have HD := Lib.hid hd
      rw [hV, hd]; clear hV hc hz hd
      rw [show (decide (s.size ≤ 60) && Sp.allVar s.data.toList && !true) = false from by simp]
      go_enter Try.func15, Try.ntmps15
      go_wp2_with (go_at_call 32; refine (rdigit_any _ _).mono ?_; rintro e w' ⟨rfl, rfl⟩; rw [HD.out])
      go_ret
      exact ⟨rfl, rfl⟩
    | false =>
      have HD := Lib.hid hd
      rw [hV, hd]; clear hV hc hz hd
      rw [show (decide (s.size ≤ 60) && Sp.allVar s.data.toList && !false) = Sp.allVar s.data.toList from by simp [h2]]
      go_enter Try.func15, Try.ntmps15
      go_wp2_with (go_at_call 32; refine (rdigit_any _ _).mono ?_; rintro e w' ⟨rfl, rfl⟩; rw [HD.out])
      go_loop [3] (fun i => ∃ k : Nat, k ≤ s.size ∧ i = .int .i64 k ∧ Hid (Sp.allVar (s.data.toList.take k) = true)) (fun i => s.size - (intOf i).toNat)
      case atStart => exact ⟨0, Nat.zero_le _, rfl, Lib.hid (Sp.allVar_nil _)⟩
      case round =>
        obtain ⟨k, hk, rfl, HA⟩ := hrel
        by_cases hlt : k < s.size
        · cases hv : Sp.varByte s[k] with
          | true =>
            have HV : Hid (Sp.allVar (s.data.toList.take (k + 1)) = true) := Lib.hid (by rw [Sp.allVar_succ s k hlt, HA.out, hv]; rfl)
            have hcase : (Sp.letter s[k] = true) ∨ (Sp.letter s[k] = false ∧ Sp.digit s[k] = true) ∨ (Sp.letter s[k] = false ∧ Sp.digit s[k] = false ∧ ((s[k].toNat : Int) != 95) = false) := by
              unfold Sp.varByte at hv
              cases q1 : Sp.letter s[k] <;> cases q2 : Sp.digit s[k] <;> simp_all
            clear hv
            rcases hcase with q1 | ⟨q1, q2⟩ | ⟨q1, q2, q3⟩
            · have Q1 := Lib.hid q1
              clear q1
              go_wp2_with (first | (go_at_call 33; refine (rletter_any _ _).mono ?_; rintro e w' ⟨rfl, rfl⟩; rw [Q1.out]))
              go_round
              case rel => exact ⟨k + 1, by omega, by go_num, HV⟩
              case measure => simp [intOf]; omega
            · have Q1 := Lib.hid q1; have Q2 := Lib.hid q2
              clear q1 q2
              go_wp2_with (first | (go_at_call 33; refine (rletter_any _ _).mono ?_; rintro e w' ⟨rfl, rfl⟩; rw [Q1.out]) | (go_at_call 32; refine (rdigit_any _ _).mono ?_; rintro e w' ⟨rfl, rfl⟩; rw [Q2.out]))
              go_round
              case rel => exact ⟨k + 1, by omega, by go_num, HV⟩
              case measure => simp [intOf]; omega
            · have Q1 := Lib.hid q1; have Q2 := Lib.hid q2
              clear q1 q2
              go_wp2_with (first | (go_at_call 33; refine (rletter_any _ _).mono ?_; rintro e w' ⟨rfl, rfl⟩; rw [Q1.out]) | (go_at_call 32; refine (rdigit_any _ _).mono ?_; rintro e w' ⟨rfl, rfl⟩; rw [Q2.out]))
              go_round
              case rel => exact ⟨k + 1, by omega, by go_num, HV⟩
              case measure => simp [intOf]; omega
          | false =>
            have HV : Hid (Sp.allVar s.data.toList = false) := Lib.hid (Sp.allVar_false s k hlt hv)
            have hcase : Sp.letter s[k] = false ∧ Sp.digit s[k] = false ∧ ((s[k].toNat : Int) != 95) = true := by
              unfold Sp.varByte at hv
              cases q1 : Sp.letter s[k] <;> cases q2 : Sp.digit s[k] <;> simp_all
            obtain ⟨q1, q2, q3⟩ := hcase
            have Q1 := Lib.hid q1; have Q2 := Lib.hid q2
            clear q1 q2 hv
            go_wp2_with (first | (go_at_call 33; refine (rletter_any _ _).mono ?_; rintro e w' ⟨rfl, rfl⟩; rw [Q1.out]) | (go_at_call 32; refine (rdigit_any _ _).mono ?_; rintro e w' ⟨rfl, rfl⟩; rw [Q2.out]))
            go_ret
            exact ⟨ret_bool HV.out.symm, rfl⟩
        · go_wp2
          go_ret
          exact ⟨ret_bool (by rw [← Sp.take_all s k hk hlt]; exact HA.out.symm), rfl⟩
  · have h2i : 60 < (s.size : Int) := by omega
    rw [hV]; clear hV hc hz
    rw [show (decide (s.size ≤ 60) && Sp.allVar s.data.toList && !Sp.digit s[0]) = false from by simp [h2]]
    go_enter Try.func15, Try.ntmps15
    go_wp2
    go_ret
    exact ⟨rfl, rfl⟩

end Go.Proofs.Ytcefnglmacpehaa
