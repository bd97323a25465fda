/-
  A number of few digits, a part of a field, as texts: the program's walks.
-/
import Derived.Test.YtpkpoglmmjaoeaaGreatDoorDe
import Derived.Lib.AtoiAll
import Derived.Lib.Atoi
import Derived.Lib.IndexBytes
import Derived.Lib.IndexMore
import Derived.WalkSpells
namespace Go.Proofs.YtpkpoglmmjaoeaaGreatDoor
open Go.RowKit Go.Shelf

namespace Sp
theorem cut_one (c : UInt8) : ∀ l : List UInt8, Lib.cut l [c] = cut1 c l
  | [] => by simp [Lib.cut, Lib.index, cut1]
  | b :: r => by
    have ih := cut_one c r
    have hge := Lib.index_ge r [c]
    unfold Lib.cut at ih ⊢
    rw [cut1]
    by_cases h : b = c
    · have hp : ([c] : List UInt8).isPrefixOf (b :: r) = true := by simp [h, List.isPrefixOf]
      have hi : Lib.index (b :: r) [c] = 0 := by rw [Lib.index, if_pos hp]
      rw [hi, if_pos h]
      simp
    · have hp : ([c] : List UInt8).isPrefixOf (b :: r) = false := by simp [List.isPrefixOf, Ne.symm h]
      rw [if_neg h, ← ih]
      by_cases h1 : Lib.index r [c] = -1
      · have hi : Lib.index (b :: r) [c] = -1 := by rw [Lib.index, hp, h1]; rfl
        rw [hi, h1]; rfl
      · have hi : Lib.index (b :: r) [c] = Lib.index r [c] + 1 := by rw [Lib.index, hp, if_neg (by decide), if_neg (by simpa using h1)]
        rw [hi, if_pos (by omega), if_pos (by omega)]
        have e : (Lib.index r [c] + 1).toNat = (Lib.index r [c]).toNat + 1 := by omega
        rw [e, List.take_succ_cons]
        simp only [List.length_singleton, List.drop_succ_cons]
theorem cut_dots : ∀ l : List UInt8, Lib.cut l [46, 46] = cutD l
  | [] => by simp [Lib.cut, Lib.index, cutD]
  | [b] => by simp [Lib.cut, Lib.index, cutD, List.isPrefixOf]
  | b :: b' :: r => by
    have ih := cut_dots (b' :: r)
    have hge := Lib.index_ge (b' :: r) [46, 46]
    unfold Lib.cut at ih ⊢
    rw [cutD]
    by_cases h : b = 46 ∧ b' = 46
    · have hp : ([46, 46] : List UInt8).isPrefixOf (b :: b' :: r) = true := by simp [h.1, h.2, List.isPrefixOf]
      have hi : Lib.index (b :: b' :: r) [46, 46] = 0 := by rw [Lib.index, if_pos hp]
      rw [hi, if_pos h]
      simp
    · have hp : ([46, 46] : List UInt8).isPrefixOf (b :: b' :: r) = false := by
        simp only [List.isPrefixOf, Bool.and_true]
        rw [Bool.and_eq_false_iff]
        by_cases h1 : b = 46
        · exact .inr (by simpa using fun e : (46 : UInt8) = b' => h ⟨h1, e.symm⟩)
        · exact .inl (by simpa using fun e : (46 : UInt8) = b => h1 e.symm)
      rw [if_neg h, ← ih]
      by_cases h1 : Lib.index (b' :: r) [46, 46] = -1
      · have hi : Lib.index (b :: b' :: r) [46, 46] = -1 := by rw [Lib.index, hp, h1]; rfl
        rw [hi, h1]; rfl
      · have hi : Lib.index (b :: b' :: r) [46, 46] = Lib.index (b' :: r) [46, 46] + 1 := by rw [Lib.index, hp, if_neg (by decide), if_neg (by simpa using h1)]
        rw [hi, if_pos (by omega), if_pos (by omega)]
        have e : (Lib.index (b' :: r) [46, 46] + 1).toNat = (Lib.index (b' :: r) [46, 46]).toNat + 1 := by omega
        rw [e, List.take_succ_cons]
        simp only [List.length_cons, List.length_nil]
        rw [show (Lib.index (b' :: r) [46, 46]).toNat + 1 + (0 + 1 + 1) = ((Lib.index (b' :: r) [46, 46]).toNat + (0 + 1 + 1)) + 1 by omega, List.drop_succ_cons]
theorem dec_val : ∀ (l : List UInt8) (acc : Nat), l.all digC = true → Lib.decFrom acc l = some (l.foldl (fun n c => 10 * n + (c.toNat - 48)) acc)
  | [], _, _ => rfl
  | b :: r, acc, h => by
    rw [List.all_cons, Bool.and_eq_true] at h
    have hd : Lib.digitVal b = some (b.toNat - 48) := by
      have h1 := h.1
      unfold digC at h1
      simp only [Bool.and_eq_true, decide_eq_true_eq] at h1
      unfold Lib.digitVal
      rw [if_pos h1]
    rw [Lib.decFrom, hd]
    show Lib.decFrom (acc * 10 + (b.toNat - 48)) r = _
    rw [dec_val r _ h.2, List.foldl_cons, Nat.mul_comm acc 10]
theorem num_atoi (l : List UInt8) (v : Int) (h : numC l = some v) : Lib.atoi l = some v := by
  unfold numC at h
  split at h
  · rename_i hc
    injection h with h
    obtain ⟨h1, _, h3⟩ := hc
    match l, h1, h3 with
    | b :: r, _, h3 =>
      have hb : digC b = true := by rw [List.all_cons, Bool.and_eq_true] at h3; exact h3.1
      unfold digC at hb
      simp only [Bool.and_eq_true, decide_eq_true_eq] at hb
      have n1 : (b == 45) = false := by simp only [beq_eq_false_iff_ne]; intro e; rw [e] at hb; exact absurd hb.1 (by decide)
      have n2 : (b == 43) = false := by simp only [beq_eq_false_iff_ne]; intro e; rw [e] at hb; exact absurd hb.1 (by decide)
      rw [Lib.atoi, n1, n2]
      have hd := dec_val (b :: r) 0 h3
      unfold Lib.decNat
      simp only [List.isEmpty_cons, Bool.false_eq_true, if_false, hd, Option.map_some]
      rw [← h]; rfl
  · cases h
theorem num_len (l : List UInt8) (v : Int) (h : numC l = some v) : 1 ≤ l.length ∧ l.length ≤ 4 ∧ l.all digC = true := by
  unfold numC at h
  split at h
  · rename_i hc; exact hc
  · cases h
theorem val_lt : ∀ (l : List UInt8) (acc k : Nat), l.all digC = true → acc < 10 ^ k → l.foldl (fun n c => 10 * n + (c.toNat - 48)) acc < 10 ^ (k + l.length)
  | [], acc, k, _, h => by simpa using h
  | b :: r, acc, k, hd, h => by
    rw [List.all_cons, Bool.and_eq_true] at hd
    have hb := hd.1
    unfold digC at hb
    simp only [Bool.and_eq_true, decide_eq_true_eq] at hb
    rw [List.foldl_cons, List.length_cons, show k + (r.length + 1) = (k + 1) + r.length by omega]
    refine val_lt r _ (k + 1) hd.2 ?_
    rw [Nat.pow_succ]
    omega
theorem num_range (l : List UInt8) (v : Int) (h : numC l = some v) : 0 ≤ v ∧ v ≤ 9999 := by
  obtain ⟨h1, h2, h3⟩ := num_len l v h
  unfold numC at h
  rw [if_pos ⟨h1, h2, h3⟩] at h
  injection h with h
  have hv := val_lt l 0 0 h3 (by decide)
  have hp : 10 ^ (0 + l.length) ≤ 10 ^ 4 := Nat.pow_le_pow_right (by decide) (by omega)
  have e : valC l = l.foldl (fun n c => 10 * n + (c.toNat - 48)) 0 := rfl
  omega
theorem numC_none (l : List UInt8) (h : numC l = none) : l = [] ∨ 4 < l.length ∨ l.all digC = false := by
  unfold numC at h
  split at h
  · cases h
  · rename_i hc
    cases hd : l.all digC with
    | false => exact .inr (.inr rfl)
    | true =>
      by_cases h4 : 4 < l.length
      · exact .inr (.inl h4)
      · refine .inl (List.eq_nil_of_length_eq_zero ?_)
        have : ¬ (1 ≤ l.length) := fun h1 => hc ⟨h1, by omega, hd⟩
        omega
def allD (l : List UInt8) : Bool := l.all digC
theorem all_next (s : ByteArray) (k : Nat) (h : k < s.size) : allD (s.data.toList.take (k + 1)) = (allD (s.data.toList.take k) && digC s[k]) := by
  unfold allD
  have hl : k < s.data.toList.length := by rw [bytes_size]; exact h
  rw [List.take_succ_eq_append_getElem hl, List.all_append]
  simp
  rfl
theorem all_false (s : ByteArray) (k : Nat) (h : k < s.size) (hb : digC s[k] = false) : allD s.data.toList = false := by
  have h1 := all_next s k h
  rw [hb, Bool.and_false] at h1
  unfold allD at h1 ⊢
  rw [← List.take_append_drop (k + 1) s.data.toList, List.all_append, h1]
  rfl
end Sp
theorem ret_bool {a b : Bool} (h : a = b) : Ending.returned (.bool a) = .returned (.bool b) := by rw [h]
set_option maxHeartbeats 400000 in
theorem letter_any (c : UInt8) (w : World) :
    Calls Tryz.prog 26 #[.int .u8 c.toNat] w fun e w' => e = .returned (.bool (Sp.letC c)) ∧ w = w' := by
  go_enter Tryz.func26, Tryz.ntmps26
  go_wp2
  all_goals
    go_ret
    exact ⟨ret_bool (by rw [Bool.eq_iff_iff]; simp [Sp.letC]; omega), rfl⟩
set_option maxHeartbeats 400000 in
theorem digit_any (c : UInt8) (w : World) :
    Calls Tryz.prog 100 #[.int .u8 c.toNat] w fun e w' => e = .returned (.bool (Sp.digC c)) ∧ w = w' := by
  go_enter Tryz.func100, Tryz.ntmps100
  go_wp2
  all_goals
    go_ret
    exact ⟨ret_bool (by rw [Bool.eq_iff_iff]; simp [Sp.digC]; omega), rfl⟩
set_option maxHeartbeats 400000 in
theorem alld_any (s : ByteArray) (w : World) (hs : s.size ≤ 9223372036854775807) :
    Calls Tryz.prog 109 #[.string s, .func (.func 100) #[] #[]] w fun e w' => e = .returned (.bool (Sp.allD s.data.toList)) ∧ w = w' := by
  have hz := bytes_size s
  have HF := Lib.hid (Sp.all_false s)
  have HT := Lib.hid (Sp.all_next s)
  have HE : Hid (s.data.toList.take s.size = s.data.toList) := Lib.hid (List.take_of_length_le (by omega))
  go_enter Tryz.func109, Tryz.ntmps109
  go_wp2_with fail
  go_loop [8] (fun i => ∃ k : Nat, k ≤ s.size ∧ i = .int .i64 k ∧ Hid (Sp.allD (s.data.toList.take k) = true)) (fun i => s.size - (intOf i).toNat)
  case atStart => exact ⟨0, Nat.zero_le _, rfl, Lib.hid rfl⟩
  case round =>
    obtain ⟨k, hk, rfl, HA⟩ := hrel
    by_cases hlt : k < s.size
    · cases hb : Sp.digC s[k] with
      | false =>
        have HR := Lib.hid (HF.out k hlt hb)
        have HD := Lib.hid (digit_any s[k] w)
        rw [hb] at HD
        go_wp2_with (go_at_call 100; refine HD.out.mono ?_; rintro e w' ⟨rfl, rfl⟩)
        go_ret
        exact ⟨ret_bool HR.out.symm, rfl⟩
      | true =>
        have HR := Lib.hid (HT.out k hlt)
        have HD := Lib.hid (digit_any s[k] w)
        rw [hb] at HD HR
        go_wp2_with (go_at_call 100; refine HD.out.mono ?_; rintro e w' ⟨rfl, rfl⟩)
        go_round
        case rel => exact ⟨k + 1, by omega, by go_num, Lib.hid (by rw [HR.out, HA.out]; rfl)⟩
        case measure => simp [intOf]; omega
    · obtain rfl : k = s.size := by omega
      have HR := Lib.hid HE.out
      go_wp2
      go_ret
      exact ⟨ret_bool (by rw [← HR.out]; exact HA.out.symm), rfl⟩
/-- has a text from one to four bytes, each a digit? -/
theorem longd_any (s : ByteArray) (b : Bool) (w : World) (hs : s.size ≤ 9223372036854775807) (hb : b = (Sp.numC s.data.toList).isSome) :
    Calls Tryz.prog 99 #[.string s, .int .i64 4, .func (.func 100) #[] #[]] w fun e w' => e = .returned (.bool b) ∧ w = w' := by
  have hz := bytes_size s
  by_cases h0 : s.data.toList = []
  · have he : s.toList.isEmpty = true := by rw [Lib.toList_data, h0]; rfl
    have e : b = false := by rw [hb, h0]; rfl
    rw [e]; clear e h0 hb
    go_enter Tryz.func99, Tryz.ntmps99
    go_wp2
    go_ret
    exact ⟨rfl, rfl⟩
  · have he : s.toList.isEmpty = false := by rw [Lib.toList_data]; simpa using h0
    have hpos : 1 ≤ s.data.toList.length := List.length_pos_iff.2 h0
    by_cases h6 : s.size ≤ 4
    · have h6i : (s.size : Int) ≤ 4 := by omega
      have e : b = Sp.allD s.data.toList := by
        rw [hb]; unfold Sp.numC Sp.allD
        cases hd : s.data.toList.all Sp.digC with
        | true => rw [if_pos ⟨hpos, by omega, rfl⟩]; rfl
        | false => rw [if_neg (fun h => by simp at h)]; rfl
      rw [e]; clear e h0 hb hz hpos
      go_enter Tryz.func99, Tryz.ntmps99
      go_wp2_with (go_at_call 109; refine (alld_any s _ hs).mono ?_; rintro e w' ⟨rfl, rfl⟩)
      go_ret
      exact ⟨rfl, rfl⟩
    · have h6i : ¬ (s.size : Int) ≤ 4 := by omega
      have e : b = false := by rw [hb]; unfold Sp.numC; rw [if_neg (by omega)]; rfl
      rw [e]; clear e h0 hb hz hpos
      go_enter Tryz.func99, Tryz.ntmps99
      go_wp2
      go_ret
      exact ⟨rfl, rfl⟩
theorem number_yes (s : ByteArray) (v : Int) (w : World) (h : Sp.numC s.data.toList = some v) :
    Calls Tryz.prog 89 #[.string s] w fun e w' => e = .returned (.tuple #[.int .i64 v, .bool true]) ∧ Below w.heap.size w w' := by
  have hz := bytes_size s
  obtain ⟨h1, h2, _⟩ := Sp.num_len _ _ h
  have HL := Lib.hid (longd_any s true w (by omega) (by rw [h]; rfl))
  have HA := Lib.hid (Tryz.strconv_Atoi s v (by omega) (Sp.num_atoi _ _ h) w)
  clear h h1 h2 hz
  go_enter Tryz.func89, Tryz.ntmps89
  go_wp2_with fail
  refine HL.out.mono ?_
  rintro e w' ⟨rfl, rfl⟩
  go_wp2_with fail
  refine HA.out.mono ?_
  rintro e w' ⟨rfl, t, rfl⟩
  have hb := Lib.bytesWorld_below w 5 t
  generalize Lib.bytesWorld w 5 t = w1 at *
  go_wp2_with fail
  go_quiet (fail)
  go_wp2
  go_ret2
  exact ⟨rfl, belowQ hb _⟩
theorem number_no (s : ByteArray) (w : World) (hs : s.size ≤ 9223372036854775807) (h : Sp.numC s.data.toList = none) :
    Calls Tryz.prog 89 #[.string s] w fun e w' => e = .returned (.tuple #[.int .i64 0, .bool false]) ∧ Below w.heap.size w w' := by
  have HL := Lib.hid (longd_any s false w hs (by rw [h]; rfl))
  clear h
  go_enter Tryz.func89, Tryz.ntmps89
  go_wp2_with fail
  refine HL.out.mono ?_
  rintro e w' ⟨rfl, rfl⟩
  go_wp2
  go_ret2
  exact ⟨rfl, Below.refl _ _⟩

end Go.Proofs.YtpkpoglmmjaoeaaGreatDoor
