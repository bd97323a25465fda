/-
  The walks of one word's span and of a text's.
-/
import Derived.Test.YtnfbhhffclahjaaDoorTsW
namespace Go.Proofs.YtnfbhhffclahjaaDoor
open Go.RowKit Go.Lib

theorem ext_take (s : ByteArray) (i : Nat) : (s.extract 0 i).data.toList = s.data.toList.take i := by
  rw [Lib.extract_data]; simp
theorem ext_drop (s : ByteArray) (i : Nat) : (s.extract i s.size).data.toList = s.data.toList.drop i := by
  rw [Lib.extract_data, List.take_of_length_le]; simp

namespace Sp
theorem digs_get : ∀ (l : List UInt8) (k : Nat) (_ : k < digs l), ∃ hk : k < l.length, digit l[k] = true
  | [], k, h => by simp [digs] at h
  | c :: r, k, h => by
    unfold digs at h
    split at h
    · rename_i hc
      match k with
      | 0 => exact ⟨by simp, hc⟩
      | k + 1 =>
        obtain ⟨h1, h2⟩ := digs_get r k (by omega)
        exact ⟨by simpa using h1, by simpa using h2⟩
    · omega
theorem digs_stop : ∀ (l : List UInt8) (h : digs l < l.length), digit (l[digs l]'h) = false
  | [], h => by simp at h
  | c :: r, h => by
    have e : digs (c :: r) = if digit c then digs r + 1 else 0 := rfl
    by_cases hc : digit c = true
    · rw [if_pos hc] at e
      have h2 := digs_stop r (by simp [e] at h; omega)
      simp only [e, List.getElem_cons_succ]
      exact h2
    · rw [if_neg hc] at e
      simp only [e, List.getElem_cons_zero]
      simpa using hc
theorem digs_at (s : ByteArray) (k : Nat) (h : k < digs s.data.toList) : ∃ hk : k < s.size, digit s[k] = true := by
  obtain ⟨h1, h2⟩ := digs_get s.data.toList k h
  refine ⟨by simpa using h1, ?_⟩
  simpa [ByteArray.getElem_eq_getElem_data] using h2
theorem digs_end (s : ByteArray) (h : digs s.data.toList < s.size) : digit s[digs s.data.toList] = false := by
  have h2 := digs_stop s.data.toList (by simpa using h)
  simpa [ByteArray.getElem_eq_getElem_data] using h2
theorem decFrom_digits : ∀ (l : List UInt8) (a : Nat), (∀ c ∈ l, digit c = true) → Lib.decFrom a l = some (l.foldl (fun n c => 10 * n + (c.toNat - 48)) a)
  | [], a, _ => rfl
  | c :: r, a, h => by
    have hc := h c (by simp)
    simp [digit] at hc
    have hd : Lib.digitVal c = some (c.toNat - 48) := by
      unfold Lib.digitVal
      simp; omega
    rw [Lib.decFrom, hd]
    simp only
    rw [decFrom_digits r _ fun d hd => h d (by simp [hd])]
    simp [Nat.mul_comm]
theorem take_some (s : ByteArray) (k : Nat) (h : ¬ k = 0) (hk : k ≤ s.size) : s.data.toList.take k ≠ [] := by
  intro e
  have h9 := congrArg List.length e
  have h8 : s.data.toList.length = s.size := by simp
  rw [List.length_take] at h9
  simp only [List.length_nil] at h9
  omega
theorem atoi_digits (l : List UInt8) (h0 : l ≠ []) (h : ∀ c ∈ l, digit c = true) : Lib.atoi l = some (decV l : Int) := by
  match l with
  | [] => exact absurd rfl h0
  | c :: r =>
    have hc := h c (by simp)
    simp [digit] at hc
    have h1 : (c == 45) = false := by rw [beq_eq_false_iff_ne]; intro e; subst e; simp at hc
    have h2 : (c == 43) = false := by rw [beq_eq_false_iff_ne]; intro e; subst e; simp at hc
    unfold Lib.atoi
    simp only [h1, h2, Bool.false_eq_true, if_false]
    unfold Lib.decNat
    rw [decFrom_digits _ 0 h]
    rfl
end Sp

def wordE (o : Option Nat) : Value := match o with
  | some n => .tuple #[.int .i64 (n : Nat), .bool true]
  | none => .tuple #[.int .i64 0, .bool false]

set_option maxHeartbeats 1000000 in
theorem word_any (s : ByteArray) (w : World) (hs : s.size ≤ 4294967296) :
    Calls Tryd.prog 15 #[.string s] w fun e w' => e = .returned (wordE (Sp.wordS s.data.toList)) ∧ Below w.heap.size w w' := by
  have hdl := Sp.digs_le s.data.toList
  have hz : s.data.toList.length = s.size := by simp
  rw [hz] at hdl
  have HAT := Lib.hid (Sp.digs_at s)
  have HEND := Lib.hid (Sp.digs_end s)
  have hu2 := Sp.secs_le (s.data.toList.drop (Sp.digs s.data.toList))
  have HDV := Lib.hid (Sp.decV_lt _ (s.data.toList.take (Sp.digs s.data.toList)) (Nat.le_refl _) (Sp.digs_take s.data.toList))
  have HDD := Lib.hid (Sp.digs_take s.data.toList)
  have HW : Hid (∀ o, (if Sp.digs s.data.toList = 0 ∨ 10 < Sp.digs s.data.toList ∨ Sp.secs (s.data.toList.drop (Sp.digs s.data.toList)) = 0 then none else some (Sp.decV (s.data.toList.take (Sp.digs s.data.toList)) * Sp.secs (s.data.toList.drop (Sp.digs s.data.toList)))) = o → Sp.wordS s.data.toList = o) := Lib.hid fun o h => by unfold Sp.wordS; exact h
  generalize Sp.digs s.data.toList = d at *
  have HDR : Hid ((s.extract d s.size).data.toList = s.data.toList.drop d) := Lib.hid (ext_drop s d)
  generalize hsu : Sp.secs (s.data.toList.drop d) = u at *
  have HSU := Lib.hid hsu
  clear hsu hz
  go_enter Tryd.func15, Tryd.ntmps15
  go_wp2_with fail
  go_loop [4] (fun j => ∃ k : Nat, k ≤ d ∧ j = .int .i64 k) (fun j => s.size - (intOf j).toNat)
  case atStart => exact ⟨0, Nat.zero_le _, rfl⟩
  case round =>
    obtain ⟨k, hk, rfl⟩ := hrel
    by_cases hkd : k < d
    · obtain ⟨hks, hdg⟩ := HAT.out k hkd
      have HG := Lib.hid hdg
      clear hdg
      go_wp2_with (go_at_call 27; refine (digit_any _ _).mono ?_; rintro e w' ⟨rfl, rfl⟩; rw [HG.out])
      go_round
      case rel => exact ⟨k + 1, by omega, by go_num⟩
      case measure => first | (simp [intOf]; done) | (simp [intOf]; omega)
    · obtain rfl : k = d := by omega
      by_cases hlt : k < s.size
      · have HE := Lib.hid (HEND.out hlt)
        go_wp2_with (go_at_call 27; refine (digit_any _ _).mono ?_; rintro e w' ⟨rfl, rfl⟩; rw [HE.out])
        refine (seconds_any (s.extract k s.size) _).mono ?_
        rintro e w' ⟨rfl, rfl⟩
        rw [HDR.out, HSU.out]
        by_cases c1 : k = 0
        · have hw := Lib.hid (HW.out _ (if_pos (.inl c1)))
          subst c1
          go_wp2
          go_ret2
          exact ⟨by rw [hw.out]; rfl, Below.refl _ _⟩
        by_cases c2 : 10 < k
        · have hw := Lib.hid (HW.out _ (if_pos (.inr (.inl c2))))
          go_wp2
          go_ret2
          exact ⟨by rw [hw.out]; rfl, Below.refl _ _⟩
        by_cases c3 : u = 0
        · have hw := Lib.hid (HW.out _ (if_pos (.inr (.inr c3))))
          subst c3
          go_wp2
          go_ret2
          exact ⟨by rw [hw.out]; rfl, Below.refl _ _⟩
        have hw := Lib.hid (HW.out _ (if_neg (by omega)))
        have c3b : ((u : Int) == 0) = false := by simpa using c3
        have c1b : ¬ (k : Int) < 1 := by omega
        have c2b : ¬ 10 < (k : Int) := by omega
        have hdv := HDV.out
        have hat := Sp.atoi_digits (s.data.toList.take k) (Sp.take_some s k c1 hdl) HDD.out
        have hl2 : (s.data.toList.take k).length ≤ 10 := by simp; omega
        have h3 : 10 ^ (s.data.toList.take k).length ≤ 10 ^ 10 := Nat.pow_le_pow_right (by omega) hl2
        generalize Sp.decV (s.data.toList.take k) = n at *
        have hn : n < 10000000000 := by omega
        have hat2 : Lib.atoi (s.extract 0 k).data.toList = some (n : Int) := by rw [ext_take]; exact hat
        have hmul : n * u ≤ 6048000000000000 := by
          have : n * u ≤ 10000000000 * 604800 := Nat.mul_le_mul (by omega) hu2
          omega
        have hm1 : (n : Int) * (u : Int) ≤ 6048000000000000 := by rw [← Int.natCast_mul]; exact Int.ofNat_le.2 hmul
        have hm0 : (0 : Int) ≤ (n : Int) * (u : Int) := by rw [← Int.natCast_mul]; exact Int.natCast_nonneg _
        have HAT2 := Lib.hid hat2
        have hex : (s.extract 0 k).size ≤ 18 := by rw [ByteArray.size_extract]; omega
        clear hdv hat h3 hat2 hl2
        go_wp2_with fail
        refine (Tryd.strconv_Atoi (s.extract 0 k) n hex HAT2.out _).mono ?_
        rintro e w' ⟨rfl, t, rfl⟩
        have hbw := bytesWorld_below w 5 t
        generalize bytesWorld w 5 t = w2 at *
        go_wp2_with fail
        go_region
        go_wp2
        go_ret2
        exact ⟨by rw [hw.out]; simp [wordE], belowQ hbw _⟩
      · go_wp2_with fail
        refine (seconds_any (s.extract k s.size) _).mono ?_
        rintro e w' ⟨rfl, rfl⟩
        rw [HDR.out, HSU.out]
        by_cases c1 : k = 0
        · have hw := Lib.hid (HW.out _ (if_pos (.inl c1)))
          subst c1
          go_wp2
          go_ret2
          exact ⟨by rw [hw.out]; rfl, Below.refl _ _⟩
        by_cases c2 : 10 < k
        · have hw := Lib.hid (HW.out _ (if_pos (.inr (.inl c2))))
          go_wp2
          go_ret2
          exact ⟨by rw [hw.out]; rfl, Below.refl _ _⟩
        by_cases c3 : u = 0
        · have hw := Lib.hid (HW.out _ (if_pos (.inr (.inr c3))))
          subst c3
          go_wp2
          go_ret2
          exact ⟨by rw [hw.out]; rfl, Below.refl _ _⟩
        have hw := Lib.hid (HW.out _ (if_neg (by omega)))
        have c3b : ((u : Int) == 0) = false := by simpa using c3
        have c1b : ¬ (k : Int) < 1 := by omega
        have c2b : ¬ 10 < (k : Int) := by omega
        have hdv := HDV.out
        have hat := Sp.atoi_digits (s.data.toList.take k) (Sp.take_some s k c1 hdl) HDD.out
        have hl2 : (s.data.toList.take k).length ≤ 10 := by simp; omega
        have h3 : 10 ^ (s.data.toList.take k).length ≤ 10 ^ 10 := Nat.pow_le_pow_right (by omega) hl2
        generalize Sp.decV (s.data.toList.take k) = n at *
        have hn : n < 10000000000 := by omega
        have hat2 : Lib.atoi (s.extract 0 k).data.toList = some (n : Int) := by rw [ext_take]; exact hat
        have hmul : n * u ≤ 6048000000000000 := by
          have : n * u ≤ 10000000000 * 604800 := Nat.mul_le_mul (by omega) hu2
          omega
        have hm1 : (n : Int) * (u : Int) ≤ 6048000000000000 := by rw [← Int.natCast_mul]; exact Int.ofNat_le.2 hmul
        have hm0 : (0 : Int) ≤ (n : Int) * (u : Int) := by rw [← Int.natCast_mul]; exact Int.natCast_nonneg _
        have HAT2 := Lib.hid hat2
        have hex : (s.extract 0 k).size ≤ 18 := by rw [ByteArray.size_extract]; omega
        clear hdv hat h3 hat2 hl2
        go_wp2_with fail
        refine (Tryd.strconv_Atoi (s.extract 0 k) n hex HAT2.out _).mono ?_
        rintro e w' ⟨rfl, t, rfl⟩
        have hbw := bytesWorld_below w 5 t
        generalize bytesWorld w 5 t = w2 at *
        go_wp2_with fail
        go_region
        go_wp2
        go_ret2
        exact ⟨by rw [hw.out]; simp [wordE], belowQ hbw _⟩

end Go.Proofs.YtnfbhhffclahjaaDoor
