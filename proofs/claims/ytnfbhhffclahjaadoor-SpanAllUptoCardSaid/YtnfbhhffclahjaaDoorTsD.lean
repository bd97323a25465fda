/-
  The walks of the reference's number and span as texts.
-/
import Derived.Test.YtnfbhhffclahjaaDoorTsC
namespace Go.Proofs.YtnfbhhffclahjaaDoor
open Go.RowKit Go.Lib Go.Sort

theorem dig_piece (d : Nat) (h : d < 10) : ((⟨#[48, 49, 50, 51, 52, 53, 54, 55, 56, 57]⟩ : ByteArray).extract d (d + 1)) = ⟨[UInt8.ofNat (48 + d)].toArray⟩ := by
  refine ba_of _ _ ?_
  have : ∀ d : Fin 10, ((⟨#[48, 49, 50, 51, 52, 53, 54, 55, 56, 57]⟩ : ByteArray).extract d.val (d.val + 1)).data.toList = [UInt8.ofNat (48 + d.val)] := by decide +kernel
  exact this ⟨d, h⟩

theorem wrap_nat (x : Int) (n : Nat) (h : x = (n : Int)) (hn : n ≤ 9223372036854775807) : IntKind.i64.wrap x = (n : Int) := by
  subst h
  simp [IntKind.wrap, IntKind.signed, IntKind.bits]
  omega
theorem ret_str {a b : ByteArray} (h : a = b) : Ending.returned (.string a) = .returned (.string b) := by rw [h]
set_option maxHeartbeats 1000000 in
theorem dec_any (n : Nat) (hn : n ≤ 6311433600) (w : World) :
    Calls Tryd.prog 22 #[.int .i64 n] w fun e w' => e = .returned (.string ⟨(Lib.decDigits n).toArray⟩) ∧ w = w' := by
  induction n using Nat.strongRecOn generalizing w with
  | ind n ih =>
    have hm : n % 10 < 10 := Nat.mod_lt _ (by omega)
    have HP := Lib.hid (dig_piece (n % 10) hm)
    by_cases h : n < 10
    · have HD : Hid (Lib.decDigits n = [UInt8.ofNat (48 + n % 10)]) := Lib.hid (by rw [Lib.decDigits_one h, Nat.mod_eq_of_lt h])
      clear ih
      go_enter Tryd.func22, Tryd.ntmps22
      go_wp2
      go_ret
      exact ⟨ret_str (by rw [HP.out, HD.out]), rfl⟩
    · have HD : Hid (Lib.decDigits n = Lib.decDigits (n / 10) ++ [UInt8.ofNat (48 + n % 10)]) := Lib.hid (by conv => lhs; rw [Lib.decDigits, dif_neg h])
      have ih' := ih (n / 10) (by omega) (by omega) w
      have hc : ((n / 10 : Nat) : Int) = (n : Int) / 10 := by omega
      rw [hc] at ih'
      have HI := Lib.hid ih'
      have hl : (Lib.decDigits (n / 10)).length ≤ 10 := Sp.dec_len _ (by omega)
      have hx : ((⟨#[48, 49, 50, 51, 52, 53, 54, 55, 56, 57]⟩ : ByteArray).extract (n % 10) (n % 10 + 1)).size ≤ 10 := by rw [HP.out]; show 1 ≤ 10; omega
      clear ih ih' hc
      go_enter Tryd.func22, Tryd.ntmps22
      go_wp2_with fail
      refine HI.out.mono ?_
      rintro e w' ⟨rfl, rfl⟩
      go_wp2
      go_ret
      exact ⟨ret_str (by rw [HP.out, HD.out, ByteArray.mk_append_mk]), rfl⟩
theorem dec_as (k : Int) (n : Nat) (hk : k = (n : Int)) (hn : n ≤ 6311433600) (w : World) :
    Calls Tryd.prog 22 #[.int .i64 k] w fun e w' => e = .returned (.string ⟨(Lib.decDigits n).toArray⟩) ∧ w = w' := by
  subst hk
  exact dec_any n hn w

/-- some words, each behind a blank -/
def behind (l : List (List UInt8)) : List UInt8 := l.flatMap fun w => 32 :: w
theorem behind_app (a b : List (List UInt8)) : behind (a ++ b) = behind a ++ behind b := by simp [behind]
theorem behind_join : ∀ (l : List (List UInt8)), l ≠ [] → behind l = 32 :: Sp.joinW l
  | [], h => absurd rfl h
  | [w], _ => by simp [behind, Sp.joinW]
  | w :: x :: r, _ => by
    have := behind_join (x :: r) (by simp)
    have e : behind (w :: x :: r) = 32 :: w ++ behind (x :: r) := by simp [behind]
    rw [e, this]
    rfl
theorem behind_put (L : List (List UInt8)) (q : Nat) (U : List UInt8) (h : ¬ q = 0) : behind (L ++ Sp.putW q U) = behind L ++ (32 :: (Lib.decDigits q ++ U)) := by
  rw [behind_app, Sp.putW, if_neg h]
  simp [behind]
theorem behind_put0 (L : List (List UInt8)) (q : Nat) (U : List UInt8) (h : q = 0) : behind (L ++ Sp.putW q U) = behind L := by
  rw [behind_app, Sp.putW, if_pos h]
  simp [behind]
def w1 (m : Nat) : List (List UInt8) := Sp.putW (m / 86400) [100]
def w2 (m : Nat) : List (List UInt8) := w1 m ++ Sp.putW (m % 86400 / 3600) [104]
def w3 (m : Nat) : List (List UInt8) := w2 m ++ Sp.putW (m % 3600 / 60) [109, 105, 110]
def w4 (m : Nat) : List (List UInt8) := w3 m ++ Sp.putW (m % 60) [115]
theorem w4_eq (m : Nat) : w4 m = Sp.wordsN m := by simp [w4, w3, w2, w1, Sp.wordsN]
def wAt (m k : Nat) : List (List UInt8) := if k = 0 then [] else if k = 1 then w1 m else if k = 2 then w2 m else if k = 3 then w3 m else w4 m
def restAt (m k : Nat) : Nat := if k = 0 then m else if k = 1 then m % 86400 else if k = 2 then m % 3600 else if k = 3 then m % 60 else 0

/-- the four sizes at block b -/
def Sizes (b : Nat) (w : World) : Prop := b < w.heap.size ∧ w.cell? ⟨b, 0, none⟩ = some (.int .i64 86400) ∧ w.cell? ⟨b, 1, none⟩ = some (.int .i64 3600) ∧ w.cell? ⟨b, 2, none⟩ = some (.int .i64 60) ∧ w.cell? ⟨b, 3, none⟩ = some (.int .i64 1)
theorem Sizes.below {b : Nat} {w w' : World} (h : Sizes b w) (hb : Below w.heap.size w w') : Sizes b w' :=
  ⟨Nat.lt_of_lt_of_le h.1 hb.size, (hb.cell h.1).trans h.2.1, (hb.cell h.1).trans h.2.2.1, (hb.cell h.1).trans h.2.2.2.1, (hb.cell h.1).trans h.2.2.2.2⟩

set_option maxRecDepth 100000 in
set_option maxHeartbeats 4000000 in
theorem rprint_pos (m : Nat) (h0 : 0 < m) (hm : m ≤ 6311433600) (w : World) :
    Calls Tryd.prog 11 #[.int .i64 m] w fun e w' => e = .returned (.string ⟨(Sp.joinW (Sp.wordsN m)).toArray⟩) ∧ Below w.heap.size w w' := by
  have f1 : ((m : Int) == 0) = false := by simp; omega
  have f2 : ((m : Int) == 1099511627776) = false := by simp; omega
  have f3 : ¬ (m : Int) < 0 := by omega
  have f4 : ¬ 6311433600 < (m : Int) := by omega
  go_enter Tryd.func11, Tryd.ntmps11
  go_wp2_with fail
  go_loopw [3, 4, 20] (fun sv rv iv wr => ∃ (k : Nat) (ob : ByteArray), k ≤ 4 ∧ sv = .string ob ∧ rv = .int .i64 (restAt m k : Nat) ∧ iv = .int .i64 k ∧ ob.size ≤ 20 * k ∧ Hid (ob.data.toList = behind (wAt m k)) ∧ Sizes w.heap.size wr ∧ Below w.heap.size w wr) (fun _ _ iv _ => 4 - (intOf iv).toNat)
  case atStart => exact ⟨0, ⟨#[]⟩, by omega, rfl, rfl, rfl, by decide, Lib.hid rfl, ⟨by simp, by go_simp, by go_simp, by go_simp, by go_simp⟩, (Below.refl _ _).alloc (Nat.le_refl _) _⟩
  case round =>
    obtain ⟨k, ob, hk, rfl, rfl, rfl, hos, HO, hS, hb⟩ := hrel
    match k, hk, hos, HO with
    | 0, hk, hos, HO =>
      obtain ⟨hS0, hc0, hc1, hc2, hc3⟩ := hS
      have er : restAt m 0 = m := rfl
      rw [er]
      by_cases hq : 86400 ≤ m
      · have hqi : (86400 : Int) ≤ ((m : Nat) : Int) := by omega
        have hl : (Lib.decDigits ((m) / 86400)).length ≤ 10 := Sp.dec_len _ (by omega)
        have hne : ¬ ((m) / 86400) = 0 := by omega
        have HW : Hid (behind (wAt m 1) = behind (wAt m 0) ++ (32 :: (Lib.decDigits ((m) / 86400) ++ [100]))) := Lib.hid (behind_put ([]) ((m) / 86400) [100] hne)
        have hno1 : ¬ 9223372036854775807 < 1 + (Lib.decDigits ((m) / 86400)).length := by omega
        have hno2 : ¬ 9223372036854775807 < 1 + (Lib.decDigits ((m) / 86400)).length + 1 := by omega
        have hno3 : ¬ 9223372036854775807 < ob.size + (1 + (Lib.decDigits ((m) / 86400)).length + 1) := by omega
        have hqk : (86400 : Int) ≤ (m : Int) := by omega
        clear er
        have HWR : Hid (IntKind.i64.wrap ((m : Int) / 86400) = (((m) / 86400 : Nat) : Int)) := Lib.hid (wrap_nat _ _ (by omega) (by omega))
        go_wp2_with fail
        go_region_law ((try go_simp); go_at_call 22; refine (dec_as _ ((m) / 86400) (HWR.out) (by omega) _).mono ?_; rintro e w2 ⟨rfl, rfl⟩)
        all_goals
          go_wp2
          go_roundw
          case rel => exact ⟨1, _, by omega, rfl, by show _ = Value.int .i64 ((restAt m 1 : Nat) : Int); unfold restAt <;> first | (go_num; done) | (simp; done) | (simp; omega), by go_num, by simp only [ByteArray.size_append, ByteArray.size_mk', List.size_toArray, List.length_cons, List.length_nil]; omega, Lib.hid (by rw [HW.out, ← HO.out]; simp), Sizes.below ⟨hS0, hc0, hc1, hc2, hc3⟩ (((belowQ (Below.refl _ _) 1).alloc (Nat.le_refl _) _)), (belowQ hb 1).alloc (by simp; omega) _⟩
          case measure => first | (simp [intOf]; done) | (simp [intOf]; omega)
      · have hqi : ¬ (86400 : Int) ≤ ((m : Nat) : Int) := by omega
        have hqj : ¬ (86400 : Int) ≤ (m : Int) := by omega
        have HW : Hid (behind (wAt m 1) = behind (wAt m 0)) := Lib.hid (behind_put0 ([]) ((m) / 86400) [100] (by omega))
        clear er
        go_wp2
        go_roundw
        case rel => exact ⟨1, ob, by omega, rfl, by show _ = Value.int .i64 ((restAt m 1 : Nat) : Int); unfold restAt <;> first | (go_num; done) | (simp; done) | (simp; omega), by go_num, by omega, Lib.hid (by rw [HW.out, ← HO.out]), ⟨hS0, hc0, hc1, hc2, hc3⟩, hb⟩
        case measure => first | (simp [intOf]; done) | (simp [intOf]; omega)
    | 1, hk, hos, HO =>
      obtain ⟨hS0, hc0, hc1, hc2, hc3⟩ := hS
      have er : restAt m 1 = m % 86400 := rfl
      rw [er]
      by_cases hq : 3600 ≤ m % 86400
      · have hqi : (3600 : Int) ≤ ((m % 86400 : Nat) : Int) := by omega
        have hl : (Lib.decDigits ((m % 86400) / 3600)).length ≤ 10 := Sp.dec_len _ (by omega)
        have hne : ¬ ((m % 86400) / 3600) = 0 := by omega
        have HW : Hid (behind (wAt m 2) = behind (wAt m 1) ++ (32 :: (Lib.decDigits ((m % 86400) / 3600) ++ [104]))) := Lib.hid (behind_put (w1 m) ((m % 86400) / 3600) [104] hne)
        have hno1 : ¬ 9223372036854775807 < 1 + (Lib.decDigits ((m % 86400) / 3600)).length := by omega
        have hno2 : ¬ 9223372036854775807 < 1 + (Lib.decDigits ((m % 86400) / 3600)).length + 1 := by omega
        have hno3 : ¬ 9223372036854775807 < ob.size + (1 + (Lib.decDigits ((m % 86400) / 3600)).length + 1) := by omega
        have hqk : (3600 : Int) ≤ (m : Int) % 86400 := by omega
        clear er
        have HWR : Hid (IntKind.i64.wrap ((m : Int) % 86400 / 3600) = (((m % 86400) / 3600 : Nat) : Int)) := Lib.hid (wrap_nat _ _ (by omega) (by omega))
        go_wp2_with fail
        go_region_law ((try go_simp); go_at_call 22; refine (dec_as _ ((m % 86400) / 3600) (HWR.out) (by omega) _).mono ?_; rintro e w2 ⟨rfl, rfl⟩)
        all_goals
          go_wp2
          go_roundw
          case rel => exact ⟨2, _, by omega, rfl, by show _ = Value.int .i64 ((restAt m 2 : Nat) : Int); unfold restAt <;> first | (go_num; done) | (simp; done) | (simp; omega), by go_num, by simp only [ByteArray.size_append, ByteArray.size_mk', List.size_toArray, List.length_cons, List.length_nil]; omega, Lib.hid (by rw [HW.out, ← HO.out]; simp), Sizes.below ⟨hS0, hc0, hc1, hc2, hc3⟩ (((belowQ (Below.refl _ _) 1).alloc (Nat.le_refl _) _)), (belowQ hb 1).alloc (by simp; omega) _⟩
          case measure => first | (simp [intOf]; done) | (simp [intOf]; omega)
      · have hqi : ¬ (3600 : Int) ≤ ((m % 86400 : Nat) : Int) := by omega
        have hqj : ¬ (3600 : Int) ≤ (m : Int) % 86400 := by omega
        have HW : Hid (behind (wAt m 2) = behind (wAt m 1)) := Lib.hid (behind_put0 (w1 m) ((m % 86400) / 3600) [104] (by omega))
        clear er
        go_wp2
        go_roundw
        case rel => exact ⟨2, ob, by omega, rfl, by show _ = Value.int .i64 ((restAt m 2 : Nat) : Int); unfold restAt <;> first | (go_num; done) | (simp; done) | (simp; omega), by go_num, by omega, Lib.hid (by rw [HW.out, ← HO.out]), ⟨hS0, hc0, hc1, hc2, hc3⟩, hb⟩
        case measure => first | (simp [intOf]; done) | (simp [intOf]; omega)
    | 2, hk, hos, HO =>
      obtain ⟨hS0, hc0, hc1, hc2, hc3⟩ := hS
      have er : restAt m 2 = m % 3600 := rfl
      rw [er]
      by_cases hq : 60 ≤ m % 3600
      · have hqi : (60 : Int) ≤ ((m % 3600 : Nat) : Int) := by omega
        have hl : (Lib.decDigits ((m % 3600) / 60)).length ≤ 10 := Sp.dec_len _ (by omega)
        have hne : ¬ ((m % 3600) / 60) = 0 := by omega
        have HW : Hid (behind (wAt m 3) = behind (wAt m 2) ++ (32 :: (Lib.decDigits ((m % 3600) / 60) ++ [109, 105, 110]))) := Lib.hid (behind_put (w2 m) ((m % 3600) / 60) [109, 105, 110] hne)
        have hno1 : ¬ 9223372036854775807 < 1 + (Lib.decDigits ((m % 3600) / 60)).length := by omega
        have hno2 : ¬ 9223372036854775807 < 1 + (Lib.decDigits ((m % 3600) / 60)).length + 3 := by omega
        have hno3 : ¬ 9223372036854775807 < ob.size + (1 + (Lib.decDigits ((m % 3600) / 60)).length + 3) := by omega
        have hqk : (60 : Int) ≤ (m : Int) % 3600 := by omega
        clear er
        have HWR : Hid (IntKind.i64.wrap ((m : Int) % 3600 / 60) = (((m % 3600) / 60 : Nat) : Int)) := Lib.hid (wrap_nat _ _ (by omega) (by omega))
        go_wp2_with fail
        go_region_law ((try go_simp); go_at_call 22; refine (dec_as _ ((m % 3600) / 60) (HWR.out) (by omega) _).mono ?_; rintro e w2 ⟨rfl, rfl⟩)
        all_goals
          go_wp2
          go_roundw
          case rel => exact ⟨3, _, by omega, rfl, by show _ = Value.int .i64 ((restAt m 3 : Nat) : Int); unfold restAt <;> first | (go_num; done) | (simp; done) | (simp; omega), by go_num, by simp only [ByteArray.size_append, ByteArray.size_mk', List.size_toArray, List.length_cons, List.length_nil]; omega, Lib.hid (by rw [HW.out, ← HO.out]; simp), Sizes.below ⟨hS0, hc0, hc1, hc2, hc3⟩ (((belowQ (Below.refl _ _) 1).alloc (Nat.le_refl _) _)), (belowQ hb 1).alloc (by simp; omega) _⟩
          case measure => first | (simp [intOf]; done) | (simp [intOf]; omega)
      · have hqi : ¬ (60 : Int) ≤ ((m % 3600 : Nat) : Int) := by omega
        have hqj : ¬ (60 : Int) ≤ (m : Int) % 3600 := by omega
        have HW : Hid (behind (wAt m 3) = behind (wAt m 2)) := Lib.hid (behind_put0 (w2 m) ((m % 3600) / 60) [109, 105, 110] (by omega))
        clear er
        go_wp2
        go_roundw
        case rel => exact ⟨3, ob, by omega, rfl, by show _ = Value.int .i64 ((restAt m 3 : Nat) : Int); unfold restAt <;> first | (go_num; done) | (simp; done) | (simp; omega), by go_num, by omega, Lib.hid (by rw [HW.out, ← HO.out]), ⟨hS0, hc0, hc1, hc2, hc3⟩, hb⟩
        case measure => first | (simp [intOf]; done) | (simp [intOf]; omega)
    | 3, hk, hos, HO =>
      obtain ⟨hS0, hc0, hc1, hc2, hc3⟩ := hS
      have er : restAt m 3 = m % 60 := rfl
      rw [er]
      by_cases hq : 1 ≤ m % 60
      · have hqi : (1 : Int) ≤ ((m % 60 : Nat) : Int) := by omega
        have hl : (Lib.decDigits ((m % 60))).length ≤ 10 := Sp.dec_len _ (by omega)
        have hne : ¬ ((m % 60)) = 0 := by omega
        have HW : Hid (behind (wAt m 4) = behind (wAt m 3) ++ (32 :: (Lib.decDigits ((m % 60)) ++ [115]))) := Lib.hid (behind_put (w3 m) ((m % 60)) [115] hne)
        have hno1 : ¬ 9223372036854775807 < 1 + (Lib.decDigits ((m % 60))).length := by omega
        have hno2 : ¬ 9223372036854775807 < 1 + (Lib.decDigits ((m % 60))).length + 1 := by omega
        have hno3 : ¬ 9223372036854775807 < ob.size + (1 + (Lib.decDigits ((m % 60))).length + 1) := by omega
        have hqk : (1 : Int) ≤ (m : Int) % 60 := by omega
        clear er
        have HWR : Hid (IntKind.i64.wrap ((m : Int) % 60) = (((m % 60) : Nat) : Int)) := Lib.hid (wrap_nat _ _ (by omega) (by omega))
        go_wp2_with fail
        go_region_law ((try go_simp); go_at_call 22; refine (dec_as _ ((m % 60)) (HWR.out) (by omega) _).mono ?_; rintro e w2 ⟨rfl, rfl⟩)
        all_goals
          go_wp2
          go_roundw
          case rel => exact ⟨4, _, by omega, rfl, by show _ = Value.int .i64 ((restAt m 4 : Nat) : Int); unfold restAt <;> first | (go_num; done) | (simp; done) | (simp; omega), by go_num, by simp only [ByteArray.size_append, ByteArray.size_mk', List.size_toArray, List.length_cons, List.length_nil]; omega, Lib.hid (by rw [HW.out, ← HO.out]; simp), Sizes.below ⟨hS0, hc0, hc1, hc2, hc3⟩ (((belowQ (Below.refl _ _) 1).alloc (Nat.le_refl _) _)), (belowQ hb 1).alloc (by simp; omega) _⟩
          case measure => first | (simp [intOf]; done) | (simp [intOf]; omega)
      · have hqi : ¬ (1 : Int) ≤ ((m % 60 : Nat) : Int) := by omega
        have hqj : ¬ (1 : Int) ≤ (m : Int) % 60 := by omega
        have HW : Hid (behind (wAt m 4) = behind (wAt m 3)) := Lib.hid (behind_put0 (w3 m) ((m % 60)) [115] (by omega))
        clear er
        go_wp2
        go_roundw
        case rel => exact ⟨4, ob, by omega, rfl, by show _ = Value.int .i64 ((restAt m 4 : Nat) : Int); unfold restAt <;> first | (go_num; done) | (simp; done) | (simp; omega), by go_num, by omega, Lib.hid (by rw [HW.out, ← HO.out]), ⟨hS0, hc0, hc1, hc2, hc3⟩, hb⟩
        case measure => first | (simp [intOf]; done) | (simp [intOf]; omega)
    | 4, hk, hos, HO =>
      have hne := Sp.words_some m (by omega)
      have HJ : Hid (ob.data.toList = 32 :: Sp.joinW (Sp.wordsN m)) := Lib.hid (by rw [HO.out]; show behind (w4 m) = _; rw [w4_eq, behind_join _ hne])
      have hsz : 1 ≤ ob.size := by have h1 : ob.data.toList.length = ob.size := by simp
                                   rw [HJ.out] at h1; simp at h1; omega
      have hszi : (1 : Int) ≤ (ob.size : Int) := by omega
      clear hne
      go_wp2
      go_ret
      exact ⟨ret_str (ba_of _ _ (by rw [ext_drop, HJ.out]; rfl)), hb⟩
    | k + 5, hk, _, _ => exact absurd hk (by omega)

end Go.Proofs.YtnfbhhffclahjaaDoor
