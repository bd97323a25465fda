/-
  Bytes of commands' words: which part, which are bad, what a backslash stands for: the program's walks.
-/
import Derived.Test.YtijfeeiplljnjaaGreatDoorUc
import Derived.Test.YtijfeeiplljnjaaGreatDoorNm8
import Derived.Test.YtijfeeiplljnjaaGreatDoorNm9
namespace Go.Proofs.YtijfeeiplljnjaaGreatDoor
open Go.RowKit

theorem byte_is (c k : UInt8) : ((c.toNat : Int) == (k.toNat : Int)) = decide (c = k) := by
  rw [Bool.eq_iff_iff]
  simp [← UInt8.toNat_inj]
  omega
theorem ud_ge (c : UInt8) : decide (0 ≤ Lib.indexByte [32, 9] c) = Sp.blankC c := by
  have h : ∀ n : Fin 256, decide (0 ≤ Lib.indexByte [32, 9] (UInt8.ofNat n.val)) = Sp.blankC (UInt8.ofNat n.val) := by decide +kernel
  simpa using h ⟨c.toNat, c.toNat_lt⟩
theorem blank_any (c : UInt8) (b : Bool) (hb : Sp.blankC c = b) (w : World) :
    Calls Tryz.prog 61 #[.int .u8 c.toNat] w fun e w' => e = .returned (.bool b) ∧ w' = w := by
  have HI := Lib.hid (Tryz.strings_IndexByte ⟨#[32, 9]⟩ c.toNat w)
  have e2 : ((c.toNat : Int).toNat).toUInt8 = c := by simp
  rw [e2] at HI
  obtain ⟨v, hv⟩ : ∃ v, Lib.indexByte [32, 9] c = v := ⟨_, rfl⟩
  have HB := Lib.hid (hb.symm.trans ((ud_ge c).symm.trans (by rw [hv])) : b = decide (0 ≤ v))
  have HV := Lib.hid hv
  clear hb hv e2
  go_enter Tryz.func61, Tryz.ntmps61
  go_wp2_with fail
  refine HI.out.mono ?_
  rintro e w' ⟨rfl, rfl⟩
  rw [show Lib.indexByte (ByteArray.mk #[32, 9]).data.toList c = v from HV.out]
  go_wp2
  go_ret
  exact ⟨ret_bool HB.out.symm, rfl⟩
set_option maxHeartbeats 400000 in
theorem bad_any (c : UInt8) (b : Bool) (hb : Sp.badC c = b) (w : World) :
    Calls Tryz.prog 86 #[.int .u8 c.toNat] w fun e w' => e = .returned (.bool b) ∧ w' = w := by
  have h9 : ((c.toNat : Int) == 9) = decide (c = 9) := byte_is c 9
  have h127 : ((c.toNat : Int) == 127) = decide (c = 127) := byte_is c 127
  have hl : decide ((c.toNat : Int) < 32) = decide (c.toNat < 32) := decide_eq_decide.2 (by omega)
  have HB : Hid ((decide ((c.toNat : Int) < 32) && !((c.toNat : Int) == 9) || ((c.toNat : Int) == 127)) = b) := Lib.hid (by
    rw [← hb, h9, h127, hl]; rfl)
  clear h9 h127 hl hb
  go_enter Tryz.func86, Tryz.ntmps86
  go_wp2
  all_goals
    go_ret
    exact ⟨ret_bool (by rw [← HB.out, Bool.eq_iff_iff]; simp; try omega), rfl⟩

/-- what is left of a backslash, as the program hands it: the byte, how many bytes with the backslash -/
def escV : Option (UInt8 × Nat) → Nat × Nat
  | none => (0, 0)
  | some (b, m) => (b.toNat, m + 1)
theorem esc_drop (s : ByteArray) (c : UInt8) (t : List UInt8) (h : s.data.toList.drop 1 = c :: t) : ∃ h1 : 1 < s.size, s[1] = c ∧ (s.extract 2 s.size).data.toList = t := by
  have hz : s.data.toList.length = s.size := by simp
  have h1 : 1 < s.size := by
    have := congrArg List.length h
    rw [List.length_drop] at this
    simp at this; omega
  refine ⟨h1, ?_, ?_⟩
  · have g := List.drop_eq_getElem_cons (l := s.data.toList) (i := 1) (by omega)
    rw [h] at g
    injection g with g1 g2
    rw [g1]; simp [ByteArray.getElem_eq_getElem_data]
  · have e : t = s.data.toList.drop 2 := by
      have : (s.data.toList.drop 1).drop 1 = t := by rw [h]; rfl
      rw [List.drop_drop] at this
      exact this.symm
    rw [e]
    have hz2 : s.data.size = s.size := rfl
    simp [ByteArray.data_extract, Array.toList_extract, List.extract]
    exact List.take_of_length_le (by rw [List.length_drop]; simp)

set_option maxHeartbeats 1000000 in
theorem escape_any' (s : ByteArray) (x : Option (UInt8 × Nat)) (hx : Sp.escS (s.data.toList.drop 1) = x) (hs : s.size ≤ 140737488355328) (w : World) :
    Calls Tryz.prog 87 #[.string s] w fun e w' => e = .returned (.tuple #[.int .u8 ((escV x).1 : Nat), .int .i64 ((escV x).2 : Nat)]) ∧ ∃ n, w' = w.drewN n := by
  match hl : s.data.toList.drop 1 with
  | [] =>
    have h2 : (s.size : Int) < 2 := by
      have := congrArg List.length hl
      rw [List.length_drop] at this
      simp at this; omega
    rw [hl] at hx
    have e : x = none := hx.symm
    subst e
    clear hl hx
    go_enter Tryz.func87, Tryz.ntmps87
    go_wp2
    go_ret2
    exact ⟨rfl, 0, rfl⟩
  | c :: t =>
    obtain ⟨h1, hc, ht⟩ := esc_drop s c t hl
    rw [hl] at hx
    clear hl
    have h2 : ¬ (s.size : Int) < 2 := by omega
    have h3 : (1 : Int) < (s.size : Int) := by omega
    have h4 : (2 : Int) ≤ (s.size : Int) := by omega
    by_cases g92 : c = 92
    · have f92 : ((s[1].toNat : Int) == 92) = true := by rw [hc]; exact (byte_is c 92).trans (decide_eq_true g92)
      have e : x = some (c, 1) := by
        rw [← hx, g92]; rfl
      subst e
      have HC : Hid ((s[1]).toNat = c.toNat) := Lib.hid (by rw [hc])
      clear hx hc ht g92
      go_enter Tryz.func87, Tryz.ntmps87
      go_wp2
      go_ret2
      exact ⟨by rw [HC.out]; rfl, 0, rfl⟩
    · skip
      by_cases g34 : c = 34
      · have f92 : ((s[1].toNat : Int) == 92) = false := by rw [hc]; exact (byte_is c 92).trans (decide_eq_false g92)
        have f34 : ((s[1].toNat : Int) == 34) = true := by rw [hc]; exact (byte_is c 34).trans (decide_eq_true g34)
        have e : x = some (c, 1) := by
          rw [← hx, g34]; rfl
        subst e
        have HC : Hid ((s[1]).toNat = c.toNat) := Lib.hid (by rw [hc])
        clear hx hc ht g34
        go_enter Tryz.func87, Tryz.ntmps87
        go_wp2
        go_ret2
        exact ⟨by rw [HC.out]; rfl, 0, rfl⟩
      · skip
        by_cases g39 : c = 39
        · have f92 : ((s[1].toNat : Int) == 92) = false := by rw [hc]; exact (byte_is c 92).trans (decide_eq_false g92)
          have f34 : ((s[1].toNat : Int) == 34) = false := by rw [hc]; exact (byte_is c 34).trans (decide_eq_false g34)
          have f39 : ((s[1].toNat : Int) == 39) = true := by rw [hc]; exact (byte_is c 39).trans (decide_eq_true g39)
          have e : x = some (c, 1) := by
            rw [← hx, g39]; rfl
          subst e
          have HC : Hid ((s[1]).toNat = c.toNat) := Lib.hid (by rw [hc])
          clear hx hc ht g39
          go_enter Tryz.func87, Tryz.ntmps87
          go_wp2
          go_ret2
          exact ⟨by rw [HC.out]; rfl, 0, rfl⟩
        · skip
          by_cases g110 : c = 110
          · have f92 : ((s[1].toNat : Int) == 92) = false := by rw [hc]; exact (byte_is c 92).trans (decide_eq_false g92)
            have f34 : ((s[1].toNat : Int) == 34) = false := by rw [hc]; exact (byte_is c 34).trans (decide_eq_false g34)
            have f39 : ((s[1].toNat : Int) == 39) = false := by rw [hc]; exact (byte_is c 39).trans (decide_eq_false g39)
            have f110 : ((s[1].toNat : Int) == 110) = true := by rw [hc]; exact (byte_is c 110).trans (decide_eq_true g110)
            have e : x = some (10, 1) := by
              rw [← hx, g110]; rfl
            subst e
            have HC : Hid ((s[1]).toNat = c.toNat) := Lib.hid (by rw [hc])
            clear hx hc ht g110
            go_enter Tryz.func87, Tryz.ntmps87
            go_wp2
            go_ret2
            exact ⟨rfl, 0, rfl⟩
          · skip
            by_cases g116 : c = 116
            · have f92 : ((s[1].toNat : Int) == 92) = false := by rw [hc]; exact (byte_is c 92).trans (decide_eq_false g92)
              have f34 : ((s[1].toNat : Int) == 34) = false := by rw [hc]; exact (byte_is c 34).trans (decide_eq_false g34)
              have f39 : ((s[1].toNat : Int) == 39) = false := by rw [hc]; exact (byte_is c 39).trans (decide_eq_false g39)
              have f110 : ((s[1].toNat : Int) == 110) = false := by rw [hc]; exact (byte_is c 110).trans (decide_eq_false g110)
              have f116 : ((s[1].toNat : Int) == 116) = true := by rw [hc]; exact (byte_is c 116).trans (decide_eq_true g116)
              have e : x = some (9, 1) := by
                rw [← hx, g116]; rfl
              subst e
              have HC : Hid ((s[1]).toNat = c.toNat) := Lib.hid (by rw [hc])
              clear hx hc ht g116
              go_enter Tryz.func87, Tryz.ntmps87
              go_wp2
              go_ret2
              exact ⟨rfl, 0, rfl⟩
            · skip
              by_cases g115 : c = 115
              · have f92 : ((s[1].toNat : Int) == 92) = false := by rw [hc]; exact (byte_is c 92).trans (decide_eq_false g92)
                have f34 : ((s[1].toNat : Int) == 34) = false := by rw [hc]; exact (byte_is c 34).trans (decide_eq_false g34)
                have f39 : ((s[1].toNat : Int) == 39) = false := by rw [hc]; exact (byte_is c 39).trans (decide_eq_false g39)
                have f110 : ((s[1].toNat : Int) == 110) = false := by rw [hc]; exact (byte_is c 110).trans (decide_eq_false g110)
                have f116 : ((s[1].toNat : Int) == 116) = false := by rw [hc]; exact (byte_is c 116).trans (decide_eq_false g116)
                have f115 : ((s[1].toNat : Int) == 115) = true := by rw [hc]; exact (byte_is c 115).trans (decide_eq_true g115)
                have e : x = some (32, 1) := by
                  rw [← hx, g115]; rfl
                subst e
                have HC : Hid ((s[1]).toNat = c.toNat) := Lib.hid (by rw [hc])
                clear hx hc ht g115
                go_enter Tryz.func87, Tryz.ntmps87
                go_wp2
                go_ret2
                exact ⟨rfl, 0, rfl⟩
              · skip
                have f92 : ((s[1].toNat : Int) == 92) = false := by rw [hc]; exact (byte_is c 92).trans (decide_eq_false g92)
                have f34 : ((s[1].toNat : Int) == 34) = false := by rw [hc]; exact (byte_is c 34).trans (decide_eq_false g34)
                have f39 : ((s[1].toNat : Int) == 39) = false := by rw [hc]; exact (byte_is c 39).trans (decide_eq_false g39)
                have f110 : ((s[1].toNat : Int) == 110) = false := by rw [hc]; exact (byte_is c 110).trans (decide_eq_false g110)
                have f116 : ((s[1].toNat : Int) == 116) = false := by rw [hc]; exact (byte_is c 116).trans (decide_eq_false g116)
                have f115 : ((s[1].toNat : Int) == 115) = false := by rw [hc]; exact (byte_is c 115).trans (decide_eq_false g115)
                by_cases g120 : c = 120
                · have f120 : ((s[1].toNat : Int) == 120) = true := by rw [hc]; exact (byte_is c 120).trans (decide_eq_true g120)
                  have HT := Lib.hid (two_any (s.extract 2 s.size) w)
                  rw [ht] at HT
                  have HX : Hid ((if (Sp.twoL t).2 = true ∧ (Sp.twoL t).1 ≠ 0 then some ((Sp.twoL t).1, 3) else none) = x) := Lib.hid (by rw [← hx, g120]; rfl)
                  clear hx hc ht g120
                  generalize Sp.twoL t = z at *
                  obtain ⟨b, y⟩ := z
                  simp only at HT HX
                  cases y with
                  | false =>
                    have e : x = none := by rw [← HX.out]; rfl
                    subst e
                    go_enter Tryz.func87, Tryz.ntmps87
                    go_wp2_with fail
                    refine HT.out.mono ?_
                    rintro e w' ⟨rfl, n, rfl⟩
                    go_wp2
                    go_ret2
                    exact ⟨rfl, n, rfl⟩
                  | true =>
                    by_cases h0 : b = 0
                    · have f0 : ((b.toNat : Int) == 0) = true := (byte_is b 0).trans (decide_eq_true h0)
                      have e : x = none := by rw [← HX.out, if_neg (fun e => e.2 h0)]
                      subst e
                      clear h0
                      go_enter Tryz.func87, Tryz.ntmps87
                      go_wp2_with fail
                      refine HT.out.mono ?_
                      rintro e w' ⟨rfl, n, rfl⟩
                      go_wp2
                      go_ret2
                      exact ⟨rfl, n, rfl⟩
                    · have f0 : ((b.toNat : Int) == 0) = false := (byte_is b 0).trans (decide_eq_false h0)
                      have e : x = some (b, 3) := by rw [← HX.out, if_pos ⟨rfl, h0⟩]
                      subst e
                      clear h0
                      go_enter Tryz.func87, Tryz.ntmps87
                      go_wp2_with fail
                      refine HT.out.mono ?_
                      rintro e w' ⟨rfl, n, rfl⟩
                      go_wp2
                      go_ret2
                      exact ⟨rfl, n, rfl⟩
                · have f120 : ((s[1].toNat : Int) == 120) = false := by rw [hc]; exact (byte_is c 120).trans (decide_eq_false g120)
                  have e : x = none := by
                    rw [← hx, Sp.escS, if_neg (by rintro (e | e | e); exact g92 e; exact g34 e; exact g39 e), if_neg g110, if_neg g116, if_neg g115, if_neg g120]
                  subst e
                  clear hx hc ht
                  go_enter Tryz.func87, Tryz.ntmps87
                  go_wp2
                  go_ret2
                  exact ⟨rfl, 0, rfl⟩

end Go.Proofs.YtijfeeiplljnjaaGreatDoor
