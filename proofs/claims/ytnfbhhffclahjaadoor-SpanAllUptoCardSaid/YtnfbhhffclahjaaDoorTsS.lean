/-
  The walks of sums of spans, and of what the laws of spans show.
-/
import Derived.Test.YtnfbhhffclahjaaDoorTsR
namespace Go.Proofs.YtnfbhhffclahjaaDoor
open Go.RowKit Go.Lib Go.Sort

theorem held_any (n : Int) (w : World) (h1 : -9223372036854775808 ≤ n) (h2 : n ≤ 9223372036854775807) :
    Calls Tryd.prog 23 #[.int .i64 n] w fun e w' => e = .returned (.int .i64 (Sp.heldI n)) ∧ w = w' := by
  unfold Sp.heldI
  by_cases h : 6311433600 < n
  · rw [if_pos h]
    go_enter Tryd.func23, Tryd.ntmps23
    go_wp2
    go_ret
    exact ⟨rfl, rfl⟩
  · rw [if_neg h]
    by_cases h0 : n < 0
    · rw [if_pos h0]
      go_enter Tryd.func23, Tryd.ntmps23
      go_wp2
      go_ret
      exact ⟨by first | rfl | (simp; omega) | (congr 2; omega), rfl⟩
    · rw [if_neg h0]
      go_enter Tryd.func23, Tryd.ntmps23
      go_wp2
      go_ret
      exact ⟨by first | rfl | (simp; omega) | (congr 2; omega), rfl⟩
theorem rheld_any (n : Int) (w : World) (h1 : -9223372036854775808 ≤ n) (h2 : n ≤ 9223372036854775807) :
    Calls Tryd.prog 24 #[.int .i64 n] w fun e w' => e = .returned (.int .i64 (Sp.heldI n)) ∧ w = w' := by
  unfold Sp.heldI
  by_cases h : 6311433600 < n
  · rw [if_pos h]
    have h0 : ¬ n < 0 := by omega
    go_enter Tryd.func24, Tryd.ntmps24
    go_wp2
    go_ret
    exact ⟨rfl, rfl⟩
  · rw [if_neg h]
    by_cases h0 : n < 0
    · rw [if_pos h0]
      go_enter Tryd.func24, Tryd.ntmps24
      go_wp2
      go_ret
      exact ⟨rfl, rfl⟩
    · rw [if_neg h0]
      go_enter Tryd.func24, Tryd.ntmps24
      go_wp2
      go_ret
      exact ⟨rfl, rfl⟩

theorem sum_any (a b : Int) (w : World) (h1 : -9223372036854775808 ≤ a) (h2 : a ≤ 9223372036854775807) (h3 : -9223372036854775808 ≤ b) (h4 : b ≤ 9223372036854775807) :
    Calls Tryd.prog 12 #[.int .i64 a, .int .i64 b] w fun e w' => e = .returned (.int .i64 (Sp.sumI a b)) ∧ w = w' := by
  have ha := Sp.held_le a
  have hb := Sp.held_le b
  go_enter Tryd.func12, Tryd.ntmps12
  go_wp2_with fail
  refine (held_any a w h1 h2).mono ?_
  rintro e w' ⟨rfl, rfl⟩
  go_wp2_with fail
  refine (held_any b w h3 h4).mono ?_
  rintro e w' ⟨rfl, rfl⟩
  go_wp2_with fail
  refine (held_any (Sp.heldI a + Sp.heldI b) w (by omega) (by omega)).mono ?_
  rintro e w' ⟨rfl, rfl⟩
  go_wp2
  go_ret
  exact ⟨rfl, rfl⟩
theorem rsum_any (a b : Int) (w : World) (h1 : -9223372036854775808 ≤ a) (h2 : a ≤ 9223372036854775807) (h3 : -9223372036854775808 ≤ b) (h4 : b ≤ 9223372036854775807) :
    Calls Tryd.prog 13 #[.int .i64 a, .int .i64 b] w fun e w' => e = .returned (.int .i64 (Sp.sumI a b)) ∧ w = w' := by
  have ha := Sp.held_le a
  have hb := Sp.held_le b
  go_enter Tryd.func13, Tryd.ntmps13
  go_wp2_with fail
  refine (rheld_any a w h1 h2).mono ?_
  rintro e w' ⟨rfl, rfl⟩
  go_wp2_with fail
  refine (rheld_any b w h3 h4).mono ?_
  rintro e w' ⟨rfl, rfl⟩
  go_wp2_with fail
  refine (rheld_any (Sp.heldI a + Sp.heldI b) w (by omega) (by omega)).mono ?_
  rintro e w' ⟨rfl, rfl⟩
  go_wp2
  go_ret
  exact ⟨rfl, rfl⟩

theorem tab_next {W w : World} (HT : Hid (Tab W.heap.size W)) (hb : Below W.heap.size W w) : Hid (Tab w.heap.size w) :=
  Lib.hid fun w' h => HT.out w' (hb.trans (h.mono hb.size))

theorem shown_words : Sp.wordsN 93784 = [[49, 100], [50, 104], [51, 109, 105, 110], [52, 115]] := by
  unfold Sp.wordsN Sp.putW
  simp only [show 93784 / 86400 = 1 from rfl, show 93784 % 86400 / 3600 = 2 from rfl, show 93784 % 3600 / 60 = 3 from rfl, show 93784 % 60 = 4 from rfl]
  rw [Lib.decDigits_one (by omega), Lib.decDigits_one (by omega), Lib.decDigits_one (by omega), Lib.decDigits_one (by omega)]
  rfl
theorem shown_print : Sp.printL 93784 = [49, 100, 32, 50, 104, 32, 51, 109, 105, 110, 32, 52, 115] := by
  unfold Sp.printL
  rw [if_neg (by decide), if_neg (by decide), if_neg (by decide)]
  show Sp.joinW (Sp.wordsN 93784) = _
  rw [shown_words]
  rfl

set_option maxHeartbeats 2000000 in
theorem shown_any (w : World) (HT : Hid (Tab w.heap.size w)) : Calls Tryd.prog 7 #[] w fun e w' => e = .returned (.bool true) ∧ Below w.heap.size w w' := by
  go_enter Tryd.func7, Tryd.ntmps7
  go_wp2_with fail
  refine (parse_any _ _ (by decide)).mono ?_
  rintro e w1 ⟨rfl, hb1⟩
  rw [show Sp.parseL _ = (5405, true) from by decide +kernel]
  simp only [spanE]
  go_wp2_with fail
  refine (parse_any _ _ (by decide)).mono ?_
  rintro e w2 ⟨rfl, hb2⟩
  rw [show Sp.parseL _ = (0, false) from by decide +kernel]
  simp only [spanE]
  go_wp2_with fail
  refine (parse_any _ _ (by decide)).mono ?_
  rintro e w3 ⟨rfl, hb3⟩
  rw [show Sp.parseL _ = (1099511627776, true) from by decide +kernel]
  simp only [spanE]
  have hbb := (hb1.trans (hb2.mono hb1.size)).trans (hb3.mono (Nat.le_trans hb1.size hb2.size))
  clear hb1 hb2 hb3
  go_wp2_with fail
  refine (print_any 93784 _ (by decide) (by decide) (tab_next HT hbb)).mono ?_
  rintro e w4 ⟨rfl, hb4⟩
  rw [shown_print]
  have hbb4 := hbb.trans (hb4.mono hbb.size)
  go_wp2_with fail
  refine (print_any 0 _ (by decide) (by decide) (tab_next HT hbb4)).mono ?_
  rintro e w5 ⟨rfl, hb5⟩
  rw [show Sp.printL 0 = [48] from rfl]
  have hbb5 := hbb4.trans (hb5.mono hbb4.size)
  go_wp2_with fail
  refine (sum_any 2 3 _ (by decide) (by decide) (by decide) (by decide)).mono ?_
  rintro e w6 ⟨rfl, rfl⟩
  rw [show Sp.sumI 2 3 = 5 from rfl]
  go_wp2
  go_ret
  exact ⟨rfl, hbb5⟩

end Go.Proofs.YtnfbhhffclahjaaDoor
