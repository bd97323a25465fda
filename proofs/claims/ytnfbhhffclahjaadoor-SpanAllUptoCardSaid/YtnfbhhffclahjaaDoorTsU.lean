/-
  The walk of the law that what is written is read as it was.
-/
import Derived.Test.YtnfbhhffclahjaaDoorTsT
namespace Go.Proofs.YtnfbhhffclahjaaDoor
open Go.RowKit Go.Lib Go.Sort

theorem printL_len (n : Int) : (Sp.printL n).length ≤ 400 := by
  unfold Sp.printL
  split
  · decide
  split
  · simp
  split
  · simp
  · exact words_len _ (by omega)

set_option maxHeartbeats 4000000 in
theorem spanTurn_u (a b : Int) (w : World) (ha1 : -9223372036854775808 ≤ a) (ha2 : a ≤ 9223372036854775807) (hb1 : -9223372036854775808 ≤ b) (hb2 : b ≤ 9223372036854775807) (HT : Hid (Tab w.heap.size w)) :
    Calls Tryd.prog 4 #[.int .i64 a, .int .i64 b] w fun e w' => e = .returned (.bool true) ∧ Below w.heap.size w w' := by
  have hlen := printL_len a
  cases hm : Sp.mayS a with
  | false =>
    have hp := Sp.print_not a hm
    have hn1 : (¬ (0 ≤ a)) ∨ ¬ a ≤ 6311433600 := by
      unfold Sp.mayS at hm
      simp only [Bool.or_eq_false_iff, Bool.and_eq_false_iff, decide_eq_false_iff_not] at hm
      exact hm.1
    have hn2 : (a == 1099511627776) = false := by
      unfold Sp.mayS at hm
      simp only [Bool.or_eq_false_iff, decide_eq_false_iff_not] at hm
      simpa using hm.2
    have HP := Lib.hid hp
    clear hp hm hlen
    go_enter Tryd.func4, Tryd.ntmps4
    go_wp2_with fail
    refine (shown_any _ HT).mono ?_
    rintro e w1 ⟨rfl, hbw⟩
    go_wp2_with fail
    refine (print_any a _ ha1 ha2 (tab_next HT hbw)).mono ?_
    rintro e w2 ⟨rfl, hbw2⟩
    rw [HP.out]
    have hbb := hbw.trans (hbw2.mono hbw.size)
    clear hbw hbw2
    rcases hn1 with h | h
    all_goals
      go_wp2_with fail
      refine (parse_any _ _ (by decide)).mono ?_
      rintro e w3 ⟨rfl, hbw3⟩
      rw [show Sp.parseL _ = (0, false) from Sp.parse_empty]
      simp only [spanE]
      have hbb3 := hbb.trans (hbw3.mono hbb.size)
      clear hbb hbw3
      go_wp2
      go_ret
      exact ⟨rfl, hbb3⟩
  | true =>
    obtain ⟨hp1, hp2⟩ := Sp.print_parse a hm
    have hinj := Sp.print_inj a b hm
    have hn1 : (0 ≤ a ∧ a ≤ 6311433600) ∨ (¬ a ≤ 6311433600 ∧ (a == 1099511627776) = true) := by
      unfold Sp.mayS at hm
      simp only [Bool.or_eq_true, Bool.and_eq_true, decide_eq_true_eq] at hm
      rcases hm with h | h
      · exact .inl h
      · exact .inr ⟨by omega, by simpa using h⟩
    have ha0 : 0 ≤ a := by
      rcases hn1 with h | h
      · exact h.1
      · omega
    have HNAT : Hid (((a.toNat : Nat) : Int) = a) := Lib.hid (by omega)
    have hem : (Sp.printL a).isEmpty = false := by simpa using hp2
    generalize hpa : Sp.printL a = pa at *
    have HPA := Lib.hid hpa
    clear hpa
    have HP1 := Lib.hid hp1
    have hE1 : (a != a) = false := by simp
    have hfin : ((a == b) = true ∧ (Sp.printL b == pa) = true) ∨ ((a == b) = false ∧ (Sp.printL b == pa) = false) := by
      by_cases h : a = b
      · exact .inl ⟨by simpa using h, by simpa using hinj.2 h⟩
      · exact .inr ⟨by simpa using h, by simp; exact fun q => h (hinj.1 q)⟩
    generalize hpb : Sp.printL b = pb at *
    have HPB := Lib.hid hpb
    clear hp1 hp2 hinj hm hpb
    go_enter Tryd.func4, Tryd.ntmps4
    go_wp2_with fail
    refine (shown_any _ HT).mono ?_
    rintro e w1 ⟨rfl, hbw⟩
    go_wp2_with fail
    refine (print_any a _ ha1 ha2 (tab_next HT hbw)).mono ?_
    rintro e w2 ⟨rfl, hbw2⟩
    rw [HPA.out]
    have hbb := hbw.trans (hbw2.mono hbw.size)
    clear hbw hbw2
    have hps : (ByteArray.mk pa.toArray).size ≤ 4294967296 := by show pa.length ≤ _; omega
    rcases hn1 with ⟨h1, h2⟩ | ⟨h1, h2⟩
    all_goals
      go_wp2_with fail
      refine (parse_any ⟨pa.toArray⟩ _ hps).mono ?_
      rintro e w3 ⟨rfl, hbw3⟩
      rw [show (ByteArray.mk pa.toArray).data.toList = pa from rfl, HP1.out]
      simp only [spanE]
      rw [HNAT.out]
      have hbb3 := hbb.trans (hbw3.mono hbb.size)
      clear hbw3
      go_wp2_with fail
      refine (print_any b _ hb1 hb2 (tab_next HT hbb3)).mono ?_
      rintro e w4 ⟨rfl, hbw4⟩
      rw [HPB.out]
      have hbb4 := hbb3.trans (hbw4.mono hbb3.size)
      rcases hfin with ⟨f1, f2⟩ | ⟨f1, f2⟩
      all_goals
        go_wp2
        go_ret
        exact ⟨rfl, hbb4⟩

end Go.Proofs.YtnfbhhffclahjaaDoor
