/-
  The walk of the law that the code and the document agree on spans.
-/
import Derived.Test.YtnfbhhffclahjaaDoorTsD
namespace Go.Proofs.YtnfbhhffclahjaaDoor
open Go.RowKit Go.Lib Go.Sort

theorem rprint_any (n : Int) (w : World) (h1 : -9223372036854775808 ≤ n) (h2 : n ≤ 9223372036854775807) :
    Calls Tryd.prog 11 #[.int .i64 n] w fun e w' => e = .returned (.string ⟨(Sp.printL n).toArray⟩) ∧ Below w.heap.size w w' := by
  by_cases hE : n = 1099511627776
  · subst hE
    go_enter Tryd.func11, Tryd.ntmps11
    go_wp2
    go_ret
    exact ⟨rfl, Below.refl _ _⟩
  by_cases hN : n < 0 ∨ 6311433600 < n
  · have e : Sp.printL n = [] := by unfold Sp.printL; rw [if_neg hE, if_pos hN]
    rw [e]
    have hEb : (n == 1099511627776) = false := by simpa using hE
    clear e hE
    rcases hN with hN | hN
    · go_enter Tryd.func11, Tryd.ntmps11
      go_wp2
      go_ret
      exact ⟨rfl, Below.refl _ _⟩
    · have hn0 : ¬ n < 0 := by omega
      go_enter Tryd.func11, Tryd.ntmps11
      go_wp2
      go_ret
      exact ⟨rfl, Below.refl _ _⟩
  by_cases h0 : n = 0
  · subst h0
    go_enter Tryd.func11, Tryd.ntmps11
    go_wp2
    go_ret
    exact ⟨rfl, Below.refl _ _⟩
  · have e : Sp.printL n = Sp.joinW (Sp.wordsN n.toNat) := by unfold Sp.printL; rw [if_neg hE, if_neg hN, if_neg h0]
    rw [e]
    have hn : ((n.toNat : Nat) : Int) = n := by omega
    have := rprint_pos n.toNat (by omega) (by omega) w
    rw [hn] at this
    exact this

set_option maxHeartbeats 2000000 in
theorem spanAll_u (s : ByteArray) (a b : Int) (w : World) (hs : s.size ≤ 1048576) (ha1 : -9223372036854775808 ≤ a) (ha2 : a ≤ 9223372036854775807) (hb1 : -9223372036854775808 ≤ b) (hb2 : b ≤ 9223372036854775807) (HT : Hid (Tab w.heap.size w)) :
    Calls Tryd.prog 3 #[.string s, .int .i64 a, .int .i64 b] w fun e w' => e = .returned (.bool true) ∧ Below w.heap.size w w' := by
  generalize hp : Sp.parseL s.data.toList = p
  obtain ⟨x, ok⟩ := p
  have HP := Lib.hid hp
  generalize hq : Sp.printL a = pa
  have HPA := Lib.hid hq
  generalize hsum : Sp.sumI a b = sm
  have HSM := Lib.hid hsum
  have e1 : ((x : Int) == (x : Int)) = true := by simp
  have e2 : (pa == pa) = true := by simp
  have e3 : (sm == sm) = true := by simp
  have e4 : (ok == ok) = true := by simp
  clear hp hq hsum
  go_enter Tryd.func3, Tryd.ntmps3
  go_wp2_with fail
  refine (shown_any _ HT).mono ?_
  rintro e w1 ⟨rfl, hbw1⟩
  go_wp2_with fail
  refine (parse_any s _ (by omega)).mono ?_
  rintro e w2 ⟨rfl, hbw2⟩
  rw [HP.out]
  simp only [spanE]
  go_wp2_with fail
  refine (rspan_any s _ (by omega)).mono ?_
  rintro e w3 ⟨rfl, hbw3⟩
  rw [HP.out]
  simp only [spanE]
  have hbb3 := (hbw1.trans (hbw2.mono hbw1.size)).trans (hbw3.mono (Nat.le_trans hbw1.size hbw2.size))
  clear hbw1 hbw2 hbw3
  go_wp2_with fail
  refine (print_any a _ ha1 ha2 (tab_next HT hbb3)).mono ?_
  rintro e w4 ⟨rfl, hbw4⟩
  rw [HPA.out]
  have hbb4 := hbb3.trans (hbw4.mono hbb3.size)
  clear hbw4
  go_wp2_with fail
  refine (rprint_any a _ ha1 ha2).mono ?_
  rintro e w5 ⟨rfl, hbw5⟩
  rw [HPA.out]
  have hbb5 := hbb4.trans (hbw5.mono hbb4.size)
  clear hbw5
  go_wp2_with fail
  refine (sum_any a b _ ha1 ha2 hb1 hb2).mono ?_
  rintro e w6 ⟨rfl, rfl⟩
  rw [HSM.out]
  go_wp2_with fail
  refine (rsum_any a b _ ha1 ha2 hb1 hb2).mono ?_
  rintro e w7 ⟨rfl, rfl⟩
  rw [HSM.out]
  go_wp2
  go_ret
  exact ⟨rfl, hbb5⟩

end Go.Proofs.YtnfbhhffclahjaaDoor
