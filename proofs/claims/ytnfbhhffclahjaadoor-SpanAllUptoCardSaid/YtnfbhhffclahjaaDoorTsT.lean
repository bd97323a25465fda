/-
  The walks of the laws of sums and of texts of spans.
-/
import Derived.Test.YtnfbhhffclahjaaDoorTsS
namespace Go.Proofs.YtnfbhhffclahjaaDoor
open Go.RowKit Go.Lib Go.Sort

set_option maxHeartbeats 2000000 in
theorem spanSum_u (a b c : Int) (w : World) (ha1 : -9223372036854775808 ≤ a) (ha2 : a ≤ 9223372036854775807) (hb1 : -9223372036854775808 ≤ b) (hb2 : b ≤ 9223372036854775807) (hc1 : -9223372036854775808 ≤ c) (hc2 : c ≤ 9223372036854775807) (HT : Hid (Tab w.heap.size w)) :
    Calls Tryd.prog 6 #[.int .i64 a, .int .i64 b, .int .i64 c] w fun e w' => e = .returned (.bool true) ∧ Below w.heap.size w w' := by
  have hab := Sp.sum_le a b
  have hbc := Sp.sum_le b c
  have habc := Sp.sum_assoc a b c
  have hev := Sp.sum_ever a
  have hz := Sp.sum_zero a b
  have hcm := Sp.sum_comm b a
  generalize hx : Sp.sumI a b = x at *
  generalize hy : Sp.sumI b c = y at *
  generalize hq : Sp.sumI x c = q at *
  have HX := Lib.hid hx
  have HY := Lib.hid hy
  have HQ := Lib.hid hq
  have HR := Lib.hid habc.symm
  have HE := Lib.hid hev
  have HZ := Lib.hid hz
  have HC := Lib.hid hcm
  clear hx hy hq habc hev hz hcm
  have e1 : (x != x) = false := by simp
  have e2 : (q != q) = false := by simp
  have e3 : (x == x) = true := by simp
  go_enter Tryd.func6, Tryd.ntmps6
  go_wp2_with fail
  refine (shown_any _ HT).mono ?_
  rintro e w1 ⟨rfl, hbw⟩
  go_wp2_with fail
  refine (sum_any a b _ ha1 ha2 hb1 hb2).mono ?_
  rintro e w' ⟨rfl, rfl⟩
  rw [HX.out]
  go_wp2_with fail
  refine (sum_any b a _ hb1 hb2 ha1 ha2).mono ?_
  rintro e w' ⟨rfl, rfl⟩
  rw [HC.out]
  go_wp2_with fail
  refine (sum_any a b _ ha1 ha2 hb1 hb2).mono ?_
  rintro e w' ⟨rfl, rfl⟩
  rw [HX.out]
  go_wp2_with fail
  refine (sum_any x c _ (by omega) (by omega) hc1 hc2).mono ?_
  rintro e w' ⟨rfl, rfl⟩
  rw [HQ.out]
  go_wp2_with fail
  refine (sum_any b c _ hb1 hb2 hc1 hc2).mono ?_
  rintro e w' ⟨rfl, rfl⟩
  rw [HY.out]
  go_wp2_with fail
  refine (sum_any a y _ ha1 ha2 (by omega) (by omega)).mono ?_
  rintro e w' ⟨rfl, rfl⟩
  rw [HR.out]
  go_wp2_with fail
  refine (sum_any a b _ ha1 ha2 hb1 hb2).mono ?_
  rintro e w' ⟨rfl, rfl⟩
  rw [HX.out]
  rcases hab with ⟨h0, h1 | h1⟩
  · go_wp2_with fail
    refine (sum_any a 1099511627776 _ ha1 ha2 (by omega) (by omega)).mono ?_
    rintro e w' ⟨rfl, rfl⟩
    rw [HE.out]
    go_wp2_with fail
    refine (sum_any x 0 _ (by omega) (by omega) (by omega) (by omega)).mono ?_
    rintro e w' ⟨rfl, rfl⟩
    rw [HZ.out]
    go_wp2
    go_ret
    exact ⟨rfl, hbw⟩
  · have h3 : ¬ x ≤ 6311433600 := by omega
    have h4 : (x == 1099511627776) = true := by simpa using h1
    clear h1
    go_wp2_with fail
    refine (sum_any a 1099511627776 _ ha1 ha2 (by omega) (by omega)).mono ?_
    rintro e w' ⟨rfl, rfl⟩
    rw [HE.out]
    go_wp2_with fail
    refine (sum_any x 0 _ (by omega) (by simp at h4; omega) (by omega) (by omega)).mono ?_
    rintro e w' ⟨rfl, rfl⟩
    rw [HZ.out]
    go_wp2
    go_ret
    exact ⟨rfl, hbw⟩

end Go.Proofs.YtnfbhhffclahjaaDoor
