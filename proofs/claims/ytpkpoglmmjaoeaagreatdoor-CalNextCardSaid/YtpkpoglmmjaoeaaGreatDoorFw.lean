/-
  The reference: fields' numbers, days, weekdays; the plain way to what comes next; a year's last day; six rows of marks
-/
import Derived.Test.YtpkpoglmmjaoeaaGreatDoorCk
import Derived.Test.YtpkpoglmmjaoeaaGreatDoorDn
import Derived.Test.YtpkpoglmmjaoeaaGreatDoorEc
import Derived.Laws.CopyOwn
import Derived.Test.YtpkpoglmmjaoeaaGreatDoorCl
import Derived.Deep.MidRow
import Derived.Lib.SlBuf
namespace Go.Proofs.YtpkpoglmmjaoeaaGreatDoor
section
open Go.RowKit
theorem rleap_any (y : Int) (w : World) : Calls Tryz.prog 50 #[.int .i64 y] w fun e w' => e = .returned (.bool (Sp.leapB y)) ∧ w = w' := by
  have e1 := Sp.tmod_zero y 4
  have e2 := Sp.tmod_zero y 100
  have e3 := Sp.tmod_zero y 400
  have hl : Sp.leapB y = ((y % 4 == 0) && ((y % 100 != 0) || (y % 400 == 0))) := rfl
  have e4 : (y.tmod 100 != 0) = (y % 100 != 0) := by unfold bne; rw [e2]
  have hi : (y.tmod 400 == 0) = true → (y.tmod 4 == 0) = true := fun h => by
    rw [e3, beq_iff_eq] at h
    rw [e1, beq_iff_eq]
    omega
  rw [← e1, ← e3, ← e4] at hl
  rw [hl]
  clear hl e1 e2 e3 e4
  generalize h1 : (y.tmod 4 == 0) = a at *
  generalize h2 : (y.tmod 100 != 0) = b at *
  generalize h3 : (y.tmod 400 == 0) = c at *
  have HI := Lib.hid hi
  clear hi
  cases a <;> cases b <;> cases c
  all_goals first
    | exact absurd (HI.out rfl) (by decide)
    | (go_enter Tryz.func50, Tryz.ntmps50
       go_wp2
       go_ret
       exact ⟨rfl, rfl⟩)
set_option maxHeartbeats 4000000 in
theorem rdim_any (y m : Int) (w : World) : Calls Tryz.prog 51 #[.int .i64 y, .int .i64 m] w fun e w' => e = .returned (.int .i64 (Sp.dimB y m)) ∧ w = w' := by
  have H := Lib.hid (fun w => rleap_any y w)
  by_cases h : 1 ≤ m ∧ m ≤ 12
  · have h : m = 1 ∨ m = 2 ∨ m = 3 ∨ m = 4 ∨ m = 5 ∨ m = 6 ∨ m = 7 ∨ m = 8 ∨ m = 9 ∨ m = 10 ∨ m = 11 ∨ m = 12 := by omega
    rcases h with rfl | rfl | rfl | rfl | rfl | rfl | rfl | rfl | rfl | rfl | rfl | rfl
    · have hl : Sp.dimB y 1 = 31 := rfl
      rw [hl]
      go_enter Tryz.func51, Tryz.ntmps51
      go_wp2
      go_ret
      exact ⟨rfl, rfl⟩
    · have hl : Sp.dimB y 2 = if Sp.leapB y then 29 else 28 := rfl
      rw [hl]
      generalize Sp.leapB y = a at *
      clear hl
      go_enter Tryz.func51, Tryz.ntmps51
      go_wp2_with fail
      refine (H.out _).mono ?_
      rintro e w1 ⟨rfl, rfl⟩
      cases a
      all_goals
        go_wp2
        go_ret
        exact ⟨rfl, rfl⟩
    · have hl : Sp.dimB y 3 = 31 := rfl
      rw [hl]
      go_enter Tryz.func51, Tryz.ntmps51
      go_wp2
      go_ret
      exact ⟨rfl, rfl⟩
    · have hl : Sp.dimB y 4 = 30 := rfl
      rw [hl]
      go_enter Tryz.func51, Tryz.ntmps51
      go_wp2
      go_ret
      exact ⟨rfl, rfl⟩
    · have hl : Sp.dimB y 5 = 31 := rfl
      rw [hl]
      go_enter Tryz.func51, Tryz.ntmps51
      go_wp2
      go_ret
      exact ⟨rfl, rfl⟩
    · have hl : Sp.dimB y 6 = 30 := rfl
      rw [hl]
      go_enter Tryz.func51, Tryz.ntmps51
      go_wp2
      go_ret
      exact ⟨rfl, rfl⟩
    · have hl : Sp.dimB y 7 = 31 := rfl
      rw [hl]
      go_enter Tryz.func51, Tryz.ntmps51
      go_wp2
      go_ret
      exact ⟨rfl, rfl⟩
    · have hl : Sp.dimB y 8 = 31 := rfl
      rw [hl]
      go_enter Tryz.func51, Tryz.ntmps51
      go_wp2
      go_ret
      exact ⟨rfl, rfl⟩
    · have hl : Sp.dimB y 9 = 30 := rfl
      rw [hl]
      go_enter Tryz.func51, Tryz.ntmps51
      go_wp2
      go_ret
      exact ⟨rfl, rfl⟩
    · have hl : Sp.dimB y 10 = 31 := rfl
      rw [hl]
      go_enter Tryz.func51, Tryz.ntmps51
      go_wp2
      go_ret
      exact ⟨rfl, rfl⟩
    · have hl : Sp.dimB y 11 = 30 := rfl
      rw [hl]
      go_enter Tryz.func51, Tryz.ntmps51
      go_wp2
      go_ret
      exact ⟨rfl, rfl⟩
    · have hl : Sp.dimB y 12 = 31 := rfl
      rw [hl]
      go_enter Tryz.func51, Tryz.ntmps51
      go_wp2
      go_ret
      exact ⟨rfl, rfl⟩
  · have hl : Sp.dimB y m = 0 := by
      unfold Sp.dimB
      rw [if_neg (by omega), if_neg (by omega), if_neg (by omega)]
    rw [hl]
    have t1 : (m == 1) = false := by simp; omega
    have t2 : (m == 2) = false := by simp; omega
    have t3 : (m == 3) = false := by simp; omega
    have t4 : (m == 4) = false := by simp; omega
    have t5 : (m == 5) = false := by simp; omega
    have t6 : (m == 6) = false := by simp; omega
    have t7 : (m == 7) = false := by simp; omega
    have t8 : (m == 8) = false := by simp; omega
    have t9 : (m == 9) = false := by simp; omega
    have t10 : (m == 10) = false := by simp; omega
    have t11 : (m == 11) = false := by simp; omega
    have t12 : (m == 12) = false := by simp; omega
    by_cases g : m < 1
    · have g1 : ¬ m ≥ 1 := by omega
      clear h
      go_enter Tryz.func51, Tryz.ntmps51
      go_wp2
      go_ret
      exact ⟨rfl, rfl⟩
    · have g1 : m ≥ 1 := by omega
      have g2 : ¬ m ≤ 12 := by omega
      clear h
      go_enter Tryz.func51, Tryz.ntmps51
      go_wp2
      go_ret
      exact ⟨rfl, rfl⟩
set_option maxRecDepth 100000 in
set_option maxHeartbeats 16000000 in
theorem rof_any (t : Int) (w : World) (ht : -9223372036854775808 ≤ t ∧ t ≤ 9223372036854775807) :
    Calls Tryz.prog 19 #[.int .i64 t] w fun e w' => e = .returned (.tuple #[dateV (Sp.ofT t), .bool (Sp.okT t)]) ∧ Below w.heap.size w w' := by
  have hb0 : Below w.heap.size w (w.alloc (.cells #[.int .i64 0, .int .i64 0, .int .i64 0, .int .i64 0, .int .i64 0, .int .i64 0, .int .i64 0] 37)) := (Below.refl _ _).alloc (Nat.le_refl _) _
  have HZ : Hid (DBox (w.alloc (.cells #[.int .i64 0, .int .i64 0, .int .i64 0, .int .i64 0, .int .i64 0, .int .i64 0, .int .i64 0] 37)) w.heap.size ⟨0, 0, 0, 0, 0, 0, 0⟩) := Lib.hid (DBox.new w ⟨0, 0, 0, 0, 0, 0, 0⟩)
  by_cases h0 : t < 0
  · have eo : Sp.okT t = false := by unfold Sp.okT; rw [decide_eq_false (by omega)]; rfl
    have ed : Sp.ofT t = zeroD := by unfold Sp.ofT; rw [eo]; rfl
    rw [eo, ed]
    obtain ⟨c0, c1, c2, c3, c4, c5, c6, f0, f1, f2, f3, f4, f5, f6⟩ := HZ.out
    dsimp only at c0 c1 c2 c3 c4 c5 c6
    go_enter Tryz.func19, Tryz.ntmps19
    go_upto_region 1 with fail
    generalize (w.alloc (.cells #[.int .i64 0, .int .i64 0, .int .i64 0, .int .i64 0, .int .i64 0, .int .i64 0, .int .i64 0] 37)) = w0 at *
    generalize hbs : w.heap.size = b0 at *
    have HBS := Lib.hid hbs
    clear HZ hbs
    go_wp2
    (try simp only [Exit.inBlock, Exit.then])
    refine bodyPost_ret (v := .tuple #[.agg #[.int .i64 0, .int .i64 0, .int .i64 0, .int .i64 0, .int .i64 0, .int .i64 0, .int .i64 0], .bool false]) ?_ rfl ⟨rfl, ?_⟩
    · rw [results_cell_tmp rfl]
      go_simp
    rw [HBS.out]; exact below_put7 hb0 (Nat.le_refl _) _ _ _ _ _ _ _
  · by_cases h1 : t < 6311433600
    · have HT : Hid (0 ≤ t ∧ t < 6311433600) := Lib.hid ⟨by omega, h1⟩
      have eo : Sp.okT t = true := by unfold Sp.okT; rw [decide_eq_true (by omega), decide_eq_true h1]; rfl
      have ed : Sp.ofT t = Sp.dateOf t := by unfold Sp.ofT; rw [eo]; rfl
      rw [eo, ed]
      have h2 : ¬ t ≥ 6311433600 := by omega
      obtain ⟨D, hD⟩ : ∃ D, D = t / 86400 := ⟨_, rfl⟩
      obtain ⟨R, hR⟩ : ∃ R, R = t % 86400 := ⟨_, rfl⟩
      obtain ⟨h, hh⟩ : ∃ h, h = R / 3600 := ⟨_, rfl⟩
      obtain ⟨R2, hR2⟩ : ∃ R2, R2 = R % 3600 := ⟨_, rfl⟩
      obtain ⟨mi, hmi⟩ : ∃ mi, mi = R2 / 60 := ⟨_, rfl⟩
      obtain ⟨s, hs⟩ : ∃ s, s = R % 60 := ⟨_, rfl⟩
      obtain ⟨wd, hwd⟩ : ∃ wd, wd = (D + 5) % 7 := ⟨_, rfl⟩
      have bD : 0 ≤ D ∧ D < 73049 := by omega
      have bR : 0 ≤ R ∧ R < 86400 := by omega
      have bh : 0 ≤ h ∧ h < 24 := by omega
      have bR2 : 0 ≤ R2 ∧ R2 < 3600 := by omega
      have bmi : 0 ≤ mi ∧ mi < 60 := by omega
      have bs : 0 ≤ s ∧ s < 60 := by omega
      have bwd : 0 ≤ wd ∧ wd < 7 := by omega
      have HDATE : Hid (∀ k m, Sp.IsDay D k m → Sp.dateOf t = ⟨2000 + (k : Int), (m : Int) + 1, D - Sp.ysum k - Sp.msum (2000 + (k : Int)) m + 1, h, mi, s, wd + 1⟩) := Lib.hid fun k m hi => by
        unfold Sp.dateOf
        simp only [← hD, Sp.ymOf_of hi]
        rw [hwd, show t % 86400 / 3600 = h from by omega, show t % 3600 / 60 = mi from by omega, show t % 60 = s from by omega]
      have q1 : t.tdiv 86400 = D := by rw [Int.tdiv_eq_ediv_of_nonneg (by omega)]; exact hD.symm
      have q2 : t.tmod 86400 = R := by rw [Int.tmod_eq_emod_of_nonneg (by omega)]; exact hR.symm
      have q3 : R.tdiv 3600 = h := by rw [Int.tdiv_eq_ediv_of_nonneg bR.1]; exact hh.symm
      obtain ⟨U, hU⟩ : ∃ U, U = R / 60 := ⟨_, rfl⟩
      have bU : 0 ≤ U ∧ U < 1440 := by omega
      have q4 : R.tdiv 60 = U := by rw [Int.tdiv_eq_ediv_of_nonneg bR.1]; exact hU.symm
      have q5 : U.tmod 60 = mi := by rw [Int.tmod_eq_emod_of_nonneg bU.1]; omega
      have q6 : R.tmod 60 = s := by rw [Int.tmod_eq_emod_of_nonneg bR.1]; exact hs.symm
      have q7 : (D + 5).tmod 7 = wd := by rw [Int.tmod_eq_emod_of_nonneg (by omega)]; exact hwd.symm
      clear hD hR hh hR2 hmi hs hwd hU
      have v1 : IntKind.i64.wrap D = D := by rw [IntKind.wrap_i64]; omega
      have v2 : IntKind.i64.wrap R = R := by rw [IntKind.wrap_i64]; omega
      have v3 : IntKind.i64.wrap h = h := by rw [IntKind.wrap_i64]; omega
      have v4 : IntKind.i64.wrap U = U := by rw [IntKind.wrap_i64]; omega
      have v5 : IntKind.i64.wrap mi = mi := by rw [IntKind.wrap_i64]; omega
      have v6 : IntKind.i64.wrap s = s := by rw [IntKind.wrap_i64]; omega
      have v7 : IntKind.i64.wrap (D + 5) = D + 5 := by rw [IntKind.wrap_i64]; omega
      have v8 : IntKind.i64.wrap wd = wd := by rw [IntKind.wrap_i64]; omega
      have v9 : IntKind.i64.wrap (wd + 1) = wd + 1 := by rw [IntKind.wrap_i64]; omega
      have hlt0 : w.heap.size < (w.alloc (.cells #[.int .i64 0, .int .i64 0, .int .i64 0, .int .i64 0, .int .i64 0, .int .i64 0, .int .i64 0] 37)).heap.size := by simp
      go_enter Tryz.func19, Tryz.ntmps19
      go_upto_region 1 with fail
      generalize (w.alloc (.cells #[.int .i64 0, .int .i64 0, .int .i64 0, .int .i64 0, .int .i64 0, .int .i64 0, .int .i64 0] 37)) = w0 at *
      have HX := Lib.hid (DBox.new w0 ⟨2000, 1, 0, h, mi, s, wd + 1⟩)
      have HB1 : Hid (Below w.heap.size w (w0.alloc (.cells #[.int .i64 2000, .int .i64 1, .int .i64 0, .int .i64 h, .int .i64 mi, .int .i64 s, .int .i64 (wd + 1)] 37))) := Lib.hid (hb0.alloc hb0.size _)
      have HZ1 : Hid (DBox (w0.alloc (.cells #[.int .i64 2000, .int .i64 1, .int .i64 0, .int .i64 h, .int .i64 mi, .int .i64 s, .int .i64 (wd + 1)] 37)) w.heap.size ⟨0, 0, 0, 0, 0, 0, 0⟩) := Lib.hid (HZ.out.on hlt0 ((Below.refl _ _).alloc (Nat.le_refl _) _))
      dsimp only at HX
      clear HZ hb0
      go_upto_region 6 with fail
      generalize (w0.alloc (.cells #[.int .i64 2000, .int .i64 1, .int .i64 0, .int .i64 h, .int .i64 mi, .int .i64 s, .int .i64 (wd + 1)] 37)) = w1 at *
      generalize w0.heap.size = b1 at *
      generalize hbs : w.heap.size = b0 at *
      have HBS := Lib.hid hbs
      have hne : b0 ≠ b1 := by omega
      clear hbs q1 q2 q3 q4 q5 q6 q7 v1 v2 v3 v4 v5 v6 v7 v8 v9 h0 h1 h2 bR bh bR2 bmi bs bwd bU
      have HY0 : Hid (D - Sp.ysum 0 = D) := Lib.hid (by simp [Sp.ysum])
      go_wp2_with fail
      go_loopw [4] (fun dv wr => ∃ (k : Nat) (dd y : Int), dv = .int .i64 dd ∧ Hid (dd = D - Sp.ysum k ∧ y = 2000 + (k : Int)) ∧ (0 ≤ dd ∧ dd < 73049) ∧ (2000 ≤ y ∧ y ≤ 2200) ∧ Hid (DBox wr b1 ⟨y, 1, 0, h, mi, s, wd + 1⟩) ∧ Hid (DBox wr b0 ⟨0, 0, 0, 0, 0, 0, 0⟩) ∧ Hid (Below b0 w wr)) (fun dv _ => (intOf dv).toNat)
      case atStart => exact ⟨0, D, 2000, rfl, Lib.hid ⟨HY0.out.symm, rfl⟩, bD, by omega, HX, HZ1, by rw [← HBS.out]; rw [HBS.out]; exact HB1⟩
      case round =>
        obtain ⟨k, dd, y, rfl, HK, hdd, hy, HXr, HZr, hb⟩ := hrel
        have HLEAP := Lib.hid (fun w => rleap_any y w)
        have hLl : Sp.longY y = if Sp.leapB y then 366 else 365 := rfl
        have hl := Sp.long_pos y
        have HYS : Hid (Sp.ysum (k + 1) = Sp.ysum k + Sp.longY y) := Lib.hid (by rw [Sp.ysum, ← HK.out.2])
        generalize hL : Sp.longY y = L at *
        have HL := Lib.hid hL
        clear hL
        generalize Sp.leapB y = lp at *
        obtain ⟨c0, c1, c2, c3, c4, c5, c6, f0, f1, f2, f3, f4, f5, f6⟩ := HXr.out
        dsimp only at c0 c1 c2 c3 c4 c5 c6
        cases lp with
        | false =>
          obtain rfl : L = 365 := hLl
          by_cases hc : dd ≥ 365
          · have hc2 : ¬ dd < 365 := by omega
            have e1 : IntKind.i64.wrap (dd - 365) = dd - 365 := by rw [IntKind.wrap_i64]; omega
            have e2 : IntKind.i64.wrap (y + 1) = y + 1 := by rw [IntKind.wrap_i64]; omega
            have hky : y < 2200 := by
              have h1 := HK.out.1
              have h2 := HK.out.2
              rcases Nat.lt_or_ge k 200 with h3 | h3
              · omega
              · have := Sp.ysum_le 200 k h3
                rw [Sp.ysum_200] at this
                omega
            go_wp2_with fail
            refine (HLEAP.out _).mono ?_
            rintro e w2 ⟨rfl, rfl⟩
            go_wp2
            go_roundw
            case rel => exact ⟨k + 1, dd - 365, y + 1, rfl, Lib.hid ⟨by rw [HYS.out]; have := HK.out.1; omega, by have := HK.out.2; omega⟩, by omega, by omega, Lib.hid (HXr.out.set0 (y + 1)), Lib.hid (HZr.out.far0 (fun e => hne e.symm) _), Lib.hid (hb.out.setCell (p := ⟨b1, 0, none⟩) (by show b0 ≤ b1; omega) _)⟩
            case measure => simp [intOf]; omega
          · have hc2 : dd < 365 := by omega
            have HD2 : Hid (D < Sp.ysum (k + 1)) := Lib.hid (by rw [HYS.out]; have := HK.out.1; omega)
            go_wp2_with fail
            refine (HLEAP.out _).mono ?_
            rintro e w2 ⟨rfl, rfl⟩
            clear c0 c1 c2 c3 c4 c5 c6 f0 f1 f2 f3 f4 f5 f6
            go_wp2_with fail
            go_loopw [4] (fun dv wm => ∃ (m : Nat) (dm mo : Int), dv = .int .i64 dm ∧ Hid (dm = dd - Sp.msum y m ∧ mo = (m : Int) + 1) ∧ (0 ≤ dm ∧ dm < 73049) ∧ (1 ≤ mo ∧ mo ≤ 12) ∧ Hid (DBox wm b1 ⟨y, mo, 0, h, mi, s, wd + 1⟩) ∧ Hid (DBox wm b0 ⟨0, 0, 0, 0, 0, 0, 0⟩) ∧ Hid (Below b0 w wm)) (fun dv _ => (intOf dv).toNat)
            case atStart => exact ⟨0, dd, 1, rfl, Lib.hid ⟨by simp [Sp.msum], rfl⟩, hdd, by omega, HXr, HZr, hb⟩
            case round =>
              obtain ⟨m, dm, mo, rfl, HM, hdm, hmo, HXm, HZm, hbm⟩ := hrel
              have HDIM := Lib.hid (fun w => rdim_any y mo w)
              have hl2 := Sp.dim_pos y mo hmo.1 hmo.2
              have HMS : Hid (Sp.msum y (m + 1) = Sp.msum y m + Sp.dimB y mo) := Lib.hid (by rw [Sp.msum, ← HM.out.2])
              generalize hN : Sp.dimB y mo = N at *
              clear hN
              obtain ⟨c0, c1, c2, c3, c4, c5, c6, f0, f1, f2, f3, f4, f5, f6⟩ := HXm.out
              dsimp only at c0 c1 c2 c3 c4 c5 c6
              by_cases hcm : dm ≥ N
              · have e1 : IntKind.i64.wrap (dm - N) = dm - N := by rw [IntKind.wrap_i64]; omega
                have e2 : IntKind.i64.wrap (mo + 1) = mo + 1 := by rw [IntKind.wrap_i64]; omega
                have hmo2 : mo < 12 := by
                  have h1 := HM.out.1
                  have h2 := HM.out.2
                  have h3 := HMS.out
                  rcases Nat.lt_or_ge (m + 1) 12 with h4 | h4
                  · omega
                  · have h5 := Sp.msum_le y 12 (m + 1) h4
                    rw [Sp.msum_12] at h5
                    have h6 := HL.out
                    omega
                go_wp2_with fail
                refine (HDIM.out _).mono ?_
                rintro e w2 ⟨rfl, rfl⟩
                go_wp2_with fail
                refine (HDIM.out _).mono ?_
                rintro e w2 ⟨rfl, rfl⟩
                go_wp2
                go_roundw
                case rel => exact ⟨m + 1, dm - N, mo + 1, rfl, Lib.hid ⟨by rw [HMS.out]; have := HM.out.1; omega, by have := HM.out.2; omega⟩, by omega, by omega, Lib.hid (HXm.out.set1 (mo + 1)), Lib.hid (HZm.out.far1 (fun e => hne e.symm) _), Lib.hid (hbm.out.setCell (p := ⟨b1, 1, none⟩) (by show b0 ≤ b1; omega) _)⟩
                case measure => simp [intOf]; omega
              · have e1 : IntKind.i64.wrap (dm + 1) = dm + 1 := by rw [IntKind.wrap_i64]; omega
                have HIS : Hid (Sp.IsDay D k m) := Lib.hid ⟨by have := HK.out.1; omega, HD2.out, by rw [← HK.out.2, ← HK.out.1]; have := HM.out.1; omega, by rw [← HK.out.2, ← HK.out.1, HMS.out]; have := HM.out.1; omega⟩
                have HFIN : Hid (Sp.dateOf t = ⟨y, mo, dm + 1, h, mi, s, wd + 1⟩) := Lib.hid (by
                  rw [HDATE.out k m HIS.out, ← HK.out.2, ← HM.out.2, ← HK.out.1, ← HM.out.1])
                obtain ⟨g0, g1, g2, g3, g4, g5, g6, k0, k1, k2, k3, k4, k5, k6⟩ := HZm.out
                dsimp only at g0 g1 g2 g3 g4 g5 g6
                go_wp2_with fail
                refine (HDIM.out _).mono ?_
                rintro e w2 ⟨rfl, rfl⟩
                go_wp2
                (try simp only [Exit.inBlock, Exit.then])
                rw [HFIN.out]
                refine bodyPost_ret (v := .tuple #[.agg #[.int .i64 y, .int .i64 mo, .int .i64 (dm + 1), .int .i64 h, .int .i64 mi, .int .i64 s, .int .i64 (wd + 1)], .bool true]) ?_ rfl ⟨rfl, ?_⟩
                · rw [results_cell_tmp rfl]
                  go_simp
                rw [HBS.out]
                exact below_put7 (hbm.out.setCell (p := ⟨b1, 2, none⟩) (by show b0 ≤ b1; omega) _) (Nat.le_refl _) _ _ _ _ _ _ _
        | true =>
          obtain rfl : L = 366 := hLl
          by_cases hc : dd ≥ 366
          · have hc2 : ¬ dd < 366 := by omega
            have e1 : IntKind.i64.wrap (dd - 366) = dd - 366 := by rw [IntKind.wrap_i64]; omega
            have e2 : IntKind.i64.wrap (y + 1) = y + 1 := by rw [IntKind.wrap_i64]; omega
            have hky : y < 2200 := by
              have h1 := HK.out.1
              have h2 := HK.out.2
              rcases Nat.lt_or_ge k 200 with h3 | h3
              · omega
              · have := Sp.ysum_le 200 k h3
                rw [Sp.ysum_200] at this
                omega
            go_wp2_with fail
            refine (HLEAP.out _).mono ?_
            rintro e w2 ⟨rfl, rfl⟩
            go_wp2
            go_roundw
            case rel => exact ⟨k + 1, dd - 366, y + 1, rfl, Lib.hid ⟨by rw [HYS.out]; have := HK.out.1; omega, by have := HK.out.2; omega⟩, by omega, by omega, Lib.hid (HXr.out.set0 (y + 1)), Lib.hid (HZr.out.far0 (fun e => hne e.symm) _), Lib.hid (hb.out.setCell (p := ⟨b1, 0, none⟩) (by show b0 ≤ b1; omega) _)⟩
            case measure => simp [intOf]; omega
          · have hc2 : dd < 366 := by omega
            have HD2 : Hid (D < Sp.ysum (k + 1)) := Lib.hid (by rw [HYS.out]; have := HK.out.1; omega)
            go_wp2_with fail
            refine (HLEAP.out _).mono ?_
            rintro e w2 ⟨rfl, rfl⟩
            clear c0 c1 c2 c3 c4 c5 c6 f0 f1 f2 f3 f4 f5 f6
            go_wp2_with fail
            go_loopw [4] (fun dv wm => ∃ (m : Nat) (dm mo : Int), dv = .int .i64 dm ∧ Hid (dm = dd - Sp.msum y m ∧ mo = (m : Int) + 1) ∧ (0 ≤ dm ∧ dm < 73049) ∧ (1 ≤ mo ∧ mo ≤ 12) ∧ Hid (DBox wm b1 ⟨y, mo, 0, h, mi, s, wd + 1⟩) ∧ Hid (DBox wm b0 ⟨0, 0, 0, 0, 0, 0, 0⟩) ∧ Hid (Below b0 w wm)) (fun dv _ => (intOf dv).toNat)
            case atStart => exact ⟨0, dd, 1, rfl, Lib.hid ⟨by simp [Sp.msum], rfl⟩, hdd, by omega, HXr, HZr, hb⟩
            case round =>
              obtain ⟨m, dm, mo, rfl, HM, hdm, hmo, HXm, HZm, hbm⟩ := hrel
              have HDIM := Lib.hid (fun w => rdim_any y mo w)
              have hl2 := Sp.dim_pos y mo hmo.1 hmo.2
              have HMS : Hid (Sp.msum y (m + 1) = Sp.msum y m + Sp.dimB y mo) := Lib.hid (by rw [Sp.msum, ← HM.out.2])
              generalize hN : Sp.dimB y mo = N at *
              clear hN
              obtain ⟨c0, c1, c2, c3, c4, c5, c6, f0, f1, f2, f3, f4, f5, f6⟩ := HXm.out
              dsimp only at c0 c1 c2 c3 c4 c5 c6
              by_cases hcm : dm ≥ N
              · have e1 : IntKind.i64.wrap (dm - N) = dm - N := by rw [IntKind.wrap_i64]; omega
                have e2 : IntKind.i64.wrap (mo + 1) = mo + 1 := by rw [IntKind.wrap_i64]; omega
                have hmo2 : mo < 12 := by
                  have h1 := HM.out.1
                  have h2 := HM.out.2
                  have h3 := HMS.out
                  rcases Nat.lt_or_ge (m + 1) 12 with h4 | h4
                  · omega
                  · have h5 := Sp.msum_le y 12 (m + 1) h4
                    rw [Sp.msum_12] at h5
                    have h6 := HL.out
                    omega
                go_wp2_with fail
                refine (HDIM.out _).mono ?_
                rintro e w2 ⟨rfl, rfl⟩
                go_wp2_with fail
                refine (HDIM.out _).mono ?_
                rintro e w2 ⟨rfl, rfl⟩
                go_wp2
                go_roundw
                case rel => exact ⟨m + 1, dm - N, mo + 1, rfl, Lib.hid ⟨by rw [HMS.out]; have := HM.out.1; omega, by have := HM.out.2; omega⟩, by omega, by omega, Lib.hid (HXm.out.set1 (mo + 1)), Lib.hid (HZm.out.far1 (fun e => hne e.symm) _), Lib.hid (hbm.out.setCell (p := ⟨b1, 1, none⟩) (by show b0 ≤ b1; omega) _)⟩
                case measure => simp [intOf]; omega
              · have e1 : IntKind.i64.wrap (dm + 1) = dm + 1 := by rw [IntKind.wrap_i64]; omega
                have HIS : Hid (Sp.IsDay D k m) := Lib.hid ⟨by have := HK.out.1; omega, HD2.out, by rw [← HK.out.2, ← HK.out.1]; have := HM.out.1; omega, by rw [← HK.out.2, ← HK.out.1, HMS.out]; have := HM.out.1; omega⟩
                have HFIN : Hid (Sp.dateOf t = ⟨y, mo, dm + 1, h, mi, s, wd + 1⟩) := Lib.hid (by
                  rw [HDATE.out k m HIS.out, ← HK.out.2, ← HM.out.2, ← HK.out.1, ← HM.out.1])
                obtain ⟨g0, g1, g2, g3, g4, g5, g6, k0, k1, k2, k3, k4, k5, k6⟩ := HZm.out
                dsimp only at g0 g1 g2 g3 g4 g5 g6
                go_wp2_with fail
                refine (HDIM.out _).mono ?_
                rintro e w2 ⟨rfl, rfl⟩
                go_wp2
                (try simp only [Exit.inBlock, Exit.then])
                rw [HFIN.out]
                refine bodyPost_ret (v := .tuple #[.agg #[.int .i64 y, .int .i64 mo, .int .i64 (dm + 1), .int .i64 h, .int .i64 mi, .int .i64 s, .int .i64 (wd + 1)], .bool true]) ?_ rfl ⟨rfl, ?_⟩
                · rw [results_cell_tmp rfl]
                  go_simp
                rw [HBS.out]
                exact below_put7 (hbm.out.setCell (p := ⟨b1, 2, none⟩) (by show b0 ≤ b1; omega) _) (Nat.le_refl _) _ _ _ _ _ _ _
    · have eo : Sp.okT t = false := by unfold Sp.okT; rw [decide_eq_false h1, Bool.and_false]
      have ed : Sp.ofT t = zeroD := by unfold Sp.ofT; rw [eo]; rfl
      have h2 : t ≥ 6311433600 := by omega
      rw [eo, ed]
      obtain ⟨c0, c1, c2, c3, c4, c5, c6, f0, f1, f2, f3, f4, f5, f6⟩ := HZ.out
      dsimp only at c0 c1 c2 c3 c4 c5 c6
      go_enter Tryz.func19, Tryz.ntmps19
      go_upto_region 1 with fail
      generalize (w.alloc (.cells #[.int .i64 0, .int .i64 0, .int .i64 0, .int .i64 0, .int .i64 0, .int .i64 0, .int .i64 0] 37)) = w0 at *
      generalize hbs : w.heap.size = b0 at *
      have HBS := Lib.hid hbs
      clear HZ hbs
      go_wp2
      (try simp only [Exit.inBlock, Exit.then])
      refine bodyPost_ret (v := .tuple #[.agg #[.int .i64 0, .int .i64 0, .int .i64 0, .int .i64 0, .int .i64 0, .int .i64 0, .int .i64 0], .bool false]) ?_ rfl ⟨rfl, ?_⟩
      · rw [results_cell_tmp rfl]
        go_simp
      rw [HBS.out]; exact below_put7 hb0 (Nat.le_refl _) _ _ _ _ _ _ _
end

section
open Go.RowKit Go.Shelf

theorem zero2200 : Tryz.zeroCells43 = Array.replicate 2200 (.bool false) := by kernel_rfl
/-- an array of marks in memory, and another one beside it that is as it was laid -/
structure MA (w : World) (b4 b5 : Nat) (cs : Array Value) (m : Nat → Bool) (W : World) : Prop where
  h5 : W.heap[b5]? = some (.cells cs 43 (0, 0))
  hs : cs.size = 2200
  hm : ∀ j, j < 2200 → cs[j]? = some (.bool (m j))
  h4 : W.heap[b4]? = some (.cells (Array.replicate 2200 (.bool false)) 43 (0, 0))
  hb : Below w.heap.size w W
theorem MA.on {w W W' : World} {b4 b5 : Nat} {cs : Array Value} {m : Nat → Bool} (h : MA w b4 b5 cs m W) (hb : Below W.heap.size W W') : MA w b4 b5 cs m W' :=
  ⟨(hb.block _ (Array.getElem?_eq_some_iff.1 h.h5).1).trans h.h5, h.hs, h.hm, (hb.block _ (Array.getElem?_eq_some_iff.1 h.h4).1).trans h.h4, h.hb.trans (hb.mono h.hb.size)⟩
theorem MA.eq {w W : World} {b4 b5 : Nat} {cs : Array Value} {m m' : Nat → Bool} (h : MA w b4 b5 cs m W) (e : ∀ j, j < 2200 → m' j = m j) : MA w b4 b5 cs m' W :=
  ⟨h.h5, h.hs, fun j hj => by rw [e j hj]; exact h.hm j hj, h.h4, h.hb⟩
theorem MA.cell {w W : World} {b4 b5 : Nat} {cs : Array Value} {m : Nat → Bool} (h : MA w b4 b5 cs m W) (j : Nat) (hj : j < 2200) : ∃ u, W.cell? ⟨b5, j, none⟩ = some (.bool u) :=
  ⟨m j, by rw [cell_of_row W b5 j cs _ _ h.h5]; exact h.hm j hj⟩
theorem MA.fz {w W : World} {b4 b5 : Nat} {cs : Array Value} {m : Nat → Bool} (h : MA w b4 b5 cs m W) (j : Nat) : W.frozen? ⟨b5, j, none⟩ = false := frozen_of_row W b5 j cs _ h.h5
theorem MA.set {w W : World} {b4 b5 : Nat} {cs : Array Value} {m : Nat → Bool} (h : MA w b4 b5 cs m W) (x : Nat) (hx : x < 2200) (h45 : b4 ≠ b5) (hw : w.heap.size ≤ b5) : MA w b4 b5 (cs.setIfInBounds x (.bool true)) (fun j => m j || decide (j = x)) (W.setCell ⟨b5, x, none⟩ (.bool true)) := by
  refine ⟨heap_setCell_same W b5 x cs _ _ h.h5, by simpa using h.hs, fun j hj => ?_, (heap_setCell_other W ⟨b5, x, none⟩ b4 _ h45).trans h.h4, h.hb.setCell (p := ⟨b5, x, none⟩) hw _⟩
  rw [Array.getElem?_setIfInBounds]
  by_cases e : x = j
  · subst e
    rw [if_pos rfl, if_pos (by rw [h.hs]; exact hx)]
    simp
  · rw [if_neg e, h.hm j hj, decide_eq_false (fun h => e h.symm), Bool.or_false]
theorem low_high (f : Nat) : Sp.lowF f ≤ Sp.highF f := by
  match f with
  | 0 => exact by decide
  | 1 => exact by decide
  | 2 => exact by decide
  | 3 => exact by decide
  | 4 => exact by decide
  | 5 => exact by decide
  | n + 6 => show (0 : Int) ≤ 59; decide
theorem has_le {q : Sp.PartD} {f b j : Nat} (hb : Sp.toF q f = (b : Int)) (h : Sp.hasB q f j = true) : j ≤ b := by
  unfold Sp.hasB at h
  simp only [Bool.and_eq_true, decide_eq_true_eq] at h
  rw [hb] at h
  omega
theorem has_step {q : Sp.PartD} {f a b s x : Nat} (ha : Sp.fromF q f = (a : Int)) (hb : Sp.toF q f = (b : Int)) (hs : Sp.stepF q = (s : Int) ∧ 0 < s) (h1 : a ≤ x) (h2 : x ≤ b) (hm : ((x : Int) - a) % s = 0) (j : Nat) :
    (Sp.hasB q f j && decide (j < x + s)) = ((Sp.hasB q f j && decide (j < x)) || decide (j = x)) := by
  by_cases e : j = x
  · subst e
    have : Sp.hasB q f j = true := by
      unfold Sp.hasB
      rw [ha, hb, hs.1, decide_eq_true (by omega), decide_eq_true (by omega), decide_eq_true hm]
      rfl
    rw [this, decide_eq_true (show j < j + s by omega)]
    simp
  · rw [decide_eq_false e, Bool.or_false]
    cases hj : Sp.hasB q f j with
    | false => rfl
    | true =>
      by_cases hlt : j < x
      · rw [decide_eq_true hlt, decide_eq_true (show j < x + s by omega)]
      · rw [decide_eq_false hlt]
        by_cases h3 : j < x + s
        · exfalso
          unfold Sp.hasB at hj
          simp only [Bool.and_eq_true, decide_eq_true_eq] at hj
          have h4 := hj.2
          rw [ha, hs.1] at h4
          have h5 : ((j : Int) - x) % s = 0 := by
            have e2 : (j : Int) - x = ((j : Int) - a) - ((x : Int) - a) := by omega
            rw [e2, Int.sub_emod, h4, hm]
            simp
          rw [Int.emod_eq_of_lt (by omega) (by omega)] at h5
          omega
        · rw [decide_eq_false h3]
theorem from_to {q : Sp.PartD} {f : Nat} (h : Sp.mayPartB q f = true) : 0 ≤ Sp.fromF q f ∧ (Sp.fromF q f ≤ Sp.toF q f ∧ Sp.toF q f < 2200) := by
  have hr := Sp.field_range f
  have hlh := low_high f
  unfold Sp.mayPartB at h
  unfold Sp.fromF Sp.toF
  split at h
  · cases h
  · split at h
    · rename_i e
      rw [if_pos e, if_pos e]
      omega
    · rename_i e
      rw [if_neg e, if_neg e]
      split at h
      · cases h
      · simp only [Bool.and_eq_true, Bool.or_eq_true, decide_eq_true_eq] at h
        split
        · split <;> omega
        · omega
def NumsV (cs : Array Value) (l : List Sp.PartD) (f : Nat) : Prop := cs.size = 2200 ∧ ∀ j : Nat, j < 2200 → cs[j]? = some (.bool (Sp.inB l f j))
set_option maxRecDepth 100000 in
set_option maxHeartbeats 16000000 in
theorem rnumbers_any (l : List Sp.PartD) (A : Option Addr) (n c f : Nat) (w : World) (h : Rd w w.heap.size 3 A n (partsC l)) (hm : ∀ q ∈ l, Sp.mayPartB q f = true) (hf : f < 6) (hn : n ≤ 9223372036854775807) :
    Calls Tryz.prog 17 #[.slice A n c, .int .i64 f] w fun e w' => (∃ cs, e = .returned (.agg cs) ∧ NumsV cs l f) ∧ Below w.heap.size w w' := by
  have hln : l.length = n := by
    have h1 := h.1
    rw [partsC_len] at h1
    omega
  have HPA := Lib.hid (fun k hk => Rd.partAt h k hk)
  have HML := Lib.hid hm
  have HLN := Lib.hid hln
  have HLE := Lib.hid (fun W => least_any f hf W)
  have HMO := Lib.hid (fun W => most_any f hf W)
  clear h hm hln
  have hma : MA w w.heap.size (w.heap.size + 1) (Array.replicate 2200 (.bool false)) (fun j => Sp.inB (l.take 0) f j) ((w.alloc (.cells Tryz.zeroCells43 43)).alloc (.cells Tryz.zeroCells43 43)) := by
    rw [zero2200]
    refine ⟨?_, by simp, fun j hj => ?_, ?_, ((Below.refl _ _).alloc (Nat.le_refl _) _).alloc (by simp) _⟩
    · exact heap_alloc2_new w _ _
    · rw [Array.getElem?_replicate, if_pos hj]; rfl
    · exact heap_alloc2_old w _ _
  go_enter Tryz.func17, Tryz.ntmps17
  go_upto_region 2 with fail
  generalize ((w.alloc (.cells Tryz.zeroCells43 43)).alloc (.cells Tryz.zeroCells43 43)) = w2 at *
  have HMA := Lib.hid hma
  clear hma
  obtain ⟨b4, hb4⟩ : ∃ b, b = w.heap.size := ⟨_, rfl⟩
  rw [← hb4] at HMA ⊢
  obtain ⟨b5, hb5⟩ : ∃ b, b = b4 + 1 := ⟨_, rfl⟩
  rw [← hb5] at HMA ⊢
  have h45 : b4 ≠ b5 := by omega
  have hw4 : w.heap.size ≤ b5 := by omega
  have hw44 : w.heap.size ≤ b4 := by omega
  have HB4 := Lib.hid hb4
  clear hb4 hb5
  go_wp2_with fail
  go_loopw [14] (fun iv wr => ∃ (k : Nat) (cs : Array Value), k ≤ n ∧ iv = .int .i64 k ∧ Hid (MA w b4 b5 cs (fun j => Sp.inB (l.take k) f j) wr)) (fun iv _ => n - (intOf iv).toNat)
  case atStart => exact ⟨0, _, Nat.zero_le _, rfl, HMA⟩
  case round =>
    obtain ⟨k, cs, hk, rfl, HMA⟩ := hrel
    by_cases hkn : k < n
    · have hk1 : (k : Int) < (n : Int) := by omega
      have hk0 : (0 : Int) ≤ (k : Int) := by omega
      have v1 : IntKind.i64.wrap ((k : Int) + 1) = ((k + 1 : Nat) : Int) := by rw [IntKind.wrap_i64]; omega
      have hkl : k < l.length := by rw [HLN.out]; exact hkn
      obtain ⟨ad, rfl, hc⟩ := HPA.out k hkl
      obtain ⟨cc0, cc1, cc2⟩ := hc wr HMA.out.hb
      have hmp := HML.out _ (List.getElem_mem hkl)
      have HTK : Hid (∀ j : Nat, Sp.inB (l.take (k + 1)) f j = (Sp.inB (l.take k) f j || Sp.hasB l[k] f j)) := Lib.hid (fun j => by
        rw [List.take_succ_eq_append_getElem hkl]
        unfold Sp.inB
        rw [List.any_append]
        simp)
      clear hc
      generalize l[k] = q at *
      obtain ⟨fr, to1, st⟩ := q
      dsimp only at cc0 cc1 cc2
      obtain ⟨s1, s2, s3⟩ := Sp.part_small hmp
      dsimp only at s1 s2 s3
      have hrg := Sp.field_range f
      have hst : Sp.stepF ⟨fr, to1, st⟩ = max st 1 := by unfold Sp.stepF; dsimp only; split <;> omega
      obtain ⟨s, hs⟩ : ∃ s : Nat, max st 1 = (s : Int) := ⟨(max st 1).toNat, by omega⟩
      have hs0 : 0 < s := by omega
      have hs9 : s ≤ 9999 := by omega
      have HES : Hid (Sp.stepF ⟨fr, to1, st⟩ = (s : Int) ∧ 0 < s) := Lib.hid ⟨hst.trans hs, hs0⟩
      have hfin : ∃ a b : Nat, Sp.fromF ⟨fr, to1, st⟩ f = (a : Int) ∧ Sp.toF ⟨fr, to1, st⟩ f = (b : Int) ∧ a ≤ b ∧ b < 2200 := by
        have ⟨g1, g2⟩ := from_to hmp
        exact ⟨(Sp.fromF ⟨fr, to1, st⟩ f).toNat, (Sp.toF ⟨fr, to1, st⟩ f).toNat, by omega, by omega, by omega, by omega⟩
      obtain ⟨a, b, ea, eb, hab, hb22⟩ := hfin
      have HEA := Lib.hid ea
      have HEB := Lib.hid eb
      have HBX := Lib.hid ((Below.refl wr.heap.size wr).alloc (Nat.le_refl _) (.cells #[.int .i64 fr, .int .i64 to1, .int .i64 st] 62))
      have HA7 := Lib.hid (HMA.out.on HBX.out)
      have HST := Lib.hid hst
      clear hst HMA hrg
      obtain ⟨q, hq⟩ : ∃ q : Sp.PartD, q = ⟨fr, to1, st⟩ := ⟨_, rfl⟩
      rw [← hq] at HEA HEB HES HTK
      clear hq
      by_cases t1 : fr = -1
      · have ta : (fr == -1) = true := by simp [t1]
        have ea2 : Sp.lowF f = (a : Int) := by rw [← ea]; unfold Sp.fromF; rw [if_pos t1]
        have eb2 : Sp.highF f = (b : Int) := by rw [← eb]; unfold Sp.toF; rw [if_pos t1]
        rw [ea2] at HLE
        rw [eb2] at HMO
        clear ea eb ea2 eb2 t1
        go_upto_region 5 with fail
        go_quiet (fail)
        replace HA7 := Lib.hid (HA7.out.on (belowQ (Below.refl _ _) nq))
        go_wp2_with fail
        refine (HLE.out _).mono ?_
        rintro e w8 ⟨rfl, hb8⟩
        have HA8 := Lib.hid (HA7.out.on hb8)
        have hb8s := hb8.size
        go_wp2_with fail
        refine (HMO.out _).mono ?_
        rintro e w9 ⟨rfl, hb9⟩
        have HA9 := Lib.hid (HA8.out.on hb9)
        clear hb8 hb9 hb8s HA8 HA7
        go_wp2_with fail
        go_loopw [11] (fun xv wr => ∃ (x : Nat) (cs : Array Value), xv = .int .i64 x ∧ a ≤ x ∧ x ≤ b + s ∧ Hid (((x : Int) - a) % s = 0) ∧ Hid (MA w b4 b5 cs (fun j => Sp.inB (l.take k) f j || (Sp.hasB q f j && decide (j < x))) wr)) (fun xv _ => b + 1 - (intOf xv).toNat)
        case atStart =>
          refine ⟨a, cs, by first | rfl | go_num, Nat.le_refl _, by omega, Lib.hid (by simp), Lib.hid (HA9.out.eq fun j hj => ?_)⟩
          have : (Sp.hasB q f j && decide (j < a)) = false := by
            cases hd : decide (j < a) with
            | false => rw [Bool.and_false]
            | true =>
              have h1 := of_decide_eq_true hd
              unfold Sp.hasB
              rw [HEA.out, decide_eq_false (by omega)]
              rfl
          rw [this, Bool.or_false]
        case round =>
          obtain ⟨x, cs, rfl, hax, hxb, HMD, HA⟩ := hrel
          by_cases hx : x ≤ b
          · have hx1 : (x : Int) ≤ (b : Int) := by omega
            have hx2 : (x : Int) < 2200 := by omega
            have hx3 : (0 : Int) ≤ (x : Int) := by omega
            have v3 : IntKind.i64.wrap ((x : Int) + (s : Int)) = ((x + s : Nat) : Int) := by rw [IntKind.wrap_i64]; omega
            obtain ⟨u, hu⟩ := HA.out.cell x (by omega)
            have hz := HA.out.fz x
            have HA2 := Lib.hid ((HA.out.set x (by omega) h45 hw4).eq (m' := fun j => Sp.inB (l.take k) f j || (Sp.hasB q f j && decide (j < x + s))) fun j hj => by
              rw [has_step HEA.out HEB.out HES.out hax hx HMD.out j, Bool.or_assoc])
            have HMD2 : Hid ((((x + s : Nat) : Int) - a) % s = 0) := Lib.hid (by
              have e : ((x + s : Nat) : Int) - a = ((x : Int) - a) + s := by omega
              rw [e, Int.add_emod_right]
              exact HMD.out)
            go_wp2
            go_roundw
            case rel => exact ⟨x + s, _, by first | rfl | go_num, by omega, by omega, HMD2, HA2⟩
            case measure => simp [intOf]; omega
          · have hx1 : ¬ (x : Int) ≤ (b : Int) := by omega
            have HNX := Lib.hid (HA.out.eq (m' := fun j => Sp.inB (l.take (k + 1)) f j) fun j hj => by
              rw [HTK.out j]
              congr 1
              cases hd : Sp.hasB q f j with
              | false => rfl
              | true =>
                have h1 := has_le HEB.out hd
                rw [decide_eq_true (by omega)]
                rfl)
            go_wp2
            go_roundw
            case rel => exact ⟨k + 1, _, by omega, by first | rfl | go_num, HNX⟩
            case measure => simp [intOf]; omega
      · have ta : (fr == -1) = false := by simp [t1]
        have ea2 : fr = (a : Int) := by rw [← ea]; unfold Sp.fromF; rw [if_neg t1]
        by_cases t2 : to1 = -1
        · have tb : (to1 == -1) = true := by simp [t2]
          by_cases t3 : st = 0
          · have tc : (st == 0) = true := by simp [t3]
            have eb2 : fr = (b : Int) := by rw [← eb]; unfold Sp.toF; rw [if_neg t1, if_pos t2, if_pos t3]
            have hab2 : a = b := by omega
            clear ea eb t1 t2 t3 eb2
            subst hab2
            subst ea2
            go_upto_region 5 with fail
            go_quiet (fail)
            replace HA7 := Lib.hid (HA7.out.on (belowQ (Below.refl _ _) nq))
            go_wp2_with fail
            go_loopw [11] (fun xv wr => ∃ (x : Nat) (cs : Array Value), xv = .int .i64 x ∧ a ≤ x ∧ x ≤ a + s ∧ Hid (((x : Int) - a) % s = 0) ∧ Hid (MA w b4 b5 cs (fun j => Sp.inB (l.take k) f j || (Sp.hasB q f j && decide (j < x))) wr)) (fun xv _ => a + 1 - (intOf xv).toNat)
            case atStart =>
              refine ⟨a, cs, by first | rfl | go_num, Nat.le_refl _, by omega, Lib.hid (by simp), Lib.hid (HA7.out.eq fun j hj => ?_)⟩
              have : (Sp.hasB q f j && decide (j < a)) = false := by
                cases hd : decide (j < a) with
                | false => rw [Bool.and_false]
                | true =>
                  have h1 := of_decide_eq_true hd
                  unfold Sp.hasB
                  rw [HEA.out, decide_eq_false (by omega)]
                  rfl
              rw [this, Bool.or_false]
            case round =>
              obtain ⟨x, cs, rfl, hax, hxb, HMD, HA⟩ := hrel
              by_cases hx : x ≤ a
              · have hx1 : (x : Int) ≤ (a : Int) := by omega
                have hx2 : (x : Int) < 2200 := by omega
                have hx3 : (0 : Int) ≤ (x : Int) := by omega
                have v3 : IntKind.i64.wrap ((x : Int) + (s : Int)) = ((x + s : Nat) : Int) := by rw [IntKind.wrap_i64]; omega
                obtain ⟨u, hu⟩ := HA.out.cell x (by omega)
                have hz := HA.out.fz x
                have HA2 := Lib.hid ((HA.out.set x (by omega) h45 hw4).eq (m' := fun j => Sp.inB (l.take k) f j || (Sp.hasB q f j && decide (j < x + s))) fun j hj => by
                  rw [has_step HEA.out HEB.out HES.out hax hx HMD.out j, Bool.or_assoc])
                have HMD2 : Hid ((((x + s : Nat) : Int) - a) % s = 0) := Lib.hid (by
                  have e : ((x + s : Nat) : Int) - a = ((x : Int) - a) + s := by omega
                  rw [e, Int.add_emod_right]
                  exact HMD.out)
                go_wp2
                go_roundw
                case rel => exact ⟨x + s, _, by first | rfl | go_num, by omega, by omega, HMD2, HA2⟩
                case measure => simp [intOf]; omega
              · have hx1 : ¬ (x : Int) ≤ (a : Int) := by omega
                have HNX := Lib.hid (HA.out.eq (m' := fun j => Sp.inB (l.take (k + 1)) f j) fun j hj => by
                  rw [HTK.out j]
                  congr 1
                  cases hd : Sp.hasB q f j with
                  | false => rfl
                  | true =>
                    have h1 := has_le HEB.out hd
                    rw [decide_eq_true (by omega)]
                    rfl)
                go_wp2
                go_roundw
                case rel => exact ⟨k + 1, _, by omega, by first | rfl | go_num, HNX⟩
                case measure => simp [intOf]; omega
          · have tc : (st == 0) = false := by simp [t3]
            have eb2 : Sp.highF f = (b : Int) := by rw [← eb]; unfold Sp.toF; rw [if_neg t1, if_pos t2, if_neg t3]
            rw [eb2] at HMO
            clear ea eb t1 t2 t3 eb2
            subst ea2
            go_upto_region 5 with fail
            go_quiet (fail)
            replace HA7 := Lib.hid (HA7.out.on (belowQ (Below.refl _ _) nq))
            go_wp2_with fail
            refine (HMO.out _).mono ?_
            rintro e w9 ⟨rfl, hb9⟩
            have HA9 := Lib.hid (HA7.out.on hb9)
            clear hb9 HA7
            go_wp2_with fail
            go_loopw [11] (fun xv wr => ∃ (x : Nat) (cs : Array Value), xv = .int .i64 x ∧ a ≤ x ∧ x ≤ b + s ∧ Hid (((x : Int) - a) % s = 0) ∧ Hid (MA w b4 b5 cs (fun j => Sp.inB (l.take k) f j || (Sp.hasB q f j && decide (j < x))) wr)) (fun xv _ => b + 1 - (intOf xv).toNat)
            case atStart =>
              refine ⟨a, cs, by first | rfl | go_num, Nat.le_refl _, by omega, Lib.hid (by simp), Lib.hid (HA9.out.eq fun j hj => ?_)⟩
              have : (Sp.hasB q f j && decide (j < a)) = false := by
                cases hd : decide (j < a) with
                | false => rw [Bool.and_false]
                | true =>
                  have h1 := of_decide_eq_true hd
                  unfold Sp.hasB
                  rw [HEA.out, decide_eq_false (by omega)]
                  rfl
              rw [this, Bool.or_false]
            case round =>
              obtain ⟨x, cs, rfl, hax, hxb, HMD, HA⟩ := hrel
              by_cases hx : x ≤ b
              · have hx1 : (x : Int) ≤ (b : Int) := by omega
                have hx2 : (x : Int) < 2200 := by omega
                have hx3 : (0 : Int) ≤ (x : Int) := by omega
                have v3 : IntKind.i64.wrap ((x : Int) + (s : Int)) = ((x + s : Nat) : Int) := by rw [IntKind.wrap_i64]; omega
                obtain ⟨u, hu⟩ := HA.out.cell x (by omega)
                have hz := HA.out.fz x
                have HA2 := Lib.hid ((HA.out.set x (by omega) h45 hw4).eq (m' := fun j => Sp.inB (l.take k) f j || (Sp.hasB q f j && decide (j < x + s))) fun j hj => by
                  rw [has_step HEA.out HEB.out HES.out hax hx HMD.out j, Bool.or_assoc])
                have HMD2 : Hid ((((x + s : Nat) : Int) - a) % s = 0) := Lib.hid (by
                  have e : ((x + s : Nat) : Int) - a = ((x : Int) - a) + s := by omega
                  rw [e, Int.add_emod_right]
                  exact HMD.out)
                go_wp2
                go_roundw
                case rel => exact ⟨x + s, _, by first | rfl | go_num, by omega, by omega, HMD2, HA2⟩
                case measure => simp [intOf]; omega
              · have hx1 : ¬ (x : Int) ≤ (b : Int) := by omega
                have HNX := Lib.hid (HA.out.eq (m' := fun j => Sp.inB (l.take (k + 1)) f j) fun j hj => by
                  rw [HTK.out j]
                  congr 1
                  cases hd : Sp.hasB q f j with
                  | false => rfl
                  | true =>
                    have h1 := has_le HEB.out hd
                    rw [decide_eq_true (by omega)]
                    rfl)
                go_wp2
                go_roundw
                case rel => exact ⟨k + 1, _, by omega, by first | rfl | go_num, HNX⟩
                case measure => simp [intOf]; omega
        · have tb : (to1 == -1) = false := by simp [t2]
          have eb2 : to1 = (b : Int) := by rw [← eb]; unfold Sp.toF; rw [if_neg t1, if_neg t2]
          clear ea eb t1 t2
          subst ea2
          subst eb2
          go_upto_region 5 with fail
          go_quiet (fail)
          replace HA7 := Lib.hid (HA7.out.on (belowQ (Below.refl _ _) nq))
          go_wp2_with fail
          go_loopw [11] (fun xv wr => ∃ (x : Nat) (cs : Array Value), xv = .int .i64 x ∧ a ≤ x ∧ x ≤ b + s ∧ Hid (((x : Int) - a) % s = 0) ∧ Hid (MA w b4 b5 cs (fun j => Sp.inB (l.take k) f j || (Sp.hasB q f j && decide (j < x))) wr)) (fun xv _ => b + 1 - (intOf xv).toNat)
          case atStart =>
            refine ⟨a, cs, by first | rfl | go_num, Nat.le_refl _, by omega, Lib.hid (by simp), Lib.hid (HA7.out.eq fun j hj => ?_)⟩
            have : (Sp.hasB q f j && decide (j < a)) = false := by
              cases hd : decide (j < a) with
              | false => rw [Bool.and_false]
              | true =>
                have h1 := of_decide_eq_true hd
                unfold Sp.hasB
                rw [HEA.out, decide_eq_false (by omega)]
                rfl
            rw [this, Bool.or_false]
          case round =>
            obtain ⟨x, cs, rfl, hax, hxb, HMD, HA⟩ := hrel
            by_cases hx : x ≤ b
            · have hx1 : (x : Int) ≤ (b : Int) := by omega
              have hx2 : (x : Int) < 2200 := by omega
              have hx3 : (0 : Int) ≤ (x : Int) := by omega
              have v3 : IntKind.i64.wrap ((x : Int) + (s : Int)) = ((x + s : Nat) : Int) := by rw [IntKind.wrap_i64]; omega
              obtain ⟨u, hu⟩ := HA.out.cell x (by omega)
              have hz := HA.out.fz x
              have HA2 := Lib.hid ((HA.out.set x (by omega) h45 hw4).eq (m' := fun j => Sp.inB (l.take k) f j || (Sp.hasB q f j && decide (j < x + s))) fun j hj => by
                rw [has_step HEA.out HEB.out HES.out hax hx HMD.out j, Bool.or_assoc])
              have HMD2 : Hid ((((x + s : Nat) : Int) - a) % s = 0) := Lib.hid (by
                have e : ((x + s : Nat) : Int) - a = ((x : Int) - a) + s := by omega
                rw [e, Int.add_emod_right]
                exact HMD.out)
              go_wp2
              go_roundw
              case rel => exact ⟨x + s, _, by first | rfl | go_num, by omega, by omega, HMD2, HA2⟩
              case measure => simp [intOf]; omega
            · have hx1 : ¬ (x : Int) ≤ (b : Int) := by omega
              have HNX := Lib.hid (HA.out.eq (m' := fun j => Sp.inB (l.take (k + 1)) f j) fun j hj => by
                rw [HTK.out j]
                congr 1
                cases hd : Sp.hasB q f j with
                | false => rfl
                | true =>
                  have h1 := has_le HEB.out hd
                  rw [decide_eq_true (by omega)]
                  rfl)
              go_wp2
              go_roundw
              case rel => exact ⟨k + 1, _, by omega, by first | rfl | go_num, HNX⟩
              case measure => simp [intOf]; omega
    · obtain rfl : k = n := by omega
      have hk1 : ¬ (k : Int) < (k : Int) := by omega
      have HFN : Hid (NumsV cs l f) := Lib.hid ⟨HMA.out.hs, fun j hj => by
        have := HMA.out.hm j hj
        rw [List.take_of_length_le (by rw [HLN.out]; omega)] at this
        exact this⟩
      have h5 := HMA.out.h5
      have h4 := HMA.out.h4
      have hcs := HMA.out.hs
      have h1c : cs.all (·.oneCell') = true := by
        rw [Array.all_eq_true]
        intro i hi
        have hv := HMA.out.hm i (by omega)
        rw [Array.getElem?_eq_getElem hi] at hv
        injection hv with hv
        rw [hv]; rfl
      have hi7 : (Tryz.prog.info? 43).map (·.size) = some cs.size := by rw [hcs]; kernel_rfl
      have hold : (Array.replicate 2200 (Value.bool false)).size = cs.size := by rw [hcs]; simp
      have HBW := Lib.hid HMA.out.hb
      have H4 := Lib.hid h4
      have H5 := Lib.hid h5
      have H1 := Lib.hid h1c
      have HI7 := Lib.hid hi7
      have HO := Lib.hid hold
      clear h5 h4 hcs h1c hi7 hold HMA
      go_upto_region 17 with fail
      go_wp2_with (first | refine wpList_load_row rfl 43 _ rfl b5 rfl 43 cs (0, 0) _ H5.out Tryz.underlying43 rfl HI7.out ?_ | refine wpList_store_row rfl 43 _ _ rfl b4 cs rfl rfl 43 _ H4.out HI7.out HO.out H1.out ?_)
      (try simp only [Exit.inBlock, Exit.then])
      exact bodyPost_ret (v := .agg cs) (results_cell_row rfl _ _ b4 43 cs (0, 0) _ rfl (setRow_heap _ _ _ _ _ _ H4.out) Tryz.underlying43 rfl HI7.out) rfl ⟨⟨cs, rfl, HFN.out⟩, below_setRow HBW.out hw44 _⟩
end

section
open Go.RowKit Go.Shelf
set_option maxRecDepth 100000 in
set_option maxHeartbeats 4000000 in
theorem rweekday_any (s : CalS) (day : Int) (w : World) (h : CalGood w s) : Calls Tryz.prog 21 #[calV s, .int .i64 day] w fun e w' => e = .returned (.bool (Sp.wdayB s.cal.days day)) ∧ Below w.heap.size w w' := by
  have hra := h.rd
  have hbd := h.bd
  have hdl : s.cal.days.length = s.d.n := by
    have h1 := h.rd.1
    rw [intsC_len] at h1
    omega
  clear h
  obtain ⟨⟨dA, dn, dc⟩, ⟨A0, n0, c0⟩, ⟨A1, n1, c1⟩, ⟨A2, n2, c2⟩, ⟨A3, n3, c3⟩, ⟨A4, n4, c4⟩, ⟨A5, n5, c5⟩, cal⟩ := s
  dsimp only at hra hbd hdl
  have HRA := Lib.hid (fun k hk => Rd.intAt hra k hk)
  have HDL := Lib.hid hdl
  clear hra hdl
  have hcb := CBox.new w ⟨⟨dA, dn, dc⟩, ⟨A0, n0, c0⟩, ⟨A1, n1, c1⟩, ⟨A2, n2, c2⟩, ⟨A3, n3, c3⟩, ⟨A4, n4, c4⟩, ⟨A5, n5, c5⟩, cal⟩
  have hw0 : Below w.heap.size w (w.alloc (.cells #[.slice dA dn dc, .slice A0 n0 c0, .slice A1 n1 c1, .slice A2 n2 c2, .slice A3 n3 c3, .slice A4 n4 c4, .slice A5 n5 c5] 25)) := (Below.refl _ _).alloc (Nat.le_refl _) _
  simp only [slV] at hcb
  dsimp only
  simp only [calV, slV]
  go_enter Tryz.func21, Tryz.ntmps21
  go_upto_region 1 with fail
  generalize w.alloc (.cells #[.slice dA dn dc, .slice A0 n0 c0, .slice A1 n1 c1, .slice A2 n2 c2, .slice A3 n3 c3, .slice A4 n4 c4, .slice A5 n5 c5] 25) = w1 at *
  have HW := Lib.hid hw0
  clear hw0
  have p0 := hcb.c0
  simp only [slV] at p0
  clear hcb
  have HEM : Hid (((dn : Int) == 0) = cal.days.isEmpty) := Lib.hid (by
    rw [Bool.eq_iff_iff, beq_iff_eq, List.isEmpty_iff, ← List.length_eq_zero_iff, HDL.out]
    omega)
  obtain ⟨E, hE⟩ : ∃ E, E = ((dn : Int) == 0) := ⟨_, rfl⟩
  have HE : Hid (E = cal.days.isEmpty) := Lib.hid (hE.trans HEM.out)
  have hE2 := hE.symm
  clear hE HEM
  go_wp2_with fail
  clear p0 hE2
  go_loopw [5, 15] (fun bv iv wr => ∃ (k : Nat) (B : Bool), k ≤ dn ∧ iv = .int .i64 k ∧ bv = .bool B ∧ Hid (B = (cal.days.isEmpty || (cal.days.take k).any fun d => decide (d = day))) ∧ wr = w1) (fun _ iv _ => dn - (intOf iv).toNat)
  case atStart => exact ⟨0, E, Nat.zero_le _, rfl, rfl, Lib.hid (by rw [HE.out]; simp), rfl⟩
  case round =>
    obtain ⟨k, B, hk, rfl, rfl, HB, rfl⟩ := hrel
    by_cases hkd : k < dn
    · have hx1 : (k : Int) < (dn : Int) := by omega
      have hx0 : (0 : Int) ≤ (k : Int) := by omega
      have v1 : IntKind.i64.wrap ((k : Int) + 1) = ((k + 1 : Nat) : Int) := by rw [IntKind.wrap_i64]; omega
      have hkl : k < cal.days.length := by rw [HDL.out]; exact hkd
      obtain ⟨a1, rfl, hc1⟩ := HRA.out k hkl
      have cc0 := hc1 _ HW.out
      have HTK : Hid ((cal.days.take (k + 1)).any (fun d => decide (d = day)) = ((cal.days.take k).any (fun d => decide (d = day)) || (cal.days[k] == day))) := Lib.hid (by
        rw [List.take_succ_eq_append_getElem hkl, List.any_append]
        simp
        rfl)
      clear hc1
      generalize cal.days[k] = y at *
      generalize ht : (y == day) = t at *
      have HNB : Hid ((B || t) = (cal.days.isEmpty || (cal.days.take (k + 1)).any fun d => decide (d = day))) := Lib.hid (by rw [HTK.out, HB.out, Bool.or_assoc])
      cases B with
      | true =>
        go_wp2
        go_roundw
        case rel => exact ⟨k + 1, true, by omega, by first | rfl | go_num, rfl, Lib.hid (by rw [← HNB.out]; rfl), by trivial⟩
        case measure => simp [intOf]; omega
      | false =>
        go_wp2
        go_roundw
        case rel => exact ⟨k + 1, t, by omega, by first | rfl | go_num, rfl, Lib.hid (by rw [← HNB.out]; rfl), by trivial⟩
        case measure => simp [intOf]; omega
    · obtain rfl : k = dn := by omega
      have hx1 : ¬ (k : Int) < (k : Int) := by omega
      have HR : Hid (B = Sp.wdayB cal.days day) := Lib.hid (by
        rw [HB.out, List.take_of_length_le (by rw [HDL.out]; omega)]
        rfl)
      go_wp2
      go_ret
      exact ⟨by rw [HR.out]; rfl, HW.out⟩
end

section
open Go.RowKit Go.Shelf
namespace Sp
def dval (D : DateD) : Nat → Int
  | 0 => D.year
  | 1 => D.month
  | 2 => D.day
  | 3 => D.hour
  | 4 => D.min
  | _ => D.sec
theorem in_all6 {c : CalD} {D : DateD} (h : ∀ i, i < 6 → inB (c.field i) i (dval D i) = true) : inDate c D = true := by
  have h0 : inB c.year 0 D.year = true := h 0 (by decide)
  have h1 : inB c.month 1 D.month = true := h 1 (by decide)
  have h2 : inB c.day 2 D.day = true := h 2 (by decide)
  have h3 : inB c.hour 3 D.hour = true := h 3 (by decide)
  have h4 : inB c.min 4 D.min = true := h 4 (by decide)
  have h5 : inB c.sec 5 D.sec = true := h 5 (by decide)
  unfold inDate
  rw [h0, h1, h2, h3, h4, h5]
  rfl
theorem in_not {c : CalD} {D : DateD} (k : Nat) (hk : k < 6) (h : inB (c.field k) k (dval D k) = false) : inDate c D = false := by
  unfold inDate
  have e : k = 0 ∨ k = 1 ∨ k = 2 ∨ k = 3 ∨ k = 4 ∨ k = 5 := by omega
  rcases e with rfl | rfl | rfl | rfl | rfl | rfl
  · rw [show inB c.year 0 D.year = false from h]; rfl
  · rw [show inB c.month 1 D.month = false from h]; simp
  · rw [show inB c.day 2 D.day = false from h]; simp
  · rw [show inB c.hour 3 D.hour = false from h]; simp
  · rw [show inB c.min 4 D.min = false from h]; simp
  · rw [show inB c.sec 5 D.sec = false from h]; simp
end Sp
theorem rindex_marks (cs : Array Value) (v : Int) (u : Bool) (h0 : 0 ≤ v) (h1 : v < 2200) (h : cs[v.toNat]? = some (.bool u)) (W : World) : (Instr.index 43 (.agg cs) (.int .i64 v)).run Tryz.prog W = .ok (.bool u) W := by
  simp [Instr.index, run_underlying Tryz.underlying43, asIntOf, go_sem, h0, h1, h]
theorem date_cell (W : World) (yy mo dd hh mi se wd : Int) (j : Nat) (h : j < 6) : (W.alloc (.cells #[.int .i64 yy, .int .i64 mo, .int .i64 dd, .int .i64 hh, .int .i64 mi, .int .i64 se] 3)).cell? ⟨W.heap.size, j, none⟩ = some (.int .i64 (Sp.dval ⟨yy, mo, dd, hh, mi, se, wd⟩ j)) := by
  have hh2 := World.alloc_heap_new W (.cells #[.int .i64 yy, .int .i64 mo, .int .i64 dd, .int .i64 hh, .int .i64 mi, .int .i64 se] 3)
  have e : j = 0 ∨ j = 1 ∨ j = 2 ∨ j = 3 ∨ j = 4 ∨ j = 5 := by omega
  rcases e with rfl | rfl | rfl | rfl | rfl | rfl <;> (simp only [World.cell?, hh2]; rfl)
theorem date_small (t : Int) (h : Sp.okT t = true) (i : Nat) : 0 ≤ Sp.dval (Sp.dateOf t) i ∧ Sp.dval (Sp.dateOf t) i < 2200 := by
  have hr := Sp.date_ranges t h
  unfold Sp.okT at h
  simp only [Bool.and_eq_true, decide_eq_true_eq] at h
  obtain ⟨hx, _⟩ := Sp.day_of_date t h.1 h.2
  unfold Sp.okDay at hx
  simp only [Bool.and_eq_true, decide_eq_true_eq] at hx
  have hd := Sp.dim_all (Sp.dateOf t).year (Sp.dateOf t).month
  have e1 : (Sp.dateOf t).hour = t % 86400 / 3600 := rfl
  have e2 : (Sp.dateOf t).min = t % 3600 / 60 := rfl
  have e3 : (Sp.dateOf t).sec = t % 60 := rfl
  match i with
  | 0 => exact ⟨hr.1.1, by show (Sp.dateOf t).year < 2200; omega⟩
  | 1 => exact ⟨hr.2.1.1, by show (Sp.dateOf t).month < 2200; omega⟩
  | 2 => exact ⟨hr.2.2.1.1, by show (Sp.dateOf t).day < 2200; omega⟩
  | 3 => exact ⟨by show 0 ≤ (Sp.dateOf t).hour; omega, by show (Sp.dateOf t).hour < 2200; omega⟩
  | 4 => exact ⟨by show 0 ≤ (Sp.dateOf t).min; omega, by show (Sp.dateOf t).min < 2200; omega⟩
  | n + 5 => exact ⟨by show 0 ≤ (Sp.dateOf t).sec; omega, by show (Sp.dateOf t).sec < 2200; omega⟩
end

section
namespace Sp
/-- nothing of a calendar's behind a second and ahead of another one -/
def NB (c : CalD) (after T : Int) : Prop := ∀ t, after < t → t < T → matchB c t = false
theorem no_match {c : CalD} {t : Int} (h : 0 ≤ t → t < 6311433600 → wdayB c.days (dateOf t).wday = false ∨ inDate c (dateOf t) = false) : matchB c t = false := by
  unfold matchB
  by_cases h0 : 0 ≤ t
  · by_cases h1 : t < 6311433600
    · rcases h h0 h1 with h | h <;> rw [h] <;> simp
    · rw [decide_eq_false h1]; simp
  · rw [decide_eq_false h0]; simp
theorem date_day (t k : Int) (h : t / 86400 = k) : (dateOf t).year = (dateOf (k * 86400)).year ∧ (dateOf t).month = (dateOf (k * 86400)).month ∧ (dateOf t).day = (dateOf (k * 86400)).day ∧ (dateOf t).wday = (dateOf (k * 86400)).wday := by
  have e : k * 86400 / 86400 = t / 86400 := by omega
  unfold dateOf
  simp only [e]
  exact ⟨trivial, trivial, trivial, trivial⟩
theorem NB.start (c : CalD) (after a : Int) (h : a = max after (-1)) : NB c after ((a + 1) / 86400 * 86400) := by
  intro t h1 h2
  exact no_match fun h0 => by omega
theorem NB.year {c : CalD} {after k : Int} (h : NB c after (k * 86400)) (hk : 0 ≤ k ∧ k < 73049) (hn : inB c.year 0 (dateOf (k * 86400)).year = false) : NB c after ((dayOf (dateOf (k * 86400)).year 12 31 + 1) * 86400) := by
  intro t h1 h2
  by_cases hx : t < k * 86400
  · exact h t h1 hx
  · refine no_match fun h0 h3 => .inr ?_
    obtain ⟨e1, e2⟩ := day_of_date t h0 h3
    obtain ⟨g1, g2⟩ := day_of_date (k * 86400) (by omega) (by omega)
    rw [show k * 86400 / 86400 = k by omega] at g2
    have hy : (dateOf t).year = (dateOf (k * 86400)).year := by
      have b1 := e1
      unfold okDay at b1
      simp only [Bool.and_eq_true, decide_eq_true_eq] at b1
      have c1 := g1
      unfold okDay at c1
      simp only [Bool.and_eq_true, decide_eq_true_eq] at c1
      have hd : okDay (dateOf (k * 86400)).year 12 31 = true := by
        unfold okDay
        rw [decide_eq_true c1.1.1.1, decide_eq_true c1.1.1.2]
        rfl
      rcases Int.lt_trichotomy (dateOf t).year (dateOf (k * 86400)).year with hl | hl | hl
      · have := day_less _ _ _ _ _ _ e1 g1 (.inl hl)
        omega
      · exact hl
      · have := day_less _ _ _ _ _ _ hd e1 (.inl hl)
        omega
    exact in_not 0 (by decide) (show inB c.year 0 (dateOf t).year = false by rw [hy]; exact hn)
theorem NB.day {c : CalD} {after k : Int} (h : NB c after (k * 86400)) (hn : inB c.month 1 (dateOf (k * 86400)).month = false ∨ inB c.day 2 (dateOf (k * 86400)).day = false ∨ wdayB c.days (dateOf (k * 86400)).wday = false) : NB c after ((k + 1) * 86400) := by
  intro t h1 h2
  by_cases hx : t < k * 86400
  · exact h t h1 hx
  · refine no_match fun h0 h3 => ?_
    obtain ⟨e1, e2, e3, e4⟩ := date_day t k (by omega)
    rcases hn with hn | hn | hn
    · exact .inr (in_not 1 (by decide) (show inB c.month 1 (dateOf t).month = false by rw [e2]; exact hn))
    · exact .inr (in_not 2 (by decide) (show inB c.day 2 (dateOf t).day = false by rw [e3]; exact hn))
    · exact .inl (by rw [e4]; exact hn)
theorem NB.hour {c : CalD} {after k h : Int} (hb : NB c after (k * 86400 + h * 3600)) (hh : 0 ≤ h ∧ h < 24) (hn : inB c.hour 3 h = false) : NB c after (k * 86400 + (h + 1) * 3600) := by
  intro t h1 h2
  by_cases hx : t < k * 86400 + h * 3600
  · exact hb t h1 hx
  · refine no_match fun h0 h3 => .inr (in_not 3 (by decide) ?_)
    show inB c.hour 3 (t % 86400 / 3600) = false
    rw [show t % 86400 / 3600 = h by omega]
    exact hn
theorem NB.min {c : CalD} {after k h m : Int} (hb : NB c after (k * 86400 + h * 3600 + m * 60)) (hm : 0 ≤ m ∧ m < 60) (hn : inB c.min 4 m = false) : NB c after (k * 86400 + h * 3600 + (m + 1) * 60) := by
  intro t h1 h2
  by_cases hx : t < k * 86400 + h * 3600 + m * 60
  · exact hb t h1 hx
  · refine no_match fun h0 h3 => .inr (in_not 4 (by decide) ?_)
    show inB c.min 4 (t % 3600 / 60) = false
    rw [show t % 3600 / 60 = m by omega]
    exact hn
theorem NB.sec {c : CalD} {after a k h m s : Int} (ha : a = max after (-1)) (hb : NB c after (k * 86400 + h * 3600 + m * 60 + s)) (hs : 0 ≤ s ∧ s < 60) (hn : inB c.sec 5 s = false ∨ k * 86400 + h * 3600 + m * 60 + s ≤ a) : NB c after (k * 86400 + h * 3600 + m * 60 + (s + 1)) := by
  intro t h1 h2
  by_cases hx : t < k * 86400 + h * 3600 + m * 60 + s
  · exact hb t h1 hx
  · refine no_match fun h0 h3 => ?_
    rcases hn with hn | hn
    · refine .inr (in_not 5 (by decide) ?_)
      show inB c.sec 5 (t % 60) = false
      rw [show t % 60 = s by omega]
      exact hn
    · omega
theorem NB.found {c : CalD} {after a k h m s : Int} (ha : a = max after (-1)) (hb : NB c after (k * 86400 + h * 3600 + m * 60 + s)) (hm : mayCal c = true) (hk : 0 ≤ k ∧ k < 73049) (hh : 0 ≤ h ∧ h < 24) (hmi : 0 ≤ m ∧ m < 60) (hs : 0 ≤ s ∧ s < 60)
    (i0 : inB c.year 0 (dateOf (k * 86400)).year = true) (i1 : inB c.month 1 (dateOf (k * 86400)).month = true) (i2 : inB c.day 2 (dateOf (k * 86400)).day = true) (iw : wdayB c.days (dateOf (k * 86400)).wday = true) (i3 : inB c.hour 3 h = true) (i4 : inB c.min 4 m = true) (i5 : inB c.sec 5 s = true)
    (hl : a < k * 86400 + h * 3600 + m * 60 + s) : NextIs c after (k * 86400 + h * 3600 + m * 60 + s) true := by
  refine .inl ⟨rfl, by omega, ?_, hb⟩
  obtain ⟨t, ht⟩ : ∃ t, t = k * 86400 + h * 3600 + m * 60 + s := ⟨_, rfl⟩
  rw [← ht]
  obtain ⟨e1, e2, e3, e4⟩ := date_day t k (by omega)
  have e5 : (dateOf t).hour = h := by show t % 86400 / 3600 = h; omega
  have e6 : (dateOf t).min = m := by show t % 3600 / 60 = m; omega
  have e7 : (dateOf t).sec = s := by show t % 60 = s; omega
  unfold matchB inDate
  rw [e1, e2, e3, e4, e5, e6, e7, i0, i1, i2, iw, i3, i4, i5, hm, decide_eq_true (show 0 ≤ t by omega), decide_eq_true (show t < 6311433600 by omega)]
  rfl
/-- a day that a calendar has -/
def HasD (c : CalD) (D : DateD) : Prop := inB c.year 0 D.year = true ∧ inB c.month 1 D.month = true ∧ inB c.day 2 D.day = true ∧ wdayB c.days D.wday = true
theorem year_end {k : Int} (hk : 0 ≤ k ∧ k < 73049) : (2000 ≤ (dateOf (k * 86400)).year ∧ (dateOf (k * 86400)).year ≤ 2199) ∧ k ≤ dayOf (dateOf (k * 86400)).year 12 31 ∧ dayOf (dateOf (k * 86400)).year 12 31 < 73049 := by
  obtain ⟨g1, g2⟩ := day_of_date (k * 86400) (by omega) (by omega)
  rw [show k * 86400 / 86400 = k by omega] at g2
  have c1 := g1
  unfold okDay at c1
  simp only [Bool.and_eq_true, decide_eq_true_eq] at c1
  have hd : okDay (dateOf (k * 86400)).year 12 31 = true := by
    unfold okDay
    rw [decide_eq_true c1.1.1.1, decide_eq_true c1.1.1.2]
    rfl
  refine ⟨⟨c1.1.1.1, c1.1.1.2⟩, ?_, (dayOf_range _ _ _ hd).2⟩
  have h31 := dim_all (dateOf (k * 86400)).year (dateOf (k * 86400)).month
  by_cases e : (dateOf (k * 86400)).month < 12 ∨ ((dateOf (k * 86400)).month = 12 ∧ (dateOf (k * 86400)).day < 31)
  · have := day_less _ _ _ _ _ _ g1 hd (.inr ⟨rfl, e⟩)
    omega
  · have em : (dateOf (k * 86400)).month = 12 := by omega
    have ed : (dateOf (k * 86400)).day = 31 := by omega
    rw [em, ed] at g2
    omega
theorem NB.done {c : CalD} {after T : Int} (h : NB c after T) (hT : 6311433600 ≤ T) : NextIs c after 0 false :=
  .inr ⟨rfl, rfl, fun t ht => by
    by_cases hx : t < T
    · exact h t ht hx
    · exact no_match fun h0 h1 => by omega⟩
end Sp
end

section
open Go.RowKit
set_option maxRecDepth 100000 in
set_option maxHeartbeats 16000000 in
theorem rto_end (y : Int) (w : World) (hy : 2000 ≤ y ∧ y ≤ 2199) :
    Calls Tryz.prog 20 #[.agg #[.int .i64 y, .int .i64 12, .int .i64 31, .int .i64 0, .int .i64 0, .int .i64 0, .int .i64 0]] w fun e w' => e = .returned (.tuple #[.int .i64 (Sp.dayOf y 12 31 * 86400), .bool true]) ∧ Below w.heap.size w w' := by
  have HD : Hid (∀ w, Calls Tryz.prog 51 #[.int .i64 y, .int .i64 12] w fun e w' => e = .returned (.int .i64 31) ∧ w = w') := Lib.hid (fun w => rdim_any y 12 w)
  obtain ⟨V, hV⟩ : ∃ V : Int, V = Sp.dayOf y 12 31 := ⟨_, rfl⟩
  rw [← hV]
  obtain ⟨K, hK⟩ : ∃ K, K = (y - 2000).toNat := ⟨_, rfl⟩
  have HSEC : Hid (V = Sp.ysum K + Sp.msum y 11 + 30) := Lib.hid (by rw [hV, hK]; unfold Sp.dayOf; rfl)
  have HKM : Hid (y = 2000 + (K : Int)) := Lib.hid (by omega)
  have bK : K < 200 := by omega
  clear hV hK
  have HX := Lib.hid (DBox.new w ⟨y, 12, 31, 0, 0, 0, 0⟩)
  have hb0 : Below w.heap.size w (w.alloc (.cells #[.int .i64 y, .int .i64 12, .int .i64 31, .int .i64 0, .int .i64 0, .int .i64 0, .int .i64 0] 37)) := (Below.refl _ _).alloc (Nat.le_refl _) _
  have hlt : w.heap.size < (w.alloc (.cells #[.int .i64 y, .int .i64 12, .int .i64 31, .int .i64 0, .int .i64 0, .int .i64 0, .int .i64 0] 37)).heap.size := by simp
  dsimp only at HX
  go_enter Tryz.func20, Tryz.ntmps20
  go_upto_region 1 with fail
  generalize (w.alloc (.cells #[.int .i64 y, .int .i64 12, .int .i64 31, .int .i64 0, .int .i64 0, .int .i64 0, .int .i64 0] 37)) = w1 at *
  generalize hbs : w.heap.size = b1 at *
  have HBS := Lib.hid hbs
  have HB1 := Lib.hid hb0
  have e0 : ∀ p : Since w1.heap.size w1, p.w'.cell? ⟨b1, 0, none⟩ = some (.int .i64 y) := fun p => (HX.out.on hlt p.hb).c0
  have e1 : ∀ p : Since w1.heap.size w1, p.w'.cell? ⟨b1, 1, none⟩ = some (.int .i64 12) := fun p => (HX.out.on hlt p.hb).c1
  have e2 : ∀ p : Since w1.heap.size w1, p.w'.cell? ⟨b1, 2, none⟩ = some (.int .i64 31) := fun p => (HX.out.on hlt p.hb).c2
  have e3 : ∀ p : Since w1.heap.size w1, p.w'.cell? ⟨b1, 3, none⟩ = some (.int .i64 0) := fun p => (HX.out.on hlt p.hb).c3
  have e4 : ∀ p : Since w1.heap.size w1, p.w'.cell? ⟨b1, 4, none⟩ = some (.int .i64 0) := fun p => (HX.out.on hlt p.hb).c4
  have e5 : ∀ p : Since w1.heap.size w1, p.w'.cell? ⟨b1, 5, none⟩ = some (.int .i64 0) := fun p => (HX.out.on hlt p.hb).c5
  have hy0 : ¬ y < 2000 := by omega
  have hy1 : ¬ 2199 < y := by omega
  clear hbs hb0
  refine wp_region_since w1.heap.size (by kernel_rfl) (by kernel_rfl) ?_
  repeat (go_big_quiet_step (first | (go_at_call 51; exact Calls.since_same (HD.out _))))
  refine wpQuiet_nil ?_
  intro _ hw'
  obtain ⟨pz, hw''⟩ := hw'
  subst hw''
  have HZ := Lib.hid (HB1.out.trans (pz.hb.mono (Nat.le_of_lt hlt)))
  have HX2 := Lib.hid (HX.out.on hlt pz.hb)
  generalize pz.w' = w2 at *
  clear e0 e1 e2 e3 e4 e5 HX HB1 hlt
  obtain ⟨c0, c1, c2, c3, c4, c5, c6, -, -, -, -, -, -, -⟩ := HX2.out
  dsimp only at c0 c1 c2 c3 c4 c5 c6
  have bys : ∀ k, k ≤ 200 → 0 ≤ Sp.ysum k ∧ Sp.ysum k ≤ 73049 := fun k hk => ⟨Sp.ysum_nonneg k, by rw [← Sp.ysum_200]; exact Sp.ysum_le k 200 hk⟩
  have bms : ∀ m, m ≤ 12 → 0 ≤ Sp.msum y m ∧ Sp.msum y m ≤ 366 := fun m hm => ⟨Sp.msum_nonneg y m, by have h1 := Sp.msum_le y m 12 hm; rw [Sp.msum_12] at h1; have := Sp.long_pos y; omega⟩
  have HBY := Lib.hid bys
  have HBM := Lib.hid bms
  clear bys bms HD
  go_wp2_with fail
  go_loopw [4, 5] (fun dv yv wr => w2 = wr ∧ ∃ (k : Nat) (z yy : Int), dv = .int .i64 z ∧ yv = .int .i64 yy ∧ Hid (z = Sp.ysum k + 30 ∧ yy = 2000 + (k : Int)) ∧ k ≤ K ∧ (0 ≤ z ∧ z ≤ 73100) ∧ (2000 ≤ yy ∧ yy ≤ 2199)) (fun _ yv _ => 3000 - (intOf yv).toNat)
  case atStart => exact ⟨rfl, 0, 30, 2000, rfl, rfl, Lib.hid ⟨by simp [Sp.ysum], rfl⟩, Nat.zero_le _, by omega, by omega⟩
  case round =>
    obtain ⟨rfl, k, z, yy, rfl, rfl, HZK, hk, hz, hyy⟩ := hrel
    have HL := Lib.hid (fun w => rleap_any yy w)
    have HYS : Hid (Sp.ysum (k + 1) = Sp.ysum k + if Sp.leapB yy then 366 else 365) := Lib.hid (by rw [Sp.ysum, ← HZK.out.2]; rfl)
    by_cases hc : yy < y
    · have hk2 : k < K := by have h1 := HZK.out.2; have h2 := HKM.out; omega
      have hb2 := HBY.out (k + 1) (by omega)
      rw [HYS.out] at hb2
      generalize hL : Sp.leapB yy = L at *
      have e1 : IntKind.i64.wrap (z + 365) = z + 365 := by rw [IntKind.wrap_i64]; omega
      have e3 : IntKind.i64.wrap (z + 365 + 1) = z + 365 + 1 := by rw [IntKind.wrap_i64]; omega
      have e2 : IntKind.i64.wrap (yy + 1) = yy + 1 := by rw [IntKind.wrap_i64]; omega
      clear hL
      go_wp2_with fail
      refine (HL.out _).mono ?_
      rintro e w3 ⟨rfl, rfl⟩
      cases L with
      | true =>
        have hz2 : z + 365 + 1 ≤ 73100 := by have h1 := HZK.out.1; simp at hb2; omega
        clear hb2
        go_wp2
        go_roundw
        case rel => exact ⟨by first | rfl | trivial, k + 1, z + 365 + 1, yy + 1, rfl, rfl, Lib.hid ⟨by rw [HYS.out]; have := HZK.out.1; simp; omega, by have := HZK.out.2; omega⟩, by omega, by omega, by omega⟩
        case measure => simp [intOf]; omega
      | false =>
        have hz2 : z + 365 ≤ 73100 := by have h1 := HZK.out.1; simp at hb2; omega
        clear hb2
        go_wp2
        go_roundw
        case rel => exact ⟨by first | rfl | trivial, k + 1, z + 365, yy + 1, rfl, rfl, Lib.hid ⟨by rw [HYS.out]; have := HZK.out.1; simp; omega, by have := HZK.out.2; omega⟩, by omega, by omega, by omega⟩
        case measure => simp [intOf]; omega
    · have HKE : Hid (k = K ∧ yy = y) := Lib.hid ⟨by have h1 := HZK.out.2; have h2 := HKM.out; omega, by have h1 := HZK.out.2; have h2 := HKM.out; omega⟩
      have hz3 : z ≤ 73080 := by
        have h1 := HZK.out.1
        have h2 := HBY.out K (by omega)
        rw [HKE.out.1] at h1
        omega
      go_wp2_with fail
      go_loopw [4, 6] (fun dv mv wr => w2 = wr ∧ ∃ (m : Nat) (q mm : Int), dv = .int .i64 q ∧ mv = .int .i64 mm ∧ Hid (q = z + Sp.msum y m ∧ mm = (m : Int) + 1) ∧ m ≤ 11 ∧ (0 ≤ q ∧ q ≤ 74000) ∧ (1 ≤ mm ∧ mm ≤ 12)) (fun _ mv _ => 30 - (intOf mv).toNat)
      case atStart => exact ⟨rfl, 0, z, 1, rfl, rfl, Lib.hid ⟨by simp [Sp.msum], rfl⟩, Nat.zero_le _, by omega, by omega⟩
      case round =>
        obtain ⟨rfl, m, q, mm, rfl, rfl, HQ, hm, hq, hmm⟩ := hrel
        have HDM := Lib.hid (fun w => rdim_any y mm w)
        have hl2 := Sp.dim_all y mm
        have HMS : Hid (Sp.msum y (m + 1) = Sp.msum y m + Sp.dimB y mm) := Lib.hid (by rw [Sp.msum, ← HQ.out.2])
        by_cases hc2 : mm < 12
        · have hm2 : m < 11 := by have h1 := HQ.out.2; omega
          have hb2 := HBM.out (m + 1) (by omega)
          rw [HMS.out] at hb2
          generalize hL : Sp.dimB y mm = L at *
          have e1 : IntKind.i64.wrap (q + L) = q + L := by rw [IntKind.wrap_i64]; omega
          have e2 : IntKind.i64.wrap (mm + 1) = mm + 1 := by rw [IntKind.wrap_i64]; omega
          have hq2 : q + L ≤ 74000 := by have h1 := HQ.out.1; omega
          clear hL hb2
          go_wp2_with fail
          refine (HDM.out _).mono ?_
          rintro e w3 ⟨rfl, rfl⟩
          go_wp2
          go_roundw
          case rel => exact ⟨by first | rfl | trivial, m + 1, q + L, mm + 1, rfl, rfl, Lib.hid ⟨by rw [HMS.out]; have := HQ.out.1; omega, by have := HQ.out.2; omega⟩, by omega, by omega, by omega⟩
          case measure => simp [intOf]; omega
        · have HME : Hid (m = 11) := Lib.hid (by have h1 := HQ.out.2; omega)
          have HFIN : Hid (V * 86400 = q * 86400) := Lib.hid (by
            rw [HSEC.out]
            have h1 := HQ.out.1
            have h2 := HZK.out.1
            rw [HKE.out.1] at h2
            rw [HME.out] at h1
            omega)
          have t1 : IntKind.i64.wrap (q * 86400) = q * 86400 := by rw [IntKind.wrap_i64]; omega
          go_wp2
          rw [HFIN.out]
          go_ret2
          rw [HBS.out]
          exact ⟨rfl, HZ.out⟩
end

section
open Go.RowKit
set_option maxRecDepth 100000 in
theorem zero13200 : Tryz.zeroCells44 = Array.replicate 13200 (.bool false) := by kernel_rfl
/-- six rows of marks -/
structure M6 (b : Nat) (m : Nat → Nat → Bool) (W : World) : Prop where
  hc : ∀ f j, f < 6 → j < 2200 → W.cell? ⟨b, f * 2200 + j, none⟩ = some (.bool (m f j))
  hz : ∀ k, W.frozen? ⟨b, k, none⟩ = false
  lt : b < W.heap.size
theorem M6.on {b : Nat} {m : Nat → Nat → Bool} {W W' : World} (h : M6 b m W) (hb : Below W.heap.size W W') : M6 b m W' :=
  ⟨fun f j hf hj => (hb.cell (p := ⟨b, f * 2200 + j, none⟩) h.lt).trans (h.hc f j hf hj), fun k => (hb.frozen (p := ⟨b, k, none⟩) h.lt).trans (h.hz k), Nat.lt_of_lt_of_le h.lt hb.size⟩
theorem M6.under {b B : Nat} {m : Nat → Nat → Bool} {W W' : World} (h : M6 b m W) (hb : Below B W W') (hB : b < B) : M6 b m W' :=
  ⟨fun f j hf hj => (hb.cell (p := ⟨b, f * 2200 + j, none⟩) hB).trans (h.hc f j hf hj), fun k => (hb.frozen (p := ⟨b, k, none⟩) hB).trans (h.hz k), Nat.lt_of_lt_of_le h.lt hb.size⟩
theorem M6.new {b : Nat} {W : World} (h : W.heap[b]? = some (.cells (Array.replicate 13200 (.bool false)) 44 (0, 0))) : M6 b (fun _ _ => false) W :=
  ⟨fun f j hf hj => by
    rw [cell_of_row W b _ _ _ _ h, Array.getElem?_replicate, if_pos (by omega)], fun k => frozen_of_row W b k _ _ h, (Array.getElem?_eq_some_iff.1 h).1⟩
theorem M6.eq {b : Nat} {m m' : Nat → Nat → Bool} {W : World} (h : M6 b m W) (e : ∀ f j, f < 6 → j < 2200 → m' f j = m f j) : M6 b m' W :=
  ⟨fun f j hf hj => by rw [e f j hf hj]; exact h.hc f j hf hj, h.hz, h.lt⟩
theorem M6.there {b : Nat} {m : Nat → Nat → Bool} {W : World} (h : M6 b m W) (f : Nat) (hf : f < 6) : W.there b (f * 2200) 2200 :=
  fun j hj => ⟨by rw [h.hc f j hf hj]; rfl, h.hz _⟩
theorem M6.range {b : Nat} {m : Nat → Nat → Bool} {W : World} (h : M6 b m W) (f : Nat) (hf : f < 6) (l : List Value) (hl : ∀ j v, l[j]? = some v → j < 2200 ∧ v = .bool (m f j)) : W.rangeAt b (f * 2200) l :=
  fun j v hv => by
    obtain ⟨h1, rfl⟩ := hl j v hv
    exact h.hc f j hf h1
theorem size_setCells (b : Nat) : ∀ (vs : List Value) (o : Nat) (w : World), (w.setCells b o vs).heap.size = w.heap.size
  | [], _, _ => rfl
  | v :: r, o, w => by
    rw [World.setCells, size_setCells b r (o + 1) _]
    simp
/-- one row put in -/
theorem M6.put {b : Nat} {m : Nat → Nat → Bool} {W : World} (h : M6 b m W) (f : Nat) (hf : f < 6) (cs : Array Value) (hs : cs.size = 2200) (g : Nat → Bool) (hg : ∀ j, j < 2200 → cs[j]? = some (.bool (g j))) :
    M6 b (fun i j => if i = f then g j else m i j) (W.setCells b (f * 2200) cs.toList) := by
  refine ⟨fun i j hi hj => ?_, fun k => by rw [World.frozen?_setCells]; exact h.hz k, by rw [size_setCells]; exact h.lt⟩
  by_cases e : i = f
  · subst e
    rw [if_pos rfl, World.cell?_setCells_in b cs.toList (i * 2200) W (fun k hk => (h.there i hf k (by simp at hk; omega)).1) j (by simp; omega)]
    have := hg j hj
    rw [Array.getElem?_eq_getElem (by omega)] at this
    rw [← this]
    simp
  · rw [if_neg e, World.cell?_setCells_out b cs.toList (f * 2200) W _ (fun _ _ => by simp only [Array.length_toList]; omega)]
    exact h.hc i j hi hj
end

end Go.Proofs.YtpkpoglmmjaoeaaGreatDoor
