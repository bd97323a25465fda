/-
  Whether a calendar has a second: the program's walk.
-/
import Derived.Test.YtpkpoglmmjaoeaaGreatDoorCs
namespace Go.Proofs.YtpkpoglmmjaoeaaGreatDoor
open Go.RowKit Go.Shelf

namespace Sp
theorem date_ranges (t : Int) (h : okT t = true) : (0 ≤ (dateOf t).year ∧ (dateOf t).year ≤ 9999) ∧ (0 ≤ (dateOf t).month ∧ (dateOf t).month ≤ 9999) ∧ (0 ≤ (dateOf t).day ∧ (dateOf t).day ≤ 9999) ∧ (0 ≤ (dateOf t).hour ∧ (dateOf t).hour ≤ 9999) ∧ (0 ≤ (dateOf t).min ∧ (dateOf t).min ≤ 9999) ∧ (0 ≤ (dateOf t).sec ∧ (dateOf t).sec ≤ 9999) := by
  unfold okT at h
  simp only [Bool.and_eq_true, decide_eq_true_eq] at h
  obtain ⟨h1, _⟩ := day_of_date t h.1 h.2
  unfold okDay at h1
  simp only [Bool.and_eq_true, decide_eq_true_eq] at h1
  have hd := dim_all (dateOf t).year (dateOf t).month
  have eh : (dateOf t).hour = t % 86400 / 3600 := rfl
  have em : (dateOf t).min = t % 3600 / 60 := rfl
  have es : (dateOf t).sec = t % 60 := rfl
  rw [eh, em, es]
  omega
theorem mayCal_lists {c : CalD} (h : mayCal c = true) : ∀ i, i < 6 → ∀ q ∈ c.field i, mayPartB q i = true := by
  unfold mayCal at h
  simp only [Bool.and_eq_true] at h
  obtain ⟨_, ⟨⟨⟨⟨⟨h1, h2⟩, h3⟩, h4⟩, h5⟩, h6⟩⟩ := h
  have k : ∀ (l : List PartD) (f : Nat), mayList l f = true → ∀ q ∈ l, mayPartB q f = true := fun l f h q hq => by
    unfold mayList at h
    simp only [Bool.and_eq_true, List.all_eq_true] at h
    exact h.2 q hq
  intro i hi
  have e : i = 0 ∨ i = 1 ∨ i = 2 ∨ i = 3 ∨ i = 4 ∨ i = 5 := by omega
  rcases e with rfl | rfl | rfl | rfl | rfl | rfl
  · exact k _ _ h1
  · exact k _ _ h2
  · exact k _ _ h3
  · exact k _ _ h4
  · exact k _ _ h5
  · exact k _ _ h6
end Sp
theorem below_calls {f : FuncId} {args : Array Value} {w : World} {v : Value} (h : Calls Tryz.prog f args w fun e w' => e = .returned v ∧ Below w.heap.size w w') : Calls Tryz.prog f args w fun e w' => e = .returned v ∧ Below w.heap.size w w' := h
set_option maxRecDepth 100000 in
set_option maxHeartbeats 16000000 in
theorem match_any (s : CalS) (t : Int) (w : World) (h : CalGood w s) (ht : -9223372036854775808 ≤ t ∧ t ≤ 9223372036854775807) : Calls Tryz.prog 10 #[calV s, .int .i64 t] w fun e w' => e = .returned (.bool (Sp.matchB s.cal t)) ∧ Below w.heap.size w w' := by
  have hb0 : Below w.heap.size w (w.alloc (.cells #[slV s.d, slV s.f0, slV s.f1, slV s.f2, slV s.f3, slV s.f4, slV s.f5] 25)) := (Below.refl _ _).alloc (Nat.le_refl _) _
  have hlt : w.heap.size < (w.alloc (.cells #[slV s.d, slV s.f0, slV s.f1, slV s.f2, slV s.f3, slV s.f4, slV s.f5] 25)).heap.size := by simp
  have HG := Lib.hid (h.on hb0)
  have HC : Hid (∀ j v, (#[slV s.d, slV s.f0, slV s.f1, slV s.f2, slV s.f3, slV s.f4, slV s.f5] : Array Value)[j]? = some v → (w.alloc (.cells #[slV s.d, slV s.f0, slV s.f1, slV s.f2, slV s.f3, slV s.f4, slV s.f5] 25)).cell? ⟨w.heap.size, j, none⟩ = some v) := Lib.hid (fun j v hv => by simp [hv])
  have HOF := Lib.hid (fun w => of_any t w ht)
  obtain ⟨MB, hMB⟩ : ∃ MB, MB = Sp.matchB s.cal t := ⟨_, rfl⟩
  rw [← hMB]
  have HMB := Lib.hid hMB
  clear hMB h ht
  obtain ⟨⟨dA, dn, dc⟩, ⟨A0, n0, c0⟩, ⟨A1, n1, c1⟩, ⟨A2, n2, c2⟩, ⟨A3, n3, c3⟩, ⟨A4, n4, c4⟩, ⟨A5, n5, c5⟩, cal⟩ := s
  simp only [slV] at hb0 hlt HG HC
  dsimp only at HMB
  show Calls Tryz.prog 10 #[.agg #[.slice dA dn dc, .slice A0 n0 c0, .slice A1 n1 c1, .slice A2 n2 c2, .slice A3 n3 c3, .slice A4 n4 c4, .slice A5 n5 c5], .int .i64 t] w fun e w' => e = .returned (.bool MB) ∧ Below w.heap.size w w'
  go_enter Tryz.func10, Tryz.ntmps10
  go_wp2_with fail
  generalize (w.alloc (.cells #[.slice dA dn dc, .slice A0 n0 c0, .slice A1 n1 c1, .slice A2 n2 c2, .slice A3 n3 c3, .slice A4 n4 c4, .slice A5 n5 c5] 25)) = w1 at *
  generalize hbs : w.heap.size = b1 at *
  have HBS := Lib.hid hbs
  have HB := Lib.hid hb0
  clear hbs hb0
  have HOT : Hid (Sp.okT t = (decide (0 ≤ t) && decide (t < 6311433600))) := Lib.hid rfl
  have HD : Hid (Sp.okT t = true → Sp.ofT t = Sp.dateOf t) := Lib.hid (fun h => by unfold Sp.ofT; rw [h]; rfl)
  generalize hok : Sp.okT t = ok at *
  generalize hof : Sp.ofT t = D at *
  have HOK := Lib.hid hok
  clear hok hof
  obtain ⟨yy, mo, dd, hh, mi, se, wd⟩ := D
  refine (HOF.out _).mono ?_
  rintro e w2 ⟨rfl, hb2⟩
  simp only [dateV, dateC]
  have HB2 : Hid (Below w1.heap.size w1 w2) := Lib.hid hb2
  have HX := Lib.hid (DBox.new w2 ⟨yy, mo, dd, hh, mi, se, wd⟩)
  have HB3 : Hid (Below w1.heap.size w1 (w2.alloc (.cells #[.int .i64 yy, .int .i64 mo, .int .i64 dd, .int .i64 hh, .int .i64 mi, .int .i64 se, .int .i64 wd] 37))) := Lib.hid (hb2.alloc hb2.size _)
  have hlt2 : w2.heap.size < (w2.alloc (.cells #[.int .i64 yy, .int .i64 mo, .int .i64 dd, .int .i64 hh, .int .i64 mi, .int .i64 se, .int .i64 wd] 37)).heap.size := by simp
  have hb12 : b1 < w2.heap.size := Nat.lt_of_lt_of_le hlt hb2.size
  dsimp only at HX
  clear hb2 HOF
  go_upto_region 2 with fail
  generalize (w2.alloc (.cells #[.int .i64 yy, .int .i64 mo, .int .i64 dd, .int .i64 hh, .int .i64 mi, .int .i64 se, .int .i64 wd] 37)) = w3 at *
  generalize w2.heap.size = b2 at *
  have HBT3 : Hid (Below b1 w w3) := Lib.hid (HB.out.trans (HB3.out.mono (Nat.le_of_lt hlt)))
  have HG3 := Lib.hid (HG.out.on HB3.out)
  have HC3 : Hid (∀ j v, (#[.slice dA dn dc, .slice A0 n0 c0, .slice A1 n1 c1, .slice A2 n2 c2, .slice A3 n3 c3, .slice A4 n4 c4, .slice A5 n5 c5] : Array Value)[j]? = some v → w3.cell? ⟨b1, j, none⟩ = some v) := Lib.hid (fun j v hv => (HB3.out.cell (p := ⟨b1, j, none⟩) hlt).trans (HC.out j v hv))
  have hs3 : b1 < w3.heap.size := by omega
  cases ok with
  | false =>
    have HF : Hid (MB = false) := Lib.hid (by rw [HMB.out]; unfold Sp.matchB; rw [← HOT.out]; rfl)
    go_wp2
    rw [HF.out]
    go_ret
    rw [HBS.out]
    exact ⟨rfl, HBT3.out⟩
  | true =>
    have HDE := Lib.hid (HD.out rfl)
    have HRG := Lib.hid (Sp.date_ranges t HOK.out)
    have HMM : Hid (MB = (Sp.mayCal cal && Sp.wdayB cal.days wd && Sp.inDate cal ⟨yy, mo, dd, hh, mi, se, wd⟩)) := Lib.hid (by
      rw [HMB.out]; unfold Sp.matchB; rw [← HOT.out, ← HDE.out]; simp)
    rw [← HDE.out] at HRG
    try dsimp only at HRG
    have HMAY := Lib.hid (may_any ⟨⟨dA, dn, dc⟩, ⟨A0, n0, c0⟩, ⟨A1, n1, c1⟩, ⟨A2, n2, c2⟩, ⟨A3, n3, c3⟩, ⟨A4, n4, c4⟩, ⟨A5, n5, c5⟩, cal⟩ w3 HG3.out)
    have HML := Lib.hid (fun h => Sp.mayCal_lists (c := cal) h)
    simp only [calV, slV] at HMAY
    clear HMB HOT HD HDE
    generalize hmc : Sp.mayCal cal = mc at *
    clear hmc
    have g0 := HC3.out 0 _ rfl
    have g1 := HC3.out 1 _ rfl
    have g2 := HC3.out 2 _ rfl
    have g3 := HC3.out 3 _ rfl
    have g4 := HC3.out 4 _ rfl
    have g5 := HC3.out 5 _ rfl
    have g6 := HC3.out 6 _ rfl
    simp only [List.getElem_toArray, List.getElem_cons_zero, List.getElem_cons_succ] at g0 g1 g2 g3 g4 g5 g6
    go_wp2_with fail
    refine HMAY.out.mono ?_
    rintro e w4 ⟨rfl, hb4⟩
    have HB4 : Hid (Below w3.heap.size w3 w4) := Lib.hid hb4
    clear hb4 HMAY g0 g1 g2 g3 g4 g5 g6
    have HBT4 : Hid (Below b1 w w4) := Lib.hid (HBT3.out.trans (HB4.out.mono (Nat.le_of_lt hs3)))
    cases mc with
    | false =>
      have HF : Hid (MB = false) := Lib.hid (by rw [HMM.out]; rfl)
      go_wp2
      rw [HF.out]
      go_ret
      rw [HBS.out]
      exact ⟨rfl, HBT4.out⟩
    | true =>
      have HG4 := Lib.hid (HG3.out.on HB4.out)
      have HWD := Lib.hid (wday_any ⟨⟨dA, dn, dc⟩, ⟨A0, n0, c0⟩, ⟨A1, n1, c1⟩, ⟨A2, n2, c2⟩, ⟨A3, n3, c3⟩, ⟨A4, n4, c4⟩, ⟨A5, n5, c5⟩, cal⟩ wd w4 HG4.out)
      simp only [calV, slV] at HWD
      try dsimp only at HWD
      generalize hwd : Sp.wdayB cal.days wd = wb at *
      clear hwd
      have HC4 : Hid (∀ j v, (#[.slice dA dn dc, .slice A0 n0 c0, .slice A1 n1 c1, .slice A2 n2 c2, .slice A3 n3 c3, .slice A4 n4 c4, .slice A5 n5 c5] : Array Value)[j]? = some v → w4.cell? ⟨b1, j, none⟩ = some v) := Lib.hid (fun j v hv => (HB4.out.cell (p := ⟨b1, j, none⟩) hs3).trans (HC3.out j v hv))
      have g0 := HC4.out 0 _ rfl
      have g1 := HC4.out 1 _ rfl
      have g2 := HC4.out 2 _ rfl
      have g3 := HC4.out 3 _ rfl
      have g4 := HC4.out 4 _ rfl
      have g5 := HC4.out 5 _ rfl
      have g6 := HC4.out 6 _ rfl
      simp only [List.getElem_toArray, List.getElem_cons_zero, List.getElem_cons_succ] at g0 g1 g2 g3 g4 g5 g6
      have HX4 := Lib.hid (HX.out.on hlt2 HB4.out)
      have x6 := HX4.out.c6
      dsimp only at x6
      go_wp2_with fail
      refine HWD.out.mono ?_
      rintro e w5 ⟨rfl, hb5⟩
      have HB5 : Hid (Below w4.heap.size w4 w5) := Lib.hid hb5
      clear hb5 HWD g0 g1 g2 g3 g4 g5 g6 x6
      have hs4 : b1 < w4.heap.size := Nat.lt_of_lt_of_le hs3 HB4.out.size
      have HBT5 : Hid (Below b1 w w5) := Lib.hid (HBT4.out.trans (HB5.out.mono (Nat.le_of_lt hs4)))
      cases wb with
      | false =>
        have HF : Hid (MB = false) := Lib.hid (by rw [HMM.out]; rfl)
        go_wp2
        rw [HF.out]
        go_ret
        rw [HBS.out]
        exact ⟨rfl, HBT5.out⟩
      | true =>
        have HX5 := Lib.hid (HX4.out.on (Nat.lt_of_lt_of_le hlt2 HB4.out.size) HB5.out)
        obtain ⟨x0, x1, x2, x3, x4, x5, -, -, -, -, -, -, -, -⟩ := HX5.out
        dsimp only at x0 x1 x2 x3 x4 x5
        have hs5 : b1 < w5.heap.size := Nat.lt_of_lt_of_le hs4 HB5.out.size
        have HNN : Hid (∀ j v, (#[.int .i64 yy, .int .i64 mo, .int .i64 dd, .int .i64 hh, .int .i64 mi, .int .i64 se] : Array Value)[j]? = some v → (w5.alloc (.cells #[.int .i64 yy, .int .i64 mo, .int .i64 dd, .int .i64 hh, .int .i64 mi, .int .i64 se] 63)).cell? ⟨w5.heap.size, j, none⟩ = some v) := Lib.hid (fun j v hv => by simp [hv])
        have HB6 : Hid (Below w4.heap.size w4 (w5.alloc (.cells #[.int .i64 yy, .int .i64 mo, .int .i64 dd, .int .i64 hh, .int .i64 mi, .int .i64 se] 63))) := Lib.hid (HB5.out.alloc HB5.out.size _)
        have hlt6 : w5.heap.size < (w5.alloc (.cells #[.int .i64 yy, .int .i64 mo, .int .i64 dd, .int .i64 hh, .int .i64 mi, .int .i64 se] 63)).heap.size := by simp
        go_upto_region 5 with fail
        clear x0 x1 x2 x3 x4 x5
        generalize (w5.alloc (.cells #[.int .i64 yy, .int .i64 mo, .int .i64 dd, .int .i64 hh, .int .i64 mi, .int .i64 se] 63)) = w6 at *
        generalize w5.heap.size = b3 at *
        have HG6 := Lib.hid (HG4.out.on HB6.out)
        have HC6 : Hid (∀ j v, (#[.slice dA dn dc, .slice A0 n0 c0, .slice A1 n1 c1, .slice A2 n2 c2, .slice A3 n3 c3, .slice A4 n4 c4, .slice A5 n5 c5] : Array Value)[j]? = some v → w6.cell? ⟨b1, j, none⟩ = some v) := Lib.hid (fun j v hv => (HB6.out.cell (p := ⟨b1, j, none⟩) hs4).trans (HC4.out j v hv))
        have HBT6 : Hid (Below b1 w w6) := Lib.hid (HBT4.out.trans (HB6.out.mono (Nat.le_of_lt hs4)))
        have hs6 : b1 < w6.heap.size := by omega
        clear HC HC3 HC4 HG HG3 HG4 HB HB2 HB3 HB4 HB5 HX HX4 HX5 HBT3 HBT4 HBT5
        go_wp2_with fail
        refine (lists_any b1 w6).mono ?_
        rintro e w7 ⟨rfl, hb7⟩
        have HB7 := Lib.hid hb7
        clear hb7
        simp only [listsV]
        go_wp2_with fail
        go_loopw [43] (fun iv wr => ∃ k : Nat, k ≤ 6 ∧ iv = .int .i64 k ∧ Hid (Below w6.heap.size w6 wr) ∧ Hid (∀ i, i < k → Sp.inB (cal.field i) i ((⟨yy, mo, dd, hh, mi, se, wd⟩ : Sp.DateD).field i) = true)) (fun iv _ => 6 - (intOf iv).toNat)
        case atStart => exact ⟨0, Nat.zero_le _, rfl, HB7, Lib.hid (fun i hi => absurd hi (by omega))⟩
        case round =>
          obtain ⟨k, hk, rfl, HBR, HA⟩ := hrel
          have HBT : Hid (Below b1 w wr) := Lib.hid (HBT6.out.trans (HBR.out.mono (Nat.le_of_lt hs6)))
          have hsr := HBR.out.size
          have hk7 : k = 0 ∨ k = 1 ∨ k = 2 ∨ k = 3 ∨ k = 4 ∨ k = 5 ∨ k = 6 := by omega
          rcases hk7 with rfl | rfl | rfl | rfl | rfl | rfl | rfl
          · rw [show ((0 : Nat) : Int) = 0 from rfl]
            have hix : ∀ W, (Instr.index 65 (.agg #[.pointer (some ⟨b1, 1, none⟩), .pointer (some ⟨b1, 2, none⟩), .pointer (some ⟨b1, 3, none⟩), .pointer (some ⟨b1, 4, none⟩), .pointer (some ⟨b1, 5, none⟩), .pointer (some ⟨b1, 6, none⟩)]) (.int .i64 0)).run Tryz.prog W = .ok (.pointer (some ⟨b1, 1, none⟩)) W := fun W => index_lists b1 W 0 (by decide)
            have d0 : ∀ p : Since wr.heap.size wr, p.w'.cell? ⟨b1, 1, none⟩ = some (.slice A0 n0 c0) := fun p => ((HBR.out.trans (p.hb.mono hsr)).cell (p := ⟨b1, 1, none⟩) hs6).trans (HC6.out 1 _ rfl)
            have d1 : ∀ p : Since wr.heap.size wr, p.w'.cell? ⟨b3, 0, none⟩ = some (.int .i64 yy) := fun p => ((HBR.out.trans (p.hb.mono hsr)).cell (p := ⟨b3, 0, none⟩) hlt6).trans (HNN.out 0 _ rfl)
            have HIN : Hid (∀ p : Since wr.heap.size wr, Calls Tryz.prog 35 #[.slice A0 n0 c0, .int .i64 0, .int .i64 yy] p.w' fun e w'' => e = .returned (.bool (Sp.inB cal.year 0 yy)) ∧ ∃ q : Since wr.heap.size wr, w'' = q.w') := Lib.hid (fun p =>
              Calls.since_of (Nat.le_refl _) (in_any cal.year 0 yy A0 n0 c0 p.w' ((HG6.out.on (HBR.out.trans (p.hb.mono hsr))).rf 0 (by decide)) (HG6.out.bf 0) (HML.out (by trivial) 0 (by decide)) HRG.out.1))
            have HFA : Hid (Sp.inB cal.year 0 yy = false → MB = false) := Lib.hid (fun hh => by
              rw [HMM.out]; unfold Sp.inDate; dsimp only; rw [hh]; simp)
            have HOKI : Hid (Sp.inB (cal.field 0) 0 ((⟨yy, mo, dd, hh, mi, se, wd⟩ : Sp.DateD).field 0) = Sp.inB cal.year 0 yy) := Lib.hid rfl
            generalize Sp.inB cal.year 0 yy = ib at *
            go_upto_region 8 with fail
            refine wp_region_since wr.heap.size (by kernel_rfl) (by kernel_rfl) ?_
            repeat (go_big_quiet_step (first | (go_at_call 35; exact HIN.out _)))
            refine wpQuiet_nil ?_
            intro _ hw'
            obtain ⟨pz, hw''⟩ := hw'
            subst hw''
            have HZ : Hid (Below w6.heap.size w6 pz.w') := Lib.hid (HBR.out.trans (pz.hb.mono hsr))
            have HZT : Hid (Below b1 w pz.w') := Lib.hid (HBT.out.trans (pz.hb.mono (Nat.le_of_lt (Nat.lt_of_lt_of_le hs6 hsr))))
            generalize pz.w' = wz at *
            clear d0 d1 HIN
            cases ib with
            | false =>
              have HF := Lib.hid (HFA.out rfl)
              go_wp2
              rw [HF.out]
              go_ret
              rw [HBS.out]
              exact ⟨rfl, HZT.out⟩
            | true =>
              go_wp2
              go_roundw
              case rel => exact ⟨1, by omega, by first | rfl | go_num, HZ, Lib.hid (fun j hj => by
                by_cases e : j = 0
                · subst e; exact HOKI.out
                · exact HA.out j (by omega))⟩
              case measure => simp [intOf]
          · rw [show ((1 : Nat) : Int) = 1 from rfl]
            have hix : ∀ W, (Instr.index 65 (.agg #[.pointer (some ⟨b1, 1, none⟩), .pointer (some ⟨b1, 2, none⟩), .pointer (some ⟨b1, 3, none⟩), .pointer (some ⟨b1, 4, none⟩), .pointer (some ⟨b1, 5, none⟩), .pointer (some ⟨b1, 6, none⟩)]) (.int .i64 1)).run Tryz.prog W = .ok (.pointer (some ⟨b1, 2, none⟩)) W := fun W => index_lists b1 W 1 (by decide)
            have d0 : ∀ p : Since wr.heap.size wr, p.w'.cell? ⟨b1, 2, none⟩ = some (.slice A1 n1 c1) := fun p => ((HBR.out.trans (p.hb.mono hsr)).cell (p := ⟨b1, 2, none⟩) hs6).trans (HC6.out 2 _ rfl)
            have d1 : ∀ p : Since wr.heap.size wr, p.w'.cell? ⟨b3, 1, none⟩ = some (.int .i64 mo) := fun p => ((HBR.out.trans (p.hb.mono hsr)).cell (p := ⟨b3, 1, none⟩) hlt6).trans (HNN.out 1 _ rfl)
            have HIN : Hid (∀ p : Since wr.heap.size wr, Calls Tryz.prog 35 #[.slice A1 n1 c1, .int .i64 1, .int .i64 mo] p.w' fun e w'' => e = .returned (.bool (Sp.inB cal.month 1 mo)) ∧ ∃ q : Since wr.heap.size wr, w'' = q.w') := Lib.hid (fun p =>
              Calls.since_of (Nat.le_refl _) (in_any cal.month 1 mo A1 n1 c1 p.w' ((HG6.out.on (HBR.out.trans (p.hb.mono hsr))).rf 1 (by decide)) (HG6.out.bf 1) (HML.out (by trivial) 1 (by decide)) HRG.out.2.1))
            have HFA : Hid (Sp.inB cal.month 1 mo = false → MB = false) := Lib.hid (fun hh => by
              rw [HMM.out]; unfold Sp.inDate; dsimp only; rw [hh]; simp)
            have HOKI : Hid (Sp.inB (cal.field 1) 1 ((⟨yy, mo, dd, hh, mi, se, wd⟩ : Sp.DateD).field 1) = Sp.inB cal.month 1 mo) := Lib.hid rfl
            generalize Sp.inB cal.month 1 mo = ib at *
            go_upto_region 8 with fail
            refine wp_region_since wr.heap.size (by kernel_rfl) (by kernel_rfl) ?_
            repeat (go_big_quiet_step (first | (go_at_call 35; exact HIN.out _)))
            refine wpQuiet_nil ?_
            intro _ hw'
            obtain ⟨pz, hw''⟩ := hw'
            subst hw''
            have HZ : Hid (Below w6.heap.size w6 pz.w') := Lib.hid (HBR.out.trans (pz.hb.mono hsr))
            have HZT : Hid (Below b1 w pz.w') := Lib.hid (HBT.out.trans (pz.hb.mono (Nat.le_of_lt (Nat.lt_of_lt_of_le hs6 hsr))))
            generalize pz.w' = wz at *
            clear d0 d1 HIN
            cases ib with
            | false =>
              have HF := Lib.hid (HFA.out rfl)
              go_wp2
              rw [HF.out]
              go_ret
              rw [HBS.out]
              exact ⟨rfl, HZT.out⟩
            | true =>
              go_wp2
              go_roundw
              case rel => exact ⟨2, by omega, by first | rfl | go_num, HZ, Lib.hid (fun j hj => by
                by_cases e : j = 1
                · subst e; exact HOKI.out
                · exact HA.out j (by omega))⟩
              case measure => simp [intOf]
          · rw [show ((2 : Nat) : Int) = 2 from rfl]
            have hix : ∀ W, (Instr.index 65 (.agg #[.pointer (some ⟨b1, 1, none⟩), .pointer (some ⟨b1, 2, none⟩), .pointer (some ⟨b1, 3, none⟩), .pointer (some ⟨b1, 4, none⟩), .pointer (some ⟨b1, 5, none⟩), .pointer (some ⟨b1, 6, none⟩)]) (.int .i64 2)).run Tryz.prog W = .ok (.pointer (some ⟨b1, 3, none⟩)) W := fun W => index_lists b1 W 2 (by decide)
            have d0 : ∀ p : Since wr.heap.size wr, p.w'.cell? ⟨b1, 3, none⟩ = some (.slice A2 n2 c2) := fun p => ((HBR.out.trans (p.hb.mono hsr)).cell (p := ⟨b1, 3, none⟩) hs6).trans (HC6.out 3 _ rfl)
            have d1 : ∀ p : Since wr.heap.size wr, p.w'.cell? ⟨b3, 2, none⟩ = some (.int .i64 dd) := fun p => ((HBR.out.trans (p.hb.mono hsr)).cell (p := ⟨b3, 2, none⟩) hlt6).trans (HNN.out 2 _ rfl)
            have HIN : Hid (∀ p : Since wr.heap.size wr, Calls Tryz.prog 35 #[.slice A2 n2 c2, .int .i64 2, .int .i64 dd] p.w' fun e w'' => e = .returned (.bool (Sp.inB cal.day 2 dd)) ∧ ∃ q : Since wr.heap.size wr, w'' = q.w') := Lib.hid (fun p =>
              Calls.since_of (Nat.le_refl _) (in_any cal.day 2 dd A2 n2 c2 p.w' ((HG6.out.on (HBR.out.trans (p.hb.mono hsr))).rf 2 (by decide)) (HG6.out.bf 2) (HML.out (by trivial) 2 (by decide)) HRG.out.2.2.1))
            have HFA : Hid (Sp.inB cal.day 2 dd = false → MB = false) := Lib.hid (fun hh => by
              rw [HMM.out]; unfold Sp.inDate; dsimp only; rw [hh]; simp)
            have HOKI : Hid (Sp.inB (cal.field 2) 2 ((⟨yy, mo, dd, hh, mi, se, wd⟩ : Sp.DateD).field 2) = Sp.inB cal.day 2 dd) := Lib.hid rfl
            generalize Sp.inB cal.day 2 dd = ib at *
            go_upto_region 8 with fail
            refine wp_region_since wr.heap.size (by kernel_rfl) (by kernel_rfl) ?_
            repeat (go_big_quiet_step (first | (go_at_call 35; exact HIN.out _)))
            refine wpQuiet_nil ?_
            intro _ hw'
            obtain ⟨pz, hw''⟩ := hw'
            subst hw''
            have HZ : Hid (Below w6.heap.size w6 pz.w') := Lib.hid (HBR.out.trans (pz.hb.mono hsr))
            have HZT : Hid (Below b1 w pz.w') := Lib.hid (HBT.out.trans (pz.hb.mono (Nat.le_of_lt (Nat.lt_of_lt_of_le hs6 hsr))))
            generalize pz.w' = wz at *
            clear d0 d1 HIN
            cases ib with
            | false =>
              have HF := Lib.hid (HFA.out rfl)
              go_wp2
              rw [HF.out]
              go_ret
              rw [HBS.out]
              exact ⟨rfl, HZT.out⟩
            | true =>
              go_wp2
              go_roundw
              case rel => exact ⟨3, by omega, by first | rfl | go_num, HZ, Lib.hid (fun j hj => by
                by_cases e : j = 2
                · subst e; exact HOKI.out
                · exact HA.out j (by omega))⟩
              case measure => simp [intOf]
          · rw [show ((3 : Nat) : Int) = 3 from rfl]
            have hix : ∀ W, (Instr.index 65 (.agg #[.pointer (some ⟨b1, 1, none⟩), .pointer (some ⟨b1, 2, none⟩), .pointer (some ⟨b1, 3, none⟩), .pointer (some ⟨b1, 4, none⟩), .pointer (some ⟨b1, 5, none⟩), .pointer (some ⟨b1, 6, none⟩)]) (.int .i64 3)).run Tryz.prog W = .ok (.pointer (some ⟨b1, 4, none⟩)) W := fun W => index_lists b1 W 3 (by decide)
            have d0 : ∀ p : Since wr.heap.size wr, p.w'.cell? ⟨b1, 4, none⟩ = some (.slice A3 n3 c3) := fun p => ((HBR.out.trans (p.hb.mono hsr)).cell (p := ⟨b1, 4, none⟩) hs6).trans (HC6.out 4 _ rfl)
            have d1 : ∀ p : Since wr.heap.size wr, p.w'.cell? ⟨b3, 3, none⟩ = some (.int .i64 hh) := fun p => ((HBR.out.trans (p.hb.mono hsr)).cell (p := ⟨b3, 3, none⟩) hlt6).trans (HNN.out 3 _ rfl)
            have HIN : Hid (∀ p : Since wr.heap.size wr, Calls Tryz.prog 35 #[.slice A3 n3 c3, .int .i64 3, .int .i64 hh] p.w' fun e w'' => e = .returned (.bool (Sp.inB cal.hour 3 hh)) ∧ ∃ q : Since wr.heap.size wr, w'' = q.w') := Lib.hid (fun p =>
              Calls.since_of (Nat.le_refl _) (in_any cal.hour 3 hh A3 n3 c3 p.w' ((HG6.out.on (HBR.out.trans (p.hb.mono hsr))).rf 3 (by decide)) (HG6.out.bf 3) (HML.out (by trivial) 3 (by decide)) HRG.out.2.2.2.1))
            have HFA : Hid (Sp.inB cal.hour 3 hh = false → MB = false) := Lib.hid (fun hh => by
              rw [HMM.out]; unfold Sp.inDate; dsimp only; rw [hh]; simp)
            have HOKI : Hid (Sp.inB (cal.field 3) 3 ((⟨yy, mo, dd, hh, mi, se, wd⟩ : Sp.DateD).field 3) = Sp.inB cal.hour 3 hh) := Lib.hid rfl
            generalize Sp.inB cal.hour 3 hh = ib at *
            go_upto_region 8 with fail
            refine wp_region_since wr.heap.size (by kernel_rfl) (by kernel_rfl) ?_
            repeat (go_big_quiet_step (first | (go_at_call 35; exact HIN.out _)))
            refine wpQuiet_nil ?_
            intro _ hw'
            obtain ⟨pz, hw''⟩ := hw'
            subst hw''
            have HZ : Hid (Below w6.heap.size w6 pz.w') := Lib.hid (HBR.out.trans (pz.hb.mono hsr))
            have HZT : Hid (Below b1 w pz.w') := Lib.hid (HBT.out.trans (pz.hb.mono (Nat.le_of_lt (Nat.lt_of_lt_of_le hs6 hsr))))
            generalize pz.w' = wz at *
            clear d0 d1 HIN
            cases ib with
            | false =>
              have HF := Lib.hid (HFA.out rfl)
              go_wp2
              rw [HF.out]
              go_ret
              rw [HBS.out]
              exact ⟨rfl, HZT.out⟩
            | true =>
              go_wp2
              go_roundw
              case rel => exact ⟨4, by omega, by first | rfl | go_num, HZ, Lib.hid (fun j hj => by
                by_cases e : j = 3
                · subst e; exact HOKI.out
                · exact HA.out j (by omega))⟩
              case measure => simp [intOf]
          · rw [show ((4 : Nat) : Int) = 4 from rfl]
            have hix : ∀ W, (Instr.index 65 (.agg #[.pointer (some ⟨b1, 1, none⟩), .pointer (some ⟨b1, 2, none⟩), .pointer (some ⟨b1, 3, none⟩), .pointer (some ⟨b1, 4, none⟩), .pointer (some ⟨b1, 5, none⟩), .pointer (some ⟨b1, 6, none⟩)]) (.int .i64 4)).run Tryz.prog W = .ok (.pointer (some ⟨b1, 5, none⟩)) W := fun W => index_lists b1 W 4 (by decide)
            have d0 : ∀ p : Since wr.heap.size wr, p.w'.cell? ⟨b1, 5, none⟩ = some (.slice A4 n4 c4) := fun p => ((HBR.out.trans (p.hb.mono hsr)).cell (p := ⟨b1, 5, none⟩) hs6).trans (HC6.out 5 _ rfl)
            have d1 : ∀ p : Since wr.heap.size wr, p.w'.cell? ⟨b3, 4, none⟩ = some (.int .i64 mi) := fun p => ((HBR.out.trans (p.hb.mono hsr)).cell (p := ⟨b3, 4, none⟩) hlt6).trans (HNN.out 4 _ rfl)
            have HIN : Hid (∀ p : Since wr.heap.size wr, Calls Tryz.prog 35 #[.slice A4 n4 c4, .int .i64 4, .int .i64 mi] p.w' fun e w'' => e = .returned (.bool (Sp.inB cal.min 4 mi)) ∧ ∃ q : Since wr.heap.size wr, w'' = q.w') := Lib.hid (fun p =>
              Calls.since_of (Nat.le_refl _) (in_any cal.min 4 mi A4 n4 c4 p.w' ((HG6.out.on (HBR.out.trans (p.hb.mono hsr))).rf 4 (by decide)) (HG6.out.bf 4) (HML.out (by trivial) 4 (by decide)) HRG.out.2.2.2.2.1))
            have HFA : Hid (Sp.inB cal.min 4 mi = false → MB = false) := Lib.hid (fun hh => by
              rw [HMM.out]; unfold Sp.inDate; dsimp only; rw [hh]; simp)
            have HOKI : Hid (Sp.inB (cal.field 4) 4 ((⟨yy, mo, dd, hh, mi, se, wd⟩ : Sp.DateD).field 4) = Sp.inB cal.min 4 mi) := Lib.hid rfl
            generalize Sp.inB cal.min 4 mi = ib at *
            go_upto_region 8 with fail
            refine wp_region_since wr.heap.size (by kernel_rfl) (by kernel_rfl) ?_
            repeat (go_big_quiet_step (first | (go_at_call 35; exact HIN.out _)))
            refine wpQuiet_nil ?_
            intro _ hw'
            obtain ⟨pz, hw''⟩ := hw'
            subst hw''
            have HZ : Hid (Below w6.heap.size w6 pz.w') := Lib.hid (HBR.out.trans (pz.hb.mono hsr))
            have HZT : Hid (Below b1 w pz.w') := Lib.hid (HBT.out.trans (pz.hb.mono (Nat.le_of_lt (Nat.lt_of_lt_of_le hs6 hsr))))
            generalize pz.w' = wz at *
            clear d0 d1 HIN
            cases ib with
            | false =>
              have HF := Lib.hid (HFA.out rfl)
              go_wp2
              rw [HF.out]
              go_ret
              rw [HBS.out]
              exact ⟨rfl, HZT.out⟩
            | true =>
              go_wp2
              go_roundw
              case rel => exact ⟨5, by omega, by first | rfl | go_num, HZ, Lib.hid (fun j hj => by
                by_cases e : j = 4
                · subst e; exact HOKI.out
                · exact HA.out j (by omega))⟩
              case measure => simp [intOf]
          · rw [show ((5 : Nat) : Int) = 5 from rfl]
            have hix : ∀ W, (Instr.index 65 (.agg #[.pointer (some ⟨b1, 1, none⟩), .pointer (some ⟨b1, 2, none⟩), .pointer (some ⟨b1, 3, none⟩), .pointer (some ⟨b1, 4, none⟩), .pointer (some ⟨b1, 5, none⟩), .pointer (some ⟨b1, 6, none⟩)]) (.int .i64 5)).run Tryz.prog W = .ok (.pointer (some ⟨b1, 6, none⟩)) W := fun W => index_lists b1 W 5 (by decide)
            have d0 : ∀ p : Since wr.heap.size wr, p.w'.cell? ⟨b1, 6, none⟩ = some (.slice A5 n5 c5) := fun p => ((HBR.out.trans (p.hb.mono hsr)).cell (p := ⟨b1, 6, none⟩) hs6).trans (HC6.out 6 _ rfl)
            have d1 : ∀ p : Since wr.heap.size wr, p.w'.cell? ⟨b3, 5, none⟩ = some (.int .i64 se) := fun p => ((HBR.out.trans (p.hb.mono hsr)).cell (p := ⟨b3, 5, none⟩) hlt6).trans (HNN.out 5 _ rfl)
            have HIN : Hid (∀ p : Since wr.heap.size wr, Calls Tryz.prog 35 #[.slice A5 n5 c5, .int .i64 5, .int .i64 se] p.w' fun e w'' => e = .returned (.bool (Sp.inB cal.sec 5 se)) ∧ ∃ q : Since wr.heap.size wr, w'' = q.w') := Lib.hid (fun p =>
              Calls.since_of (Nat.le_refl _) (in_any cal.sec 5 se A5 n5 c5 p.w' ((HG6.out.on (HBR.out.trans (p.hb.mono hsr))).rf 5 (by decide)) (HG6.out.bf 5) (HML.out (by trivial) 5 (by decide)) HRG.out.2.2.2.2.2))
            have HFA : Hid (Sp.inB cal.sec 5 se = false → MB = false) := Lib.hid (fun hh => by
              rw [HMM.out]; unfold Sp.inDate; dsimp only; rw [hh]; simp)
            have HOKI : Hid (Sp.inB (cal.field 5) 5 ((⟨yy, mo, dd, hh, mi, se, wd⟩ : Sp.DateD).field 5) = Sp.inB cal.sec 5 se) := Lib.hid rfl
            generalize Sp.inB cal.sec 5 se = ib at *
            go_upto_region 8 with fail
            refine wp_region_since wr.heap.size (by kernel_rfl) (by kernel_rfl) ?_
            repeat (go_big_quiet_step (first | (go_at_call 35; exact HIN.out _)))
            refine wpQuiet_nil ?_
            intro _ hw'
            obtain ⟨pz, hw''⟩ := hw'
            subst hw''
            have HZ : Hid (Below w6.heap.size w6 pz.w') := Lib.hid (HBR.out.trans (pz.hb.mono hsr))
            have HZT : Hid (Below b1 w pz.w') := Lib.hid (HBT.out.trans (pz.hb.mono (Nat.le_of_lt (Nat.lt_of_lt_of_le hs6 hsr))))
            generalize pz.w' = wz at *
            clear d0 d1 HIN
            cases ib with
            | false =>
              have HF := Lib.hid (HFA.out rfl)
              go_wp2
              rw [HF.out]
              go_ret
              rw [HBS.out]
              exact ⟨rfl, HZT.out⟩
            | true =>
              go_wp2
              go_roundw
              case rel => exact ⟨6, by omega, by first | rfl | go_num, HZ, Lib.hid (fun j hj => by
                by_cases e : j = 5
                · subst e; exact HOKI.out
                · exact HA.out j (by omega))⟩
              case measure => simp [intOf]
          · rw [show ((6 : Nat) : Int) = 6 from rfl]
            have HT : Hid (MB = true) := Lib.hid (by
              rw [HMM.out]
              unfold Sp.inDate
              dsimp only
              rw [show Sp.inB cal.year 0 yy = true from HA.out 0 (by decide), show Sp.inB cal.month 1 mo = true from HA.out 1 (by decide), show Sp.inB cal.day 2 dd = true from HA.out 2 (by decide), show Sp.inB cal.hour 3 hh = true from HA.out 3 (by decide), show Sp.inB cal.min 4 mi = true from HA.out 4 (by decide), show Sp.inB cal.sec 5 se = true from HA.out 5 (by decide)]
              rfl)
            go_wp2
            rw [HT.out]
            go_ret
            rw [HBS.out]
            exact ⟨rfl, HBT.out⟩

end Go.Proofs.YtpkpoglmmjaoeaaGreatDoor
