/-
  A calendar's weekdays: the law's walk.
-/
import Derived.Test.YtopmdffiikajnaaGreatDoorDs
namespace Go.Proofs.YtopmdffiikajnaaGreatDoor
open Go.RowKit Go.Shelf

theorem match_of {c : Sp.CalD} {t : Int} (h : Sp.matchB c t = true) : Sp.okT t = true ∧ Sp.mayCal c = true ∧ Sp.wdayB c.days (Sp.ofT t).wday = true := by
  obtain ⟨h0, h1⟩ := Sp.match_time h
  have e : Sp.okT t = true := by unfold Sp.okT; rw [decide_eq_true h0, decide_eq_true h1]; rfl
  refine ⟨e, Sp.match_may h, ?_⟩
  unfold Sp.ofT
  rw [e, if_pos rfl]
  unfold Sp.matchB at h
  simp only [Bool.and_eq_true] at h
  exact h.1.2
theorem of_is (t : Int) (D : Sp.DateD) (ok : Bool) (hD : D = Sp.ofT t) (hok : Sp.okT t = ok) (w : World) (ht : -9223372036854775808 ≤ t ∧ t ≤ 9223372036854775807) :
    Calls Tryz.prog 25 #[.int .i64 t] w fun e w' => e = .returned (.tuple #[.agg #[.int .i64 D.year, .int .i64 D.month, .int .i64 D.day, .int .i64 D.hour, .int .i64 D.min, .int .i64 D.sec, .int .i64 D.wday], .bool ok]) ∧ Below w.heap.size w w' :=
  (of_any t w ht).mono fun _ _ ⟨h1, h2⟩ => ⟨by rw [hD, ← hok]; exact h1, h2⟩
theorem CalGood.put_days {w : World} {s : CalS} (h : CalGood w s) (A : Option Addr) (n c : Nat) (l : List Int) (hr : Rd w w.heap.size 1 A n (intsC l)) (hn : n ≤ 9223372036854775807) : CalGood w ⟨⟨A, n, c⟩, s.f0, s.f1, s.f2, s.f3, s.f4, s.f5, { s.cal with days := l }⟩ :=
  ⟨hr, fun i hi => by
    have e : i = 0 ∨ i = 1 ∨ i = 2 ∨ i = 3 ∨ i = 4 ∨ i = 5 := by omega
    rcases e with rfl | rfl | rfl | rfl | rfl | rfl
    · exact h.rf 0 (by decide)
    · exact h.rf 1 (by decide)
    · exact h.rf 2 (by decide)
    · exact h.rf 3 (by decide)
    · exact h.rf 4 (by decide)
    · exact h.rf 5 (by decide), hn, fun i => match i with
    | 0 => h.bf 0
    | 1 => h.bf 1
    | 2 => h.bf 2
    | 3 => h.bf 3
    | 4 => h.bf 4
    | q + 5 => h.bf 5⟩
theorem days_new (w5 : World) (s : CalS) :
    CBox ((w5.alloc (.cells #[.slice (some ⟨w5.heap.size + 1, 0, none⟩) 7 7, slV s.f0, slV s.f1, slV s.f2, slV s.f3, slV s.f4, slV s.f5] 26)).alloc (.cells #[.int .i64 1, .int .i64 2, .int .i64 3, .int .i64 4, .int .i64 5, .int .i64 6, .int .i64 7] 3)) w5.heap.size ⟨⟨some ⟨w5.heap.size + 1, 0, none⟩, 7, 7⟩, s.f0, s.f1, s.f2, s.f3, s.f4, s.f5, { s.cal with days := [1, 2, 3, 4, 5, 6, 7] }⟩ ∧
    Rd ((w5.alloc (.cells #[.slice (some ⟨w5.heap.size + 1, 0, none⟩) 7 7, slV s.f0, slV s.f1, slV s.f2, slV s.f3, slV s.f4, slV s.f5] 26)).alloc (.cells #[.int .i64 1, .int .i64 2, .int .i64 3, .int .i64 4, .int .i64 5, .int .i64 6, .int .i64 7] 3)) ((w5.alloc (.cells #[.slice (some ⟨w5.heap.size + 1, 0, none⟩) 7 7, slV s.f0, slV s.f1, slV s.f2, slV s.f3, slV s.f4, slV s.f5] 26)).alloc (.cells #[.int .i64 1, .int .i64 2, .int .i64 3, .int .i64 4, .int .i64 5, .int .i64 6, .int .i64 7] 3)).heap.size 1 (some ⟨w5.heap.size + 1, 0, none⟩) 7 (intsC [1, 2, 3, 4, 5, 6, 7]) := by
  have hb := (CBox.new w5 ⟨⟨some ⟨w5.heap.size + 1, 0, none⟩, 7, 7⟩, s.f0, s.f1, s.f2, s.f3, s.f4, s.f5, { s.cal with days := [1, 2, 3, 4, 5, 6, 7] }⟩)
  refine ⟨CBox.on hb ((Below.refl _ _).alloc (Nat.le_refl _) _) (by simp), rfl, fun _ => ⟨_, rfl, by simp, fun j u hu => ?_⟩⟩
  have hj : j < 7 := (List.getElem?_eq_some_iff.1 hu).1
  have e : j = 0 ∨ j = 1 ∨ j = 2 ∨ j = 3 ∨ j = 4 ∨ j = 5 ∨ j = 6 := by omega
  rcases e with rfl | rfl | rfl | rfl | rfl | rfl | rfl <;> (injection hu with hu; subst hu; simp [Addr.add])
set_option maxRecDepth 100000 in
set_option maxHeartbeats 16000000 in
theorem caldays_any (s : CalS) (t : Int) (w : World) (h : CalGood w s) (ha1 : -9223372036854775808 ≤ t) (ha2 : t ≤ 9223372036854775807) (E : Env w) :
    Calls Tryz.prog 9 #[calV s, .int .i64 t] w fun e w' => e = .returned (.bool true) ∧ Below w.heap.size w w' := by
  obtain ⟨⟨dA, dn, dc⟩, ⟨A0, n0, c0⟩, ⟨A1, n1, c1⟩, ⟨A2, n2, c2⟩, ⟨A3, n3, c3⟩, ⟨A4, n4, c4⟩, ⟨A5, n5, c5⟩, cal⟩ := s
  have hA : Below w.heap.size w (w.alloc (.cells #[.slice dA dn dc, .slice A0 n0 c0, .slice A1 n1 c1, .slice A2 n2 c2, .slice A3 n3 c3, .slice A4 n4 c4, .slice A5 n5 c5] 26)) := (Below.refl _ w).alloc (Nat.le_refl _) _
  have hcb := CBox.new w ⟨⟨dA, dn, dc⟩, ⟨A0, n0, c0⟩, ⟨A1, n1, c1⟩, ⟨A2, n2, c2⟩, ⟨A3, n3, c3⟩, ⟨A4, n4, c4⟩, ⟨A5, n5, c5⟩, cal⟩
  have hlt : w.heap.size < (w.alloc (.cells #[.slice dA dn dc, .slice A0 n0 c0, .slice A1 n1 c1, .slice A2 n2 c2, .slice A3 n3 c3, .slice A4 n4 c4, .slice A5 n5 c5] 26)).heap.size := by simp
  have HSH := Lib.hid (shown_any _ (E.on hA))
  have HG := Lib.hid h
  simp only [calV, slV] at hcb HSH ⊢
  clear h E
  go_enter Tryz.func9, Tryz.ntmps9
  go_wp2_with fail
  refine HSH.out.mono ?_
  rintro e w1 ⟨rfl, hb1'⟩
  have HC1 : Hid (CBox w1 w.heap.size ⟨⟨dA, dn, dc⟩, ⟨A0, n0, c0⟩, ⟨A1, n1, c1⟩, ⟨A2, n2, c2⟩, ⟨A3, n3, c3⟩, ⟨A4, n4, c4⟩, ⟨A5, n5, c5⟩, cal⟩) := Lib.hid (CBox.on hcb hb1' hlt)
  have HW1 := Lib.hid (hA.trans (hb1'.mono hA.size))
  have hl1 : w.heap.size < w1.heap.size := Nat.lt_of_lt_of_le hlt hb1'.size
  have HNX : Hid (∀ (z : Int) (W : World), -9223372036854775808 ≤ z → Below w1.heap.size w1 W → Calls Tryz.prog 23 #[.agg #[.slice dA dn dc, .slice A0 n0 c0, .slice A1 n1 c1, .slice A2 n2 c2, .slice A3 n3 c3, .slice A4 n4 c4, .slice A5 n5 c5], .int .i64 z] W fun e w' => (∃ v ok, e = .returned (.tuple #[.int .i64 v, .bool ok]) ∧ Sp.NextIs cal z v ok) ∧ Below W.heap.size W w') := Lib.hid (fun z W hz hW => next_any ⟨⟨dA, dn, dc⟩, ⟨A0, n0, c0⟩, ⟨A1, n1, c1⟩, ⟨A2, n2, c2⟩, ⟨A3, n3, c3⟩, ⟨A4, n4, c4⟩, ⟨A5, n5, c5⟩, cal⟩ z W (HG.out.on (HW1.out.trans (hW.mono HW1.out.size))) hz)
  have HMT : Hid (∀ (z : Int) (W : World), -9223372036854775808 ≤ z → z ≤ 9223372036854775807 → Below w1.heap.size w1 W → Calls Tryz.prog 21 #[.agg #[.slice dA dn dc, .slice A0 n0 c0, .slice A1 n1 c1, .slice A2 n2 c2, .slice A3 n3 c3, .slice A4 n4 c4, .slice A5 n5 c5], .int .i64 z] W fun e w' => e = .returned (.bool (Sp.matchB cal z)) ∧ Below W.heap.size W w') := Lib.hid (fun z W hz hz2 hW => match_any ⟨⟨dA, dn, dc⟩, ⟨A0, n0, c0⟩, ⟨A1, n1, c1⟩, ⟨A2, n2, c2⟩, ⟨A3, n3, c3⟩, ⟨A4, n4, c4⟩, ⟨A5, n5, c5⟩, cal⟩ z W (HG.out.on (HW1.out.trans (hW.mono HW1.out.size))) ⟨hz, hz2⟩)
  clear hA hcb hlt HSH hb1'
  have HMW : Hid (∀ W : World, Below w1.heap.size w1 W → Calls Tryz.prog 17 #[.agg #[.slice dA dn dc, .slice A0 n0 c0, .slice A1 n1 c1, .slice A2 n2 c2, .slice A3 n3 c3, .slice A4 n4 c4, .slice A5 n5 c5]] W fun e w' => e = .returned (.bool (Sp.mayCal cal)) ∧ Below W.heap.size W w') := Lib.hid (fun W hW => may_any ⟨⟨dA, dn, dc⟩, ⟨A0, n0, c0⟩, ⟨A1, n1, c1⟩, ⟨A2, n2, c2⟩, ⟨A3, n3, c3⟩, ⟨A4, n4, c4⟩, ⟨A5, n5, c5⟩, cal⟩ W (HG.out.on (HW1.out.trans (hW.mono HW1.out.size))))
  clear HNX
  have HL : Hid (cal.days.length = dn) := Lib.hid (by have := HG.out.rd.1; dsimp only at this; rw [intsC_len] at this; omega)
  have HROW := Lib.hid (fun k hk => Rd.intAt HG.out.rd k hk)
  have HBD : Hid (dn ≤ 9223372036854775807) := Lib.hid HG.out.bd
  obtain ⟨D, hD⟩ : ∃ D : Sp.DateD, D = Sp.ofT t := ⟨_, rfl⟩
  have HD := Lib.hid hD
  obtain ⟨ok, hok⟩ : ∃ ok, ok = Sp.okT t := ⟨_, rfl⟩
  have HOF := Lib.hid (of_is t D ok hD hok.symm w1 ⟨ha1, ha2⟩)
  have HNEW := Lib.hid (fun W : World => DBox.new W D)
  have HOK := Lib.hid hok
  clear hD hok
  obtain ⟨yy, mo, dd, hh, mi, se, wd⟩ := D
  dsimp only at HOF HNEW
  go_wp2_with fail
  refine HOF.out.mono ?_
  rintro e w2 ⟨rfl, hb2⟩
  have HB2 := Lib.hid hb2
  clear hb2
  go_upto_region 4 with fail
  have hdn := HNEW.out w2
  have hda : Below w2.heap.size w2 (w2.alloc (.cells #[.int .i64 yy, .int .i64 mo, .int .i64 dd, .int .i64 hh, .int .i64 mi, .int .i64 se, .int .i64 wd] 39)) := (Below.refl _ _).alloc (Nat.le_refl _) _
  have hdl : w2.heap.size < (w2.alloc (.cells #[.int .i64 yy, .int .i64 mo, .int .i64 dd, .int .i64 hh, .int .i64 mi, .int .i64 se, .int .i64 wd] 39)).heap.size := by simp
  generalize w2.alloc (.cells #[.int .i64 yy, .int .i64 mo, .int .i64 dd, .int .i64 hh, .int .i64 mi, .int .i64 se, .int .i64 wd] 39) = w3 at *
  have HB3 := Lib.hid (HB2.out.trans (hda.mono HB2.out.size))
  have HDN := Lib.hid hdn
  have h23 : w1.heap.size ≤ w2.heap.size := HB2.out.size
  generalize w2.heap.size = b2 at *
  clear HB2 hda hdn HNEW
  obtain ⟨M, hM⟩ : ∃ M, M = Sp.matchB cal t := ⟨_, rfl⟩
  have HM := HMT.out t w3 ha1 ha2 HB3.out
  rw [← hM] at HM
  have HM := Lib.hid HM
  have HEM := Lib.hid hM
  clear hM
  obtain ⟨k0, k1, k2, k3, k4, k5, k6⟩ := HC1.out.on HB3.out hl1
  simp only [slV] at k0 k1 k2 k3 k4 k5 k6
  go_wp2_with fail
  refine HM.out.mono ?_
  rintro e w4 ⟨rfl, hb4⟩
  have HB4 := Lib.hid (HB3.out.trans (hb4.mono HB3.out.size))
  have HL4 : w3.heap.size ≤ w4.heap.size := hb4.size
  have HDN4 := Lib.hid (HDN.out.on (Nat.lt_of_lt_of_le hdl (Nat.le_refl _)) hb4)
  clear hb4 k0 k1 k2 k3 k4 k5 k6 HM
  cases M with
  | false =>
    obtain ⟨k0, k1, k2, k3, k4, k5, k6⟩ := HC1.out.on HB4.out hl1
    simp only [slV] at k0 k1 k2 k3 k4 k5 k6
    go_upto_region 17 with fail
    have hen := CBox.new w4 ⟨⟨none, 0, 0⟩, ⟨A0, n0, c0⟩, ⟨A1, n1, c1⟩, ⟨A2, n2, c2⟩, ⟨A3, n3, c3⟩, ⟨A4, n4, c4⟩, ⟨A5, n5, c5⟩, { cal with days := [] }⟩
    have hea : Below w4.heap.size w4 (w4.alloc (.cells #[.slice none 0 0, .slice A0 n0 c0, .slice A1 n1 c1, .slice A2 n2 c2, .slice A3 n3 c3, .slice A4 n4 c4, .slice A5 n5 c5] 26)) := (Below.refl _ _).alloc (Nat.le_refl _) _
    have hel : w4.heap.size < (w4.alloc (.cells #[.slice none 0 0, .slice A0 n0 c0, .slice A1 n1 c1, .slice A2 n2 c2, .slice A3 n3 c3, .slice A4 n4 c4, .slice A5 n5 c5] 26)).heap.size := by simp
    simp only [slV] at hen
    generalize w4.alloc (.cells #[.slice none 0 0, .slice A0 n0 c0, .slice A1 n1 c1, .slice A2 n2 c2, .slice A3 n3 c3, .slice A4 n4 c4, .slice A5 n5 c5] 26) = w5 at *
    have HB5 := Lib.hid (HB4.out.trans (hea.mono HB4.out.size))
    have h45 : w1.heap.size ≤ w4.heap.size := HB4.out.size
    have h15 : w1.heap.size ≤ w5.heap.size := HB5.out.size
    generalize w4.heap.size = bE at *
    have HEN := Lib.hid hen
    clear k0 k1 k2 k3 k4 k5 k6 HB4 hea hen
    obtain ⟨k0, k1, k2, k3, k4, k5, k6⟩ := HC1.out.on HB5.out hl1
    simp only [slV] at k0 k1 k2 k3 k4 k5 k6
    go_upto_region 19 with fail
    have hfn := days_new w5 ⟨⟨dA, dn, dc⟩, ⟨A0, n0, c0⟩, ⟨A1, n1, c1⟩, ⟨A2, n2, c2⟩, ⟨A3, n3, c3⟩, ⟨A4, n4, c4⟩, ⟨A5, n5, c5⟩, cal⟩
    have hfb : Below w5.heap.size w5 ((w5.alloc (.cells #[.slice (some ⟨w5.heap.size + 1, 0, none⟩) 7 7, .slice A0 n0 c0, .slice A1 n1 c1, .slice A2 n2 c2, .slice A3 n3 c3, .slice A4 n4 c4, .slice A5 n5 c5] 26)).alloc (.cells #[.int .i64 1, .int .i64 2, .int .i64 3, .int .i64 4, .int .i64 5, .int .i64 6, .int .i64 7] 3)) := ((Below.refl _ _).alloc (Nat.le_refl _) _).alloc (by simp) _
    have hfl : w5.heap.size + 1 < ((w5.alloc (.cells #[.slice (some ⟨w5.heap.size + 1, 0, none⟩) 7 7, .slice A0 n0 c0, .slice A1 n1 c1, .slice A2 n2 c2, .slice A3 n3 c3, .slice A4 n4 c4, .slice A5 n5 c5] 26)).alloc (.cells #[.int .i64 1, .int .i64 2, .int .i64 3, .int .i64 4, .int .i64 5, .int .i64 6, .int .i64 7] 3)).heap.size := by simp
    simp only [slV] at hfn
    generalize (w5.alloc (.cells #[.slice (some ⟨w5.heap.size + 1, 0, none⟩) 7 7, .slice A0 n0 c0, .slice A1 n1 c1, .slice A2 n2 c2, .slice A3 n3 c3, .slice A4 n4 c4, .slice A5 n5 c5] 26)).alloc (.cells #[.int .i64 1, .int .i64 2, .int .i64 3, .int .i64 4, .int .i64 5, .int .i64 6, .int .i64 7] 3) = w6 at *
    have HB6 := Lib.hid (HB5.out.trans (hfb.mono HB5.out.size))
    have HEN6 := Lib.hid (CBox.on HEN.out hfb hel)
    have hel6 : bE < w6.heap.size := Nat.lt_of_lt_of_le hel hfb.size
    generalize w5.heap.size = bF at *
    have HFN := Lib.hid hfn
    clear k0 k1 k2 k3 k4 k5 k6 HB5 hfb hfn HEN hel
    have hwl : w.heap.size < w6.heap.size := by omega
    have hbf : bF < w6.heap.size := by omega
    generalize bF + 1 = bG at *
    have HGE : Hid (∀ p : Since w6.heap.size w6, CalGood p.w' ⟨⟨none, 0, 0⟩, ⟨A0, n0, c0⟩, ⟨A1, n1, c1⟩, ⟨A2, n2, c2⟩, ⟨A3, n3, c3⟩, ⟨A4, n4, c4⟩, ⟨A5, n5, c5⟩, { cal with days := [] }⟩) := Lib.hid (fun p => CalGood.put_days (HG.out.on (HW1.out.trans ((HB6.out.trans (p.hb.mono HB6.out.size)).mono HW1.out.size))) none 0 0 [] Rd.empty (by decide))
    have HGF : Hid (∀ p : Since w6.heap.size w6, CalGood p.w' ⟨⟨some ⟨bG, 0, none⟩, 7, 7⟩, ⟨A0, n0, c0⟩, ⟨A1, n1, c1⟩, ⟨A2, n2, c2⟩, ⟨A3, n3, c3⟩, ⟨A4, n4, c4⟩, ⟨A5, n5, c5⟩, { cal with days := [1, 2, 3, 4, 5, 6, 7] }⟩) := Lib.hid (fun p => CalGood.put_days (HG.out.on (HW1.out.trans ((HB6.out.trans (p.hb.mono HB6.out.size)).mono HW1.out.size))) (some ⟨bG, 0, none⟩) 7 7 [1, 2, 3, 4, 5, 6, 7] ((HFN.out.2.below p.hb).more p.hb.size) (by decide))
    have HGC : Hid (∀ p : Since w6.heap.size w6, CalGood p.w' ⟨⟨dA, dn, dc⟩, ⟨A0, n0, c0⟩, ⟨A1, n1, c1⟩, ⟨A2, n2, c2⟩, ⟨A3, n3, c3⟩, ⟨A4, n4, c4⟩, ⟨A5, n5, c5⟩, cal⟩) := Lib.hid (fun p => HG.out.on (HW1.out.trans ((HB6.out.trans (p.hb.mono HB6.out.size)).mono HW1.out.size)))
    obtain ⟨q, hq⟩ : ∃ q, q = Sp.matchB { cal with days := [] } t := ⟨_, rfl⟩
    have HME : Hid (∀ p : Since w6.heap.size w6, Calls Tryz.prog 21 #[.agg #[.slice none 0 0, .slice A0 n0 c0, .slice A1 n1 c1, .slice A2 n2 c2, .slice A3 n3 c3, .slice A4 n4 c4, .slice A5 n5 c5], .int .i64 t] p.w' fun e w'' => e = .returned (.bool q) ∧ ∃ r : Since w6.heap.size w6, w'' = r.w') := Lib.hid (fun p => by
      rw [hq]
      exact Calls.since_of (Nat.le_refl _) (match_any ⟨⟨none, 0, 0⟩, ⟨A0, n0, c0⟩, ⟨A1, n1, c1⟩, ⟨A2, n2, c2⟩, ⟨A3, n3, c3⟩, ⟨A4, n4, c4⟩, ⟨A5, n5, c5⟩, { cal with days := [] }⟩ t p.w' (HGE.out p) ⟨ha1, ha2⟩))
    have HMF : Hid (∀ p : Since w6.heap.size w6, Calls Tryz.prog 21 #[.agg #[.slice (some ⟨bG, 0, none⟩) 7 7, .slice A0 n0 c0, .slice A1 n1 c1, .slice A2 n2 c2, .slice A3 n3 c3, .slice A4 n4 c4, .slice A5 n5 c5], .int .i64 t] p.w' fun e w'' => e = .returned (.bool q) ∧ ∃ r : Since w6.heap.size w6, w'' = r.w') := Lib.hid (fun p => by
      rw [hq, Sp.days_all]
      exact Calls.since_of (Nat.le_refl _) (match_any ⟨⟨some ⟨bG, 0, none⟩, 7, 7⟩, ⟨A0, n0, c0⟩, ⟨A1, n1, c1⟩, ⟨A2, n2, c2⟩, ⟨A3, n3, c3⟩, ⟨A4, n4, c4⟩, ⟨A5, n5, c5⟩, { cal with days := [1, 2, 3, 4, 5, 6, 7] }⟩ t p.w' (HGF.out p) ⟨ha1, ha2⟩))
    have HMC : Hid (∀ p : Since w6.heap.size w6, Calls Tryz.prog 21 #[.agg #[.slice dA dn dc, .slice A0 n0 c0, .slice A1 n1 c1, .slice A2 n2 c2, .slice A3 n3 c3, .slice A4 n4 c4, .slice A5 n5 c5], .int .i64 t] p.w' fun e w'' => e = .returned (.bool false) ∧ ∃ r : Since w6.heap.size w6, w'' = r.w') := Lib.hid (fun p => by
      rw [HEM.out]
      exact Calls.since_of (Nat.le_refl _) (match_any ⟨⟨dA, dn, dc⟩, ⟨A0, n0, c0⟩, ⟨A1, n1, c1⟩, ⟨A2, n2, c2⟩, ⟨A3, n3, c3⟩, ⟨A4, n4, c4⟩, ⟨A5, n5, c5⟩, cal⟩ t p.w' (HGC.out p) ⟨ha1, ha2⟩))
    have HQ := Lib.hid hq
    have HXke : Hid (∀ p : Since w6.heap.size w6, CBox p.w' bE ⟨⟨none, 0, 0⟩, ⟨A0, n0, c0⟩, ⟨A1, n1, c1⟩, ⟨A2, n2, c2⟩, ⟨A3, n3, c3⟩, ⟨A4, n4, c4⟩, ⟨A5, n5, c5⟩, { cal with days := [] }⟩) := Lib.hid (fun p => CBox.on HEN6.out p.hb hel6)
    have HXkf : Hid (∀ p : Since w6.heap.size w6, CBox p.w' bF ⟨⟨some ⟨bG, 0, none⟩, 7, 7⟩, ⟨A0, n0, c0⟩, ⟨A1, n1, c1⟩, ⟨A2, n2, c2⟩, ⟨A3, n3, c3⟩, ⟨A4, n4, c4⟩, ⟨A5, n5, c5⟩, { cal with days := [1, 2, 3, 4, 5, 6, 7] }⟩) := Lib.hid (fun p => CBox.on HFN.out.1 p.hb hbf)
    have HXkc : Hid (∀ p : Since w6.heap.size w6, CBox p.w' w.heap.size ⟨⟨dA, dn, dc⟩, ⟨A0, n0, c0⟩, ⟨A1, n1, c1⟩, ⟨A2, n2, c2⟩, ⟨A3, n3, c3⟩, ⟨A4, n4, c4⟩, ⟨A5, n5, c5⟩, cal⟩) := Lib.hid (fun p => CBox.on HC1.out (HB6.out.trans (p.hb.mono HB6.out.size)) hl1)
    have ke0 : ∀ p : Since w6.heap.size w6, p.w'.cell? ⟨bE, 0, none⟩ = some (.slice none 0 0) := fun p => (HXke.out p).c0
    have ke1 : ∀ p : Since w6.heap.size w6, p.w'.cell? ⟨bE, 1, none⟩ = some (.slice A0 n0 c0) := fun p => (HXke.out p).c1
    have ke2 : ∀ p : Since w6.heap.size w6, p.w'.cell? ⟨bE, 2, none⟩ = some (.slice A1 n1 c1) := fun p => (HXke.out p).c2
    have ke3 : ∀ p : Since w6.heap.size w6, p.w'.cell? ⟨bE, 3, none⟩ = some (.slice A2 n2 c2) := fun p => (HXke.out p).c3
    have ke4 : ∀ p : Since w6.heap.size w6, p.w'.cell? ⟨bE, 4, none⟩ = some (.slice A3 n3 c3) := fun p => (HXke.out p).c4
    have ke5 : ∀ p : Since w6.heap.size w6, p.w'.cell? ⟨bE, 5, none⟩ = some (.slice A4 n4 c4) := fun p => (HXke.out p).c5
    have ke6 : ∀ p : Since w6.heap.size w6, p.w'.cell? ⟨bE, 6, none⟩ = some (.slice A5 n5 c5) := fun p => (HXke.out p).c6
    have kf0 : ∀ p : Since w6.heap.size w6, p.w'.cell? ⟨bF, 0, none⟩ = some (.slice (some ⟨bG, 0, none⟩) 7 7) := fun p => (HXkf.out p).c0
    have kf1 : ∀ p : Since w6.heap.size w6, p.w'.cell? ⟨bF, 1, none⟩ = some (.slice A0 n0 c0) := fun p => (HXkf.out p).c1
    have kf2 : ∀ p : Since w6.heap.size w6, p.w'.cell? ⟨bF, 2, none⟩ = some (.slice A1 n1 c1) := fun p => (HXkf.out p).c2
    have kf3 : ∀ p : Since w6.heap.size w6, p.w'.cell? ⟨bF, 3, none⟩ = some (.slice A2 n2 c2) := fun p => (HXkf.out p).c3
    have kf4 : ∀ p : Since w6.heap.size w6, p.w'.cell? ⟨bF, 4, none⟩ = some (.slice A3 n3 c3) := fun p => (HXkf.out p).c4
    have kf5 : ∀ p : Since w6.heap.size w6, p.w'.cell? ⟨bF, 5, none⟩ = some (.slice A4 n4 c4) := fun p => (HXkf.out p).c5
    have kf6 : ∀ p : Since w6.heap.size w6, p.w'.cell? ⟨bF, 6, none⟩ = some (.slice A5 n5 c5) := fun p => (HXkf.out p).c6
    have kc0 : ∀ p : Since w6.heap.size w6, p.w'.cell? ⟨w.heap.size, 0, none⟩ = some (.slice dA dn dc) := fun p => (HXkc.out p).c0
    have kc1 : ∀ p : Since w6.heap.size w6, p.w'.cell? ⟨w.heap.size, 1, none⟩ = some (.slice A0 n0 c0) := fun p => (HXkc.out p).c1
    have kc2 : ∀ p : Since w6.heap.size w6, p.w'.cell? ⟨w.heap.size, 2, none⟩ = some (.slice A1 n1 c1) := fun p => (HXkc.out p).c2
    have kc3 : ∀ p : Since w6.heap.size w6, p.w'.cell? ⟨w.heap.size, 3, none⟩ = some (.slice A2 n2 c2) := fun p => (HXkc.out p).c3
    have kc4 : ∀ p : Since w6.heap.size w6, p.w'.cell? ⟨w.heap.size, 4, none⟩ = some (.slice A3 n3 c3) := fun p => (HXkc.out p).c4
    have kc5 : ∀ p : Since w6.heap.size w6, p.w'.cell? ⟨w.heap.size, 5, none⟩ = some (.slice A4 n4 c4) := fun p => (HXkc.out p).c5
    have kc6 : ∀ p : Since w6.heap.size w6, p.w'.cell? ⟨w.heap.size, 6, none⟩ = some (.slice A5 n5 c5) := fun p => (HXkc.out p).c6
    clear hq
    cases q with
    | false =>
      refine wp_region_since w6.heap.size (by kernel_rfl) (by kernel_rfl) ?_
      repeat (go_big_quiet_step (first | (go_at_call_of 21 (Value.agg #[.slice none 0 0, .slice A0 n0 c0, .slice A1 n1 c1, .slice A2 n2 c2, .slice A3 n3 c3, .slice A4 n4 c4, .slice A5 n5 c5]); exact HME.out _) | (go_at_call_of 21 (Value.agg #[.slice (some ⟨bG, 0, none⟩) 7 7, .slice A0 n0 c0, .slice A1 n1 c1, .slice A2 n2 c2, .slice A3 n3 c3, .slice A4 n4 c4, .slice A5 n5 c5]); exact HMF.out _) | (go_at_call_of 21 (Value.agg #[.slice dA dn dc, .slice A0 n0 c0, .slice A1 n1 c1, .slice A2 n2 c2, .slice A3 n3 c3, .slice A4 n4 c4, .slice A5 n5 c5]); exact HMC.out _)))
      refine wpQuiet_nil ?_
      intro _ hw'
      obtain ⟨pz, hw''⟩ := hw'
      subst hw''
      have HZ : Hid (Below w.heap.size w pz.w') := Lib.hid (HW1.out.trans ((HB6.out.trans (pz.hb.mono HB6.out.size)).mono HW1.out.size))
      go_wp2
      go_ret
      exact ⟨rfl, HZ.out⟩
    | true =>
      refine wp_region_since w6.heap.size (by kernel_rfl) (by kernel_rfl) ?_
      repeat (go_big_quiet_step (first | (go_at_call_of 21 (Value.agg #[.slice none 0 0, .slice A0 n0 c0, .slice A1 n1 c1, .slice A2 n2 c2, .slice A3 n3 c3, .slice A4 n4 c4, .slice A5 n5 c5]); exact HME.out _) | (go_at_call_of 21 (Value.agg #[.slice (some ⟨bG, 0, none⟩) 7 7, .slice A0 n0 c0, .slice A1 n1 c1, .slice A2 n2 c2, .slice A3 n3 c3, .slice A4 n4 c4, .slice A5 n5 c5]); exact HMF.out _) | (go_at_call_of 21 (Value.agg #[.slice dA dn dc, .slice A0 n0 c0, .slice A1 n1 c1, .slice A2 n2 c2, .slice A3 n3 c3, .slice A4 n4 c4, .slice A5 n5 c5]); exact HMC.out _)))
      refine wpQuiet_nil ?_
      intro _ hw'
      obtain ⟨pz, hw''⟩ := hw'
      subst hw''
      have HZ : Hid (Below w.heap.size w pz.w') := Lib.hid (HW1.out.trans ((HB6.out.trans (pz.hb.mono HB6.out.size)).mono HW1.out.size))
      go_wp2
      go_ret
      exact ⟨rfl, HZ.out⟩
  | true =>
    obtain ⟨e1, e2, e3⟩ := match_of HEM.out.symm
    obtain rfl : ok = true := HOK.out.trans e1
    rw [← HD.out] at e3
    have HWD : Hid (Sp.wdayB cal.days wd = true) := Lib.hid e3
    have hmy := HMW.out w4 HB4.out
    rw [e2] at hmy
    have HMY := Lib.hid hmy
    clear hmy e1 e2 e3
    obtain ⟨k0, k1, k2, k3, k4, k5, k6⟩ := HC1.out.on HB4.out hl1
    simp only [slV] at k0 k1 k2 k3 k4 k5 k6
    go_wp2_with fail
    refine HMY.out.mono ?_
    rintro e w4b ⟨rfl, hb4b⟩
    have HB4b := Lib.hid (HB4.out.trans (hb4b.mono HB4.out.size))
    have hcw : w4b.cell? ⟨b2, 6, none⟩ = some (.int .i64 wd) := (HDN4.out.on (Nat.lt_of_lt_of_le hdl HL4) hb4b).c6
    clear hb4b k0 k1 k2 k3 k4 k5 k6 HB4 HMY HDN4 HL4
    obtain ⟨k0, k1, k2, k3, k4, k5, k6⟩ := HC1.out.on HB4b.out hl1
    simp only [slV] at k0 k1 k2 k3 k4 k5 k6
    have hbd := HBD.out
    obtain ⟨z, hz⟩ : ∃ z : Bool, ((dn : Int) == 0) = z := ⟨_, rfl⟩
    have HZZ : Hid (z = cal.days.isEmpty) := Lib.hid (by
      rw [← hz]
      have := HL.out
      cases hc : cal.days with
      | nil => rw [hc] at this; simp at this; subst this; rfl
      | cons a r => rw [hc] at this; simp at this; subst this; simp; omega)
    go_wp2_with fail
    go_loopw [7, 36] (fun hv iv wr => ∃ (k : Nat) (hb : Bool), k ≤ dn ∧ iv = .int .i64 k ∧ hv = .bool hb ∧ w4b = wr ∧ Hid (hb = (z || (cal.days.take k).any (fun d => decide (d = wd))))) (fun _ iv _ => dn - (intOf iv).toNat)
    case atStart => exact ⟨0, z, Nat.zero_le _, rfl, rfl, rfl, Lib.hid (by simp)⟩
    case round =>
      obtain ⟨k, hb, hk, rfl, rfl, rfl, HA⟩ := hrel
      by_cases hlt : k < dn
      · have v1 : IntKind.i64.wrap ((k : Int) + 1) = ((k + 1 : Nat) : Int) := by rw [IntKind.wrap_i64]; omega
        have hx1 : (k : Int) < (dn : Int) := by omega
        have hx0 : (0 : Int) ≤ (k : Int) := by omega
        have hkl : k < cal.days.length := by rw [HL.out]; exact hlt
        obtain ⟨ad, rfl, hc⟩ := HROW.out k hkl
        have c9 := hc w4b (HW1.out.trans (HB4b.out.mono HW1.out.size))
        have HTK : Hid ((cal.days.take (k + 1)).any (fun d => decide (d = wd)) = ((cal.days.take k).any (fun d => decide (d = wd)) || decide (cal.days[k] = wd))) := Lib.hid (by rw [List.take_succ_eq_append_getElem hkl, List.any_append]; simp)
        clear hc
        generalize cal.days[k] = y at *
        cases hb with
        | true =>
          go_wp2
          go_roundw
          case rel => exact ⟨k + 1, true, by omega, by first | rfl | go_num, by first | rfl | go_num, by first | rfl | trivial, Lib.hid (by rw [HTK.out, ← Bool.or_assoc, ← HA.out]; rfl)⟩
          case measure => simp [intOf]; omega
        | false =>
          cases hq : (y == wd) with
          | true =>
            have HQ : Hid (decide (y = wd) = true) := Lib.hid (decide_eq_true (by simpa using hq))
            go_wp2
            go_roundw
            case rel => exact ⟨k + 1, true, by omega, by first | rfl | go_num, by first | rfl | go_num, by first | rfl | trivial, Lib.hid (by rw [HTK.out, HQ.out]; simp)⟩
            case measure => simp [intOf]; omega
          | false =>
            have HQ : Hid (decide (y = wd) = false) := Lib.hid (decide_eq_false (by simpa using hq))
            go_wp2
            go_roundw
            case rel => exact ⟨k + 1, false, by omega, by first | rfl | go_num, by first | rfl | go_num, by first | rfl | trivial, Lib.hid (by rw [HTK.out, HQ.out, ← Bool.or_assoc, ← HA.out]; rfl)⟩
            case measure => simp [intOf]; omega
      · obtain rfl : dn = k := by omega
        have hx1 : ¬ (dn : Int) < (dn : Int) := by omega
        obtain rfl : hb = true := by
          rw [HA.out, HZZ.out, List.take_of_length_le (by rw [HL.out]; omega)]
          exact HWD.out
        go_upto_region 17 with fail
        have hen := CBox.new w4b ⟨⟨none, 0, 0⟩, ⟨A0, n0, c0⟩, ⟨A1, n1, c1⟩, ⟨A2, n2, c2⟩, ⟨A3, n3, c3⟩, ⟨A4, n4, c4⟩, ⟨A5, n5, c5⟩, { cal with days := [] }⟩
        have hea : Below w4b.heap.size w4b (w4b.alloc (.cells #[.slice none 0 0, .slice A0 n0 c0, .slice A1 n1 c1, .slice A2 n2 c2, .slice A3 n3 c3, .slice A4 n4 c4, .slice A5 n5 c5] 26)) := (Below.refl _ _).alloc (Nat.le_refl _) _
        have hel : w4b.heap.size < (w4b.alloc (.cells #[.slice none 0 0, .slice A0 n0 c0, .slice A1 n1 c1, .slice A2 n2 c2, .slice A3 n3 c3, .slice A4 n4 c4, .slice A5 n5 c5] 26)).heap.size := by simp
        simp only [slV] at hen
        generalize w4b.alloc (.cells #[.slice none 0 0, .slice A0 n0 c0, .slice A1 n1 c1, .slice A2 n2 c2, .slice A3 n3 c3, .slice A4 n4 c4, .slice A5 n5 c5] 26) = w5 at *
        have HB5 := Lib.hid (HB4b.out.trans (hea.mono HB4b.out.size))
        have h45 : w1.heap.size ≤ w4b.heap.size := HB4b.out.size
        have h15 : w1.heap.size ≤ w5.heap.size := HB5.out.size
        generalize w4b.heap.size = bE at *
        have HEN := Lib.hid hen
        clear k0 k1 k2 k3 k4 k5 k6 HB4b hea hen
        obtain ⟨k0, k1, k2, k3, k4, k5, k6⟩ := HC1.out.on HB5.out hl1
        simp only [slV] at k0 k1 k2 k3 k4 k5 k6
        go_upto_region 19 with fail
        have hfn := days_new w5 ⟨⟨dA, dn, dc⟩, ⟨A0, n0, c0⟩, ⟨A1, n1, c1⟩, ⟨A2, n2, c2⟩, ⟨A3, n3, c3⟩, ⟨A4, n4, c4⟩, ⟨A5, n5, c5⟩, cal⟩
        have hfb : Below w5.heap.size w5 ((w5.alloc (.cells #[.slice (some ⟨w5.heap.size + 1, 0, none⟩) 7 7, .slice A0 n0 c0, .slice A1 n1 c1, .slice A2 n2 c2, .slice A3 n3 c3, .slice A4 n4 c4, .slice A5 n5 c5] 26)).alloc (.cells #[.int .i64 1, .int .i64 2, .int .i64 3, .int .i64 4, .int .i64 5, .int .i64 6, .int .i64 7] 3)) := ((Below.refl _ _).alloc (Nat.le_refl _) _).alloc (by simp) _
        have hfl : w5.heap.size + 1 < ((w5.alloc (.cells #[.slice (some ⟨w5.heap.size + 1, 0, none⟩) 7 7, .slice A0 n0 c0, .slice A1 n1 c1, .slice A2 n2 c2, .slice A3 n3 c3, .slice A4 n4 c4, .slice A5 n5 c5] 26)).alloc (.cells #[.int .i64 1, .int .i64 2, .int .i64 3, .int .i64 4, .int .i64 5, .int .i64 6, .int .i64 7] 3)).heap.size := by simp
        simp only [slV] at hfn
        generalize (w5.alloc (.cells #[.slice (some ⟨w5.heap.size + 1, 0, none⟩) 7 7, .slice A0 n0 c0, .slice A1 n1 c1, .slice A2 n2 c2, .slice A3 n3 c3, .slice A4 n4 c4, .slice A5 n5 c5] 26)).alloc (.cells #[.int .i64 1, .int .i64 2, .int .i64 3, .int .i64 4, .int .i64 5, .int .i64 6, .int .i64 7] 3) = w6 at *
        have HB6 := Lib.hid (HB5.out.trans (hfb.mono HB5.out.size))
        have HEN6 := Lib.hid (CBox.on HEN.out hfb hel)
        have hel6 : bE < w6.heap.size := Nat.lt_of_lt_of_le hel hfb.size
        generalize w5.heap.size = bF at *
        have HFN := Lib.hid hfn
        clear k0 k1 k2 k3 k4 k5 k6 HB5 hfb hfn HEN hel
        have hwl : w.heap.size < w6.heap.size := by omega
        have hbf : bF < w6.heap.size := by omega
        generalize bF + 1 = bG at *
        have HGE : Hid (∀ p : Since w6.heap.size w6, CalGood p.w' ⟨⟨none, 0, 0⟩, ⟨A0, n0, c0⟩, ⟨A1, n1, c1⟩, ⟨A2, n2, c2⟩, ⟨A3, n3, c3⟩, ⟨A4, n4, c4⟩, ⟨A5, n5, c5⟩, { cal with days := [] }⟩) := Lib.hid (fun p => CalGood.put_days (HG.out.on (HW1.out.trans ((HB6.out.trans (p.hb.mono HB6.out.size)).mono HW1.out.size))) none 0 0 [] Rd.empty (by decide))
        have HGF : Hid (∀ p : Since w6.heap.size w6, CalGood p.w' ⟨⟨some ⟨bG, 0, none⟩, 7, 7⟩, ⟨A0, n0, c0⟩, ⟨A1, n1, c1⟩, ⟨A2, n2, c2⟩, ⟨A3, n3, c3⟩, ⟨A4, n4, c4⟩, ⟨A5, n5, c5⟩, { cal with days := [1, 2, 3, 4, 5, 6, 7] }⟩) := Lib.hid (fun p => CalGood.put_days (HG.out.on (HW1.out.trans ((HB6.out.trans (p.hb.mono HB6.out.size)).mono HW1.out.size))) (some ⟨bG, 0, none⟩) 7 7 [1, 2, 3, 4, 5, 6, 7] ((HFN.out.2.below p.hb).more p.hb.size) (by decide))
        have HGC : Hid (∀ p : Since w6.heap.size w6, CalGood p.w' ⟨⟨dA, dn, dc⟩, ⟨A0, n0, c0⟩, ⟨A1, n1, c1⟩, ⟨A2, n2, c2⟩, ⟨A3, n3, c3⟩, ⟨A4, n4, c4⟩, ⟨A5, n5, c5⟩, cal⟩) := Lib.hid (fun p => HG.out.on (HW1.out.trans ((HB6.out.trans (p.hb.mono HB6.out.size)).mono HW1.out.size)))
        obtain ⟨q, hq⟩ : ∃ q, q = Sp.matchB { cal with days := [] } t := ⟨_, rfl⟩
        have HME : Hid (∀ p : Since w6.heap.size w6, Calls Tryz.prog 21 #[.agg #[.slice none 0 0, .slice A0 n0 c0, .slice A1 n1 c1, .slice A2 n2 c2, .slice A3 n3 c3, .slice A4 n4 c4, .slice A5 n5 c5], .int .i64 t] p.w' fun e w'' => e = .returned (.bool q) ∧ ∃ r : Since w6.heap.size w6, w'' = r.w') := Lib.hid (fun p => by
          rw [hq]
          exact Calls.since_of (Nat.le_refl _) (match_any ⟨⟨none, 0, 0⟩, ⟨A0, n0, c0⟩, ⟨A1, n1, c1⟩, ⟨A2, n2, c2⟩, ⟨A3, n3, c3⟩, ⟨A4, n4, c4⟩, ⟨A5, n5, c5⟩, { cal with days := [] }⟩ t p.w' (HGE.out p) ⟨ha1, ha2⟩))
        have HMF : Hid (∀ p : Since w6.heap.size w6, Calls Tryz.prog 21 #[.agg #[.slice (some ⟨bG, 0, none⟩) 7 7, .slice A0 n0 c0, .slice A1 n1 c1, .slice A2 n2 c2, .slice A3 n3 c3, .slice A4 n4 c4, .slice A5 n5 c5], .int .i64 t] p.w' fun e w'' => e = .returned (.bool q) ∧ ∃ r : Since w6.heap.size w6, w'' = r.w') := Lib.hid (fun p => by
          rw [hq, Sp.days_all]
          exact Calls.since_of (Nat.le_refl _) (match_any ⟨⟨some ⟨bG, 0, none⟩, 7, 7⟩, ⟨A0, n0, c0⟩, ⟨A1, n1, c1⟩, ⟨A2, n2, c2⟩, ⟨A3, n3, c3⟩, ⟨A4, n4, c4⟩, ⟨A5, n5, c5⟩, { cal with days := [1, 2, 3, 4, 5, 6, 7] }⟩ t p.w' (HGF.out p) ⟨ha1, ha2⟩))
        have HMC : Hid (∀ p : Since w6.heap.size w6, Calls Tryz.prog 21 #[.agg #[.slice dA dn dc, .slice A0 n0 c0, .slice A1 n1 c1, .slice A2 n2 c2, .slice A3 n3 c3, .slice A4 n4 c4, .slice A5 n5 c5], .int .i64 t] p.w' fun e w'' => e = .returned (.bool true) ∧ ∃ r : Since w6.heap.size w6, w'' = r.w') := Lib.hid (fun p => by
          rw [HEM.out]
          exact Calls.since_of (Nat.le_refl _) (match_any ⟨⟨dA, dn, dc⟩, ⟨A0, n0, c0⟩, ⟨A1, n1, c1⟩, ⟨A2, n2, c2⟩, ⟨A3, n3, c3⟩, ⟨A4, n4, c4⟩, ⟨A5, n5, c5⟩, cal⟩ t p.w' (HGC.out p) ⟨ha1, ha2⟩))
        have HQ := Lib.hid hq
        have HXke : Hid (∀ p : Since w6.heap.size w6, CBox p.w' bE ⟨⟨none, 0, 0⟩, ⟨A0, n0, c0⟩, ⟨A1, n1, c1⟩, ⟨A2, n2, c2⟩, ⟨A3, n3, c3⟩, ⟨A4, n4, c4⟩, ⟨A5, n5, c5⟩, { cal with days := [] }⟩) := Lib.hid (fun p => CBox.on HEN6.out p.hb hel6)
        have HXkf : Hid (∀ p : Since w6.heap.size w6, CBox p.w' bF ⟨⟨some ⟨bG, 0, none⟩, 7, 7⟩, ⟨A0, n0, c0⟩, ⟨A1, n1, c1⟩, ⟨A2, n2, c2⟩, ⟨A3, n3, c3⟩, ⟨A4, n4, c4⟩, ⟨A5, n5, c5⟩, { cal with days := [1, 2, 3, 4, 5, 6, 7] }⟩) := Lib.hid (fun p => CBox.on HFN.out.1 p.hb hbf)
        have HXkc : Hid (∀ p : Since w6.heap.size w6, CBox p.w' w.heap.size ⟨⟨dA, dn, dc⟩, ⟨A0, n0, c0⟩, ⟨A1, n1, c1⟩, ⟨A2, n2, c2⟩, ⟨A3, n3, c3⟩, ⟨A4, n4, c4⟩, ⟨A5, n5, c5⟩, cal⟩) := Lib.hid (fun p => CBox.on HC1.out (HB6.out.trans (p.hb.mono HB6.out.size)) hl1)
        have ke0 : ∀ p : Since w6.heap.size w6, p.w'.cell? ⟨bE, 0, none⟩ = some (.slice none 0 0) := fun p => (HXke.out p).c0
        have ke1 : ∀ p : Since w6.heap.size w6, p.w'.cell? ⟨bE, 1, none⟩ = some (.slice A0 n0 c0) := fun p => (HXke.out p).c1
        have ke2 : ∀ p : Since w6.heap.size w6, p.w'.cell? ⟨bE, 2, none⟩ = some (.slice A1 n1 c1) := fun p => (HXke.out p).c2
        have ke3 : ∀ p : Since w6.heap.size w6, p.w'.cell? ⟨bE, 3, none⟩ = some (.slice A2 n2 c2) := fun p => (HXke.out p).c3
        have ke4 : ∀ p : Since w6.heap.size w6, p.w'.cell? ⟨bE, 4, none⟩ = some (.slice A3 n3 c3) := fun p => (HXke.out p).c4
        have ke5 : ∀ p : Since w6.heap.size w6, p.w'.cell? ⟨bE, 5, none⟩ = some (.slice A4 n4 c4) := fun p => (HXke.out p).c5
        have ke6 : ∀ p : Since w6.heap.size w6, p.w'.cell? ⟨bE, 6, none⟩ = some (.slice A5 n5 c5) := fun p => (HXke.out p).c6
        have kf0 : ∀ p : Since w6.heap.size w6, p.w'.cell? ⟨bF, 0, none⟩ = some (.slice (some ⟨bG, 0, none⟩) 7 7) := fun p => (HXkf.out p).c0
        have kf1 : ∀ p : Since w6.heap.size w6, p.w'.cell? ⟨bF, 1, none⟩ = some (.slice A0 n0 c0) := fun p => (HXkf.out p).c1
        have kf2 : ∀ p : Since w6.heap.size w6, p.w'.cell? ⟨bF, 2, none⟩ = some (.slice A1 n1 c1) := fun p => (HXkf.out p).c2
        have kf3 : ∀ p : Since w6.heap.size w6, p.w'.cell? ⟨bF, 3, none⟩ = some (.slice A2 n2 c2) := fun p => (HXkf.out p).c3
        have kf4 : ∀ p : Since w6.heap.size w6, p.w'.cell? ⟨bF, 4, none⟩ = some (.slice A3 n3 c3) := fun p => (HXkf.out p).c4
        have kf5 : ∀ p : Since w6.heap.size w6, p.w'.cell? ⟨bF, 5, none⟩ = some (.slice A4 n4 c4) := fun p => (HXkf.out p).c5
        have kf6 : ∀ p : Since w6.heap.size w6, p.w'.cell? ⟨bF, 6, none⟩ = some (.slice A5 n5 c5) := fun p => (HXkf.out p).c6
        have kc0 : ∀ p : Since w6.heap.size w6, p.w'.cell? ⟨w.heap.size, 0, none⟩ = some (.slice dA dn dc) := fun p => (HXkc.out p).c0
        have kc1 : ∀ p : Since w6.heap.size w6, p.w'.cell? ⟨w.heap.size, 1, none⟩ = some (.slice A0 n0 c0) := fun p => (HXkc.out p).c1
        have kc2 : ∀ p : Since w6.heap.size w6, p.w'.cell? ⟨w.heap.size, 2, none⟩ = some (.slice A1 n1 c1) := fun p => (HXkc.out p).c2
        have kc3 : ∀ p : Since w6.heap.size w6, p.w'.cell? ⟨w.heap.size, 3, none⟩ = some (.slice A2 n2 c2) := fun p => (HXkc.out p).c3
        have kc4 : ∀ p : Since w6.heap.size w6, p.w'.cell? ⟨w.heap.size, 4, none⟩ = some (.slice A3 n3 c3) := fun p => (HXkc.out p).c4
        have kc5 : ∀ p : Since w6.heap.size w6, p.w'.cell? ⟨w.heap.size, 5, none⟩ = some (.slice A4 n4 c4) := fun p => (HXkc.out p).c5
        have kc6 : ∀ p : Since w6.heap.size w6, p.w'.cell? ⟨w.heap.size, 6, none⟩ = some (.slice A5 n5 c5) := fun p => (HXkc.out p).c6
        clear hq
        obtain rfl : q = true := HQ.out.trans (Sp.days_none cal t HEM.out.symm)
        refine wp_region_since w6.heap.size (by kernel_rfl) (by kernel_rfl) ?_
        repeat (go_big_quiet_step (first | (go_at_call_of 21 (Value.agg #[.slice none 0 0, .slice A0 n0 c0, .slice A1 n1 c1, .slice A2 n2 c2, .slice A3 n3 c3, .slice A4 n4 c4, .slice A5 n5 c5]); exact HME.out _) | (go_at_call_of 21 (Value.agg #[.slice (some ⟨bG, 0, none⟩) 7 7, .slice A0 n0 c0, .slice A1 n1 c1, .slice A2 n2 c2, .slice A3 n3 c3, .slice A4 n4 c4, .slice A5 n5 c5]); exact HMF.out _) | (go_at_call_of 21 (Value.agg #[.slice dA dn dc, .slice A0 n0 c0, .slice A1 n1 c1, .slice A2 n2 c2, .slice A3 n3 c3, .slice A4 n4 c4, .slice A5 n5 c5]); exact HMC.out _)))
        refine wpQuiet_nil ?_
        intro _ hw'
        obtain ⟨pz, hw''⟩ := hw'
        subst hw''
        have HZ : Hid (Below w.heap.size w pz.w') := Lib.hid (HW1.out.trans ((HB6.out.trans (pz.hb.mono HB6.out.size)).mono HW1.out.size))
        go_wp2
        go_ret
        exact ⟨rfl, HZ.out⟩

end Go.Proofs.YtopmdffiikajnaaGreatDoor
