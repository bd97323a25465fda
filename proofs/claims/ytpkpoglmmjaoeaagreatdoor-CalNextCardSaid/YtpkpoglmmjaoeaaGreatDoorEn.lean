/-
  The reference: what comes next: the walk.
-/
import Derived.Test.YtpkpoglmmjaoeaaGreatDoorFw
import Derived.Test.YtpkpoglmmjaoeaaGreatDoorDd
namespace Go.Proofs.YtpkpoglmmjaoeaaGreatDoor
open Go.RowKit Go.Shelf
def marksTo (c : Sp.CalD) (n : Nat) (f j : Nat) : Bool := decide (f < n) && Sp.inB (c.field f) f (j : Int)
theorem marksTo_put (c : Sp.CalD) (n : Nat) (f j : Nat) : marksTo c (n + 1) f j = if f = n then Sp.inB (c.field n) n (j : Int) else marksTo c n f j := by
  unfold marksTo
  by_cases e : f = n
  · subst e
    rw [if_pos rfl, decide_eq_true (by omega), Bool.true_and]
  · rw [if_neg e]
    congr 1
    exact decide_eq_decide.2 (by omega)
def NextPost (c : Sp.CalD) (a : Int) (e : Ending) : Prop := ∃ v ok, e = .returned (.tuple #[.int .i64 v, .bool ok]) ∧ Sp.NextIs c a v ok
set_option maxRecDepth 100000 in
set_option maxHeartbeats 16000000 in
theorem rnext_any (s : CalS) (a : Int) (w : World) (h : CalGood w s) (h0 : -9223372036854775808 ≤ a ∧ a ≤ 9223372036854775807) :
    Calls Tryz.prog 6 #[calV s, .int .i64 a] w fun e w' => NextPost s.cal a e ∧ Below w.heap.size w w' := by
  obtain ⟨SA, SN, SC, hfa, hpa, hln, hbn⟩ : ∃ (SA : Nat → Option Addr) (SN SC : Nat → Nat), (∀ i : Nat, i < 6 → ∀ W, Calls Tryz.prog 18 #[calV s, .int .i64 i] W fun e w' => e = .returned (.slice (SA i) (SN i) (SC i)) ∧ Below W.heap.size W w') ∧
      (∀ i, i < 6 → Rd w w.heap.size 3 (SA i) (SN i) (partsC (s.cal.field i))) ∧ (∀ i, i < 6 → (s.cal.field i).length = SN i) ∧ (∀ i, SN i ≤ 9223372036854775807) := by
    refine ⟨fun i => (s.sl i).A, fun i => (s.sl i).n, fun i => (s.sl i).c, fun i hi W => field_any s i hi W, fun i hi => h.rf i hi, fun i hi => ?_, h.bf⟩
    have h1 := (h.rf i hi).1
    rw [partsC_len] at h1
    show (s.cal.field i).length = (s.sl i).n
    omega
  have hmy : ∀ W, Below w.heap.size w W → Calls Tryz.prog 16 #[calV s] W fun e w' => e = .returned (.bool (Sp.mayCal s.cal)) ∧ Below W.heap.size W w' := fun W hW => rmay_any s W (h.on hW)
  have hwk : ∀ d W, Below w.heap.size w W → Calls Tryz.prog 21 #[calV s, .int .i64 d] W fun e w' => e = .returned (.bool (Sp.wdayB s.cal.days d)) ∧ Below W.heap.size W w' := fun d W hW => rweekday_any s d W (h.on hW)
  have HNM : Hid (Sp.mayCal s.cal = true → ∀ i, i < 6 → ∀ W, Below w.heap.size w W → Calls Tryz.prog 17 #[.slice (SA i) (SN i) (SC i), .int .i64 i] W fun e w' => (∃ cs, e = .returned (.agg cs) ∧ NumsV cs (s.cal.field i) i) ∧ Below W.heap.size W w') := Lib.hid (fun hm i hi W hW => rnumbers_any _ _ _ _ i W (((hpa i hi).below hW).more hW.size) (Sp.mayCal_lists hm i hi) hi (hbn i))
  have HNOT : Hid (Sp.mayCal s.cal = false ∨ 6311433599 ≤ a → Sp.NextIs s.cal a 0 false) := Lib.hid (Sp.next_not s.cal a)
  obtain ⟨a', haa⟩ : ∃ a', max a (-1) = a' := ⟨_, rfl⟩
  have HAA : Hid (a' = max a (-1)) := Lib.hid haa.symm
  have ha0 : -1 ≤ a' ∧ a' ≤ 9223372036854775807 := by omega
  clear h h0
  obtain ⟨⟨dA, dn, dc⟩, ⟨A0, n0, c0⟩, ⟨A1, n1, c1⟩, ⟨A2, n2, c2⟩, ⟨A3, n3, c3⟩, ⟨A4, n4, c4⟩, ⟨A5, n5, c5⟩, cal⟩ := s
  dsimp only at hmy hwk HNM HNOT ⊢
  obtain ⟨M, hM⟩ : ∃ M, M = Sp.mayCal cal := ⟨_, rfl⟩
  have HM := Lib.hid hM
  rw [← hM] at hmy HNM HNOT
  have HFA := Lib.hid hfa
  have HMY := Lib.hid hmy
  have HWK := Lib.hid hwk
  clear hfa hpa hln hbn hmy hwk hM
  have hcb := CBox.new w ⟨⟨dA, dn, dc⟩, ⟨A0, n0, c0⟩, ⟨A1, n1, c1⟩, ⟨A2, n2, c2⟩, ⟨A3, n3, c3⟩, ⟨A4, n4, c4⟩, ⟨A5, n5, c5⟩, cal⟩
  have hw0 : Below w.heap.size w (w.alloc (.cells #[.slice dA dn dc, .slice A0 n0 c0, .slice A1 n1 c1, .slice A2 n2 c2, .slice A3 n3 c3, .slice A4 n4 c4, .slice A5 n5 c5] 25)) := (Below.refl _ _).alloc (Nat.le_refl _) _
  have hlt : w.heap.size < (w.alloc (.cells #[.slice dA dn dc, .slice A0 n0 c0, .slice A1 n1 c1, .slice A2 n2 c2, .slice A3 n3 c3, .slice A4 n4 c4, .slice A5 n5 c5] 25)).heap.size := by simp
  simp only [slV] at hcb
  simp only [calV, slV] at HFA HMY HWK ⊢
  go_enter Tryz.func6, Tryz.ntmps6
  go_upto_region 1 with fail
  generalize w.alloc (.cells #[.slice dA dn dc, .slice A0 n0 c0, .slice A1 n1 c1, .slice A2 n2 c2, .slice A3 n3 c3, .slice A4 n4 c4, .slice A5 n5 c5] 25) = w1 at *
  have HC1 := Lib.hid hcb
  have HW := Lib.hid hw0
  clear hw0 hcb
  go_upto_region 2 with fail
  clear haa
  obtain ⟨k0, k1, k2, k3, k4, k5, k6⟩ := HC1.out
  simp only [slV] at k0 k1 k2 k3 k4 k5 k6
  go_wp2_with fail
  refine (HMY.out w1 HW.out).mono ?_
  rintro e w4 ⟨rfl, hb4⟩
  have HW4 := Lib.hid (HW.out.trans (hb4.mono HW.out.size))
  have HC4 := Lib.hid (CBox.on HC1.out hb4 hlt)
  have hlt4 : w.heap.size < w4.heap.size := Nat.lt_of_lt_of_le hlt hb4.size
  clear k0 k1 k2 k3 k4 k5 k6 hb4 HC1 HW
  cases M with
  | false =>
    go_wp2
    go_ret2
    exact ⟨⟨0, false, rfl, HNOT.out (.inl trivial)⟩, HW4.out⟩
  | true =>
    by_cases h9 : 6311433599 ≤ a'
    · have HN9 : Hid (Sp.NextIs cal a 0 false) := Lib.hid (HNOT.out (.inr (by have := HAA.out; omega)))
      go_wp2
      go_ret2
      exact ⟨⟨0, false, rfl, HN9.out⟩, HW4.out⟩
    · have hm0 : M6 w4.heap.size (marksTo cal 0) (w4.alloc (.cells Tryz.zeroCells44 44)) :=
        (M6.new (b := w4.heap.size) (by rw [zero13200]; exact heap_alloc_new w4 _)).eq fun f j _ _ => rfl
      have hb5 : Below w4.heap.size w4 (w4.alloc (.cells Tryz.zeroCells44 44)) := (Below.refl _ _).alloc (Nat.le_refl _) _
      go_upto_region 5 with fail
      generalize (w4.alloc (.cells Tryz.zeroCells44 44)) = w5 at *
      have HM0 := Lib.hid hm0
      have HB5 := Lib.hid hb5
      clear hm0 hb5
      generalize w4.heap.size = b6 at *
      go_wp2_with fail
      go_loopw [7] (fun fv wr => ∃ f : Nat, f ≤ 6 ∧ fv = .int .i64 f ∧ Hid (M6 b6 (marksTo cal f) wr) ∧ Hid (Below b6 w4 wr)) (fun fv _ => 6 - (intOf fv).toNat)
      case atStart => exact ⟨0, by decide, rfl, HM0, HB5⟩
      case round =>
        obtain ⟨f, hf, rfl, HMA, HB⟩ := hrel
        by_cases hf6 : f < 6
        · have hy1 : (f : Int) < 6 := by omega
          have hy0 : (0 : Int) ≤ (f : Int) := by omega
          have v2 : IntKind.i64.wrap ((f : Int) + 1) = ((f + 1 : Nat) : Int) := by rw [IntKind.wrap_i64]; omega
          have HF1 := Lib.hid (HFA.out f hf6 wr)
          have HN1 := Lib.hid (fun W hW => HNM.out trivial f hf6 W hW)
          have HI7 : Hid ((Tryz.prog.info? 43).map (·.size) = some 2200) := Lib.hid (by kernel_rfl)
          obtain ⟨k0, k1, k2, k3, k4, k5, k6⟩ := CBox.on HC4.out HB.out hlt4
          simp only [slV] at k0 k1 k2 k3 k4 k5 k6
          generalize SA f = A at *
          generalize SN f = n at *
          generalize SC f = C at *
          go_wp2_with fail
          refine HF1.out.mono ?_
          rintro e w7 ⟨rfl, hb7⟩
          have HB7 := Lib.hid (HB.out.trans (hb7.mono (Nat.le_of_lt HMA.out.lt)))
          have HA7 := Lib.hid (HMA.out.on hb7)
          clear k0 k1 k2 k3 k4 k5 k6 hb7 HF1 HB HMA
          go_wp2_with fail
          refine (HN1.out w7 (HW4.out.trans (HB7.out.mono (Nat.le_of_lt hlt4)))).mono ?_
          rintro e w8 ⟨⟨cs, rfl, hcs⟩, hb8⟩
          have HB8 := Lib.hid (HB7.out.trans (hb8.mono (Nat.le_of_lt HA7.out.lt)))
          have HA8 := Lib.hid (HA7.out.on hb8)
          have HCS := Lib.hid hcs
          have HTH : Hid (w8.there b6 (f * 2200) cs.size) := Lib.hid (by rw [hcs.1]; exact HA8.out.there f hf6)
          have HA9 : Hid (M6 b6 (marksTo cal (f + 1)) (w8.setCells b6 (f * 2200) cs.toList)) := Lib.hid ((HA8.out.put f hf6 cs hcs.1 _ hcs.2).eq fun i j _ _ => marksTo_put cal f i j)
          have HB9 : Hid (Below b6 w4 (w8.setCells b6 (f * 2200) cs.toList)) := Lib.hid (Lib.below_setCells b6 (Nat.le_refl _) cs.toList (f * 2200) HB8.out)
          clear hcs hb8 HA7 HB7 HN1
          have H1C : Hid (cs.all (·.oneCell') = true) := Lib.hid (by
            rw [Array.all_eq_true]
            intro i hi
            have hv := HCS.out.2 i (by rw [← HCS.out.1]; exact hi)
            rw [Array.getElem?_eq_getElem hi] at hv
            injection hv with hv
            rw [hv]; rfl)
          have HI8 : Hid ((Tryz.prog.info? 43).map (·.size) = some cs.size) := Lib.hid (by rw [HCS.out.1]; exact HI7.out)
          go_wp2_with (refine wpList_store_mid rfl 43 _ _ rfl b6 (f * 2200) cs rfl rfl HTH.out HI8.out H1C.out ?_)
          go_roundw
          case rel => exact ⟨f + 1, by omega, by first | rfl | go_num, HA9, HB9⟩
          case measure => simp [intOf]; omega
        · obtain rfl : f = 6 := by omega
          have hy1 : ¬ ((6 : Nat) : Int) < 6 := by omega
          have hmg : M6 b6 (fun (i j : Nat) => Sp.inB (cal.field i) i (j : Int)) wr := HMA.out.eq fun i j hi _ => by unfold marksTo; rw [decide_eq_true hi]; rfl
          obtain ⟨g, hg⟩ : ∃ g : Nat → Nat → Bool, g = fun (i j : Nat) => Sp.inB (cal.field i) i (j : Int) := ⟨_, rfl⟩
          have HG : Hid (∀ i j, g i j = Sp.inB (cal.field i) i (j : Int)) := Lib.hid (fun i j => by rw [hg])
          rw [← hg] at hmg
          have HMG := Lib.hid hmg
          obtain ⟨k0, hk0⟩ : ∃ k : Nat, (a' + 1) / 86400 = (k : Int) := ⟨((a' + 1) / 86400).toNat, by omega⟩
          have hq0 : (a' + 1).tdiv 86400 = (k0 : Int) := by rw [Int.tdiv_eq_ediv_of_nonneg (by omega)]; exact hk0
          have v1 : IntKind.i64.wrap (a' + 1) = a' + 1 := by rw [IntKind.wrap_i64]; omega
          have v2 : IntKind.i64.wrap (k0 : Int) = (k0 : Int) := by rw [IntKind.wrap_i64]; omega
          have HN0 : Hid (Sp.NB cal a ((k0 : Int) * 86400)) := Lib.hid (by rw [← hk0]; exact Sp.NB.start cal a a' HAA.out)
          have hk0b : k0 ≤ 73049 := by omega
          have hb := HB.out
          clear hk0 hg hmg HMA HB
          have HB := Lib.hid hb
          clear hb
          go_upto_region 10 with fail
          clear hq0 v1 v2
          go_wp2_with fail
          go_loopw [8] (fun dv wr => ∃ k : Nat, k ≤ 73049 ∧ dv = .int .i64 k ∧ Hid (Sp.NB cal a ((k : Int) * 86400)) ∧ Hid (M6 b6 g wr) ∧ Hid (Below b6 w4 wr)) (fun dv _ => 73050 - (intOf dv).toNat)
          case atStart => exact ⟨k0, hk0b, rfl, HN0, HMG, HB⟩
          case round =>
            clear HB HMG HN0 hk0b
            obtain ⟨k, hk, rfl, HNB, HMK, HB⟩ := hrel
            by_cases hk9 : k < 73049
            · have hx1 : (k : Int) < 73049 := by omega
              have hx0 : (0 : Int) ≤ (k : Int) := by omega
              have v3 : IntKind.i64.wrap ((k : Int) * 86400) = (k : Int) * 86400 := by rw [IntKind.wrap_i64]; omega
              have v4 : IntKind.i64.wrap ((k : Int) + 1) = ((k + 1 : Nat) : Int) := by rw [IntKind.wrap_i64]; omega
              have hokT : Sp.okT ((k : Int) * 86400) = true := by unfold Sp.okT; rw [decide_eq_true (by omega), decide_eq_true (by omega)]; rfl
              have HO : Hid (∀ W, Calls Tryz.prog 19 #[.int .i64 ((k : Int) * 86400)] W fun e w' => e = .returned (.tuple #[dateV (Sp.dateOf ((k : Int) * 86400)), .bool true]) ∧ Below W.heap.size W w') := Lib.hid (fun W => by
                have h := rof_any ((k : Int) * 86400) W (by omega)
                rw [hokT, show Sp.ofT ((k : Int) * 86400) = Sp.dateOf ((k : Int) * 86400) by unfold Sp.ofT; rw [hokT]; rfl] at h
                exact h)
              have hsm := date_small ((k : Int) * 86400) hokT
              obtain ⟨hyr, hye⟩ := Sp.year_end (k := (k : Int)) ⟨hx0, hx1⟩
              have HNY : Hid (Sp.inB cal.year 0 (Sp.dateOf ((k : Int) * 86400)).year = false → Sp.NB cal a ((Sp.dayOf (Sp.dateOf ((k : Int) * 86400)).year 12 31 + 1) * 86400)) := Lib.hid (fun h => HNB.out.year ⟨hx0, hx1⟩ h)
              have HND : Hid (Sp.inB cal.month 1 (Sp.dateOf ((k : Int) * 86400)).month = false ∨ Sp.inB cal.day 2 (Sp.dateOf ((k : Int) * 86400)).day = false ∨ Sp.wdayB cal.days (Sp.dateOf ((k : Int) * 86400)).wday = false → Sp.NB cal a (((k : Int) + 1) * 86400)) := Lib.hid (fun h => HNB.out.day h)
              have HNF : Hid (Sp.HasD cal (Sp.dateOf ((k : Int) * 86400)) → ∀ h m s : Int, Sp.NB cal a ((k : Int) * 86400 + h * 3600 + m * 60 + s) → 0 ≤ h ∧ h < 24 → 0 ≤ m ∧ m < 60 → 0 ≤ s ∧ s < 60 → Sp.inB cal.hour 3 h = true → Sp.inB cal.min 4 m = true → Sp.inB cal.sec 5 s = true → a' < (k : Int) * 86400 + h * 3600 + m * 60 + s → Sp.NextIs cal a ((k : Int) * 86400 + h * 3600 + m * 60 + s) true) :=
                Lib.hid (fun hd h m s hb hh hmi hs i3 i4 i5 hl => Sp.NB.found HAA.out hb HM.out.symm ⟨hx0, hx1⟩ hh hmi hs hd.1 hd.2.1 hd.2.2.1 hd.2.2.2 i3 i4 i5 hl)
              clear hokT
              generalize Sp.dateOf ((k : Int) * 86400) = D at *
              obtain ⟨yy, mo, dd, hh, mi, se, wd⟩ := D
              have r0 : 0 ≤ yy ∧ yy < 2200 := hsm 0
              have r1 : 0 ≤ mo ∧ mo < 2200 := hsm 1
              have r2 : 0 ≤ dd ∧ dd < 2200 := hsm 2
              dsimp only at hyr hye HNY HND HNF
              clear hsm
              obtain ⟨y, rfl⟩ : ∃ y : Nat, yy = (y : Int) := ⟨yy.toNat, by omega⟩
              obtain ⟨mo, rfl⟩ : ∃ y : Nat, mo = (y : Int) := ⟨mo.toNat, by omega⟩
              obtain ⟨dd, rfl⟩ : ∃ y : Nat, dd = (y : Int) := ⟨dd.toNat, by omega⟩
              obtain ⟨q, hq⟩ : ∃ q : Nat, Sp.dayOf (y : Int) 12 31 = (q : Int) := ⟨(Sp.dayOf (y : Int) 12 31).toNat, by omega⟩
              have HTO : Hid (∀ W, Calls Tryz.prog 20 #[.agg #[.int .i64 y, .int .i64 12, .int .i64 31, .int .i64 0, .int .i64 0, .int .i64 0, .int .i64 0]] W fun e w' => e = .returned (.tuple #[.int .i64 ((q : Int) * 86400), .bool true]) ∧ Below W.heap.size W w') := Lib.hid (fun W => by rw [← hq]; exact rto_end (y : Int) W hyr)
              rw [hq] at hye HNY
              clear hq
              go_wp2_with fail
              refine (HO.out wr).mono ?_
              rintro e w7 ⟨rfl, hb7⟩
              have HB7 := Lib.hid (HB.out.trans (hb7.mono (Nat.le_of_lt HMK.out.lt)))
              have HA7 := Lib.hid (HMK.out.on hb7)
              clear hb7 HB HMK HO
              simp only [dateV, dateC]
              have HX8 := Lib.hid (DBox.new w7 ⟨(y : Int), (mo : Int), (dd : Int), hh, mi, se, wd⟩)
              have hb8 : Below w7.heap.size w7 (w7.alloc (.cells #[.int .i64 y, .int .i64 mo, .int .i64 dd, .int .i64 hh, .int .i64 mi, .int .i64 se, .int .i64 wd] 37)) := (Below.refl _ _).alloc (Nat.le_refl _) _
              dsimp only at HX8
              go_upto_region 13 with fail
              generalize (w7.alloc (.cells #[.int .i64 y, .int .i64 mo, .int .i64 dd, .int .i64 hh, .int .i64 mi, .int .i64 se, .int .i64 wd] 37)) = w8 at *
              have HB8 := Lib.hid (HB7.out.trans (hb8.mono (Nat.le_of_lt HA7.out.lt)))
              have HA8 := Lib.hid (HA7.out.on hb8)
              have hb68 : b6 < w7.heap.size := HA7.out.lt
              clear hb8 HB7 HA7 HNOT HMY HNM HFA HM0 HB5
              generalize w7.heap.size = b8 at *
              obtain ⟨u0, hu0⟩ : ∃ u, u = g 0 y := ⟨_, rfl⟩
              have HU0 : Hid (u0 = Sp.inB cal.year 0 (y : Int)) := Lib.hid (hu0.trans (HG.out 0 y))
              have cy : w8.cell? ⟨b6, y, none⟩ = some (.bool u0) := by
                have h := HA8.out.hc 0 y (by decide) (by omega)
                rw [← hu0] at h
                simpa using h
              obtain ⟨d0, d1, d2, d3, d4, d5, d6, f0, f1, f2, f3, f4, f5, f6⟩ := HX8.out
              dsimp only at d0 d1 d2 d3 d4 d5 d6
              clear hu0
              cases u0 with
              | false =>
                have HN := Lib.hid (HNY.out HU0.out.symm)
                have HX9 : Hid (DBox ((w8.setCell ⟨b8, 1, none⟩ (.int .i64 12)).setCell ⟨b8, 2, none⟩ (.int .i64 31)) b8 ⟨(y : Int), 12, 31, hh, mi, se, wd⟩) := Lib.hid ((HX8.out.set1 12).set2 31)
                have HB9 : Hid (Below b6 w4 ((w8.setCell ⟨b8, 1, none⟩ (.int .i64 12)).setCell ⟨b8, 2, none⟩ (.int .i64 31))) := Lib.hid ((HB8.out.setCell (p := ⟨b8, 1, none⟩) (Nat.le_of_lt hb68) _).setCell (p := ⟨b8, 2, none⟩) (Nat.le_of_lt hb68) _)
                have HA9 : Hid (M6 b6 g ((w8.setCell ⟨b8, 1, none⟩ (.int .i64 12)).setCell ⟨b8, 2, none⟩ (.int .i64 31))) := Lib.hid (HA8.out.under (((Below.refl b8 w8).setCell (p := ⟨b8, 1, none⟩) (Nat.le_refl _) _).setCell (p := ⟨b8, 2, none⟩) (Nat.le_refl _) _) hb68)
                go_upto_region 15 with fail
                generalize ((w8.setCell ⟨b8, 1, none⟩ (.int .i64 12)).setCell ⟨b8, 2, none⟩ (.int .i64 31)) = w9 at *
                clear d0 d1 d2 d3 d4 d5 d6 f0 f1 f2 f3 f4 f5 f6 HX8 HB8 HA8 cy
                obtain ⟨d0, d1, d2, d3, d4, d5, d6, f0, f1, f2, f3, f4, f5, f6⟩ := HX9.out
                dsimp only at d0 d1 d2 d3 d4 d5 d6
                go_wp2_with fail
                refine (HTO.out w9).mono ?_
                rintro e w10 ⟨rfl, hb10⟩
                have HBT := Lib.hid (HB9.out.trans (hb10.mono (Nat.le_of_lt HA9.out.lt)))
                have HAT := Lib.hid (HA9.out.on hb10)
                have hq1 : ((q : Int) * 86400).tdiv 86400 = (q : Int) := Int.mul_tdiv_cancel _ (by decide)
                have v5 : IntKind.i64.wrap (q : Int) = (q : Int) := by rw [IntKind.wrap_i64]; omega
                have v6 : IntKind.i64.wrap ((q : Int) + 1) = ((q + 1 : Nat) : Int) := by rw [IntKind.wrap_i64]; omega
                have HNQ : Hid (Sp.NB cal a (((q + 1 : Nat) : Int) * 86400)) := Lib.hid (by rw [show ((q + 1 : Nat) : Int) = (q : Int) + 1 by omega]; exact HN.out)
                clear hb10 d0 d1 d2 d3 d4 d5 d6 f0 f1 f2 f3 f4 f5 f6 HX9 HB9 HA9 HN
                go_wp2
                go_roundw
                case rel => exact ⟨q + 1, by omega, by first | rfl | go_num, HNQ, HAT, HBT⟩
                case measure => simp [intOf]; omega
              | true =>
                have HI0 := Lib.hid HU0.out.symm
                have HNK : Hid (Sp.inB cal.month 1 (mo : Int) = false ∨ Sp.inB cal.day 2 (dd : Int) = false ∨ Sp.wdayB cal.days wd = false → Sp.NB cal a (((k + 1 : Nat) : Int) * 86400)) := Lib.hid (fun h => by rw [show ((k + 1 : Nat) : Int) = (k : Int) + 1 by omega]; exact HND.out h)
                clear HNY HTO HND
                obtain ⟨u1, hu1⟩ : ∃ u, u = g 1 mo := ⟨_, rfl⟩
                have HU1 : Hid (u1 = Sp.inB cal.month 1 (mo : Int)) := Lib.hid (hu1.trans (HG.out 1 mo))
                have cm : w8.cell? ⟨b6, 2200 + mo, none⟩ = some (.bool u1) := by
                  have h := HA8.out.hc 1 mo (by decide) (by omega)
                  rw [← hu1] at h
                  simpa using h
                obtain ⟨u2, hu2⟩ : ∃ u, u = g 2 dd := ⟨_, rfl⟩
                have HU2 : Hid (u2 = Sp.inB cal.day 2 (dd : Int)) := Lib.hid (hu2.trans (HG.out 2 dd))
                have cd : w8.cell? ⟨b6, 4400 + dd, none⟩ = some (.bool u2) := by
                  have h := HA8.out.hc 2 dd (by decide) (by omega)
                  rw [← hu2] at h
                  simpa using h
                obtain ⟨WD, hWD⟩ : ∃ b, b = Sp.wdayB cal.days wd := ⟨_, rfl⟩
                have HWD := Lib.hid hWD
                have HWK2 := Lib.hid (fun W hW => HWK.out wd W hW)
                rw [← hWD] at HWK2
                clear hu1 hu2 hWD
                cases u1 with
                | false =>
                  have HN := Lib.hid (HNK.out (.inl HU1.out.symm))
                  go_wp2
                  go_roundw
                  case rel => exact ⟨k + 1, by omega, by first | rfl | go_num, HN, HA8, HB8⟩
                  case measure => simp [intOf]; omega
                | true =>
                  cases u2 with
                  | false =>
                    have HN := Lib.hid (HNK.out (.inr (.inl HU2.out.symm)))
                    go_wp2
                    go_roundw
                    case rel => exact ⟨k + 1, by omega, by first | rfl | go_num, HN, HA8, HB8⟩
                    case measure => simp [intOf]; omega
                  | true =>
                    obtain ⟨k0, k1, k2, k3, k4, k5, k6⟩ := CBox.on HC4.out HB8.out hlt4
                    simp only [slV] at k0 k1 k2 k3 k4 k5 k6
                    go_wp2_with fail
                    refine (HWK2.out w8 (HW4.out.trans (HB8.out.mono (Nat.le_of_lt hlt4)))).mono ?_
                    rintro e w9 ⟨rfl, hb9⟩
                    have HB9 := Lib.hid (HB8.out.trans (hb9.mono (Nat.le_of_lt HA8.out.lt)))
                    have HA9 := Lib.hid (HA8.out.on hb9)
                    clear k0 k1 k2 k3 k4 k5 k6 d0 d1 d2 d3 d4 d5 d6 f0 f1 f2 f3 f4 f5 f6 cy cm cd hb9 HB8 HA8 HX8 HWK2 HWK
                    cases WD with
                    | false =>
                      have HN := Lib.hid (HNK.out (.inr (.inr HWD.out.symm)))
                      go_wp2
                      go_roundw
                      case rel => exact ⟨k + 1, by omega, by first | rfl | go_num, HN, HA9, HB9⟩
                      case measure => simp [intOf]; omega
                    | true =>
                      have HIN : Hid (∀ h m s : Int, Sp.NB cal a ((k : Int) * 86400 + h * 3600 + m * 60 + s) → 0 ≤ h ∧ h < 24 → 0 ≤ m ∧ m < 60 → 0 ≤ s ∧ s < 60 → Sp.inB cal.hour 3 h = true → Sp.inB cal.min 4 m = true → Sp.inB cal.sec 5 s = true → a' < (k : Int) * 86400 + h * 3600 + m * 60 + s → Sp.NextIs cal a ((k : Int) * 86400 + h * 3600 + m * 60 + s) true) := Lib.hid (HNF.out ⟨HI0.out, HU1.out.symm, HU2.out.symm, HWD.out.symm⟩)
                      have HZ := Lib.hid (HW4.out.trans (HB9.out.mono (Nat.le_of_lt hlt4)))
                      clear HNF HNK HU0 HU1 HU2 HWD HI0
                      go_wp2_with fail
                      go_loopw [13] (fun hv wr => w9 = wr ∧ ∃ h : Nat, h ≤ 24 ∧ hv = .int .i64 h ∧ Hid (Sp.NB cal a ((k : Int) * 86400 + (h : Int) * 3600))) (fun hv _ => 25 - (intOf hv).toNat)
                      case atStart => exact ⟨rfl, 0, by decide, rfl, Lib.hid (by simpa using HNB.out)⟩
                      case round =>
                        obtain ⟨rfl, h, hh24, rfl, HNH⟩ := hrel
                        by_cases hl24 : h < 24
                        · have hy1 : (h : Int) < 24 := by omega
                          have hy2 : (h : Int) < 2200 := by omega
                          have hy0 : (0 : Int) ≤ (h : Int) := by omega
                          have v7 : IntKind.i64.wrap ((h : Int) + 1) = ((h + 1 : Nat) : Int) := by rw [IntKind.wrap_i64]; omega
                          obtain ⟨u3, hu3⟩ : ∃ u, u = g 3 h := ⟨_, rfl⟩
                          have HU3 : Hid (u3 = Sp.inB cal.hour 3 (h : Int)) := Lib.hid (hu3.trans (HG.out 3 h))
                          have ch : w9.cell? ⟨b6, 6600 + h, none⟩ = some (.bool u3) := by
                            have h := HA9.out.hc 3 h (by decide) (by omega)
                            rw [← hu3] at h
                            simpa using h
                          clear hu3
                          cases u3 with
                          | false =>
                            have HN : Hid (Sp.NB cal a ((k : Int) * 86400 + ((h + 1 : Nat) : Int) * 3600)) := Lib.hid (by rw [show ((h + 1 : Nat) : Int) = (h : Int) + 1 by omega]; exact HNH.out.hour ⟨hy0, hy1⟩ HU3.out.symm)
                            go_wp2_with fail
                            go_loopw [14] (fun mv wr => w9 = wr ∧ mv = .int .i64 0) (fun _ _ => 0)
                            case atStart => exact ⟨rfl, rfl⟩
                            case round =>
                              obtain ⟨rfl, rfl⟩ := hrel
                              go_wp2
                              go_roundw
                              case rel => exact ⟨by first | rfl | trivial, h + 1, by omega, by first | rfl | go_num, HN⟩
                              case measure => simp [intOf]; omega
                          | true =>
                            go_wp2_with fail
                            go_loopw [14] (fun mv wr => w9 = wr ∧ ∃ m : Nat, m ≤ 60 ∧ mv = .int .i64 m ∧ Hid (Sp.NB cal a ((k : Int) * 86400 + (h : Int) * 3600 + (m : Int) * 60))) (fun mv _ => 61 - (intOf mv).toNat)
                            case atStart => exact ⟨rfl, 0, by decide, rfl, Lib.hid (by simpa using HNH.out)⟩
                            case round =>
                              obtain ⟨rfl, m, hm60, rfl, HNM⟩ := hrel
                              by_cases hl60 : m < 60
                              · have hz1 : (m : Int) < 60 := by omega
                                have hz2 : (m : Int) < 2200 := by omega
                                have hz0 : (0 : Int) ≤ (m : Int) := by omega
                                have v8 : IntKind.i64.wrap ((m : Int) + 1) = ((m + 1 : Nat) : Int) := by rw [IntKind.wrap_i64]; omega
                                obtain ⟨u4, hu4⟩ : ∃ u, u = g 4 m := ⟨_, rfl⟩
                                have HU4 : Hid (u4 = Sp.inB cal.min 4 (m : Int)) := Lib.hid (hu4.trans (HG.out 4 m))
                                have cmi : w9.cell? ⟨b6, 8800 + m, none⟩ = some (.bool u4) := by
                                  have h := HA9.out.hc 4 m (by decide) (by omega)
                                  rw [← hu4] at h
                                  simpa using h
                                clear hu4
                                cases u4 with
                                | false =>
                                  have HN : Hid (Sp.NB cal a ((k : Int) * 86400 + (h : Int) * 3600 + ((m + 1 : Nat) : Int) * 60)) := Lib.hid (by rw [show ((m + 1 : Nat) : Int) = (m : Int) + 1 by omega]; exact HNM.out.min ⟨hz0, hz1⟩ HU4.out.symm)
                                  go_wp2_with fail
                                  go_loopw [15] (fun sv wr => w9 = wr ∧ sv = .int .i64 0) (fun _ _ => 0)
                                  case atStart => exact ⟨rfl, rfl⟩
                                  case round =>
                                    obtain ⟨rfl, rfl⟩ := hrel
                                    go_wp2
                                    go_roundw
                                    case rel => exact ⟨by first | rfl | trivial, m + 1, by omega, by first | rfl | go_num, HN⟩
                                    case measure => simp [intOf]; omega
                                | true =>
                                  go_wp2_with fail
                                  go_loopw [15] (fun sv wr => w9 = wr ∧ ∃ s : Nat, s ≤ 60 ∧ sv = .int .i64 s ∧ Hid (Sp.NB cal a ((k : Int) * 86400 + (h : Int) * 3600 + (m : Int) * 60 + (s : Int)))) (fun sv _ => 61 - (intOf sv).toNat)
                                  case atStart => exact ⟨rfl, 0, by decide, rfl, Lib.hid (by simpa using HNM.out)⟩
                                  case round =>
                                    obtain ⟨rfl, s, hs60, rfl, HNS⟩ := hrel
                                    by_cases hls : s < 60
                                    · have hs1 : (s : Int) < 60 := by omega
                                      have hs2 : (s : Int) < 2200 := by omega
                                      have hs0 : (0 : Int) ≤ (s : Int) := by omega
                                      have v9 : IntKind.i64.wrap ((s : Int) + 1) = ((s + 1 : Nat) : Int) := by rw [IntKind.wrap_i64]; omega
                                      have t2 : IntKind.i64.wrap ((h : Int) * 3600) = (h : Int) * 3600 := by rw [IntKind.wrap_i64]; omega
                                      have t3 : IntKind.i64.wrap ((k : Int) * 86400 + (h : Int) * 3600) = (k : Int) * 86400 + (h : Int) * 3600 := by rw [IntKind.wrap_i64]; omega
                                      have t4 : IntKind.i64.wrap ((m : Int) * 60) = (m : Int) * 60 := by rw [IntKind.wrap_i64]; omega
                                      have t5 : IntKind.i64.wrap ((k : Int) * 86400 + (h : Int) * 3600 + (m : Int) * 60) = (k : Int) * 86400 + (h : Int) * 3600 + (m : Int) * 60 := by rw [IntKind.wrap_i64]; omega
                                      have t6 : IntKind.i64.wrap ((k : Int) * 86400 + (h : Int) * 3600 + (m : Int) * 60 + (s : Int)) = (k : Int) * 86400 + (h : Int) * 3600 + (m : Int) * 60 + (s : Int) := by rw [IntKind.wrap_i64]; omega
                                      obtain ⟨u5, hu5⟩ : ∃ u, u = g 5 s := ⟨_, rfl⟩
                                      have HU5 : Hid (u5 = Sp.inB cal.sec 5 (s : Int)) := Lib.hid (hu5.trans (HG.out 5 s))
                                      have cs : w9.cell? ⟨b6, 11000 + s, none⟩ = some (.bool u5) := by
                                        have h := HA9.out.hc 5 s (by decide) (by omega)
                                        rw [← hu5] at h
                                        simpa using h
                                      have HNX : Hid (Sp.inB cal.sec 5 (s : Int) = false ∨ (k : Int) * 86400 + (h : Int) * 3600 + (m : Int) * 60 + (s : Int) ≤ a' → Sp.NB cal a ((k : Int) * 86400 + (h : Int) * 3600 + (m : Int) * 60 + ((s + 1 : Nat) : Int))) := Lib.hid (fun hx => by rw [show ((s + 1 : Nat) : Int) = (s : Int) + 1 by omega]; exact HNS.out.sec HAA.out ⟨hs0, hs1⟩ hx)
                                      have HNI : Hid (Sp.inB cal.sec 5 (s : Int) = true → a' < (k : Int) * 86400 + (h : Int) * 3600 + (m : Int) * 60 + (s : Int) → Sp.NextIs cal a ((k : Int) * 86400 + (h : Int) * 3600 + (m : Int) * 60 + (s : Int)) true) := Lib.hid (fun i5 hl => HIN.out h m s HNS.out ⟨hy0, hy1⟩ ⟨hz0, hz1⟩ ⟨hs0, hs1⟩ HU3.out.symm HU4.out.symm i5 hl)
                                      clear hu5
                                      cases u5 with
                                      | false =>
                                        have HN := Lib.hid (HNX.out (.inl HU5.out.symm))
                                        go_wp2
                                        go_roundw
                                        case rel => exact ⟨by first | rfl | trivial, s + 1, by omega, by first | rfl | go_num, HN⟩
                                        case measure => simp [intOf]; omega
                                      | true =>
                                        by_cases hta : a' < (k : Int) * 86400 + (h : Int) * 3600 + (m : Int) * 60 + (s : Int)
                                        · have HN := Lib.hid (HNI.out HU5.out.symm hta)
                                          go_wp2
                                          go_ret2
                                          exact ⟨⟨_, true, rfl, HN.out⟩, HZ.out⟩
                                        · have HN := Lib.hid (HNX.out (.inr (by omega)))
                                          go_wp2
                                          go_roundw
                                          case rel => exact ⟨by first | rfl | trivial, s + 1, by omega, by first | rfl | go_num, HN⟩
                                          case measure => simp [intOf]; omega
                                    · obtain rfl : s = 60 := by omega
                                      have hs1 : ¬ ((60 : Nat) : Int) < 60 := by omega
                                      have HN : Hid (Sp.NB cal a ((k : Int) * 86400 + (h : Int) * 3600 + ((m + 1 : Nat) : Int) * 60)) := Lib.hid (by rw [show (k : Int) * 86400 + (h : Int) * 3600 + ((m + 1 : Nat) : Int) * 60 = (k : Int) * 86400 + (h : Int) * 3600 + (m : Int) * 60 + ((60 : Nat) : Int) by omega]; exact HNS.out)
                                      go_wp2
                                      go_roundw
                                      case rel => exact ⟨by first | rfl | trivial, m + 1, by omega, by first | rfl | go_num, HN⟩
                                      case measure => simp [intOf]; omega
                              · obtain rfl : m = 60 := by omega
                                have hz1 : ¬ ((60 : Nat) : Int) < 60 := by omega
                                have HN : Hid (Sp.NB cal a ((k : Int) * 86400 + ((h + 1 : Nat) : Int) * 3600)) := Lib.hid (by rw [show (k : Int) * 86400 + ((h + 1 : Nat) : Int) * 3600 = (k : Int) * 86400 + (h : Int) * 3600 + ((60 : Nat) : Int) * 60 by omega]; exact HNM.out)
                                go_wp2
                                go_roundw
                                case rel => exact ⟨by first | rfl | trivial, h + 1, by omega, by first | rfl | go_num, HN⟩
                                case measure => simp [intOf]; omega
                        · obtain rfl : h = 24 := by omega
                          have hy1 : ¬ ((24 : Nat) : Int) < 24 := by omega
                          have HN : Hid (Sp.NB cal a (((k + 1 : Nat) : Int) * 86400)) := Lib.hid (by rw [show ((k + 1 : Nat) : Int) * 86400 = (k : Int) * 86400 + ((24 : Nat) : Int) * 3600 by omega]; exact HNH.out)
                          go_wp2
                          go_roundw
                          case rel => exact ⟨k + 1, by omega, by first | rfl | go_num, HN, HA9, HB9⟩
                          case measure => simp [intOf]; omega
            · obtain rfl : k = 73049 := by omega
              have hx1 : ¬ ((73049 : Nat) : Int) < 73049 := by omega
              have HR : Hid (Sp.NextIs cal a 0 false) := Lib.hid (HNB.out.done (by decide))
              have HZ := Lib.hid (HW4.out.trans (HB.out.mono (Nat.le_of_lt hlt4)))
              clear HB HNB
              go_wp2
              go_ret2
              exact ⟨⟨0, false, rfl, HR.out⟩, HZ.out⟩

end Go.Proofs.YtpkpoglmmjaoeaaGreatDoor
