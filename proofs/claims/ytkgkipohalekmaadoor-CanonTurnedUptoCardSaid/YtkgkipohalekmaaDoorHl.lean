/-
  The walk of the law on a machine of which one thing is turned.
-/
import Derived.Test.YtkgkipohalekmaaDoorHh
import Derived.Test.YtkgkipohalekmaaDoorHi
import Derived.Test.YtkgkipohalekmaaDoorHj
import Derived.Test.YtkgkipohalekmaaDoorHk
import Derived.Test.YtkgkipohalekmaaDoorHe
namespace Go.Proofs.YtkgkipohalekmaaDoor
open Go.RowKit Go.Shelf
theorem turned_any {W0 w : World} {cs : List Ce} {vs : Array Value} (h : MIn W0 cs vs) (hb0 : Below W0.heap.size W0 w) (which by' : Int) (hby : -9223372036854775808 ≤ by' ∧ by' ≤ 9223372036854775807) :
    Calls Tryd.prog 10 #[.agg vs, .int .i64 which, .int .i64 by'] w fun e w' => TurnQ cs by' w e w' := by
  obtain ⟨n8, e8, _, _, _, _, hc8, _⟩ := get_l h.ok h.at' 8 _ _ rfl
  obtain ⟨n9, e9, _, _, _, _, hc9, _⟩ := get_l h.ok h.at' 9 _ _ rfl
  obtain ⟨n14, e14, _, _, _, _, hc14, _⟩ := get_l h.ok h.at' 14 _ _ rfl
  have hm := mask_in which 15 (by decide)
  have hm1 : 0 ≤ bits BinOp.and IntKind.i64 which 15 := hm.1
  have hm2 : bits BinOp.and IntKind.i64 which 15 ≤ 15 := hm.2
  obtain ⟨kk, hk⟩ : ∃ kk, bits BinOp.and IntKind.i64 which 15 = kk := ⟨_, rfl⟩
  rw [hk] at hm1 hm2
  by_cases h15 : kk = 15
  · exact turned_own15 h hb0 which by' hby hc8 (hk.trans h15)
  by_cases h14 : kk = 14
  · by_cases hz : by' = 0
    · exact turned_none h hb0 which by' hby hc8 (hk.trans h14) hz
    · exact turned_back h hb0 which by' hby hc8 (hk.trans h14) hz
  by_cases h13 : kk = 13
  · exact turned_heard h hb0 which by' hby hc8 (hk.trans h13)
  by_cases h12 : kk = 12
  · exact turned_boot h hb0 which by' hby hc8 (hk.trans h12)
  by_cases h11 : kk = 11
  · by_cases hn : 0 < n9
    · exact turned_queue h hb0 which by' hby hc8 (hk.trans h11) hc9 hn
    · obtain rfl : n9 = 0 := by omega
      exact turned_own11 h hb0 which by' hby hc8 (hk.trans h11) hc9
  by_cases h10 : kk = 10
  · by_cases hn : 0 < n14
    · exact turned_rows h hb0 which by' hby hc8 (hk.trans h10) hc14 hn
    · obtain rfl : n14 = 0 := by omega
      exact turned_own10 h hb0 which by' hby hc8 (hk.trans h10) hc14
  by_cases hn : 0 < n8
  · by_cases h0 : kk = 0
    · exact turned_c0 h hb0 which by' hby hc8 hn (hk.trans h0)
    by_cases h1 : kk = 1
    · exact turned_c1 h hb0 which by' hby hc8 hn (hk.trans h1)
    by_cases h2 : kk = 2
    · exact turned_c2 h hb0 which by' hby hc8 hn (hk.trans h2)
    by_cases h3 : kk = 3
    · exact turned_c3 h hb0 which by' hby hc8 hn (hk.trans h3)
    by_cases h4 : kk = 4
    · exact turned_c4 h hb0 which by' hby hc8 hn (hk.trans h4)
    by_cases h5 : kk = 5
    · exact turned_c5 h hb0 which by' hby hc8 hn (hk.trans h5)
    by_cases h6 : kk = 6
    · exact turned_c6 h hb0 which by' hby hc8 hn (hk.trans h6)
    by_cases h7 : kk = 7
    · exact turned_c7 h hb0 which by' hby hc8 hn (hk.trans h7)
    by_cases h8 : kk = 8
    · exact turned_c8 h hb0 which by' hby hc8 hn (hk.trans h8)
    by_cases h9 : kk = 9
    · exact turned_c9 h hb0 which by' hby hc8 hn (hk.trans h9)
    omega
  · exact turned_own0 h hb0 which by' hby hc8 hk ⟨hm1, by omega⟩ hn
set_option maxRecDepth 100000 in
set_option maxHeartbeats 4000000 in
theorem cturnedlaw {w : World} {cs : List Ce} {vs : Array Value} (E : Env w) (h : MIn w cs vs) (which by' : Int) (hby : -9223372036854775808 ≤ by' ∧ by' ≤ 9223372036854775807) : Calls Tryd.prog 4 #[.agg vs, .int .i64 which, .int .i64 by'] w fun e w' => e = .returned (.bool true) ∧ Below w.heap.size w w' := by
  have hl : Ce.bulks cs ≤ 2097152 := by have := h.bulk; omega
  have hsv := mach_size h.ok h.at'
  have hx1 := heap_alloc_new w (.cells vs 34)
  have hb1 : Below w.heap.size w (w.alloc (.cells vs 34)) := (Below.refl _ _).alloc (Nat.le_refl _) _
  have HSH : Hid (∀ W, Below w.heap.size w W → Calls Tryd.prog 5 #[] W fun e w' => e = .returned (.bool true) ∧ Below W.heap.size W w') := Lib.hid (fun W hW => shown37 W (E.on hW))
  have HTB := Lib.hid (fun W (hW : Below w.heap.size w W) => turned_any h hW which by' hby)
  have HT0 := Lib.hid (fun W (hW : Below w.heap.size w W) => turned_any h hW which 0 (by omega))
  have HS1 : Hid ((Tryd.prog.info? 34).map (·.size) = some vs.size) := Lib.hid (by rw [hsv]; exact sz_Machine)
  have HSV := Lib.hid hsv
  have HH := Lib.hid h
  have HE := Lib.hid E
  have HL := Lib.hid hl
  have HB1 := Lib.hid hb1
  clear E h hb1 hl hby hsv
  go_enter Tryd.func4, Tryd.ntmps4
  go_upto_region 1 with fail
  generalize w.alloc (.cells vs 34) = w1 at *
  have HX1 := Lib.hid hx1
  clear hx1
  go_wp2_with fail
  refine (HSH.out w1 HB1.out).mono ?_
  rintro e w2 ⟨rfl, hb2⟩
  have HX2 := Lib.hid ((hb2.block _ (blk_lt HX1.out)).trans HX1.out)
  have HB2 := Lib.hid (HB1.out.trans (hb2.mono HB1.out.size))
  clear hb2 HX1
  go_wp2_with (first | refine wpList_load_row rfl 34 _ rfl w.heap.size rfl 34 vs (0, 0) _ HX2.out Tryd.underlying34 rfl HS1.out ?_)
  refine (HTB.out w2 HB2.out).mono ?_
  rintro e w3 ⟨vx, cx, rfl, hax, hox, hbx, h0x, h1x, hb3⟩
  have hsx := mach_size hox hax
  have hox1 := mach_one hax
  have HX3 := Lib.hid ((hb3.block _ (blk_lt HX2.out)).trans HX2.out)
  have HB3 := Lib.hid (HB2.out.trans (hb3.mono HB2.out.size))
  have hx4 := heap_alloc_new w3 (.cells zMv 34)
  have HXS : Hid ((Tryd.prog.info? 34).map (·.size) = some vx.size) := Lib.hid (by rw [hsx]; exact sz_Machine)
  have HXZ : Hid (zMv.size = vx.size) := Lib.hid (by rw [hsx]; rfl)
  have HX1' := Lib.hid hox1
  have HSX := Lib.hid hsx
  go_upto_region 4 with (first | refine wpList_alloc_row rfl 34 rfl zMv zr_mach ?_ | refine wpList_store_row rfl 34 _ _ rfl w3.heap.size vx rfl rfl 34 zMv hx4 HXS.out HXZ.out HX1'.out ?_)
  have hb4 : Below w3.heap.size w3 ((w3.alloc (.cells zMv 34)).setRow w3.heap.size vx) := below_setRow ((Below.refl _ _).alloc (Nat.le_refl _) _) (Nat.le_refl _) vx
  have HX5 := Lib.hid (setRow_heap _ _ _ vx _ _ hx4)
  have HX6 := Lib.hid ((hb4.block _ (blk_lt HX3.out)).trans HX3.out)
  have HB4 := Lib.hid (HB3.out.trans (hb4.mono HB3.out.size))
  have HAX := Lib.hid (Ce.Ats.grow hb4 hb4.size _ _ hax)
  have HOX := Lib.hid hox
  have HLX : Hid (Ce.bulks cx ≤ 2097152) := Lib.hid (by have := HH.out.bulk; omega)
  have H0X := Lib.hid h0x
  have H1X := Lib.hid h1x
  clear hax hox hbx h0x h1x hb3 hsx hox1 hb4 hx4 HX3 HX2
  generalize (w3.alloc (.cells zMv 34)).setRow w3.heap.size vx = w4 at *
  generalize w3.heap.size = bx at *
  have HSM : Hid (∀ W, Below w4.heap.size w4 W → Calls Tryd.prog 6 #[.agg vx, .agg vs] W fun e w' => e = .returned (.bool (dB (cx = cs))) ∧ Below W.heap.size W w') := Lib.hid (fun W hW => (csame_any (HE.out.on HB4.out) hW HAX.out (Ce.Ats.grow HB4.out HB4.out.size _ _ HH.out.at') HOX.out HH.out.ok HLX.out HL.out).mono fun e w' ⟨h1, h2⟩ => ⟨h1.eq, h2⟩)
  by_cases hz : by' = 0
  · have hbn : (by' == 0) = true := by simp [hz]
    have HQ : Hid (dB (cx = cs) = true) := Lib.hid (dB_yes (H0X.out hz))
    clear hz
    rw [HQ.out] at HSM
    go_wp2_with (first | refine wpList_load_row rfl 34 _ rfl bx rfl 34 vx (0, 0) _ HX5.out Tryd.underlying34 rfl HXS.out ?_ | refine wpList_load_row rfl 34 _ rfl w.heap.size rfl 34 vs (0, 0) _ HX6.out Tryd.underlying34 rfl HS1.out ?_)
    refine (HSM.out w4 (Below.refl _ _)).mono ?_
    rintro e w5 ⟨rfl, hb5⟩
    have HB5 := Lib.hid (HB4.out.trans (hb5.mono HB4.out.size))
    clear hb5
    go_wp2
    go_ret
    exact ⟨rfl, HB5.out⟩
  · have hbn : (by' == 0) = false := by simp [hz]
    have HQ : Hid (dB (cx = cs) = false) := Lib.hid (dB_no (H1X.out hz))
    clear hz
    rw [HQ.out] at HSM
    go_upto_region 6 with fail
    obtain ⟨kM, hkM⟩ : ∃ k : Nat, k = 16 := ⟨16, rfl⟩
    have zM : ∀ w, (Go.sizeOf 34).run Tryd.prog w = .ok kM w := by intro w; rw [hkM]; exact Tryd.sizeOf34 w
    have l1 : ∀ W, Below w4.heap.size w4 W → Sem.run Tryd.prog (loadCellsFrom ⟨bx, 0, none⟩ 0 kM #[]) W = .ok vx W := fun W hW => load_box ((hW.block _ (blk_lt HX5.out)).trans HX5.out) (by rw [hkM, HSX.out])
    have l2 : ∀ W, Below w4.heap.size w4 W → Sem.run Tryd.prog (loadCellsFrom ⟨w.heap.size, 0, none⟩ 0 kM #[]) W = .ok vs W := fun W hW => load_box ((hW.block _ (blk_lt HX6.out)).trans HX6.out) (by rw [hkM, HSV.out])
    have HTN : Hid (∀ W, Below w4.heap.size w4 W → Calls Tryd.prog 10 #[.agg vs, .int .i64 which, .int .i64 0] W fun e w' => ∃ ve, e = .returned (.agg ve) ∧ Ce.Ats w' w'.heap.size cs (Array.toList ve) ∧ Below W.heap.size W w') := Lib.hid (fun W hW => (HT0.out W (HB4.out.trans (hW.mono HB4.out.size))).mono fun e w' ⟨ve, ce, h1, h2, _, _, h5, _, h7⟩ => ⟨ve, h1, by rw [← h5 rfl]; exact h2, h7⟩)
    have HSN : Hid (∀ (ve : Array Value) W, Below w4.heap.size w4 W → Ce.Ats W W.heap.size cs ve.toList → Calls Tryd.prog 6 #[.agg ve, .agg vs] W fun e w' => e = .returned (.bool true) ∧ Below W.heap.size W w') := Lib.hid (fun ve W hW ha => by
      have hbw := HB4.out.trans (hW.mono HB4.out.size)
      exact (csame_any (HE.out.on hbw) (Below.refl _ _) ha (Ce.Ats.grow hbw hbw.size _ _ HH.out.at') HH.out.ok HH.out.ok HL.out HL.out).mono fun e w' ⟨h1, h2⟩ => ⟨by rw [h1.eq, dB_yes rfl], h2⟩)
    have q0 : Below w4.heap.size w4 w4 := Below.refl _ _
    have q1 := since37_drew q0
    clear hkM HTB HT0 HX5 HX6
    go_region_held3 (fun W => Below w4.heap.size w4 W) (first | assumption | exact since37_drew (by assumption)) (first
      | (go_at_call_of 6 vx; refine Calls.mono (HSM.out _ (by assumption)) ?_; rintro e wc ⟨rfl, hbc⟩; have qc := since37_more (by assumption) hbc)
      | (go_at_call 10; refine Calls.mono (HTN.out _ (by assumption)) ?_; rintro e wa ⟨ve, rfl, hae, hba⟩; have qa := since37_more (by assumption) hba)
      | (go_at_call 6; refine Calls.mono (HSN.out _ _ (by assumption) (by assumption)) ?_; rintro e wd ⟨rfl, hbd⟩; have qd := since37_more (by assumption) hbd))
    all_goals
      have HZ := Lib.hid (HB4.out.trans (Below.mono (show Below w4.heap.size w4 _ by assumption) HB4.out.size))
      go_wp2
      go_ret
      exact ⟨rfl, HZ.out⟩
theorem canonturned_any (D0 : List Ce × Array Value) (which by' : Int) (W : World) (h0 : MIn W D0.1 D0.2) (_w0 : -9223372036854775808 ≤ which) (_w1 : which ≤ 9223372036854775807) (b0 : -9223372036854775808 ≤ by') (b1 : by' ≤ 9223372036854775807) (E : Env W) : Calls Tryd.prog 4 #[.agg D0.2, .int .i64 which, .int .i64 by'] W fun e w' => e = .returned (.bool true) ∧ Below W.heap.size W w' := cturnedlaw E h0 which by' ⟨b0, b1⟩

end Go.Proofs.YtkgkipohalekmaaDoor
