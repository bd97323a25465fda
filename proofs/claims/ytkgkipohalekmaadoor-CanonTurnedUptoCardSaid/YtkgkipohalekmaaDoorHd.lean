/-
  The walk of the law that says of any machines whether they are the same.
-/
import Derived.Test.YtkgkipohalekmaaDoorHc
namespace Go.Proofs.YtkgkipohalekmaaDoor
open Go.RowKit Go.Shelf
/-- what is asked of a machine that comes in -/
structure MIn (w : World) (cs : List Ce) (vs : Array Value) : Prop where
  at' : Ce.Ats w w.heap.size cs vs.toList
  ok : Ce.Oks cs qMach
  bulk : Ce.bulks cs ≤ 1048577
set_option maxRecDepth 100000 in
set_option maxHeartbeats 4000000 in
theorem small_any {W0 : World} {cs : List Ce} {vs : Array Value} (h : MIn W0 cs vs) : ∃ b : Bool, ∀ w : World, Calls Tryd.prog 8 #[.agg vs] w fun e w' => e = .returned (.bool b) ∧ Below w.heap.size w w' := by
  obtain ⟨now, round, n8, n9, n10, e8, e9, e10, v8, v9, v10, H⟩ := mach_is h.ok h.at'
  obtain ⟨A8, c8, hv8⟩ : ∃ A c, v8 = .slice A n8 c := by have h := H.a8; unfold Ce.At at h; obtain ⟨A, c, _, _, h, _⟩ := h; exact ⟨A, c, h⟩
  obtain ⟨A9, c9, hv9⟩ : ∃ A c, v9 = .slice A n9 c := by have h := H.a9; unfold Ce.At at h; obtain ⟨A, c, _, _, h, _⟩ := h; exact ⟨A, c, h⟩
  obtain ⟨A10, c10, hv10⟩ : ∃ A c, v10 = .slice A n10 c := by have h := H.a10; unfold Ce.At at h; obtain ⟨A, c, _, _, h, _⟩ := h; exact ⟨A, c, h⟩
  subst hv8 hv9 hv10
  refine ⟨decide ((n8 : Int) ≤ 70) && decide ((n9 : Int) ≤ 100) && decide ((n10 : Int) ≤ 100), fun w => ?_⟩
  have hx1 := heap_alloc_new w (.cells vs 34)
  have hb1 : Below w.heap.size w (w.alloc (.cells vs 34)) := (Below.refl _ _).alloc (Nat.le_refl _) _
  have HC : Hid (∀ j v, vs.toList[j]? = some v → (w.alloc (.cells vs 34)).cell? ⟨w.heap.size, j, none⟩ = some v) := Lib.hid (fun j v hv => by
    rw [cell_of_row _ _ j _ _ _ hx1, ← Array.getElem?_toList]
    exact hv)
  have d8 := HC.out _ _ H.c8
  have d9 := HC.out _ _ H.c9
  have d10 := HC.out _ _ H.c10
  have HB := Lib.hid hb1
  clear h H hx1 hb1 HC
  go_enter Tryd.func8, Tryd.ntmps8
  go_upto_region 1 with fail
  generalize w.alloc (.cells vs 34) = w1 at *
  cases q1 : decide ((n8 : Int) ≤ 70) with
  | false =>
    go_wp2
    go_ret
    exact ⟨by rw [q1]; rfl, HB.out⟩
  | true =>
    cases q2 : decide ((n9 : Int) ≤ 100) with
    | false =>
      go_wp2
      go_ret
      exact ⟨by rw [q1, q2]; rfl, HB.out⟩
    | true =>
      go_wp2
      go_ret
      exact ⟨by rw [q1, q2]; rfl, HB.out⟩
set_option maxRecDepth 100000 in
set_option maxHeartbeats 4000000 in
theorem csamelaw {w : World} {cs cs' : List Ce} {vs vs' : Array Value} (E : Env w) (h : MIn w cs vs) (h' : MIn w cs' vs') : Calls Tryd.prog 3 #[.agg vs, .agg vs'] w fun e w' => e = .returned (.bool true) ∧ Below w.heap.size w w' := by
  obtain ⟨sb, hsb⟩ := small_any h
  have HSB := Lib.hid hsb
  have hx1 := heap_alloc2_old w (.cells vs 34) (.cells vs' 34)
  have hx2 := heap_alloc2_new w (.cells vs 34) (.cells vs' 34)
  have hb2 : Below w.heap.size w ((w.alloc (.cells vs 34)).alloc (.cells vs' 34)) := ((Below.refl _ _).alloc (Nat.le_refl _) _).alloc (by simp) _
  have hsz : ((w.alloc (.cells vs 34)).alloc (.cells vs' 34)).heap.size = w.heap.size + 2 := by simp
  have HZ1 := Lib.hid (mach_size h.ok h.at')
  have HZ2 := Lib.hid (mach_size h'.ok h'.at')
  have hl : Ce.bulks cs ≤ 2097152 := by have := h.bulk; omega
  have hl' : Ce.bulks cs' ≤ 2097152 := by have := h'.bulk; omega
  have HSS : Hid (∀ W, Below w.heap.size w W → Calls Tryd.prog 6 #[.agg vs, .agg vs'] W fun e w' => e = .returned (.bool (dB (cs = cs'))) ∧ Below W.heap.size W w') := Lib.hid (fun W hW => (csame_any E hW h.at' h'.at' h.ok h'.ok hl hl').mono fun e w' ⟨h1, h2⟩ => ⟨h1.eq, h2⟩)
  have HST : Hid (∀ W, Below w.heap.size w W → Calls Tryd.prog 6 #[.agg vs', .agg vs] W fun e w' => e = .returned (.bool (dB (cs = cs'))) ∧ Below W.heap.size W w') := Lib.hid (fun W hW => (csame_any E hW h'.at' h.at' h'.ok h.ok hl' hl).mono fun e w' ⟨h1, h2⟩ => ⟨by rw [h1.eq, show (cs' = cs) = (cs = cs') from propext ⟨Eq.symm, Eq.symm⟩], h2⟩)
  have HSA : Hid (∀ W, Below w.heap.size w W → Calls Tryd.prog 6 #[.agg vs, .agg vs] W fun e w' => e = .returned (.bool true) ∧ Below W.heap.size W w') := Lib.hid (fun W hW => (csame_any E hW h.at' h.at' h.ok h.ok hl hl).mono fun e w' ⟨h1, h2⟩ => ⟨by rw [h1.eq, dB_yes rfl], h2⟩)
  have HSR : Hid (∀ W, Below w.heap.size w W → Calls Tryd.prog 7 #[.agg vs, .agg vs'] W fun e w' => e = .returned (.bool (dB (cs = cs'))) ∧ Below W.heap.size W w') := Lib.hid (fun W hW => (same_mach hW h.at' h'.at' h.ok h'.ok).mono fun e w' ⟨h1, h2⟩ => ⟨h1.eq, h2⟩)
  obtain ⟨T, hT⟩ : ∃ T : ByteArray, T = ⟨(canonT cs).toArray⟩ := ⟨_, rfl⟩
  obtain ⟨T', hT'⟩ : ∃ T : ByteArray, T = ⟨(canonT cs').toArray⟩ := ⟨_, rfl⟩
  have HT : Hid (∀ W, Below w.heap.size w W → Calls Tryd.prog 9 #[.agg vs] W fun e w' => e = .returned (.string T) ∧ Below W.heap.size W w') := Lib.hid (fun W hW => by rw [hT]; exact canon_any cs vs W (E.on hW) (Ce.Ats.grow hW hW.size _ _ h.at') h.ok hl)
  have HT' : Hid (∀ W, Below w.heap.size w W → Calls Tryd.prog 9 #[.agg vs'] W fun e w' => e = .returned (.string T') ∧ Below W.heap.size W w') := Lib.hid (fun W hW => by rw [hT']; exact canon_any cs' vs' W (E.on hW) (Ce.Ats.grow hW hW.size _ _ h'.at') h'.ok hl')
  have HTT : Hid (cs = cs' → T' = T) := Lib.hid (fun e => by rw [hT, hT', e])
  have HSH : Hid (∀ W, Below w.heap.size w W → Calls Tryd.prog 5 #[] W fun e w' => e = .returned (.bool true) ∧ Below W.heap.size W w') := Lib.hid (fun W hW => shown37 W (E.on hW))
  obtain ⟨z, hz⟩ : ∃ z, z = dB (cs = cs') := ⟨_, rfl⟩
  rw [← hz] at HSS HST HSR
  have HZ : Hid (z = true → T' = T) := Lib.hid (fun e => HTT.out ((dB_iff _).1 (by rw [← hz, e])))
  have HB2 := Lib.hid hb2
  clear hT hT' hz HTT h h' hl hl' E hsb hb2
  go_enter Tryd.func3, Tryd.ntmps3
  go_upto_region 1 with fail
  generalize (w.alloc (.cells vs 34)).alloc (.cells vs' 34) = w2 at *
  go_wp2_with fail
  refine (HSH.out w2 HB2.out).mono ?_
  rintro e w3 ⟨rfl, hb3⟩
  have HX1 := Lib.hid ((hb3.block _ (by omega)).trans hx1)
  have HX2 := Lib.hid ((hb3.block _ (by omega)).trans hx2)
  have HB3 := Lib.hid (HB2.out.trans (hb3.mono HB2.out.size))
  clear hx1 hx2 hb3 hsz
  have HS1 : Hid ((Tryd.prog.info? 34).map (·.size) = some vs.size) := Lib.hid (by rw [HZ1.out]; exact sz_Machine)
  have HS2 : Hid ((Tryd.prog.info? 34).map (·.size) = some vs'.size) := Lib.hid (by rw [HZ2.out]; exact sz_Machine)
  go_wp2_with (first | refine wpList_load_row rfl 34 _ rfl w.heap.size rfl 34 vs (0, 0) _ HX1.out Tryd.underlying34 rfl HS1.out ?_ | refine wpList_load_row rfl 34 _ rfl (w.heap.size + 1) rfl 34 vs' (0, 0) _ HX2.out Tryd.underlying34 rfl HS2.out ?_)
  refine (HSS.out w3 HB3.out).mono ?_
  rintro e w4 ⟨rfl, hb4⟩
  have hx3 := ((hb4.block _ (Array.getElem?_eq_some_iff.1 HX1.out).1).trans HX1.out)
  have hx4 := ((hb4.block _ (Array.getElem?_eq_some_iff.1 HX2.out).1).trans HX2.out)
  have HB4 := Lib.hid (HB3.out.trans (hb4.mono HB3.out.size))
  clear hb4 HX1 HX2
  go_upto_region 4 with fail
  obtain ⟨kM, hkM⟩ : ∃ k : Nat, k = 16 := ⟨16, rfl⟩
  have zM : ∀ w, (Go.sizeOf 34).run Tryd.prog w = .ok kM w := by intro w; rw [hkM]; exact Tryd.sizeOf34 w
  have HW : Hid (∀ p : Since w4.heap.size w4, Below w.heap.size w p.w') := Lib.hid (fun p => HB4.out.trans (p.hb.mono HB4.out.size))
  have l1 : ∀ p : Since w4.heap.size w4, Sem.run Tryd.prog (loadCellsFrom ⟨w.heap.size, 0, none⟩ 0 kM #[]) p.w' = .ok vs p.w' := fun p => load_box ((p.hb.block _ (blk_lt hx3)).trans hx3) (by rw [hkM]; exact HZ1.out)
  have l2 : ∀ p : Since w4.heap.size w4, Sem.run Tryd.prog (loadCellsFrom ⟨w.heap.size + 1, 0, none⟩ 0 kM #[]) p.w' = .ok vs' p.w' := fun p => load_box ((p.hb.block _ (blk_lt hx4)).trans hx4) (by rw [hkM]; exact HZ2.out)
  have HN1 : Hid (∀ p : Since w4.heap.size w4, Calls Tryd.prog 6 #[.agg vs', .agg vs] p.w' fun e w' => e = .returned (.bool z) ∧ ∃ q : Since w4.heap.size w4, w' = q.w') := Lib.hid (fun p => Calls.since_of (Nat.le_refl _) (HST.out _ (HW.out p)))
  have HN2 : Hid (∀ p : Since w4.heap.size w4, Calls Tryd.prog 6 #[.agg vs, .agg vs] p.w' fun e w' => e = .returned (.bool true) ∧ ∃ q : Since w4.heap.size w4, w' = q.w') := Lib.hid (fun p => Calls.since_of (Nat.le_refl _) (HSA.out _ (HW.out p)))
  have HN3 : Hid (∀ p : Since w4.heap.size w4, Calls Tryd.prog 7 #[.agg vs, .agg vs'] p.w' fun e w' => e = .returned (.bool z) ∧ ∃ q : Since w4.heap.size w4, w' = q.w') := Lib.hid (fun p => Calls.since_of (Nat.le_refl _) (HSR.out _ (HW.out p)))
  have HN4 : Hid (∀ p : Since w4.heap.size w4, Calls Tryd.prog 9 #[.agg vs] p.w' fun e w' => e = .returned (.string T) ∧ ∃ q : Since w4.heap.size w4, w' = q.w') := Lib.hid (fun p => Calls.since_of (Nat.le_refl _) (HT.out _ (HW.out p)))
  have HN5 : Hid (∀ p : Since w4.heap.size w4, Calls Tryd.prog 9 #[.agg vs'] p.w' fun e w' => e = .returned (.string T') ∧ ∃ q : Since w4.heap.size w4, w' = q.w') := Lib.hid (fun p => Calls.since_of (Nat.le_refl _) (HT'.out _ (HW.out p)))
  have HN6 : Hid (∀ p : Since w4.heap.size w4, Calls Tryd.prog 8 #[.agg vs] p.w' fun e w' => e = .returned (.bool sb) ∧ ∃ q : Since w4.heap.size w4, w' = q.w') := Lib.hid (fun p => Calls.since_of (Nat.le_refl _) (HSB.out _))
  clear hx3 hx4 hkM HSS HST HSA HSR HT HT' HSB HSH HW HB2 HB3
  cases z with
  | true =>
    obtain rfl := HZ.out rfl
    cases sb with
    | true =>
      refine wp_region_since w4.heap.size (by kernel_rfl) (by kernel_rfl) ?_
      repeat (go_big_quiet_step (first | (go_at_call_of 6 vs'; exact HN1.out _) | (go_at_call 6; exact HN2.out _) | (go_at_call 7; exact HN3.out _) | (go_at_call 8; exact HN6.out _) | (go_at_call_of 9 vs'; exact HN5.out _) | (go_at_call 9; exact HN4.out _)))
      refine wpQuiet_nil ?_
      intro _ hw'
      obtain ⟨pz, hw''⟩ := hw'
      subst hw''
      have HBZ := Lib.hid (HB4.out.trans (pz.hb.mono HB4.out.size))
      clear l1 l2 HN1 HN2 HN3 HN4 HN5 HN6
      go_wp2
      go_ret
      exact ⟨by simp, HBZ.out⟩
    | false =>
      refine wp_region_since w4.heap.size (by kernel_rfl) (by kernel_rfl) ?_
      repeat (go_big_quiet_step (first | (go_at_call_of 6 vs'; exact HN1.out _) | (go_at_call 6; exact HN2.out _) | (go_at_call 7; exact HN3.out _) | (go_at_call 8; exact HN6.out _) | (go_at_call_of 9 vs'; exact HN5.out _) | (go_at_call 9; exact HN4.out _)))
      refine wpQuiet_nil ?_
      intro _ hw'
      obtain ⟨pz, hw''⟩ := hw'
      subst hw''
      have HBZ := Lib.hid (HB4.out.trans (pz.hb.mono HB4.out.size))
      clear l1 l2 HN1 HN2 HN3 HN4 HN5 HN6
      go_wp2
      go_ret
      exact ⟨by simp, HBZ.out⟩
  | false =>
    refine wp_region_since w4.heap.size (by kernel_rfl) (by kernel_rfl) ?_
    repeat (go_big_quiet_step (first | (go_at_call_of 6 vs'; exact HN1.out _) | (go_at_call 6; exact HN2.out _) | (go_at_call 7; exact HN3.out _) | (go_at_call 8; exact HN6.out _) | (go_at_call_of 9 vs'; exact HN5.out _) | (go_at_call 9; exact HN4.out _)))
    refine wpQuiet_nil ?_
    intro _ hw'
    obtain ⟨pz, hw''⟩ := hw'
    subst hw''
    have HBZ := Lib.hid (HB4.out.trans (pz.hb.mono HB4.out.size))
    clear l1 l2 HN1 HN2 HN3 HN4 HN5 HN6
    go_wp2
    go_ret
    exact ⟨by simp, HBZ.out⟩

end Go.Proofs.YtkgkipohalekmaaDoor
