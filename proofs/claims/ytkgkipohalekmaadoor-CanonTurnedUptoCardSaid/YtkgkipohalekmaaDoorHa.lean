/-
  Whether two machines are the same (canon.Same), by their texts.
-/
import Derived.Test.YtkgkipohalekmaaDoorBc4
import Derived.Test.YtkgkipohalekmaaDoorBz
import Derived.Shelf.SlicesQ.Load
namespace Go.Proofs.YtkgkipohalekmaaDoor
open Go.RowKit Go.Shelf
theorem Env.on {w w' : World} (E : Env w) (hb : Below w.heap.size w w') : Env w' := fun W hW => E W (hb.trans (hW.mono hb.size))
/-- a whole machine's cells, read at once -/
theorem load_box {W : World} {b : Nat} {vs : Array Value} {t : TypeId} {fr : Nat × Nat} {k : Nat} (h : W.heap[b]? = some (.cells vs t fr)) (hk : vs.size = k) : Sem.run Tryd.prog (loadCellsFrom ⟨b, 0, none⟩ 0 k #[]) W = .ok vs W := by
  have h1 := run_loadCellsFrom_list Tryd.prog W ⟨b, 0, none⟩ vs.toList k (by simpa using hk) (fun j v hv => by
    rw [Addr.add_mid, Nat.zero_add, cell_of_row W b _ _ _ _ h]
    simpa using hv)
  simpa using h1
theorem text_inj {cs cs' : List Ce} (ho : Ce.Oks cs qMach) (ho' : Ce.Oks cs' qMach) : textM cs = textM cs' ↔ cs = cs' :=
  ⟨fun h => Ce.txts_inj ho ho' (List.append_cancel_left h), fun h => by rw [h]⟩
theorem mach_size {w : World} {B : Nat} {cs : List Ce} {vs : Array Value} (ho : Ce.Oks cs qMach) (ha : Ce.Ats w B cs vs.toList) : vs.size = 16 := by
  have e1 := Ce.ats_length _ _ ha
  have e2 := Ce.oks_length _ _ ho
  rw [Array.length_toList] at e1
  rw [e1, e2]
  unfold qMach
  rfl
set_option maxRecDepth 100000 in
set_option maxHeartbeats 8000000 in
theorem csame_any {W0 w : World} {cs cs' : List Ce} {vs vs' : Array Value} (E : Env W0) (hb0 : Below W0.heap.size W0 w) (ha : Ce.Ats W0 W0.heap.size cs vs.toList) (ha' : Ce.Ats W0 W0.heap.size cs' vs'.toList) (ho : Ce.Oks cs qMach) (ho' : Ce.Oks cs' qMach) (hl : Ce.bulks cs ≤ 2097152) (hl' : Ce.bulks cs' ≤ 2097152) :
    Calls Tryd.prog 6 #[.agg vs, .agg vs'] w fun e w' => SameP (cs = cs') e ∧ Below w.heap.size w w' := by
  have hx1 := heap_alloc2_old w (.cells vs 34) (.cells vs' 34)
  have hx2 := heap_alloc2_new w (.cells vs 34) (.cells vs' 34)
  have hb2 : Below w.heap.size w ((w.alloc (.cells vs 34)).alloc (.cells vs' 34)) := ((Below.refl _ _).alloc (Nat.le_refl _) _).alloc (by simp) _
  have hsz : ((w.alloc (.cells vs 34)).alloc (.cells vs' 34)).heap.size = w.heap.size + 2 := by simp
  have HZ1 := Lib.hid (mach_size ho ha)
  have HZ2 := Lib.hid (mach_size ho' ha')
  obtain ⟨T, hT⟩ : ∃ T : ByteArray, T = ⟨(textM cs).toArray⟩ := ⟨_, rfl⟩
  obtain ⟨T', hT'⟩ : ∃ T : ByteArray, T = ⟨(textM cs').toArray⟩ := ⟨_, rfl⟩
  have HT : Hid (∀ W, Below W0.heap.size W0 W → Calls Tryd.prog 13 #[.agg vs] W fun e w' => e = .returned (.string T) ∧ Below W.heap.size W w') := Lib.hid (fun W hW => by rw [hT]; exact text_w cs vs W (E.on hW) (Ce.Ats.grow hW hW.size _ _ ha) ho hl)
  have HT' : Hid (∀ W, Below W0.heap.size W0 W → Calls Tryd.prog 13 #[.agg vs'] W fun e w' => e = .returned (.string T') ∧ Below W.heap.size W w') := Lib.hid (fun W hW => by rw [hT']; exact text_w cs' vs' W (E.on hW) (Ce.Ats.grow hW hW.size _ _ ha') ho' hl')
  have HP : Hid ((T.toList == T'.toList) = true ↔ cs = cs') := Lib.hid (by
    rw [beq_iff_eq, Lib.toList_data, Lib.toList_data, hT, hT', ← text_inj ho ho'])
  obtain ⟨PP, hPP⟩ : ∃ PP, PP = (cs = cs') := ⟨_, rfl⟩
  rw [← hPP] at HP ⊢
  have HB0 := Lib.hid hb0
  have HB2 := Lib.hid hb2
  clear hT hT' ha ha' ho ho' hl hl' hPP hb0 E
  go_enter Tryd.func6, Tryd.ntmps6
  go_upto_region 1 with fail
  generalize (w.alloc (.cells vs 34)).alloc (.cells vs' 34) = w2 at *
  obtain ⟨kM, hkM⟩ : ∃ k : Nat, k = 16 := ⟨16, rfl⟩
  have zM : ∀ w, (Go.sizeOf 34).run Tryd.prog w = .ok kM w := by intro w; rw [hkM]; exact Tryd.sizeOf34 w
  have HN1 : Hid (∀ p : Since w2.heap.size w2, Calls Tryd.prog 13 #[.agg vs] p.w' fun e w' => e = .returned (.string T) ∧ ∃ q : Since w2.heap.size w2, w' = q.w') := Lib.hid (fun p => Calls.since_of (Nat.le_refl _) (HT.out p.w' ((HB0.out.trans (HB2.out.mono HB0.out.size)).trans (p.hb.mono (by have := HB0.out.size; omega)))))
  have HN2 : Hid (∀ p : Since w2.heap.size w2, Calls Tryd.prog 13 #[.agg vs'] p.w' fun e w' => e = .returned (.string T') ∧ ∃ q : Since w2.heap.size w2, w' = q.w') := Lib.hid (fun p => Calls.since_of (Nat.le_refl _) (HT'.out p.w' ((HB0.out.trans (HB2.out.mono HB0.out.size)).trans (p.hb.mono (by have := HB0.out.size; omega)))))
  have l1 : ∀ p : Since w2.heap.size w2, Sem.run Tryd.prog (loadCellsFrom ⟨w.heap.size, 0, none⟩ 0 kM #[]) p.w' = .ok vs p.w' := fun p => load_box ((p.hb.block _ (by omega)).trans hx1) (by rw [hkM]; exact HZ1.out)
  have l2 : ∀ p : Since w2.heap.size w2, Sem.run Tryd.prog (loadCellsFrom ⟨w.heap.size + 1, 0, none⟩ 0 kM #[]) p.w' = .ok vs' p.w' := fun p => load_box ((p.hb.block _ (by omega)).trans hx2) (by rw [hkM]; exact HZ2.out)
  clear hx1 hx2 hkM hsz HT HT' hb2
  refine wp_region_since w2.heap.size (by kernel_rfl) (by kernel_rfl) ?_
  repeat (go_big_quiet_step (first | (go_at_call_of 13 (Value.agg vs); exact HN1.out _) | (go_at_call_of 13 (Value.agg vs'); exact HN2.out _)))
  refine wpQuiet_nil ?_
  intro _ hw'
  obtain ⟨pz, hw''⟩ := hw'
  subst hw''
  have HB3 := Lib.hid (HB2.out.trans (pz.hb.mono HB2.out.size))
  clear l1 l2 HN1 HN2
  go_wp2
  go_ret
  exact ⟨⟨_, rfl, HP.out⟩, HB3.out⟩

end Go.Proofs.YtkgkipohalekmaaDoor
