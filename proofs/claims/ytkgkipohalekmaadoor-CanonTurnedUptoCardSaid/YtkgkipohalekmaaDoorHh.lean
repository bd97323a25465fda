/-
  A machine of which one thing is turned: the program's walk, where one of a cell's is turned.
-/
import Derived.Test.YtkgkipohalekmaaDoorHg
namespace Go.Proofs.YtkgkipohalekmaaDoor
open Go.RowKit Go.Shelf
set_option maxRecDepth 100000 in
set_option maxHeartbeats 16000000 in
theorem turned_c0 {W0 w : World} {cs : List Ce} {vs : Array Value} (h : MIn W0 cs vs) (hb0 : Below W0.heap.size W0 w) (which by' : Int) (hby : -9223372036854775808 ≤ by' ∧ by' ≤ 9223372036854775807) {n8 : Nat} {e8 : List Ce} (hc8 : cs[8]? = some (.l n8 e8)) (hpos : 0 < n8) (hk : bits BinOp.and IntKind.i64 which 15 = 0) :
    Calls Tryd.prog 10 #[.agg vs, .int .i64 which, .int .i64 by'] w fun e w' => TurnQ cs by' w e w' := by
  have hvs := mach_size h.ok h.at'
  have hv1 := mach_one h.at'
  obtain ⟨n8', e8', A8, c8, xs8, k8', g1, hu8, hcap8, hrd8, hat8, hn8, hok8⟩ := get_l h.ok h.at' 8 _ _ rfl
  rw [hc8] at g1
  injection g1 with g1
  injection g1 with g1 g1'
  subst g1 g1'
  have HH := Lib.hid h
  have HB0 := Lib.hid hb0
  obtain ⟨ie, zs8, hie, hiz, his, hib, hzs, _⟩ := zero_row zr_Cell (by decide)
  have HIE := Lib.hid hie
  have HIZ := Lib.hid hiz
  have HIS := Lib.hid his
  have HIB := Lib.hid hib
  have HZS := Lib.hid hzs
  clear hie hiz his hib hzs
  have hk62 : k8' = 62 ∨ n8 = 0 := by
    have e1 := hrd8.1
    have e2 := Ce.ats_length _ _ hat8
    have e3 := Ce.oks_length _ _ hok8
    rw [List.length_flatten] at e3
    simp [q_len] at e3
    rw [e2, e3] at e1
    rcases Nat.eq_zero_or_pos n8 with h | h
    · exact .inr h
    · exact .inl (Nat.eq_of_mul_eq_mul_left h e1.symm)
  have hrd : Rd W0 W0.heap.size 62 A8 n8 xs8 := by
    rcases hk62 with rfl | rfl
    · exact hrd8
    · have e1 := hrd8.1
      exact ⟨by rw [e1]; simp, fun h => absurd h (Nat.lt_irrefl _)⟩
  have hx1 := heap_alloc2_old w (.cells vs 34) (.cells zMv 34)
  have hx2 := heap_alloc2_new w (.cells vs 34) (.cells zMv 34)
  have hb2 : Below w.heap.size w ((w.alloc (.cells vs 34)).alloc (.cells zMv 34)) := ((Below.refl _ _).alloc (Nat.le_refl _) _).alloc (by simp) _
  have hsz : ((w.alloc (.cells vs 34)).alloc (.cells zMv 34)).heap.size = w.heap.size + 2 := by simp
  have HRD := Lib.hid hrd
  have HAT := Lib.hid hat8
  have HOK := Lib.hid hok8
  have HN8 := Lib.hid hn8
  have HVS := Lib.hid hvs
  have HV1 := Lib.hid hv1
  have HUS : Hid (∀ (j : Nat) (v : Value), vs.toList[j]? = some v → vs[j]? = some v) := Lib.hid (fun j v hv => by rw [← Array.getElem?_toList]; exact hv)
  have HU8 := Lib.hid hu8
  have HBY := Lib.hid hby
  have hn8' := hn8.1
  clear h hb0 hk62 hrd8 hrd hat8 hok8 hn8 hvs hv1 hu8 hcap8 hby
  go_enter Tryd.func10, Tryd.ntmps10
  go_upto_region 1 with (refine wpList_alloc_row rfl 34 rfl zMv zr_mach ?_)
  generalize (w.alloc (.cells vs 34)).alloc (.cells zMv 34) = w2 at *
  have d8 : w2.cell? ⟨w.heap.size, 8, none⟩ = some (.slice A8 n8 c8) := by rw [cell_of_row _ _ _ _ _ _ hx1]; exact HUS.out _ _ HU8.out
  have HX1 := Lib.hid hx1
  have HX2 := Lib.hid hx2
  have HB2 := Lib.hid hb2
  have HSZ := Lib.hid hsz
  have HRN : Hid (Rd w2 W0.heap.size 62 A8 n8 xs8) := Lib.hid (Rd.below HRD.out (HB0.out.trans (hb2.mono HB0.out.size)))
  have HNL : Hid (∀ u ∈ xs8, u.oneCell' = true) := Lib.hid (ces_one _ _ HAT.out)
  have HNI : Hid (w2.ownsRow w2.heap.size 51 62 (.slice none 0 0) 0 []) := Lib.hid ⟨by simp, .inl ⟨rfl, rfl⟩⟩
  clear hx1 hx2 hb2 hsz
  go_wp2_with (at_builtin; refine wpList_append_rd _ rfl _ _ 28 rfl w2.heap.size 51 ie (.agg zs8) 62 _ Tryd.underlying28 HIE.out HIZ.out HIS.out HIB.out HZS.out (by decide) _ 0 [] rfl HNI.out _ n8 c8 W0.heap.size xs8 rfl HRN.out HNL.out (by simp only [maxLen]; omega) (by rw [Nat.zero_add]; exact Nat.le_trans HN8.out.2 (by decide)) (Nat.le_refl _) ?_)
  intro vc w3 hown3 hgrow3
  have hb3 : Below w2.heap.size w2 w3 := (Below.refl _ w2).grown hgrow3 (Nat.le_refl _) (fun g hg => by cases hg)
  have HB3 := Lib.hid (HB2.out.trans (hb3.mono HB2.out.size))
  have HX3 := Lib.hid ((hb3.block w.heap.size (by rw [HSZ.out]; omega)).trans HX1.out)
  have HX4 := Lib.hid ((hb3.block (w.heap.size + 1) (by rw [HSZ.out]; omega)).trans HX2.out)
  have HW3 : Hid (w3.ownsRow (w.heap.size + 2) 51 62 vc n8 xs8) := Lib.hid (by rw [← HSZ.out]; exact hown3)
  clear hgrow3 hb3 hown3 d8 HNI HNL HRN HX1 HX2 HB2 HSZ
  obtain ⟨g, cap, hvc⟩ : ∃ g cap, vc = .slice (some ⟨g, 0, none⟩) n8 cap := by
    rcases HW3.out.2 with ⟨_, h0⟩ | ⟨g, cap, cur, hv, _⟩
    · omega
    · exact ⟨g, cap, hv⟩
  subst hvc
  have y1 : (0 : Int) < (n8 : Int) := by omega
  have y2 : decide ((0 : Int) < (n8 : Int)) = true := decide_eq_true y1
  have y3 : decide (0 < n8) = true := decide_eq_true hpos
  go_upto_region 6 with fail
  obtain ⟨q, hq⟩ : ∃ q : Int, (bits BinOp.and IntKind.i64 (which / 16) 255).tmod (n8 : Int) = q := ⟨_, rfl⟩
  rw [hq]
  obtain ⟨i, rfl, hin⟩ : ∃ i : Nat, q = (i : Int) ∧ i < n8 := by
    have hm := mask_in (which / 16) 255 (by decide)
    have hm1 : 0 ≤ bits BinOp.and IntKind.i64 (which / 16) 255 := hm.1
    rw [Int.tmod_eq_emod_of_nonneg hm1] at hq
    have h1 := Int.emod_nonneg (bits BinOp.and IntKind.i64 (which / 16) 255) (show (n8 : Int) ≠ 0 by omega)
    have h2 := Int.emod_lt_of_pos (bits BinOp.and IntKind.i64 (which / 16) 255) (show (0 : Int) < (n8 : Int) by omega)
    exact ⟨q.toNat, by omega, by omega⟩
  clear hq
  have j1 : (0 : Int) ≤ (i : Int) := by omega
  have j2 : (i : Int) < (n8 : Int) := by omega
  have hpl : i * 62 + 35 < n8 * 62 := by
    have : (i + 1) * 62 ≤ n8 * 62 := Nat.mul_le_mul_right _ hin
    omega
  have hqt : ((List.replicate n8 qCell).flatten)[i * 62 + 35]? = some .i := rep_at (e := qCell) hin (by rw [q_len]; decide) rfl
  obtain ⟨x, hex, hxx, HXR⟩ := get_i HOK.out HAT.out (i * 62 + 35) hqt
  obtain ⟨hcell, hfz, hgb, hgl⟩ := own_cell HW3.out (i * 62 + 35) _ hxx
  have HEX := Lib.hid hex
  have HQT := Lib.hid hqt
  have HXR' := Lib.hid HXR
  have HGB : Hid (w.heap.size + 2 ≤ g) := Lib.hid hgb
  have HPL := Lib.hid hpl
  clear hex hqt hxx HXR
  go_upto_region 28 with fail
  obtain ⟨y, hy⟩ : ∃ y, bits BinOp.xor IntKind.i64 x by' = y := ⟨_, rfl⟩
  rw [hy]
  have HW4 := Lib.hid (own_set HW3.out (i * 62 + 35) HPL.out (.int .i64 y))
  have HX5 : Hid ((w3.setCell ⟨g, i * 62 + 35, none⟩ (.int .i64 y)).heap[w.heap.size]? = some (.cells vs 34 (0, 0))) := Lib.hid (by rw [heap_setCell_other _ _ _ _ (by show w.heap.size ≠ g; have := HGB.out; omega)]; exact HX3.out)
  have HX6 : Hid ((w3.setCell ⟨g, i * 62 + 35, none⟩ (.int .i64 y)).heap[w.heap.size + 1]? = some (.cells zMv 34 (0, 0))) := Lib.hid (by rw [heap_setCell_other _ _ _ _ (by show w.heap.size + 1 ≠ g; have := HGB.out; omega)]; exact HX4.out)
  have HB4 : Hid (Below w.heap.size w (w3.setCell ⟨g, i * 62 + 35, none⟩ (.int .i64 y))) := Lib.hid (HB3.out.setCell (p := ⟨g, i * 62 + 35, none⟩) (by show w.heap.size ≤ g; have := HGB.out; omega) _)
  have HD : Hid ((-9223372036854775808 ≤ y ∧ y ≤ 9223372036854775807) ∧ (by' = 0 → y = x) ∧ (by' ≠ 0 → y ≠ x)) := Lib.hid (by
    rw [← hy]
    exact ⟨xor_in _ _, fun h => by rw [h]; exact xor_zero _ HXR'.out, xor_other _ _ HBY.out⟩)
  clear hy hcell hfz hgb hgl hpl
  generalize w3.setCell ⟨g, i * 62 + 35, none⟩ (.int .i64 y) = w4 at *
  have dm : w4.cell? ⟨w.heap.size, 8, none⟩ = some (.slice A8 n8 c8) := by rw [cell_of_row _ _ _ _ _ _ HX5.out]; exact HUS.out _ _ HU8.out
  have fm : w4.frozen? ⟨w.heap.size, 8, none⟩ = false := frozen_of_row _ _ _ _ _ HX5.out
  clear HX3 HX4 HB3 HW3
  go_upto_region 45 with fail
  obtain ⟨vm, hvm⟩ : ∃ v, v = vs.setIfInBounds 8 (.slice (some ⟨g, 0, none⟩) n8 cap) := ⟨_, rfl⟩
  have hx7 := heap_setCell_same w4 w.heap.size 8 vs _ (.slice (some ⟨g, 0, none⟩) n8 cap) HX5.out
  rw [← hvm] at hx7
  have HX7 := Lib.hid hx7
  have HX8 : Hid ((w4.setCell ⟨w.heap.size, 8, none⟩ (.slice (some ⟨g, 0, none⟩) n8 cap)).heap[w.heap.size + 1]? = some (.cells zMv 34 (0, 0))) := Lib.hid (by rw [heap_setCell_other _ _ _ _ (by show w.heap.size + 1 ≠ w.heap.size; omega)]; exact HX6.out)
  have HB5 : Hid (Below w.heap.size w (w4.setCell ⟨w.heap.size, 8, none⟩ (.slice (some ⟨g, 0, none⟩) n8 cap))) := Lib.hid (HB4.out.setCell (p := ⟨w.heap.size, 8, none⟩) (Nat.le_refl _) _)
  have HW5 := Lib.hid (own_setOther (p := ⟨w.heap.size, 8, none⟩) (u := .slice (some ⟨g, 0, none⟩) n8 cap) HW4.out (by show w.heap.size < w.heap.size + 2; omega))
  clear hx7 dm fm HX5 HX6 HB4 HW4
  generalize w4.setCell ⟨w.heap.size, 8, none⟩ (.slice (some ⟨g, 0, none⟩) n8 cap) = w5 at *
  have HV16 : Hid (vm.size = 16) := Lib.hid (by rw [hvm, Array.size_setIfInBounds, HVS.out])
  have HVO : Hid (vm.all (·.oneCell') = true) := Lib.hid (by
    rw [hvm, ← Array.toArray_toList (xs := vs.setIfInBounds 8 _), Array.toList_setIfInBounds]
    refine all_oneCell_toArray fun u hu => ?_
    rcases List.mem_or_eq_of_mem_set hu with hu | hu
    · exact Array.all_eq_true_iff_forall_mem.1 HV1.out u (by simpa using hu)
    · rw [hu]; rfl)
  have HS : Hid ((Tryd.prog.info? 34).map (·.size) = some vm.size) := Lib.hid (by rw [HV16.out]; exact sz_Machine)
  have HSZ0 : Hid (zMv.size = vm.size) := Lib.hid (by rw [HV16.out]; rfl)
  have HFX := Lib.hid (setRow_heap _ _ _ vm _ _ HX8.out)
  have HFB := Lib.hid (below_setRow HB5.out (Nat.le_succ w.heap.size) vm)
  have HTQ : Hid (TurnQ cs by' w (.returned (.agg vm)) (w5.setRow (w.heap.size + 1) vm)) := Lib.hid (by
    have hbz : Below W0.heap.size W0 (w5.setRow (w.heap.size + 1) vm) := HB0.out.trans (HFB.out.mono HB0.out.size)
    have hl := list_turn (nb := Tryd.prog.bytesOf 51) (q := qCell) (d' := .i y) hbz HAT.out HOK.out HN8.out (own_setRow (g := w.heap.size + 1) (cs := vm) HW5.out (by omega)) (by unfold Ce.At; rfl) ⟨_, HQT.out, by unfold Ce.Ok; exact HD.out.1⟩
    have hbk := Ce.bulks_set (c := .i y) e8 (i * 62 + 35) HEX.out
    rw [hvm]
    rw [hvm] at hl
    refine turnq_of HH.out.ok HH.out.at' HB0.out (by rw [← hvm]; exact HFB.out) hc8 hl.1 ⟨_, rfl, hl.2⟩ ?_ ?_ ?_
    · simp only [Ce.bulk] at hbk ⊢
      omega
    · intro hb
      rw [HD.out.2.1 hb]
      congr 1
      exact set_same HEX.out
    · intro hb he
      injection he with _ he
      exact set_other HEX.out (fun h => HD.out.2.2 hb (by injection h)) he)
  clear hvm
  go_wp2_with (first | refine wpList_load_row rfl 34 _ rfl w.heap.size rfl 34 vm (0, 0) _ HX7.out Tryd.underlying34 rfl HS.out ?_ | refine wpList_store_row rfl 34 _ _ rfl (w.heap.size + 1) vm rfl rfl 34 zMv HX8.out HS.out HSZ0.out HVO.out ?_)
  (try simp only [Exit.inBlock, Exit.then])
  exact bodyPost_ret (v := .agg vm) (results_cell_row rfl _ _ (w.heap.size + 1) 34 _ (0, 0) _ rfl HFX.out Tryd.underlying34 rfl HS.out) rfl HTQ.out
set_option maxRecDepth 100000 in
set_option maxHeartbeats 16000000 in
theorem turned_c1 {W0 w : World} {cs : List Ce} {vs : Array Value} (h : MIn W0 cs vs) (hb0 : Below W0.heap.size W0 w) (which by' : Int) (hby : -9223372036854775808 ≤ by' ∧ by' ≤ 9223372036854775807) {n8 : Nat} {e8 : List Ce} (hc8 : cs[8]? = some (.l n8 e8)) (hpos : 0 < n8) (hk : bits BinOp.and IntKind.i64 which 15 = 1) :
    Calls Tryd.prog 10 #[.agg vs, .int .i64 which, .int .i64 by'] w fun e w' => TurnQ cs by' w e w' := by
  have hvs := mach_size h.ok h.at'
  have hv1 := mach_one h.at'
  obtain ⟨n8', e8', A8, c8, xs8, k8', g1, hu8, hcap8, hrd8, hat8, hn8, hok8⟩ := get_l h.ok h.at' 8 _ _ rfl
  rw [hc8] at g1
  injection g1 with g1
  injection g1 with g1 g1'
  subst g1 g1'
  have HH := Lib.hid h
  have HB0 := Lib.hid hb0
  obtain ⟨ie, zs8, hie, hiz, his, hib, hzs, _⟩ := zero_row zr_Cell (by decide)
  have HIE := Lib.hid hie
  have HIZ := Lib.hid hiz
  have HIS := Lib.hid his
  have HIB := Lib.hid hib
  have HZS := Lib.hid hzs
  clear hie hiz his hib hzs
  have hk62 : k8' = 62 ∨ n8 = 0 := by
    have e1 := hrd8.1
    have e2 := Ce.ats_length _ _ hat8
    have e3 := Ce.oks_length _ _ hok8
    rw [List.length_flatten] at e3
    simp [q_len] at e3
    rw [e2, e3] at e1
    rcases Nat.eq_zero_or_pos n8 with h | h
    · exact .inr h
    · exact .inl (Nat.eq_of_mul_eq_mul_left h e1.symm)
  have hrd : Rd W0 W0.heap.size 62 A8 n8 xs8 := by
    rcases hk62 with rfl | rfl
    · exact hrd8
    · have e1 := hrd8.1
      exact ⟨by rw [e1]; simp, fun h => absurd h (Nat.lt_irrefl _)⟩
  have hx1 := heap_alloc2_old w (.cells vs 34) (.cells zMv 34)
  have hx2 := heap_alloc2_new w (.cells vs 34) (.cells zMv 34)
  have hb2 : Below w.heap.size w ((w.alloc (.cells vs 34)).alloc (.cells zMv 34)) := ((Below.refl _ _).alloc (Nat.le_refl _) _).alloc (by simp) _
  have hsz : ((w.alloc (.cells vs 34)).alloc (.cells zMv 34)).heap.size = w.heap.size + 2 := by simp
  have HRD := Lib.hid hrd
  have HAT := Lib.hid hat8
  have HOK := Lib.hid hok8
  have HN8 := Lib.hid hn8
  have HVS := Lib.hid hvs
  have HV1 := Lib.hid hv1
  have HUS : Hid (∀ (j : Nat) (v : Value), vs.toList[j]? = some v → vs[j]? = some v) := Lib.hid (fun j v hv => by rw [← Array.getElem?_toList]; exact hv)
  have HU8 := Lib.hid hu8
  have HBY := Lib.hid hby
  have hn8' := hn8.1
  clear h hb0 hk62 hrd8 hrd hat8 hok8 hn8 hvs hv1 hu8 hcap8 hby
  go_enter Tryd.func10, Tryd.ntmps10
  go_upto_region 1 with (refine wpList_alloc_row rfl 34 rfl zMv zr_mach ?_)
  generalize (w.alloc (.cells vs 34)).alloc (.cells zMv 34) = w2 at *
  have d8 : w2.cell? ⟨w.heap.size, 8, none⟩ = some (.slice A8 n8 c8) := by rw [cell_of_row _ _ _ _ _ _ hx1]; exact HUS.out _ _ HU8.out
  have HX1 := Lib.hid hx1
  have HX2 := Lib.hid hx2
  have HB2 := Lib.hid hb2
  have HSZ := Lib.hid hsz
  have HRN : Hid (Rd w2 W0.heap.size 62 A8 n8 xs8) := Lib.hid (Rd.below HRD.out (HB0.out.trans (hb2.mono HB0.out.size)))
  have HNL : Hid (∀ u ∈ xs8, u.oneCell' = true) := Lib.hid (ces_one _ _ HAT.out)
  have HNI : Hid (w2.ownsRow w2.heap.size 51 62 (.slice none 0 0) 0 []) := Lib.hid ⟨by simp, .inl ⟨rfl, rfl⟩⟩
  clear hx1 hx2 hb2 hsz
  go_wp2_with (at_builtin; refine wpList_append_rd _ rfl _ _ 28 rfl w2.heap.size 51 ie (.agg zs8) 62 _ Tryd.underlying28 HIE.out HIZ.out HIS.out HIB.out HZS.out (by decide) _ 0 [] rfl HNI.out _ n8 c8 W0.heap.size xs8 rfl HRN.out HNL.out (by simp only [maxLen]; omega) (by rw [Nat.zero_add]; exact Nat.le_trans HN8.out.2 (by decide)) (Nat.le_refl _) ?_)
  intro vc w3 hown3 hgrow3
  have hb3 : Below w2.heap.size w2 w3 := (Below.refl _ w2).grown hgrow3 (Nat.le_refl _) (fun g hg => by cases hg)
  have HB3 := Lib.hid (HB2.out.trans (hb3.mono HB2.out.size))
  have HX3 := Lib.hid ((hb3.block w.heap.size (by rw [HSZ.out]; omega)).trans HX1.out)
  have HX4 := Lib.hid ((hb3.block (w.heap.size + 1) (by rw [HSZ.out]; omega)).trans HX2.out)
  have HW3 : Hid (w3.ownsRow (w.heap.size + 2) 51 62 vc n8 xs8) := Lib.hid (by rw [← HSZ.out]; exact hown3)
  clear hgrow3 hb3 hown3 d8 HNI HNL HRN HX1 HX2 HB2 HSZ
  obtain ⟨g, cap, hvc⟩ : ∃ g cap, vc = .slice (some ⟨g, 0, none⟩) n8 cap := by
    rcases HW3.out.2 with ⟨_, h0⟩ | ⟨g, cap, cur, hv, _⟩
    · omega
    · exact ⟨g, cap, hv⟩
  subst hvc
  have y1 : (0 : Int) < (n8 : Int) := by omega
  have y2 : decide ((0 : Int) < (n8 : Int)) = true := decide_eq_true y1
  have y3 : decide (0 < n8) = true := decide_eq_true hpos
  go_upto_region 6 with fail
  obtain ⟨q, hq⟩ : ∃ q : Int, (bits BinOp.and IntKind.i64 (which / 16) 255).tmod (n8 : Int) = q := ⟨_, rfl⟩
  rw [hq]
  obtain ⟨i, rfl, hin⟩ : ∃ i : Nat, q = (i : Int) ∧ i < n8 := by
    have hm := mask_in (which / 16) 255 (by decide)
    have hm1 : 0 ≤ bits BinOp.and IntKind.i64 (which / 16) 255 := hm.1
    rw [Int.tmod_eq_emod_of_nonneg hm1] at hq
    have h1 := Int.emod_nonneg (bits BinOp.and IntKind.i64 (which / 16) 255) (show (n8 : Int) ≠ 0 by omega)
    have h2 := Int.emod_lt_of_pos (bits BinOp.and IntKind.i64 (which / 16) 255) (show (0 : Int) < (n8 : Int) by omega)
    exact ⟨q.toNat, by omega, by omega⟩
  clear hq
  have j1 : (0 : Int) ≤ (i : Int) := by omega
  have j2 : (i : Int) < (n8 : Int) := by omega
  have hpl : i * 62 + 52 < n8 * 62 := by
    have : (i + 1) * 62 ≤ n8 * 62 := Nat.mul_le_mul_right _ hin
    omega
  have hqt : ((List.replicate n8 qCell).flatten)[i * 62 + 52]? = some .i := rep_at (e := qCell) hin (by rw [q_len]; decide) rfl
  obtain ⟨x, hex, hxx, HXR⟩ := get_i HOK.out HAT.out (i * 62 + 52) hqt
  obtain ⟨hcell, hfz, hgb, hgl⟩ := own_cell HW3.out (i * 62 + 52) _ hxx
  have HEX := Lib.hid hex
  have HQT := Lib.hid hqt
  have HXR' := Lib.hid HXR
  have HGB : Hid (w.heap.size + 2 ≤ g) := Lib.hid hgb
  have HPL := Lib.hid hpl
  clear hex hqt hxx HXR
  go_upto_region 28 with fail
  obtain ⟨y, hy⟩ : ∃ y, bits BinOp.xor IntKind.i64 x by' = y := ⟨_, rfl⟩
  rw [hy]
  have HW4 := Lib.hid (own_set HW3.out (i * 62 + 52) HPL.out (.int .i64 y))
  have HX5 : Hid ((w3.setCell ⟨g, i * 62 + 52, none⟩ (.int .i64 y)).heap[w.heap.size]? = some (.cells vs 34 (0, 0))) := Lib.hid (by rw [heap_setCell_other _ _ _ _ (by show w.heap.size ≠ g; have := HGB.out; omega)]; exact HX3.out)
  have HX6 : Hid ((w3.setCell ⟨g, i * 62 + 52, none⟩ (.int .i64 y)).heap[w.heap.size + 1]? = some (.cells zMv 34 (0, 0))) := Lib.hid (by rw [heap_setCell_other _ _ _ _ (by show w.heap.size + 1 ≠ g; have := HGB.out; omega)]; exact HX4.out)
  have HB4 : Hid (Below w.heap.size w (w3.setCell ⟨g, i * 62 + 52, none⟩ (.int .i64 y))) := Lib.hid (HB3.out.setCell (p := ⟨g, i * 62 + 52, none⟩) (by show w.heap.size ≤ g; have := HGB.out; omega) _)
  have HD : Hid ((-9223372036854775808 ≤ y ∧ y ≤ 9223372036854775807) ∧ (by' = 0 → y = x) ∧ (by' ≠ 0 → y ≠ x)) := Lib.hid (by
    rw [← hy]
    exact ⟨xor_in _ _, fun h => by rw [h]; exact xor_zero _ HXR'.out, xor_other _ _ HBY.out⟩)
  clear hy hcell hfz hgb hgl hpl
  generalize w3.setCell ⟨g, i * 62 + 52, none⟩ (.int .i64 y) = w4 at *
  have dm : w4.cell? ⟨w.heap.size, 8, none⟩ = some (.slice A8 n8 c8) := by rw [cell_of_row _ _ _ _ _ _ HX5.out]; exact HUS.out _ _ HU8.out
  have fm : w4.frozen? ⟨w.heap.size, 8, none⟩ = false := frozen_of_row _ _ _ _ _ HX5.out
  clear HX3 HX4 HB3 HW3
  go_upto_region 45 with fail
  obtain ⟨vm, hvm⟩ : ∃ v, v = vs.setIfInBounds 8 (.slice (some ⟨g, 0, none⟩) n8 cap) := ⟨_, rfl⟩
  have hx7 := heap_setCell_same w4 w.heap.size 8 vs _ (.slice (some ⟨g, 0, none⟩) n8 cap) HX5.out
  rw [← hvm] at hx7
  have HX7 := Lib.hid hx7
  have HX8 : Hid ((w4.setCell ⟨w.heap.size, 8, none⟩ (.slice (some ⟨g, 0, none⟩) n8 cap)).heap[w.heap.size + 1]? = some (.cells zMv 34 (0, 0))) := Lib.hid (by rw [heap_setCell_other _ _ _ _ (by show w.heap.size + 1 ≠ w.heap.size; omega)]; exact HX6.out)
  have HB5 : Hid (Below w.heap.size w (w4.setCell ⟨w.heap.size, 8, none⟩ (.slice (some ⟨g, 0, none⟩) n8 cap))) := Lib.hid (HB4.out.setCell (p := ⟨w.heap.size, 8, none⟩) (Nat.le_refl _) _)
  have HW5 := Lib.hid (own_setOther (p := ⟨w.heap.size, 8, none⟩) (u := .slice (some ⟨g, 0, none⟩) n8 cap) HW4.out (by show w.heap.size < w.heap.size + 2; omega))
  clear hx7 dm fm HX5 HX6 HB4 HW4
  generalize w4.setCell ⟨w.heap.size, 8, none⟩ (.slice (some ⟨g, 0, none⟩) n8 cap) = w5 at *
  have HV16 : Hid (vm.size = 16) := Lib.hid (by rw [hvm, Array.size_setIfInBounds, HVS.out])
  have HVO : Hid (vm.all (·.oneCell') = true) := Lib.hid (by
    rw [hvm, ← Array.toArray_toList (xs := vs.setIfInBounds 8 _), Array.toList_setIfInBounds]
    refine all_oneCell_toArray fun u hu => ?_
    rcases List.mem_or_eq_of_mem_set hu with hu | hu
    · exact Array.all_eq_true_iff_forall_mem.1 HV1.out u (by simpa using hu)
    · rw [hu]; rfl)
  have HS : Hid ((Tryd.prog.info? 34).map (·.size) = some vm.size) := Lib.hid (by rw [HV16.out]; exact sz_Machine)
  have HSZ0 : Hid (zMv.size = vm.size) := Lib.hid (by rw [HV16.out]; rfl)
  have HFX := Lib.hid (setRow_heap _ _ _ vm _ _ HX8.out)
  have HFB := Lib.hid (below_setRow HB5.out (Nat.le_succ w.heap.size) vm)
  have HTQ : Hid (TurnQ cs by' w (.returned (.agg vm)) (w5.setRow (w.heap.size + 1) vm)) := Lib.hid (by
    have hbz : Below W0.heap.size W0 (w5.setRow (w.heap.size + 1) vm) := HB0.out.trans (HFB.out.mono HB0.out.size)
    have hl := list_turn (nb := Tryd.prog.bytesOf 51) (q := qCell) (d' := .i y) hbz HAT.out HOK.out HN8.out (own_setRow (g := w.heap.size + 1) (cs := vm) HW5.out (by omega)) (by unfold Ce.At; rfl) ⟨_, HQT.out, by unfold Ce.Ok; exact HD.out.1⟩
    have hbk := Ce.bulks_set (c := .i y) e8 (i * 62 + 52) HEX.out
    rw [hvm]
    rw [hvm] at hl
    refine turnq_of HH.out.ok HH.out.at' HB0.out (by rw [← hvm]; exact HFB.out) hc8 hl.1 ⟨_, rfl, hl.2⟩ ?_ ?_ ?_
    · simp only [Ce.bulk] at hbk ⊢
      omega
    · intro hb
      rw [HD.out.2.1 hb]
      congr 1
      exact set_same HEX.out
    · intro hb he
      injection he with _ he
      exact set_other HEX.out (fun h => HD.out.2.2 hb (by injection h)) he)
  clear hvm
  go_wp2_with (first | refine wpList_load_row rfl 34 _ rfl w.heap.size rfl 34 vm (0, 0) _ HX7.out Tryd.underlying34 rfl HS.out ?_ | refine wpList_store_row rfl 34 _ _ rfl (w.heap.size + 1) vm rfl rfl 34 zMv HX8.out HS.out HSZ0.out HVO.out ?_)
  (try simp only [Exit.inBlock, Exit.then])
  exact bodyPost_ret (v := .agg vm) (results_cell_row rfl _ _ (w.heap.size + 1) 34 _ (0, 0) _ rfl HFX.out Tryd.underlying34 rfl HS.out) rfl HTQ.out
set_option maxRecDepth 100000 in
set_option maxHeartbeats 16000000 in
theorem turned_c2 {W0 w : World} {cs : List Ce} {vs : Array Value} (h : MIn W0 cs vs) (hb0 : Below W0.heap.size W0 w) (which by' : Int) (hby : -9223372036854775808 ≤ by' ∧ by' ≤ 9223372036854775807) {n8 : Nat} {e8 : List Ce} (hc8 : cs[8]? = some (.l n8 e8)) (hpos : 0 < n8) (hk : bits BinOp.and IntKind.i64 which 15 = 2) :
    Calls Tryd.prog 10 #[.agg vs, .int .i64 which, .int .i64 by'] w fun e w' => TurnQ cs by' w e w' := by
  have hvs := mach_size h.ok h.at'
  have hv1 := mach_one h.at'
  obtain ⟨n8', e8', A8, c8, xs8, k8', g1, hu8, hcap8, hrd8, hat8, hn8, hok8⟩ := get_l h.ok h.at' 8 _ _ rfl
  rw [hc8] at g1
  injection g1 with g1
  injection g1 with g1 g1'
  subst g1 g1'
  have HH := Lib.hid h
  have HB0 := Lib.hid hb0
  obtain ⟨ie, zs8, hie, hiz, his, hib, hzs, _⟩ := zero_row zr_Cell (by decide)
  have HIE := Lib.hid hie
  have HIZ := Lib.hid hiz
  have HIS := Lib.hid his
  have HIB := Lib.hid hib
  have HZS := Lib.hid hzs
  clear hie hiz his hib hzs
  have hk62 : k8' = 62 ∨ n8 = 0 := by
    have e1 := hrd8.1
    have e2 := Ce.ats_length _ _ hat8
    have e3 := Ce.oks_length _ _ hok8
    rw [List.length_flatten] at e3
    simp [q_len] at e3
    rw [e2, e3] at e1
    rcases Nat.eq_zero_or_pos n8 with h | h
    · exact .inr h
    · exact .inl (Nat.eq_of_mul_eq_mul_left h e1.symm)
  have hrd : Rd W0 W0.heap.size 62 A8 n8 xs8 := by
    rcases hk62 with rfl | rfl
    · exact hrd8
    · have e1 := hrd8.1
      exact ⟨by rw [e1]; simp, fun h => absurd h (Nat.lt_irrefl _)⟩
  have hx1 := heap_alloc2_old w (.cells vs 34) (.cells zMv 34)
  have hx2 := heap_alloc2_new w (.cells vs 34) (.cells zMv 34)
  have hb2 : Below w.heap.size w ((w.alloc (.cells vs 34)).alloc (.cells zMv 34)) := ((Below.refl _ _).alloc (Nat.le_refl _) _).alloc (by simp) _
  have hsz : ((w.alloc (.cells vs 34)).alloc (.cells zMv 34)).heap.size = w.heap.size + 2 := by simp
  have HRD := Lib.hid hrd
  have HAT := Lib.hid hat8
  have HOK := Lib.hid hok8
  have HN8 := Lib.hid hn8
  have HVS := Lib.hid hvs
  have HV1 := Lib.hid hv1
  have HUS : Hid (∀ (j : Nat) (v : Value), vs.toList[j]? = some v → vs[j]? = some v) := Lib.hid (fun j v hv => by rw [← Array.getElem?_toList]; exact hv)
  have HU8 := Lib.hid hu8
  have HBY := Lib.hid hby
  have hn8' := hn8.1
  clear h hb0 hk62 hrd8 hrd hat8 hok8 hn8 hvs hv1 hu8 hcap8 hby
  go_enter Tryd.func10, Tryd.ntmps10
  go_upto_region 1 with (refine wpList_alloc_row rfl 34 rfl zMv zr_mach ?_)
  generalize (w.alloc (.cells vs 34)).alloc (.cells zMv 34) = w2 at *
  have d8 : w2.cell? ⟨w.heap.size, 8, none⟩ = some (.slice A8 n8 c8) := by rw [cell_of_row _ _ _ _ _ _ hx1]; exact HUS.out _ _ HU8.out
  have HX1 := Lib.hid hx1
  have HX2 := Lib.hid hx2
  have HB2 := Lib.hid hb2
  have HSZ := Lib.hid hsz
  have HRN : Hid (Rd w2 W0.heap.size 62 A8 n8 xs8) := Lib.hid (Rd.below HRD.out (HB0.out.trans (hb2.mono HB0.out.size)))
  have HNL : Hid (∀ u ∈ xs8, u.oneCell' = true) := Lib.hid (ces_one _ _ HAT.out)
  have HNI : Hid (w2.ownsRow w2.heap.size 51 62 (.slice none 0 0) 0 []) := Lib.hid ⟨by simp, .inl ⟨rfl, rfl⟩⟩
  clear hx1 hx2 hb2 hsz
  go_wp2_with (at_builtin; refine wpList_append_rd _ rfl _ _ 28 rfl w2.heap.size 51 ie (.agg zs8) 62 _ Tryd.underlying28 HIE.out HIZ.out HIS.out HIB.out HZS.out (by decide) _ 0 [] rfl HNI.out _ n8 c8 W0.heap.size xs8 rfl HRN.out HNL.out (by simp only [maxLen]; omega) (by rw [Nat.zero_add]; exact Nat.le_trans HN8.out.2 (by decide)) (Nat.le_refl _) ?_)
  intro vc w3 hown3 hgrow3
  have hb3 : Below w2.heap.size w2 w3 := (Below.refl _ w2).grown hgrow3 (Nat.le_refl _) (fun g hg => by cases hg)
  have HB3 := Lib.hid (HB2.out.trans (hb3.mono HB2.out.size))
  have HX3 := Lib.hid ((hb3.block w.heap.size (by rw [HSZ.out]; omega)).trans HX1.out)
  have HX4 := Lib.hid ((hb3.block (w.heap.size + 1) (by rw [HSZ.out]; omega)).trans HX2.out)
  have HW3 : Hid (w3.ownsRow (w.heap.size + 2) 51 62 vc n8 xs8) := Lib.hid (by rw [← HSZ.out]; exact hown3)
  clear hgrow3 hb3 hown3 d8 HNI HNL HRN HX1 HX2 HB2 HSZ
  obtain ⟨g, cap, hvc⟩ : ∃ g cap, vc = .slice (some ⟨g, 0, none⟩) n8 cap := by
    rcases HW3.out.2 with ⟨_, h0⟩ | ⟨g, cap, cur, hv, _⟩
    · omega
    · exact ⟨g, cap, hv⟩
  subst hvc
  have y1 : (0 : Int) < (n8 : Int) := by omega
  have y2 : decide ((0 : Int) < (n8 : Int)) = true := decide_eq_true y1
  have y3 : decide (0 < n8) = true := decide_eq_true hpos
  go_upto_region 6 with fail
  obtain ⟨q, hq⟩ : ∃ q : Int, (bits BinOp.and IntKind.i64 (which / 16) 255).tmod (n8 : Int) = q := ⟨_, rfl⟩
  rw [hq]
  obtain ⟨i, rfl, hin⟩ : ∃ i : Nat, q = (i : Int) ∧ i < n8 := by
    have hm := mask_in (which / 16) 255 (by decide)
    have hm1 : 0 ≤ bits BinOp.and IntKind.i64 (which / 16) 255 := hm.1
    rw [Int.tmod_eq_emod_of_nonneg hm1] at hq
    have h1 := Int.emod_nonneg (bits BinOp.and IntKind.i64 (which / 16) 255) (show (n8 : Int) ≠ 0 by omega)
    have h2 := Int.emod_lt_of_pos (bits BinOp.and IntKind.i64 (which / 16) 255) (show (0 : Int) < (n8 : Int) by omega)
    exact ⟨q.toNat, by omega, by omega⟩
  clear hq
  have j1 : (0 : Int) ≤ (i : Int) := by omega
  have j2 : (i : Int) < (n8 : Int) := by omega
  have hpl : i * 62 + 44 < n8 * 62 := by
    have : (i + 1) * 62 ≤ n8 * 62 := Nat.mul_le_mul_right _ hin
    omega
  have hqt : ((List.replicate n8 qCell).flatten)[i * 62 + 44]? = some .i := rep_at (e := qCell) hin (by rw [q_len]; decide) rfl
  obtain ⟨x, hex, hxx, HXR⟩ := get_i HOK.out HAT.out (i * 62 + 44) hqt
  obtain ⟨hcell, hfz, hgb, hgl⟩ := own_cell HW3.out (i * 62 + 44) _ hxx
  have HEX := Lib.hid hex
  have HQT := Lib.hid hqt
  have HXR' := Lib.hid HXR
  have HGB : Hid (w.heap.size + 2 ≤ g) := Lib.hid hgb
  have HPL := Lib.hid hpl
  clear hex hqt hxx HXR
  go_upto_region 28 with fail
  obtain ⟨y, hy⟩ : ∃ y, bits BinOp.xor IntKind.i64 x by' = y := ⟨_, rfl⟩
  rw [hy]
  have HW4 := Lib.hid (own_set HW3.out (i * 62 + 44) HPL.out (.int .i64 y))
  have HX5 : Hid ((w3.setCell ⟨g, i * 62 + 44, none⟩ (.int .i64 y)).heap[w.heap.size]? = some (.cells vs 34 (0, 0))) := Lib.hid (by rw [heap_setCell_other _ _ _ _ (by show w.heap.size ≠ g; have := HGB.out; omega)]; exact HX3.out)
  have HX6 : Hid ((w3.setCell ⟨g, i * 62 + 44, none⟩ (.int .i64 y)).heap[w.heap.size + 1]? = some (.cells zMv 34 (0, 0))) := Lib.hid (by rw [heap_setCell_other _ _ _ _ (by show w.heap.size + 1 ≠ g; have := HGB.out; omega)]; exact HX4.out)
  have HB4 : Hid (Below w.heap.size w (w3.setCell ⟨g, i * 62 + 44, none⟩ (.int .i64 y))) := Lib.hid (HB3.out.setCell (p := ⟨g, i * 62 + 44, none⟩) (by show w.heap.size ≤ g; have := HGB.out; omega) _)
  have HD : Hid ((-9223372036854775808 ≤ y ∧ y ≤ 9223372036854775807) ∧ (by' = 0 → y = x) ∧ (by' ≠ 0 → y ≠ x)) := Lib.hid (by
    rw [← hy]
    exact ⟨xor_in _ _, fun h => by rw [h]; exact xor_zero _ HXR'.out, xor_other _ _ HBY.out⟩)
  clear hy hcell hfz hgb hgl hpl
  generalize w3.setCell ⟨g, i * 62 + 44, none⟩ (.int .i64 y) = w4 at *
  have dm : w4.cell? ⟨w.heap.size, 8, none⟩ = some (.slice A8 n8 c8) := by rw [cell_of_row _ _ _ _ _ _ HX5.out]; exact HUS.out _ _ HU8.out
  have fm : w4.frozen? ⟨w.heap.size, 8, none⟩ = false := frozen_of_row _ _ _ _ _ HX5.out
  clear HX3 HX4 HB3 HW3
  go_upto_region 45 with fail
  obtain ⟨vm, hvm⟩ : ∃ v, v = vs.setIfInBounds 8 (.slice (some ⟨g, 0, none⟩) n8 cap) := ⟨_, rfl⟩
  have hx7 := heap_setCell_same w4 w.heap.size 8 vs _ (.slice (some ⟨g, 0, none⟩) n8 cap) HX5.out
  rw [← hvm] at hx7
  have HX7 := Lib.hid hx7
  have HX8 : Hid ((w4.setCell ⟨w.heap.size, 8, none⟩ (.slice (some ⟨g, 0, none⟩) n8 cap)).heap[w.heap.size + 1]? = some (.cells zMv 34 (0, 0))) := Lib.hid (by rw [heap_setCell_other _ _ _ _ (by show w.heap.size + 1 ≠ w.heap.size; omega)]; exact HX6.out)
  have HB5 : Hid (Below w.heap.size w (w4.setCell ⟨w.heap.size, 8, none⟩ (.slice (some ⟨g, 0, none⟩) n8 cap))) := Lib.hid (HB4.out.setCell (p := ⟨w.heap.size, 8, none⟩) (Nat.le_refl _) _)
  have HW5 := Lib.hid (own_setOther (p := ⟨w.heap.size, 8, none⟩) (u := .slice (some ⟨g, 0, none⟩) n8 cap) HW4.out (by show w.heap.size < w.heap.size + 2; omega))
  clear hx7 dm fm HX5 HX6 HB4 HW4
  generalize w4.setCell ⟨w.heap.size, 8, none⟩ (.slice (some ⟨g, 0, none⟩) n8 cap) = w5 at *
  have HV16 : Hid (vm.size = 16) := Lib.hid (by rw [hvm, Array.size_setIfInBounds, HVS.out])
  have HVO : Hid (vm.all (·.oneCell') = true) := Lib.hid (by
    rw [hvm, ← Array.toArray_toList (xs := vs.setIfInBounds 8 _), Array.toList_setIfInBounds]
    refine all_oneCell_toArray fun u hu => ?_
    rcases List.mem_or_eq_of_mem_set hu with hu | hu
    · exact Array.all_eq_true_iff_forall_mem.1 HV1.out u (by simpa using hu)
    · rw [hu]; rfl)
  have HS : Hid ((Tryd.prog.info? 34).map (·.size) = some vm.size) := Lib.hid (by rw [HV16.out]; exact sz_Machine)
  have HSZ0 : Hid (zMv.size = vm.size) := Lib.hid (by rw [HV16.out]; rfl)
  have HFX := Lib.hid (setRow_heap _ _ _ vm _ _ HX8.out)
  have HFB := Lib.hid (below_setRow HB5.out (Nat.le_succ w.heap.size) vm)
  have HTQ : Hid (TurnQ cs by' w (.returned (.agg vm)) (w5.setRow (w.heap.size + 1) vm)) := Lib.hid (by
    have hbz : Below W0.heap.size W0 (w5.setRow (w.heap.size + 1) vm) := HB0.out.trans (HFB.out.mono HB0.out.size)
    have hl := list_turn (nb := Tryd.prog.bytesOf 51) (q := qCell) (d' := .i y) hbz HAT.out HOK.out HN8.out (own_setRow (g := w.heap.size + 1) (cs := vm) HW5.out (by omega)) (by unfold Ce.At; rfl) ⟨_, HQT.out, by unfold Ce.Ok; exact HD.out.1⟩
    have hbk := Ce.bulks_set (c := .i y) e8 (i * 62 + 44) HEX.out
    rw [hvm]
    rw [hvm] at hl
    refine turnq_of HH.out.ok HH.out.at' HB0.out (by rw [← hvm]; exact HFB.out) hc8 hl.1 ⟨_, rfl, hl.2⟩ ?_ ?_ ?_
    · simp only [Ce.bulk] at hbk ⊢
      omega
    · intro hb
      rw [HD.out.2.1 hb]
      congr 1
      exact set_same HEX.out
    · intro hb he
      injection he with _ he
      exact set_other HEX.out (fun h => HD.out.2.2 hb (by injection h)) he)
  clear hvm
  go_wp2_with (first | refine wpList_load_row rfl 34 _ rfl w.heap.size rfl 34 vm (0, 0) _ HX7.out Tryd.underlying34 rfl HS.out ?_ | refine wpList_store_row rfl 34 _ _ rfl (w.heap.size + 1) vm rfl rfl 34 zMv HX8.out HS.out HSZ0.out HVO.out ?_)
  (try simp only [Exit.inBlock, Exit.then])
  exact bodyPost_ret (v := .agg vm) (results_cell_row rfl _ _ (w.heap.size + 1) 34 _ (0, 0) _ rfl HFX.out Tryd.underlying34 rfl HS.out) rfl HTQ.out
set_option maxRecDepth 100000 in
set_option maxHeartbeats 16000000 in
theorem turned_c3 {W0 w : World} {cs : List Ce} {vs : Array Value} (h : MIn W0 cs vs) (hb0 : Below W0.heap.size W0 w) (which by' : Int) (hby : -9223372036854775808 ≤ by' ∧ by' ≤ 9223372036854775807) {n8 : Nat} {e8 : List Ce} (hc8 : cs[8]? = some (.l n8 e8)) (hpos : 0 < n8) (hk : bits BinOp.and IntKind.i64 which 15 = 3) :
    Calls Tryd.prog 10 #[.agg vs, .int .i64 which, .int .i64 by'] w fun e w' => TurnQ cs by' w e w' := by
  have hvs := mach_size h.ok h.at'
  have hv1 := mach_one h.at'
  obtain ⟨n8', e8', A8, c8, xs8, k8', g1, hu8, hcap8, hrd8, hat8, hn8, hok8⟩ := get_l h.ok h.at' 8 _ _ rfl
  rw [hc8] at g1
  injection g1 with g1
  injection g1 with g1 g1'
  subst g1 g1'
  have HH := Lib.hid h
  have HB0 := Lib.hid hb0
  obtain ⟨ie, zs8, hie, hiz, his, hib, hzs, _⟩ := zero_row zr_Cell (by decide)
  have HIE := Lib.hid hie
  have HIZ := Lib.hid hiz
  have HIS := Lib.hid his
  have HIB := Lib.hid hib
  have HZS := Lib.hid hzs
  clear hie hiz his hib hzs
  have hk62 : k8' = 62 ∨ n8 = 0 := by
    have e1 := hrd8.1
    have e2 := Ce.ats_length _ _ hat8
    have e3 := Ce.oks_length _ _ hok8
    rw [List.length_flatten] at e3
    simp [q_len] at e3
    rw [e2, e3] at e1
    rcases Nat.eq_zero_or_pos n8 with h | h
    · exact .inr h
    · exact .inl (Nat.eq_of_mul_eq_mul_left h e1.symm)
  have hrd : Rd W0 W0.heap.size 62 A8 n8 xs8 := by
    rcases hk62 with rfl | rfl
    · exact hrd8
    · have e1 := hrd8.1
      exact ⟨by rw [e1]; simp, fun h => absurd h (Nat.lt_irrefl _)⟩
  have hx1 := heap_alloc2_old w (.cells vs 34) (.cells zMv 34)
  have hx2 := heap_alloc2_new w (.cells vs 34) (.cells zMv 34)
  have hb2 : Below w.heap.size w ((w.alloc (.cells vs 34)).alloc (.cells zMv 34)) := ((Below.refl _ _).alloc (Nat.le_refl _) _).alloc (by simp) _
  have hsz : ((w.alloc (.cells vs 34)).alloc (.cells zMv 34)).heap.size = w.heap.size + 2 := by simp
  have HRD := Lib.hid hrd
  have HAT := Lib.hid hat8
  have HOK := Lib.hid hok8
  have HN8 := Lib.hid hn8
  have HVS := Lib.hid hvs
  have HV1 := Lib.hid hv1
  have HUS : Hid (∀ (j : Nat) (v : Value), vs.toList[j]? = some v → vs[j]? = some v) := Lib.hid (fun j v hv => by rw [← Array.getElem?_toList]; exact hv)
  have HU8 := Lib.hid hu8
  have HBY := Lib.hid hby
  have hn8' := hn8.1
  clear h hb0 hk62 hrd8 hrd hat8 hok8 hn8 hvs hv1 hu8 hcap8 hby
  go_enter Tryd.func10, Tryd.ntmps10
  go_upto_region 1 with (refine wpList_alloc_row rfl 34 rfl zMv zr_mach ?_)
  generalize (w.alloc (.cells vs 34)).alloc (.cells zMv 34) = w2 at *
  have d8 : w2.cell? ⟨w.heap.size, 8, none⟩ = some (.slice A8 n8 c8) := by rw [cell_of_row _ _ _ _ _ _ hx1]; exact HUS.out _ _ HU8.out
  have HX1 := Lib.hid hx1
  have HX2 := Lib.hid hx2
  have HB2 := Lib.hid hb2
  have HSZ := Lib.hid hsz
  have HRN : Hid (Rd w2 W0.heap.size 62 A8 n8 xs8) := Lib.hid (Rd.below HRD.out (HB0.out.trans (hb2.mono HB0.out.size)))
  have HNL : Hid (∀ u ∈ xs8, u.oneCell' = true) := Lib.hid (ces_one _ _ HAT.out)
  have HNI : Hid (w2.ownsRow w2.heap.size 51 62 (.slice none 0 0) 0 []) := Lib.hid ⟨by simp, .inl ⟨rfl, rfl⟩⟩
  clear hx1 hx2 hb2 hsz
  go_wp2_with (at_builtin; refine wpList_append_rd _ rfl _ _ 28 rfl w2.heap.size 51 ie (.agg zs8) 62 _ Tryd.underlying28 HIE.out HIZ.out HIS.out HIB.out HZS.out (by decide) _ 0 [] rfl HNI.out _ n8 c8 W0.heap.size xs8 rfl HRN.out HNL.out (by simp only [maxLen]; omega) (by rw [Nat.zero_add]; exact Nat.le_trans HN8.out.2 (by decide)) (Nat.le_refl _) ?_)
  intro vc w3 hown3 hgrow3
  have hb3 : Below w2.heap.size w2 w3 := (Below.refl _ w2).grown hgrow3 (Nat.le_refl _) (fun g hg => by cases hg)
  have HB3 := Lib.hid (HB2.out.trans (hb3.mono HB2.out.size))
  have HX3 := Lib.hid ((hb3.block w.heap.size (by rw [HSZ.out]; omega)).trans HX1.out)
  have HX4 := Lib.hid ((hb3.block (w.heap.size + 1) (by rw [HSZ.out]; omega)).trans HX2.out)
  have HW3 : Hid (w3.ownsRow (w.heap.size + 2) 51 62 vc n8 xs8) := Lib.hid (by rw [← HSZ.out]; exact hown3)
  clear hgrow3 hb3 hown3 d8 HNI HNL HRN HX1 HX2 HB2 HSZ
  obtain ⟨g, cap, hvc⟩ : ∃ g cap, vc = .slice (some ⟨g, 0, none⟩) n8 cap := by
    rcases HW3.out.2 with ⟨_, h0⟩ | ⟨g, cap, cur, hv, _⟩
    · omega
    · exact ⟨g, cap, hv⟩
  subst hvc
  have y1 : (0 : Int) < (n8 : Int) := by omega
  have y2 : decide ((0 : Int) < (n8 : Int)) = true := decide_eq_true y1
  have y3 : decide (0 < n8) = true := decide_eq_true hpos
  go_upto_region 6 with fail
  obtain ⟨q, hq⟩ : ∃ q : Int, (bits BinOp.and IntKind.i64 (which / 16) 255).tmod (n8 : Int) = q := ⟨_, rfl⟩
  rw [hq]
  obtain ⟨i, rfl, hin⟩ : ∃ i : Nat, q = (i : Int) ∧ i < n8 := by
    have hm := mask_in (which / 16) 255 (by decide)
    have hm1 : 0 ≤ bits BinOp.and IntKind.i64 (which / 16) 255 := hm.1
    rw [Int.tmod_eq_emod_of_nonneg hm1] at hq
    have h1 := Int.emod_nonneg (bits BinOp.and IntKind.i64 (which / 16) 255) (show (n8 : Int) ≠ 0 by omega)
    have h2 := Int.emod_lt_of_pos (bits BinOp.and IntKind.i64 (which / 16) 255) (show (0 : Int) < (n8 : Int) by omega)
    exact ⟨q.toNat, by omega, by omega⟩
  clear hq
  have j1 : (0 : Int) ≤ (i : Int) := by omega
  have j2 : (i : Int) < (n8 : Int) := by omega
  have hpl : i * 62 + 48 < n8 * 62 := by
    have : (i + 1) * 62 ≤ n8 * 62 := Nat.mul_le_mul_right _ hin
    omega
  have hqt : ((List.replicate n8 qCell).flatten)[i * 62 + 48]? = some .i := rep_at (e := qCell) hin (by rw [q_len]; decide) rfl
  obtain ⟨x, hex, hxx, HXR⟩ := get_i HOK.out HAT.out (i * 62 + 48) hqt
  obtain ⟨hcell, hfz, hgb, hgl⟩ := own_cell HW3.out (i * 62 + 48) _ hxx
  have HEX := Lib.hid hex
  have HQT := Lib.hid hqt
  have HXR' := Lib.hid HXR
  have HGB : Hid (w.heap.size + 2 ≤ g) := Lib.hid hgb
  have HPL := Lib.hid hpl
  clear hex hqt hxx HXR
  go_upto_region 28 with fail
  obtain ⟨y, hy⟩ : ∃ y, bits BinOp.xor IntKind.i64 x by' = y := ⟨_, rfl⟩
  rw [hy]
  have HW4 := Lib.hid (own_set HW3.out (i * 62 + 48) HPL.out (.int .i64 y))
  have HX5 : Hid ((w3.setCell ⟨g, i * 62 + 48, none⟩ (.int .i64 y)).heap[w.heap.size]? = some (.cells vs 34 (0, 0))) := Lib.hid (by rw [heap_setCell_other _ _ _ _ (by show w.heap.size ≠ g; have := HGB.out; omega)]; exact HX3.out)
  have HX6 : Hid ((w3.setCell ⟨g, i * 62 + 48, none⟩ (.int .i64 y)).heap[w.heap.size + 1]? = some (.cells zMv 34 (0, 0))) := Lib.hid (by rw [heap_setCell_other _ _ _ _ (by show w.heap.size + 1 ≠ g; have := HGB.out; omega)]; exact HX4.out)
  have HB4 : Hid (Below w.heap.size w (w3.setCell ⟨g, i * 62 + 48, none⟩ (.int .i64 y))) := Lib.hid (HB3.out.setCell (p := ⟨g, i * 62 + 48, none⟩) (by show w.heap.size ≤ g; have := HGB.out; omega) _)
  have HD : Hid ((-9223372036854775808 ≤ y ∧ y ≤ 9223372036854775807) ∧ (by' = 0 → y = x) ∧ (by' ≠ 0 → y ≠ x)) := Lib.hid (by
    rw [← hy]
    exact ⟨xor_in _ _, fun h => by rw [h]; exact xor_zero _ HXR'.out, xor_other _ _ HBY.out⟩)
  clear hy hcell hfz hgb hgl hpl
  generalize w3.setCell ⟨g, i * 62 + 48, none⟩ (.int .i64 y) = w4 at *
  have dm : w4.cell? ⟨w.heap.size, 8, none⟩ = some (.slice A8 n8 c8) := by rw [cell_of_row _ _ _ _ _ _ HX5.out]; exact HUS.out _ _ HU8.out
  have fm : w4.frozen? ⟨w.heap.size, 8, none⟩ = false := frozen_of_row _ _ _ _ _ HX5.out
  clear HX3 HX4 HB3 HW3
  go_upto_region 45 with fail
  obtain ⟨vm, hvm⟩ : ∃ v, v = vs.setIfInBounds 8 (.slice (some ⟨g, 0, none⟩) n8 cap) := ⟨_, rfl⟩
  have hx7 := heap_setCell_same w4 w.heap.size 8 vs _ (.slice (some ⟨g, 0, none⟩) n8 cap) HX5.out
  rw [← hvm] at hx7
  have HX7 := Lib.hid hx7
  have HX8 : Hid ((w4.setCell ⟨w.heap.size, 8, none⟩ (.slice (some ⟨g, 0, none⟩) n8 cap)).heap[w.heap.size + 1]? = some (.cells zMv 34 (0, 0))) := Lib.hid (by rw [heap_setCell_other _ _ _ _ (by show w.heap.size + 1 ≠ w.heap.size; omega)]; exact HX6.out)
  have HB5 : Hid (Below w.heap.size w (w4.setCell ⟨w.heap.size, 8, none⟩ (.slice (some ⟨g, 0, none⟩) n8 cap))) := Lib.hid (HB4.out.setCell (p := ⟨w.heap.size, 8, none⟩) (Nat.le_refl _) _)
  have HW5 := Lib.hid (own_setOther (p := ⟨w.heap.size, 8, none⟩) (u := .slice (some ⟨g, 0, none⟩) n8 cap) HW4.out (by show w.heap.size < w.heap.size + 2; omega))
  clear hx7 dm fm HX5 HX6 HB4 HW4
  generalize w4.setCell ⟨w.heap.size, 8, none⟩ (.slice (some ⟨g, 0, none⟩) n8 cap) = w5 at *
  have HV16 : Hid (vm.size = 16) := Lib.hid (by rw [hvm, Array.size_setIfInBounds, HVS.out])
  have HVO : Hid (vm.all (·.oneCell') = true) := Lib.hid (by
    rw [hvm, ← Array.toArray_toList (xs := vs.setIfInBounds 8 _), Array.toList_setIfInBounds]
    refine all_oneCell_toArray fun u hu => ?_
    rcases List.mem_or_eq_of_mem_set hu with hu | hu
    · exact Array.all_eq_true_iff_forall_mem.1 HV1.out u (by simpa using hu)
    · rw [hu]; rfl)
  have HS : Hid ((Tryd.prog.info? 34).map (·.size) = some vm.size) := Lib.hid (by rw [HV16.out]; exact sz_Machine)
  have HSZ0 : Hid (zMv.size = vm.size) := Lib.hid (by rw [HV16.out]; rfl)
  have HFX := Lib.hid (setRow_heap _ _ _ vm _ _ HX8.out)
  have HFB := Lib.hid (below_setRow HB5.out (Nat.le_succ w.heap.size) vm)
  have HTQ : Hid (TurnQ cs by' w (.returned (.agg vm)) (w5.setRow (w.heap.size + 1) vm)) := Lib.hid (by
    have hbz : Below W0.heap.size W0 (w5.setRow (w.heap.size + 1) vm) := HB0.out.trans (HFB.out.mono HB0.out.size)
    have hl := list_turn (nb := Tryd.prog.bytesOf 51) (q := qCell) (d' := .i y) hbz HAT.out HOK.out HN8.out (own_setRow (g := w.heap.size + 1) (cs := vm) HW5.out (by omega)) (by unfold Ce.At; rfl) ⟨_, HQT.out, by unfold Ce.Ok; exact HD.out.1⟩
    have hbk := Ce.bulks_set (c := .i y) e8 (i * 62 + 48) HEX.out
    rw [hvm]
    rw [hvm] at hl
    refine turnq_of HH.out.ok HH.out.at' HB0.out (by rw [← hvm]; exact HFB.out) hc8 hl.1 ⟨_, rfl, hl.2⟩ ?_ ?_ ?_
    · simp only [Ce.bulk] at hbk ⊢
      omega
    · intro hb
      rw [HD.out.2.1 hb]
      congr 1
      exact set_same HEX.out
    · intro hb he
      injection he with _ he
      exact set_other HEX.out (fun h => HD.out.2.2 hb (by injection h)) he)
  clear hvm
  go_wp2_with (first | refine wpList_load_row rfl 34 _ rfl w.heap.size rfl 34 vm (0, 0) _ HX7.out Tryd.underlying34 rfl HS.out ?_ | refine wpList_store_row rfl 34 _ _ rfl (w.heap.size + 1) vm rfl rfl 34 zMv HX8.out HS.out HSZ0.out HVO.out ?_)
  (try simp only [Exit.inBlock, Exit.then])
  exact bodyPost_ret (v := .agg vm) (results_cell_row rfl _ _ (w.heap.size + 1) 34 _ (0, 0) _ rfl HFX.out Tryd.underlying34 rfl HS.out) rfl HTQ.out
set_option maxRecDepth 100000 in
set_option maxHeartbeats 16000000 in
theorem turned_c4 {W0 w : World} {cs : List Ce} {vs : Array Value} (h : MIn W0 cs vs) (hb0 : Below W0.heap.size W0 w) (which by' : Int) (hby : -9223372036854775808 ≤ by' ∧ by' ≤ 9223372036854775807) {n8 : Nat} {e8 : List Ce} (hc8 : cs[8]? = some (.l n8 e8)) (hpos : 0 < n8) (hk : bits BinOp.and IntKind.i64 which 15 = 4) :
    Calls Tryd.prog 10 #[.agg vs, .int .i64 which, .int .i64 by'] w fun e w' => TurnQ cs by' w e w' := by
  have hvs := mach_size h.ok h.at'
  have hv1 := mach_one h.at'
  obtain ⟨n8', e8', A8, c8, xs8, k8', g1, hu8, hcap8, hrd8, hat8, hn8, hok8⟩ := get_l h.ok h.at' 8 _ _ rfl
  rw [hc8] at g1
  injection g1 with g1
  injection g1 with g1 g1'
  subst g1 g1'
  have HH := Lib.hid h
  have HB0 := Lib.hid hb0
  obtain ⟨ie, zs8, hie, hiz, his, hib, hzs, _⟩ := zero_row zr_Cell (by decide)
  have HIE := Lib.hid hie
  have HIZ := Lib.hid hiz
  have HIS := Lib.hid his
  have HIB := Lib.hid hib
  have HZS := Lib.hid hzs
  clear hie hiz his hib hzs
  have hk62 : k8' = 62 ∨ n8 = 0 := by
    have e1 := hrd8.1
    have e2 := Ce.ats_length _ _ hat8
    have e3 := Ce.oks_length _ _ hok8
    rw [List.length_flatten] at e3
    simp [q_len] at e3
    rw [e2, e3] at e1
    rcases Nat.eq_zero_or_pos n8 with h | h
    · exact .inr h
    · exact .inl (Nat.eq_of_mul_eq_mul_left h e1.symm)
  have hrd : Rd W0 W0.heap.size 62 A8 n8 xs8 := by
    rcases hk62 with rfl | rfl
    · exact hrd8
    · have e1 := hrd8.1
      exact ⟨by rw [e1]; simp, fun h => absurd h (Nat.lt_irrefl _)⟩
  have hx1 := heap_alloc2_old w (.cells vs 34) (.cells zMv 34)
  have hx2 := heap_alloc2_new w (.cells vs 34) (.cells zMv 34)
  have hb2 : Below w.heap.size w ((w.alloc (.cells vs 34)).alloc (.cells zMv 34)) := ((Below.refl _ _).alloc (Nat.le_refl _) _).alloc (by simp) _
  have hsz : ((w.alloc (.cells vs 34)).alloc (.cells zMv 34)).heap.size = w.heap.size + 2 := by simp
  have HRD := Lib.hid hrd
  have HAT := Lib.hid hat8
  have HOK := Lib.hid hok8
  have HN8 := Lib.hid hn8
  have HVS := Lib.hid hvs
  have HV1 := Lib.hid hv1
  have HUS : Hid (∀ (j : Nat) (v : Value), vs.toList[j]? = some v → vs[j]? = some v) := Lib.hid (fun j v hv => by rw [← Array.getElem?_toList]; exact hv)
  have HU8 := Lib.hid hu8
  have HBY := Lib.hid hby
  have hn8' := hn8.1
  clear h hb0 hk62 hrd8 hrd hat8 hok8 hn8 hvs hv1 hu8 hcap8 hby
  go_enter Tryd.func10, Tryd.ntmps10
  go_upto_region 1 with (refine wpList_alloc_row rfl 34 rfl zMv zr_mach ?_)
  generalize (w.alloc (.cells vs 34)).alloc (.cells zMv 34) = w2 at *
  have d8 : w2.cell? ⟨w.heap.size, 8, none⟩ = some (.slice A8 n8 c8) := by rw [cell_of_row _ _ _ _ _ _ hx1]; exact HUS.out _ _ HU8.out
  have HX1 := Lib.hid hx1
  have HX2 := Lib.hid hx2
  have HB2 := Lib.hid hb2
  have HSZ := Lib.hid hsz
  have HRN : Hid (Rd w2 W0.heap.size 62 A8 n8 xs8) := Lib.hid (Rd.below HRD.out (HB0.out.trans (hb2.mono HB0.out.size)))
  have HNL : Hid (∀ u ∈ xs8, u.oneCell' = true) := Lib.hid (ces_one _ _ HAT.out)
  have HNI : Hid (w2.ownsRow w2.heap.size 51 62 (.slice none 0 0) 0 []) := Lib.hid ⟨by simp, .inl ⟨rfl, rfl⟩⟩
  clear hx1 hx2 hb2 hsz
  go_wp2_with (at_builtin; refine wpList_append_rd _ rfl _ _ 28 rfl w2.heap.size 51 ie (.agg zs8) 62 _ Tryd.underlying28 HIE.out HIZ.out HIS.out HIB.out HZS.out (by decide) _ 0 [] rfl HNI.out _ n8 c8 W0.heap.size xs8 rfl HRN.out HNL.out (by simp only [maxLen]; omega) (by rw [Nat.zero_add]; exact Nat.le_trans HN8.out.2 (by decide)) (Nat.le_refl _) ?_)
  intro vc w3 hown3 hgrow3
  have hb3 : Below w2.heap.size w2 w3 := (Below.refl _ w2).grown hgrow3 (Nat.le_refl _) (fun g hg => by cases hg)
  have HB3 := Lib.hid (HB2.out.trans (hb3.mono HB2.out.size))
  have HX3 := Lib.hid ((hb3.block w.heap.size (by rw [HSZ.out]; omega)).trans HX1.out)
  have HX4 := Lib.hid ((hb3.block (w.heap.size + 1) (by rw [HSZ.out]; omega)).trans HX2.out)
  have HW3 : Hid (w3.ownsRow (w.heap.size + 2) 51 62 vc n8 xs8) := Lib.hid (by rw [← HSZ.out]; exact hown3)
  clear hgrow3 hb3 hown3 d8 HNI HNL HRN HX1 HX2 HB2 HSZ
  obtain ⟨g, cap, hvc⟩ : ∃ g cap, vc = .slice (some ⟨g, 0, none⟩) n8 cap := by
    rcases HW3.out.2 with ⟨_, h0⟩ | ⟨g, cap, cur, hv, _⟩
    · omega
    · exact ⟨g, cap, hv⟩
  subst hvc
  have y1 : (0 : Int) < (n8 : Int) := by omega
  have y2 : decide ((0 : Int) < (n8 : Int)) = true := decide_eq_true y1
  have y3 : decide (0 < n8) = true := decide_eq_true hpos
  go_upto_region 6 with fail
  obtain ⟨q, hq⟩ : ∃ q : Int, (bits BinOp.and IntKind.i64 (which / 16) 255).tmod (n8 : Int) = q := ⟨_, rfl⟩
  rw [hq]
  obtain ⟨i, rfl, hin⟩ : ∃ i : Nat, q = (i : Int) ∧ i < n8 := by
    have hm := mask_in (which / 16) 255 (by decide)
    have hm1 : 0 ≤ bits BinOp.and IntKind.i64 (which / 16) 255 := hm.1
    rw [Int.tmod_eq_emod_of_nonneg hm1] at hq
    have h1 := Int.emod_nonneg (bits BinOp.and IntKind.i64 (which / 16) 255) (show (n8 : Int) ≠ 0 by omega)
    have h2 := Int.emod_lt_of_pos (bits BinOp.and IntKind.i64 (which / 16) 255) (show (0 : Int) < (n8 : Int) by omega)
    exact ⟨q.toNat, by omega, by omega⟩
  clear hq
  have j1 : (0 : Int) ≤ (i : Int) := by omega
  have j2 : (i : Int) < (n8 : Int) := by omega
  have hpl : i * 62 + 57 < n8 * 62 := by
    have : (i + 1) * 62 ≤ n8 * 62 := Nat.mul_le_mul_right _ hin
    omega
  have hqt : ((List.replicate n8 qCell).flatten)[i * 62 + 57]? = some .i := rep_at (e := qCell) hin (by rw [q_len]; decide) rfl
  obtain ⟨x, hex, hxx, HXR⟩ := get_i HOK.out HAT.out (i * 62 + 57) hqt
  obtain ⟨hcell, hfz, hgb, hgl⟩ := own_cell HW3.out (i * 62 + 57) _ hxx
  have HEX := Lib.hid hex
  have HQT := Lib.hid hqt
  have HXR' := Lib.hid HXR
  have HGB : Hid (w.heap.size + 2 ≤ g) := Lib.hid hgb
  have HPL := Lib.hid hpl
  clear hex hqt hxx HXR
  go_upto_region 28 with fail
  obtain ⟨y, hy⟩ : ∃ y, bits BinOp.xor IntKind.i64 x by' = y := ⟨_, rfl⟩
  rw [hy]
  have HW4 := Lib.hid (own_set HW3.out (i * 62 + 57) HPL.out (.int .i64 y))
  have HX5 : Hid ((w3.setCell ⟨g, i * 62 + 57, none⟩ (.int .i64 y)).heap[w.heap.size]? = some (.cells vs 34 (0, 0))) := Lib.hid (by rw [heap_setCell_other _ _ _ _ (by show w.heap.size ≠ g; have := HGB.out; omega)]; exact HX3.out)
  have HX6 : Hid ((w3.setCell ⟨g, i * 62 + 57, none⟩ (.int .i64 y)).heap[w.heap.size + 1]? = some (.cells zMv 34 (0, 0))) := Lib.hid (by rw [heap_setCell_other _ _ _ _ (by show w.heap.size + 1 ≠ g; have := HGB.out; omega)]; exact HX4.out)
  have HB4 : Hid (Below w.heap.size w (w3.setCell ⟨g, i * 62 + 57, none⟩ (.int .i64 y))) := Lib.hid (HB3.out.setCell (p := ⟨g, i * 62 + 57, none⟩) (by show w.heap.size ≤ g; have := HGB.out; omega) _)
  have HD : Hid ((-9223372036854775808 ≤ y ∧ y ≤ 9223372036854775807) ∧ (by' = 0 → y = x) ∧ (by' ≠ 0 → y ≠ x)) := Lib.hid (by
    rw [← hy]
    exact ⟨xor_in _ _, fun h => by rw [h]; exact xor_zero _ HXR'.out, xor_other _ _ HBY.out⟩)
  clear hy hcell hfz hgb hgl hpl
  generalize w3.setCell ⟨g, i * 62 + 57, none⟩ (.int .i64 y) = w4 at *
  have dm : w4.cell? ⟨w.heap.size, 8, none⟩ = some (.slice A8 n8 c8) := by rw [cell_of_row _ _ _ _ _ _ HX5.out]; exact HUS.out _ _ HU8.out
  have fm : w4.frozen? ⟨w.heap.size, 8, none⟩ = false := frozen_of_row _ _ _ _ _ HX5.out
  clear HX3 HX4 HB3 HW3
  go_upto_region 45 with fail
  obtain ⟨vm, hvm⟩ : ∃ v, v = vs.setIfInBounds 8 (.slice (some ⟨g, 0, none⟩) n8 cap) := ⟨_, rfl⟩
  have hx7 := heap_setCell_same w4 w.heap.size 8 vs _ (.slice (some ⟨g, 0, none⟩) n8 cap) HX5.out
  rw [← hvm] at hx7
  have HX7 := Lib.hid hx7
  have HX8 : Hid ((w4.setCell ⟨w.heap.size, 8, none⟩ (.slice (some ⟨g, 0, none⟩) n8 cap)).heap[w.heap.size + 1]? = some (.cells zMv 34 (0, 0))) := Lib.hid (by rw [heap_setCell_other _ _ _ _ (by show w.heap.size + 1 ≠ w.heap.size; omega)]; exact HX6.out)
  have HB5 : Hid (Below w.heap.size w (w4.setCell ⟨w.heap.size, 8, none⟩ (.slice (some ⟨g, 0, none⟩) n8 cap))) := Lib.hid (HB4.out.setCell (p := ⟨w.heap.size, 8, none⟩) (Nat.le_refl _) _)
  have HW5 := Lib.hid (own_setOther (p := ⟨w.heap.size, 8, none⟩) (u := .slice (some ⟨g, 0, none⟩) n8 cap) HW4.out (by show w.heap.size < w.heap.size + 2; omega))
  clear hx7 dm fm HX5 HX6 HB4 HW4
  generalize w4.setCell ⟨w.heap.size, 8, none⟩ (.slice (some ⟨g, 0, none⟩) n8 cap) = w5 at *
  have HV16 : Hid (vm.size = 16) := Lib.hid (by rw [hvm, Array.size_setIfInBounds, HVS.out])
  have HVO : Hid (vm.all (·.oneCell') = true) := Lib.hid (by
    rw [hvm, ← Array.toArray_toList (xs := vs.setIfInBounds 8 _), Array.toList_setIfInBounds]
    refine all_oneCell_toArray fun u hu => ?_
    rcases List.mem_or_eq_of_mem_set hu with hu | hu
    · exact Array.all_eq_true_iff_forall_mem.1 HV1.out u (by simpa using hu)
    · rw [hu]; rfl)
  have HS : Hid ((Tryd.prog.info? 34).map (·.size) = some vm.size) := Lib.hid (by rw [HV16.out]; exact sz_Machine)
  have HSZ0 : Hid (zMv.size = vm.size) := Lib.hid (by rw [HV16.out]; rfl)
  have HFX := Lib.hid (setRow_heap _ _ _ vm _ _ HX8.out)
  have HFB := Lib.hid (below_setRow HB5.out (Nat.le_succ w.heap.size) vm)
  have HTQ : Hid (TurnQ cs by' w (.returned (.agg vm)) (w5.setRow (w.heap.size + 1) vm)) := Lib.hid (by
    have hbz : Below W0.heap.size W0 (w5.setRow (w.heap.size + 1) vm) := HB0.out.trans (HFB.out.mono HB0.out.size)
    have hl := list_turn (nb := Tryd.prog.bytesOf 51) (q := qCell) (d' := .i y) hbz HAT.out HOK.out HN8.out (own_setRow (g := w.heap.size + 1) (cs := vm) HW5.out (by omega)) (by unfold Ce.At; rfl) ⟨_, HQT.out, by unfold Ce.Ok; exact HD.out.1⟩
    have hbk := Ce.bulks_set (c := .i y) e8 (i * 62 + 57) HEX.out
    rw [hvm]
    rw [hvm] at hl
    refine turnq_of HH.out.ok HH.out.at' HB0.out (by rw [← hvm]; exact HFB.out) hc8 hl.1 ⟨_, rfl, hl.2⟩ ?_ ?_ ?_
    · simp only [Ce.bulk] at hbk ⊢
      omega
    · intro hb
      rw [HD.out.2.1 hb]
      congr 1
      exact set_same HEX.out
    · intro hb he
      injection he with _ he
      exact set_other HEX.out (fun h => HD.out.2.2 hb (by injection h)) he)
  clear hvm
  go_wp2_with (first | refine wpList_load_row rfl 34 _ rfl w.heap.size rfl 34 vm (0, 0) _ HX7.out Tryd.underlying34 rfl HS.out ?_ | refine wpList_store_row rfl 34 _ _ rfl (w.heap.size + 1) vm rfl rfl 34 zMv HX8.out HS.out HSZ0.out HVO.out ?_)
  (try simp only [Exit.inBlock, Exit.then])
  exact bodyPost_ret (v := .agg vm) (results_cell_row rfl _ _ (w.heap.size + 1) 34 _ (0, 0) _ rfl HFX.out Tryd.underlying34 rfl HS.out) rfl HTQ.out
set_option maxRecDepth 100000 in
set_option maxHeartbeats 16000000 in
theorem turned_c5 {W0 w : World} {cs : List Ce} {vs : Array Value} (h : MIn W0 cs vs) (hb0 : Below W0.heap.size W0 w) (which by' : Int) (hby : -9223372036854775808 ≤ by' ∧ by' ≤ 9223372036854775807) {n8 : Nat} {e8 : List Ce} (hc8 : cs[8]? = some (.l n8 e8)) (hpos : 0 < n8) (hk : bits BinOp.and IntKind.i64 which 15 = 5) :
    Calls Tryd.prog 10 #[.agg vs, .int .i64 which, .int .i64 by'] w fun e w' => TurnQ cs by' w e w' := by
  have hvs := mach_size h.ok h.at'
  have hv1 := mach_one h.at'
  obtain ⟨n8', e8', A8, c8, xs8, k8', g1, hu8, hcap8, hrd8, hat8, hn8, hok8⟩ := get_l h.ok h.at' 8 _ _ rfl
  rw [hc8] at g1
  injection g1 with g1
  injection g1 with g1 g1'
  subst g1 g1'
  have HH := Lib.hid h
  have HB0 := Lib.hid hb0
  obtain ⟨ie, zs8, hie, hiz, his, hib, hzs, _⟩ := zero_row zr_Cell (by decide)
  have HIE := Lib.hid hie
  have HIZ := Lib.hid hiz
  have HIS := Lib.hid his
  have HIB := Lib.hid hib
  have HZS := Lib.hid hzs
  clear hie hiz his hib hzs
  have hk62 : k8' = 62 ∨ n8 = 0 := by
    have e1 := hrd8.1
    have e2 := Ce.ats_length _ _ hat8
    have e3 := Ce.oks_length _ _ hok8
    rw [List.length_flatten] at e3
    simp [q_len] at e3
    rw [e2, e3] at e1
    rcases Nat.eq_zero_or_pos n8 with h | h
    · exact .inr h
    · exact .inl (Nat.eq_of_mul_eq_mul_left h e1.symm)
  have hrd : Rd W0 W0.heap.size 62 A8 n8 xs8 := by
    rcases hk62 with rfl | rfl
    · exact hrd8
    · have e1 := hrd8.1
      exact ⟨by rw [e1]; simp, fun h => absurd h (Nat.lt_irrefl _)⟩
  have hx1 := heap_alloc2_old w (.cells vs 34) (.cells zMv 34)
  have hx2 := heap_alloc2_new w (.cells vs 34) (.cells zMv 34)
  have hb2 : Below w.heap.size w ((w.alloc (.cells vs 34)).alloc (.cells zMv 34)) := ((Below.refl _ _).alloc (Nat.le_refl _) _).alloc (by simp) _
  have hsz : ((w.alloc (.cells vs 34)).alloc (.cells zMv 34)).heap.size = w.heap.size + 2 := by simp
  have HRD := Lib.hid hrd
  have HAT := Lib.hid hat8
  have HOK := Lib.hid hok8
  have HN8 := Lib.hid hn8
  have HVS := Lib.hid hvs
  have HV1 := Lib.hid hv1
  have HUS : Hid (∀ (j : Nat) (v : Value), vs.toList[j]? = some v → vs[j]? = some v) := Lib.hid (fun j v hv => by rw [← Array.getElem?_toList]; exact hv)
  have HU8 := Lib.hid hu8
  have HBY := Lib.hid hby
  have hn8' := hn8.1
  clear h hb0 hk62 hrd8 hrd hat8 hok8 hn8 hvs hv1 hu8 hcap8 hby
  go_enter Tryd.func10, Tryd.ntmps10
  go_upto_region 1 with (refine wpList_alloc_row rfl 34 rfl zMv zr_mach ?_)
  generalize (w.alloc (.cells vs 34)).alloc (.cells zMv 34) = w2 at *
  have d8 : w2.cell? ⟨w.heap.size, 8, none⟩ = some (.slice A8 n8 c8) := by rw [cell_of_row _ _ _ _ _ _ hx1]; exact HUS.out _ _ HU8.out
  have HX1 := Lib.hid hx1
  have HX2 := Lib.hid hx2
  have HB2 := Lib.hid hb2
  have HSZ := Lib.hid hsz
  have HRN : Hid (Rd w2 W0.heap.size 62 A8 n8 xs8) := Lib.hid (Rd.below HRD.out (HB0.out.trans (hb2.mono HB0.out.size)))
  have HNL : Hid (∀ u ∈ xs8, u.oneCell' = true) := Lib.hid (ces_one _ _ HAT.out)
  have HNI : Hid (w2.ownsRow w2.heap.size 51 62 (.slice none 0 0) 0 []) := Lib.hid ⟨by simp, .inl ⟨rfl, rfl⟩⟩
  clear hx1 hx2 hb2 hsz
  go_wp2_with (at_builtin; refine wpList_append_rd _ rfl _ _ 28 rfl w2.heap.size 51 ie (.agg zs8) 62 _ Tryd.underlying28 HIE.out HIZ.out HIS.out HIB.out HZS.out (by decide) _ 0 [] rfl HNI.out _ n8 c8 W0.heap.size xs8 rfl HRN.out HNL.out (by simp only [maxLen]; omega) (by rw [Nat.zero_add]; exact Nat.le_trans HN8.out.2 (by decide)) (Nat.le_refl _) ?_)
  intro vc w3 hown3 hgrow3
  have hb3 : Below w2.heap.size w2 w3 := (Below.refl _ w2).grown hgrow3 (Nat.le_refl _) (fun g hg => by cases hg)
  have HB3 := Lib.hid (HB2.out.trans (hb3.mono HB2.out.size))
  have HX3 := Lib.hid ((hb3.block w.heap.size (by rw [HSZ.out]; omega)).trans HX1.out)
  have HX4 := Lib.hid ((hb3.block (w.heap.size + 1) (by rw [HSZ.out]; omega)).trans HX2.out)
  have HW3 : Hid (w3.ownsRow (w.heap.size + 2) 51 62 vc n8 xs8) := Lib.hid (by rw [← HSZ.out]; exact hown3)
  clear hgrow3 hb3 hown3 d8 HNI HNL HRN HX1 HX2 HB2 HSZ
  obtain ⟨g, cap, hvc⟩ : ∃ g cap, vc = .slice (some ⟨g, 0, none⟩) n8 cap := by
    rcases HW3.out.2 with ⟨_, h0⟩ | ⟨g, cap, cur, hv, _⟩
    · omega
    · exact ⟨g, cap, hv⟩
  subst hvc
  have y1 : (0 : Int) < (n8 : Int) := by omega
  have y2 : decide ((0 : Int) < (n8 : Int)) = true := decide_eq_true y1
  have y3 : decide (0 < n8) = true := decide_eq_true hpos
  go_upto_region 6 with fail
  obtain ⟨q, hq⟩ : ∃ q : Int, (bits BinOp.and IntKind.i64 (which / 16) 255).tmod (n8 : Int) = q := ⟨_, rfl⟩
  rw [hq]
  obtain ⟨i, rfl, hin⟩ : ∃ i : Nat, q = (i : Int) ∧ i < n8 := by
    have hm := mask_in (which / 16) 255 (by decide)
    have hm1 : 0 ≤ bits BinOp.and IntKind.i64 (which / 16) 255 := hm.1
    rw [Int.tmod_eq_emod_of_nonneg hm1] at hq
    have h1 := Int.emod_nonneg (bits BinOp.and IntKind.i64 (which / 16) 255) (show (n8 : Int) ≠ 0 by omega)
    have h2 := Int.emod_lt_of_pos (bits BinOp.and IntKind.i64 (which / 16) 255) (show (0 : Int) < (n8 : Int) by omega)
    exact ⟨q.toNat, by omega, by omega⟩
  clear hq
  have j1 : (0 : Int) ≤ (i : Int) := by omega
  have j2 : (i : Int) < (n8 : Int) := by omega
  have hpl : i * 62 + 59 < n8 * 62 := by
    have : (i + 1) * 62 ≤ n8 * 62 := Nat.mul_le_mul_right _ hin
    omega
  have hqt : ((List.replicate n8 qCell).flatten)[i * 62 + 59]? = some .i := rep_at (e := qCell) hin (by rw [q_len]; decide) rfl
  obtain ⟨x, hex, hxx, HXR⟩ := get_i HOK.out HAT.out (i * 62 + 59) hqt
  obtain ⟨hcell, hfz, hgb, hgl⟩ := own_cell HW3.out (i * 62 + 59) _ hxx
  have HEX := Lib.hid hex
  have HQT := Lib.hid hqt
  have HXR' := Lib.hid HXR
  have HGB : Hid (w.heap.size + 2 ≤ g) := Lib.hid hgb
  have HPL := Lib.hid hpl
  clear hex hqt hxx HXR
  go_upto_region 28 with fail
  obtain ⟨y, hy⟩ : ∃ y, bits BinOp.xor IntKind.i64 x by' = y := ⟨_, rfl⟩
  rw [hy]
  have HW4 := Lib.hid (own_set HW3.out (i * 62 + 59) HPL.out (.int .i64 y))
  have HX5 : Hid ((w3.setCell ⟨g, i * 62 + 59, none⟩ (.int .i64 y)).heap[w.heap.size]? = some (.cells vs 34 (0, 0))) := Lib.hid (by rw [heap_setCell_other _ _ _ _ (by show w.heap.size ≠ g; have := HGB.out; omega)]; exact HX3.out)
  have HX6 : Hid ((w3.setCell ⟨g, i * 62 + 59, none⟩ (.int .i64 y)).heap[w.heap.size + 1]? = some (.cells zMv 34 (0, 0))) := Lib.hid (by rw [heap_setCell_other _ _ _ _ (by show w.heap.size + 1 ≠ g; have := HGB.out; omega)]; exact HX4.out)
  have HB4 : Hid (Below w.heap.size w (w3.setCell ⟨g, i * 62 + 59, none⟩ (.int .i64 y))) := Lib.hid (HB3.out.setCell (p := ⟨g, i * 62 + 59, none⟩) (by show w.heap.size ≤ g; have := HGB.out; omega) _)
  have HD : Hid ((-9223372036854775808 ≤ y ∧ y ≤ 9223372036854775807) ∧ (by' = 0 → y = x) ∧ (by' ≠ 0 → y ≠ x)) := Lib.hid (by
    rw [← hy]
    exact ⟨xor_in _ _, fun h => by rw [h]; exact xor_zero _ HXR'.out, xor_other _ _ HBY.out⟩)
  clear hy hcell hfz hgb hgl hpl
  generalize w3.setCell ⟨g, i * 62 + 59, none⟩ (.int .i64 y) = w4 at *
  have dm : w4.cell? ⟨w.heap.size, 8, none⟩ = some (.slice A8 n8 c8) := by rw [cell_of_row _ _ _ _ _ _ HX5.out]; exact HUS.out _ _ HU8.out
  have fm : w4.frozen? ⟨w.heap.size, 8, none⟩ = false := frozen_of_row _ _ _ _ _ HX5.out
  clear HX3 HX4 HB3 HW3
  go_upto_region 45 with fail
  obtain ⟨vm, hvm⟩ : ∃ v, v = vs.setIfInBounds 8 (.slice (some ⟨g, 0, none⟩) n8 cap) := ⟨_, rfl⟩
  have hx7 := heap_setCell_same w4 w.heap.size 8 vs _ (.slice (some ⟨g, 0, none⟩) n8 cap) HX5.out
  rw [← hvm] at hx7
  have HX7 := Lib.hid hx7
  have HX8 : Hid ((w4.setCell ⟨w.heap.size, 8, none⟩ (.slice (some ⟨g, 0, none⟩) n8 cap)).heap[w.heap.size + 1]? = some (.cells zMv 34 (0, 0))) := Lib.hid (by rw [heap_setCell_other _ _ _ _ (by show w.heap.size + 1 ≠ w.heap.size; omega)]; exact HX6.out)
  have HB5 : Hid (Below w.heap.size w (w4.setCell ⟨w.heap.size, 8, none⟩ (.slice (some ⟨g, 0, none⟩) n8 cap))) := Lib.hid (HB4.out.setCell (p := ⟨w.heap.size, 8, none⟩) (Nat.le_refl _) _)
  have HW5 := Lib.hid (own_setOther (p := ⟨w.heap.size, 8, none⟩) (u := .slice (some ⟨g, 0, none⟩) n8 cap) HW4.out (by show w.heap.size < w.heap.size + 2; omega))
  clear hx7 dm fm HX5 HX6 HB4 HW4
  generalize w4.setCell ⟨w.heap.size, 8, none⟩ (.slice (some ⟨g, 0, none⟩) n8 cap) = w5 at *
  have HV16 : Hid (vm.size = 16) := Lib.hid (by rw [hvm, Array.size_setIfInBounds, HVS.out])
  have HVO : Hid (vm.all (·.oneCell') = true) := Lib.hid (by
    rw [hvm, ← Array.toArray_toList (xs := vs.setIfInBounds 8 _), Array.toList_setIfInBounds]
    refine all_oneCell_toArray fun u hu => ?_
    rcases List.mem_or_eq_of_mem_set hu with hu | hu
    · exact Array.all_eq_true_iff_forall_mem.1 HV1.out u (by simpa using hu)
    · rw [hu]; rfl)
  have HS : Hid ((Tryd.prog.info? 34).map (·.size) = some vm.size) := Lib.hid (by rw [HV16.out]; exact sz_Machine)
  have HSZ0 : Hid (zMv.size = vm.size) := Lib.hid (by rw [HV16.out]; rfl)
  have HFX := Lib.hid (setRow_heap _ _ _ vm _ _ HX8.out)
  have HFB := Lib.hid (below_setRow HB5.out (Nat.le_succ w.heap.size) vm)
  have HTQ : Hid (TurnQ cs by' w (.returned (.agg vm)) (w5.setRow (w.heap.size + 1) vm)) := Lib.hid (by
    have hbz : Below W0.heap.size W0 (w5.setRow (w.heap.size + 1) vm) := HB0.out.trans (HFB.out.mono HB0.out.size)
    have hl := list_turn (nb := Tryd.prog.bytesOf 51) (q := qCell) (d' := .i y) hbz HAT.out HOK.out HN8.out (own_setRow (g := w.heap.size + 1) (cs := vm) HW5.out (by omega)) (by unfold Ce.At; rfl) ⟨_, HQT.out, by unfold Ce.Ok; exact HD.out.1⟩
    have hbk := Ce.bulks_set (c := .i y) e8 (i * 62 + 59) HEX.out
    rw [hvm]
    rw [hvm] at hl
    refine turnq_of HH.out.ok HH.out.at' HB0.out (by rw [← hvm]; exact HFB.out) hc8 hl.1 ⟨_, rfl, hl.2⟩ ?_ ?_ ?_
    · simp only [Ce.bulk] at hbk ⊢
      omega
    · intro hb
      rw [HD.out.2.1 hb]
      congr 1
      exact set_same HEX.out
    · intro hb he
      injection he with _ he
      exact set_other HEX.out (fun h => HD.out.2.2 hb (by injection h)) he)
  clear hvm
  go_wp2_with (first | refine wpList_load_row rfl 34 _ rfl w.heap.size rfl 34 vm (0, 0) _ HX7.out Tryd.underlying34 rfl HS.out ?_ | refine wpList_store_row rfl 34 _ _ rfl (w.heap.size + 1) vm rfl rfl 34 zMv HX8.out HS.out HSZ0.out HVO.out ?_)
  (try simp only [Exit.inBlock, Exit.then])
  exact bodyPost_ret (v := .agg vm) (results_cell_row rfl _ _ (w.heap.size + 1) 34 _ (0, 0) _ rfl HFX.out Tryd.underlying34 rfl HS.out) rfl HTQ.out
set_option maxRecDepth 100000 in
set_option maxHeartbeats 16000000 in
theorem turned_c6 {W0 w : World} {cs : List Ce} {vs : Array Value} (h : MIn W0 cs vs) (hb0 : Below W0.heap.size W0 w) (which by' : Int) (hby : -9223372036854775808 ≤ by' ∧ by' ≤ 9223372036854775807) {n8 : Nat} {e8 : List Ce} (hc8 : cs[8]? = some (.l n8 e8)) (hpos : 0 < n8) (hk : bits BinOp.and IntKind.i64 which 15 = 6) :
    Calls Tryd.prog 10 #[.agg vs, .int .i64 which, .int .i64 by'] w fun e w' => TurnQ cs by' w e w' := by
  have hvs := mach_size h.ok h.at'
  have hv1 := mach_one h.at'
  obtain ⟨n8', e8', A8, c8, xs8, k8', g1, hu8, hcap8, hrd8, hat8, hn8, hok8⟩ := get_l h.ok h.at' 8 _ _ rfl
  rw [hc8] at g1
  injection g1 with g1
  injection g1 with g1 g1'
  subst g1 g1'
  have HH := Lib.hid h
  have HB0 := Lib.hid hb0
  obtain ⟨ie, zs8, hie, hiz, his, hib, hzs, _⟩ := zero_row zr_Cell (by decide)
  have HIE := Lib.hid hie
  have HIZ := Lib.hid hiz
  have HIS := Lib.hid his
  have HIB := Lib.hid hib
  have HZS := Lib.hid hzs
  clear hie hiz his hib hzs
  have hk62 : k8' = 62 ∨ n8 = 0 := by
    have e1 := hrd8.1
    have e2 := Ce.ats_length _ _ hat8
    have e3 := Ce.oks_length _ _ hok8
    rw [List.length_flatten] at e3
    simp [q_len] at e3
    rw [e2, e3] at e1
    rcases Nat.eq_zero_or_pos n8 with h | h
    · exact .inr h
    · exact .inl (Nat.eq_of_mul_eq_mul_left h e1.symm)
  have hrd : Rd W0 W0.heap.size 62 A8 n8 xs8 := by
    rcases hk62 with rfl | rfl
    · exact hrd8
    · have e1 := hrd8.1
      exact ⟨by rw [e1]; simp, fun h => absurd h (Nat.lt_irrefl _)⟩
  have hx1 := heap_alloc2_old w (.cells vs 34) (.cells zMv 34)
  have hx2 := heap_alloc2_new w (.cells vs 34) (.cells zMv 34)
  have hb2 : Below w.heap.size w ((w.alloc (.cells vs 34)).alloc (.cells zMv 34)) := ((Below.refl _ _).alloc (Nat.le_refl _) _).alloc (by simp) _
  have hsz : ((w.alloc (.cells vs 34)).alloc (.cells zMv 34)).heap.size = w.heap.size + 2 := by simp
  have HRD := Lib.hid hrd
  have HAT := Lib.hid hat8
  have HOK := Lib.hid hok8
  have HN8 := Lib.hid hn8
  have HVS := Lib.hid hvs
  have HV1 := Lib.hid hv1
  have HUS : Hid (∀ (j : Nat) (v : Value), vs.toList[j]? = some v → vs[j]? = some v) := Lib.hid (fun j v hv => by rw [← Array.getElem?_toList]; exact hv)
  have HU8 := Lib.hid hu8
  have HBY := Lib.hid hby
  have hn8' := hn8.1
  clear h hb0 hk62 hrd8 hrd hat8 hok8 hn8 hvs hv1 hu8 hcap8 hby
  go_enter Tryd.func10, Tryd.ntmps10
  go_upto_region 1 with (refine wpList_alloc_row rfl 34 rfl zMv zr_mach ?_)
  generalize (w.alloc (.cells vs 34)).alloc (.cells zMv 34) = w2 at *
  have d8 : w2.cell? ⟨w.heap.size, 8, none⟩ = some (.slice A8 n8 c8) := by rw [cell_of_row _ _ _ _ _ _ hx1]; exact HUS.out _ _ HU8.out
  have HX1 := Lib.hid hx1
  have HX2 := Lib.hid hx2
  have HB2 := Lib.hid hb2
  have HSZ := Lib.hid hsz
  have HRN : Hid (Rd w2 W0.heap.size 62 A8 n8 xs8) := Lib.hid (Rd.below HRD.out (HB0.out.trans (hb2.mono HB0.out.size)))
  have HNL : Hid (∀ u ∈ xs8, u.oneCell' = true) := Lib.hid (ces_one _ _ HAT.out)
  have HNI : Hid (w2.ownsRow w2.heap.size 51 62 (.slice none 0 0) 0 []) := Lib.hid ⟨by simp, .inl ⟨rfl, rfl⟩⟩
  clear hx1 hx2 hb2 hsz
  go_wp2_with (at_builtin; refine wpList_append_rd _ rfl _ _ 28 rfl w2.heap.size 51 ie (.agg zs8) 62 _ Tryd.underlying28 HIE.out HIZ.out HIS.out HIB.out HZS.out (by decide) _ 0 [] rfl HNI.out _ n8 c8 W0.heap.size xs8 rfl HRN.out HNL.out (by simp only [maxLen]; omega) (by rw [Nat.zero_add]; exact Nat.le_trans HN8.out.2 (by decide)) (Nat.le_refl _) ?_)
  intro vc w3 hown3 hgrow3
  have hb3 : Below w2.heap.size w2 w3 := (Below.refl _ w2).grown hgrow3 (Nat.le_refl _) (fun g hg => by cases hg)
  have HB3 := Lib.hid (HB2.out.trans (hb3.mono HB2.out.size))
  have HX3 := Lib.hid ((hb3.block w.heap.size (by rw [HSZ.out]; omega)).trans HX1.out)
  have HX4 := Lib.hid ((hb3.block (w.heap.size + 1) (by rw [HSZ.out]; omega)).trans HX2.out)
  have HW3 : Hid (w3.ownsRow (w.heap.size + 2) 51 62 vc n8 xs8) := Lib.hid (by rw [← HSZ.out]; exact hown3)
  clear hgrow3 hb3 hown3 d8 HNI HNL HRN HX1 HX2 HB2 HSZ
  obtain ⟨g, cap, hvc⟩ : ∃ g cap, vc = .slice (some ⟨g, 0, none⟩) n8 cap := by
    rcases HW3.out.2 with ⟨_, h0⟩ | ⟨g, cap, cur, hv, _⟩
    · omega
    · exact ⟨g, cap, hv⟩
  subst hvc
  have y1 : (0 : Int) < (n8 : Int) := by omega
  have y2 : decide ((0 : Int) < (n8 : Int)) = true := decide_eq_true y1
  have y3 : decide (0 < n8) = true := decide_eq_true hpos
  go_upto_region 6 with fail
  obtain ⟨q, hq⟩ : ∃ q : Int, (bits BinOp.and IntKind.i64 (which / 16) 255).tmod (n8 : Int) = q := ⟨_, rfl⟩
  rw [hq]
  obtain ⟨i, rfl, hin⟩ : ∃ i : Nat, q = (i : Int) ∧ i < n8 := by
    have hm := mask_in (which / 16) 255 (by decide)
    have hm1 : 0 ≤ bits BinOp.and IntKind.i64 (which / 16) 255 := hm.1
    rw [Int.tmod_eq_emod_of_nonneg hm1] at hq
    have h1 := Int.emod_nonneg (bits BinOp.and IntKind.i64 (which / 16) 255) (show (n8 : Int) ≠ 0 by omega)
    have h2 := Int.emod_lt_of_pos (bits BinOp.and IntKind.i64 (which / 16) 255) (show (0 : Int) < (n8 : Int) by omega)
    exact ⟨q.toNat, by omega, by omega⟩
  clear hq
  have j1 : (0 : Int) ≤ (i : Int) := by omega
  have j2 : (i : Int) < (n8 : Int) := by omega
  have hpl : i * 62 + 15 < n8 * 62 := by
    have : (i + 1) * 62 ≤ n8 * 62 := Nat.mul_le_mul_right _ hin
    omega
  have hqt : ((List.replicate n8 qCell).flatten)[i * 62 + 15]? = some .i := rep_at (e := qCell) hin (by rw [q_len]; decide) rfl
  obtain ⟨x, hex, hxx, HXR⟩ := get_i HOK.out HAT.out (i * 62 + 15) hqt
  obtain ⟨hcell, hfz, hgb, hgl⟩ := own_cell HW3.out (i * 62 + 15) _ hxx
  have HEX := Lib.hid hex
  have HQT := Lib.hid hqt
  have HXR' := Lib.hid HXR
  have HGB : Hid (w.heap.size + 2 ≤ g) := Lib.hid hgb
  have HPL := Lib.hid hpl
  clear hex hqt hxx HXR
  go_upto_region 28 with fail
  obtain ⟨y, hy⟩ : ∃ y, bits BinOp.xor IntKind.i64 x by' = y := ⟨_, rfl⟩
  rw [hy]
  have HW4 := Lib.hid (own_set HW3.out (i * 62 + 15) HPL.out (.int .i64 y))
  have HX5 : Hid ((w3.setCell ⟨g, i * 62 + 15, none⟩ (.int .i64 y)).heap[w.heap.size]? = some (.cells vs 34 (0, 0))) := Lib.hid (by rw [heap_setCell_other _ _ _ _ (by show w.heap.size ≠ g; have := HGB.out; omega)]; exact HX3.out)
  have HX6 : Hid ((w3.setCell ⟨g, i * 62 + 15, none⟩ (.int .i64 y)).heap[w.heap.size + 1]? = some (.cells zMv 34 (0, 0))) := Lib.hid (by rw [heap_setCell_other _ _ _ _ (by show w.heap.size + 1 ≠ g; have := HGB.out; omega)]; exact HX4.out)
  have HB4 : Hid (Below w.heap.size w (w3.setCell ⟨g, i * 62 + 15, none⟩ (.int .i64 y))) := Lib.hid (HB3.out.setCell (p := ⟨g, i * 62 + 15, none⟩) (by show w.heap.size ≤ g; have := HGB.out; omega) _)
  have HD : Hid ((-9223372036854775808 ≤ y ∧ y ≤ 9223372036854775807) ∧ (by' = 0 → y = x) ∧ (by' ≠ 0 → y ≠ x)) := Lib.hid (by
    rw [← hy]
    exact ⟨xor_in _ _, fun h => by rw [h]; exact xor_zero _ HXR'.out, xor_other _ _ HBY.out⟩)
  clear hy hcell hfz hgb hgl hpl
  generalize w3.setCell ⟨g, i * 62 + 15, none⟩ (.int .i64 y) = w4 at *
  have dm : w4.cell? ⟨w.heap.size, 8, none⟩ = some (.slice A8 n8 c8) := by rw [cell_of_row _ _ _ _ _ _ HX5.out]; exact HUS.out _ _ HU8.out
  have fm : w4.frozen? ⟨w.heap.size, 8, none⟩ = false := frozen_of_row _ _ _ _ _ HX5.out
  clear HX3 HX4 HB3 HW3
  go_upto_region 45 with fail
  obtain ⟨vm, hvm⟩ : ∃ v, v = vs.setIfInBounds 8 (.slice (some ⟨g, 0, none⟩) n8 cap) := ⟨_, rfl⟩
  have hx7 := heap_setCell_same w4 w.heap.size 8 vs _ (.slice (some ⟨g, 0, none⟩) n8 cap) HX5.out
  rw [← hvm] at hx7
  have HX7 := Lib.hid hx7
  have HX8 : Hid ((w4.setCell ⟨w.heap.size, 8, none⟩ (.slice (some ⟨g, 0, none⟩) n8 cap)).heap[w.heap.size + 1]? = some (.cells zMv 34 (0, 0))) := Lib.hid (by rw [heap_setCell_other _ _ _ _ (by show w.heap.size + 1 ≠ w.heap.size; omega)]; exact HX6.out)
  have HB5 : Hid (Below w.heap.size w (w4.setCell ⟨w.heap.size, 8, none⟩ (.slice (some ⟨g, 0, none⟩) n8 cap))) := Lib.hid (HB4.out.setCell (p := ⟨w.heap.size, 8, none⟩) (Nat.le_refl _) _)
  have HW5 := Lib.hid (own_setOther (p := ⟨w.heap.size, 8, none⟩) (u := .slice (some ⟨g, 0, none⟩) n8 cap) HW4.out (by show w.heap.size < w.heap.size + 2; omega))
  clear hx7 dm fm HX5 HX6 HB4 HW4
  generalize w4.setCell ⟨w.heap.size, 8, none⟩ (.slice (some ⟨g, 0, none⟩) n8 cap) = w5 at *
  have HV16 : Hid (vm.size = 16) := Lib.hid (by rw [hvm, Array.size_setIfInBounds, HVS.out])
  have HVO : Hid (vm.all (·.oneCell') = true) := Lib.hid (by
    rw [hvm, ← Array.toArray_toList (xs := vs.setIfInBounds 8 _), Array.toList_setIfInBounds]
    refine all_oneCell_toArray fun u hu => ?_
    rcases List.mem_or_eq_of_mem_set hu with hu | hu
    · exact Array.all_eq_true_iff_forall_mem.1 HV1.out u (by simpa using hu)
    · rw [hu]; rfl)
  have HS : Hid ((Tryd.prog.info? 34).map (·.size) = some vm.size) := Lib.hid (by rw [HV16.out]; exact sz_Machine)
  have HSZ0 : Hid (zMv.size = vm.size) := Lib.hid (by rw [HV16.out]; rfl)
  have HFX := Lib.hid (setRow_heap _ _ _ vm _ _ HX8.out)
  have HFB := Lib.hid (below_setRow HB5.out (Nat.le_succ w.heap.size) vm)
  have HTQ : Hid (TurnQ cs by' w (.returned (.agg vm)) (w5.setRow (w.heap.size + 1) vm)) := Lib.hid (by
    have hbz : Below W0.heap.size W0 (w5.setRow (w.heap.size + 1) vm) := HB0.out.trans (HFB.out.mono HB0.out.size)
    have hl := list_turn (nb := Tryd.prog.bytesOf 51) (q := qCell) (d' := .i y) hbz HAT.out HOK.out HN8.out (own_setRow (g := w.heap.size + 1) (cs := vm) HW5.out (by omega)) (by unfold Ce.At; rfl) ⟨_, HQT.out, by unfold Ce.Ok; exact HD.out.1⟩
    have hbk := Ce.bulks_set (c := .i y) e8 (i * 62 + 15) HEX.out
    rw [hvm]
    rw [hvm] at hl
    refine turnq_of HH.out.ok HH.out.at' HB0.out (by rw [← hvm]; exact HFB.out) hc8 hl.1 ⟨_, rfl, hl.2⟩ ?_ ?_ ?_
    · simp only [Ce.bulk] at hbk ⊢
      omega
    · intro hb
      rw [HD.out.2.1 hb]
      congr 1
      exact set_same HEX.out
    · intro hb he
      injection he with _ he
      exact set_other HEX.out (fun h => HD.out.2.2 hb (by injection h)) he)
  clear hvm
  go_wp2_with (first | refine wpList_load_row rfl 34 _ rfl w.heap.size rfl 34 vm (0, 0) _ HX7.out Tryd.underlying34 rfl HS.out ?_ | refine wpList_store_row rfl 34 _ _ rfl (w.heap.size + 1) vm rfl rfl 34 zMv HX8.out HS.out HSZ0.out HVO.out ?_)
  (try simp only [Exit.inBlock, Exit.then])
  exact bodyPost_ret (v := .agg vm) (results_cell_row rfl _ _ (w.heap.size + 1) 34 _ (0, 0) _ rfl HFX.out Tryd.underlying34 rfl HS.out) rfl HTQ.out
set_option maxRecDepth 100000 in
set_option maxHeartbeats 16000000 in
theorem turned_c7 {W0 w : World} {cs : List Ce} {vs : Array Value} (h : MIn W0 cs vs) (hb0 : Below W0.heap.size W0 w) (which by' : Int) (hby : -9223372036854775808 ≤ by' ∧ by' ≤ 9223372036854775807) {n8 : Nat} {e8 : List Ce} (hc8 : cs[8]? = some (.l n8 e8)) (hpos : 0 < n8) (hk : bits BinOp.and IntKind.i64 which 15 = 7) :
    Calls Tryd.prog 10 #[.agg vs, .int .i64 which, .int .i64 by'] w fun e w' => TurnQ cs by' w e w' := by
  have hvs := mach_size h.ok h.at'
  have hv1 := mach_one h.at'
  obtain ⟨n8', e8', A8, c8, xs8, k8', g1, hu8, hcap8, hrd8, hat8, hn8, hok8⟩ := get_l h.ok h.at' 8 _ _ rfl
  rw [hc8] at g1
  injection g1 with g1
  injection g1 with g1 g1'
  subst g1 g1'
  have HH := Lib.hid h
  have HB0 := Lib.hid hb0
  obtain ⟨ie, zs8, hie, hiz, his, hib, hzs, _⟩ := zero_row zr_Cell (by decide)
  have HIE := Lib.hid hie
  have HIZ := Lib.hid hiz
  have HIS := Lib.hid his
  have HIB := Lib.hid hib
  have HZS := Lib.hid hzs
  clear hie hiz his hib hzs
  have hk62 : k8' = 62 ∨ n8 = 0 := by
    have e1 := hrd8.1
    have e2 := Ce.ats_length _ _ hat8
    have e3 := Ce.oks_length _ _ hok8
    rw [List.length_flatten] at e3
    simp [q_len] at e3
    rw [e2, e3] at e1
    rcases Nat.eq_zero_or_pos n8 with h | h
    · exact .inr h
    · exact .inl (Nat.eq_of_mul_eq_mul_left h e1.symm)
  have hrd : Rd W0 W0.heap.size 62 A8 n8 xs8 := by
    rcases hk62 with rfl | rfl
    · exact hrd8
    · have e1 := hrd8.1
      exact ⟨by rw [e1]; simp, fun h => absurd h (Nat.lt_irrefl _)⟩
  have hx1 := heap_alloc2_old w (.cells vs 34) (.cells zMv 34)
  have hx2 := heap_alloc2_new w (.cells vs 34) (.cells zMv 34)
  have hb2 : Below w.heap.size w ((w.alloc (.cells vs 34)).alloc (.cells zMv 34)) := ((Below.refl _ _).alloc (Nat.le_refl _) _).alloc (by simp) _
  have hsz : ((w.alloc (.cells vs 34)).alloc (.cells zMv 34)).heap.size = w.heap.size + 2 := by simp
  have HRD := Lib.hid hrd
  have HAT := Lib.hid hat8
  have HOK := Lib.hid hok8
  have HN8 := Lib.hid hn8
  have HVS := Lib.hid hvs
  have HV1 := Lib.hid hv1
  have HUS : Hid (∀ (j : Nat) (v : Value), vs.toList[j]? = some v → vs[j]? = some v) := Lib.hid (fun j v hv => by rw [← Array.getElem?_toList]; exact hv)
  have HU8 := Lib.hid hu8
  have HBY := Lib.hid hby
  have hn8' := hn8.1
  clear h hb0 hk62 hrd8 hrd hat8 hok8 hn8 hvs hv1 hu8 hcap8 hby
  go_enter Tryd.func10, Tryd.ntmps10
  go_upto_region 1 with (refine wpList_alloc_row rfl 34 rfl zMv zr_mach ?_)
  generalize (w.alloc (.cells vs 34)).alloc (.cells zMv 34) = w2 at *
  have d8 : w2.cell? ⟨w.heap.size, 8, none⟩ = some (.slice A8 n8 c8) := by rw [cell_of_row _ _ _ _ _ _ hx1]; exact HUS.out _ _ HU8.out
  have HX1 := Lib.hid hx1
  have HX2 := Lib.hid hx2
  have HB2 := Lib.hid hb2
  have HSZ := Lib.hid hsz
  have HRN : Hid (Rd w2 W0.heap.size 62 A8 n8 xs8) := Lib.hid (Rd.below HRD.out (HB0.out.trans (hb2.mono HB0.out.size)))
  have HNL : Hid (∀ u ∈ xs8, u.oneCell' = true) := Lib.hid (ces_one _ _ HAT.out)
  have HNI : Hid (w2.ownsRow w2.heap.size 51 62 (.slice none 0 0) 0 []) := Lib.hid ⟨by simp, .inl ⟨rfl, rfl⟩⟩
  clear hx1 hx2 hb2 hsz
  go_wp2_with (at_builtin; refine wpList_append_rd _ rfl _ _ 28 rfl w2.heap.size 51 ie (.agg zs8) 62 _ Tryd.underlying28 HIE.out HIZ.out HIS.out HIB.out HZS.out (by decide) _ 0 [] rfl HNI.out _ n8 c8 W0.heap.size xs8 rfl HRN.out HNL.out (by simp only [maxLen]; omega) (by rw [Nat.zero_add]; exact Nat.le_trans HN8.out.2 (by decide)) (Nat.le_refl _) ?_)
  intro vc w3 hown3 hgrow3
  have hb3 : Below w2.heap.size w2 w3 := (Below.refl _ w2).grown hgrow3 (Nat.le_refl _) (fun g hg => by cases hg)
  have HB3 := Lib.hid (HB2.out.trans (hb3.mono HB2.out.size))
  have HX3 := Lib.hid ((hb3.block w.heap.size (by rw [HSZ.out]; omega)).trans HX1.out)
  have HX4 := Lib.hid ((hb3.block (w.heap.size + 1) (by rw [HSZ.out]; omega)).trans HX2.out)
  have HW3 : Hid (w3.ownsRow (w.heap.size + 2) 51 62 vc n8 xs8) := Lib.hid (by rw [← HSZ.out]; exact hown3)
  clear hgrow3 hb3 hown3 d8 HNI HNL HRN HX1 HX2 HB2 HSZ
  obtain ⟨g, cap, hvc⟩ : ∃ g cap, vc = .slice (some ⟨g, 0, none⟩) n8 cap := by
    rcases HW3.out.2 with ⟨_, h0⟩ | ⟨g, cap, cur, hv, _⟩
    · omega
    · exact ⟨g, cap, hv⟩
  subst hvc
  have y1 : (0 : Int) < (n8 : Int) := by omega
  have y2 : decide ((0 : Int) < (n8 : Int)) = true := decide_eq_true y1
  have y3 : decide (0 < n8) = true := decide_eq_true hpos
  go_upto_region 6 with fail
  obtain ⟨q, hq⟩ : ∃ q : Int, (bits BinOp.and IntKind.i64 (which / 16) 255).tmod (n8 : Int) = q := ⟨_, rfl⟩
  rw [hq]
  obtain ⟨i, rfl, hin⟩ : ∃ i : Nat, q = (i : Int) ∧ i < n8 := by
    have hm := mask_in (which / 16) 255 (by decide)
    have hm1 : 0 ≤ bits BinOp.and IntKind.i64 (which / 16) 255 := hm.1
    rw [Int.tmod_eq_emod_of_nonneg hm1] at hq
    have h1 := Int.emod_nonneg (bits BinOp.and IntKind.i64 (which / 16) 255) (show (n8 : Int) ≠ 0 by omega)
    have h2 := Int.emod_lt_of_pos (bits BinOp.and IntKind.i64 (which / 16) 255) (show (0 : Int) < (n8 : Int) by omega)
    exact ⟨q.toNat, by omega, by omega⟩
  clear hq
  have j1 : (0 : Int) ≤ (i : Int) := by omega
  have j2 : (i : Int) < (n8 : Int) := by omega
  have hpl : i * 62 + 61 < n8 * 62 := by
    have : (i + 1) * 62 ≤ n8 * 62 := Nat.mul_le_mul_right _ hin
    omega
  have hqt : ((List.replicate n8 qCell).flatten)[i * 62 + 61]? = some .i := rep_at (e := qCell) hin (by rw [q_len]; decide) rfl
  obtain ⟨x, hex, hxx, HXR⟩ := get_i HOK.out HAT.out (i * 62 + 61) hqt
  obtain ⟨hcell, hfz, hgb, hgl⟩ := own_cell HW3.out (i * 62 + 61) _ hxx
  have HEX := Lib.hid hex
  have HQT := Lib.hid hqt
  have HXR' := Lib.hid HXR
  have HGB : Hid (w.heap.size + 2 ≤ g) := Lib.hid hgb
  have HPL := Lib.hid hpl
  clear hex hqt hxx HXR
  go_upto_region 28 with fail
  obtain ⟨y, hy⟩ : ∃ y, bits BinOp.xor IntKind.i64 x by' = y := ⟨_, rfl⟩
  rw [hy]
  have HW4 := Lib.hid (own_set HW3.out (i * 62 + 61) HPL.out (.int .i64 y))
  have HX5 : Hid ((w3.setCell ⟨g, i * 62 + 61, none⟩ (.int .i64 y)).heap[w.heap.size]? = some (.cells vs 34 (0, 0))) := Lib.hid (by rw [heap_setCell_other _ _ _ _ (by show w.heap.size ≠ g; have := HGB.out; omega)]; exact HX3.out)
  have HX6 : Hid ((w3.setCell ⟨g, i * 62 + 61, none⟩ (.int .i64 y)).heap[w.heap.size + 1]? = some (.cells zMv 34 (0, 0))) := Lib.hid (by rw [heap_setCell_other _ _ _ _ (by show w.heap.size + 1 ≠ g; have := HGB.out; omega)]; exact HX4.out)
  have HB4 : Hid (Below w.heap.size w (w3.setCell ⟨g, i * 62 + 61, none⟩ (.int .i64 y))) := Lib.hid (HB3.out.setCell (p := ⟨g, i * 62 + 61, none⟩) (by show w.heap.size ≤ g; have := HGB.out; omega) _)
  have HD : Hid ((-9223372036854775808 ≤ y ∧ y ≤ 9223372036854775807) ∧ (by' = 0 → y = x) ∧ (by' ≠ 0 → y ≠ x)) := Lib.hid (by
    rw [← hy]
    exact ⟨xor_in _ _, fun h => by rw [h]; exact xor_zero _ HXR'.out, xor_other _ _ HBY.out⟩)
  clear hy hcell hfz hgb hgl hpl
  generalize w3.setCell ⟨g, i * 62 + 61, none⟩ (.int .i64 y) = w4 at *
  have dm : w4.cell? ⟨w.heap.size, 8, none⟩ = some (.slice A8 n8 c8) := by rw [cell_of_row _ _ _ _ _ _ HX5.out]; exact HUS.out _ _ HU8.out
  have fm : w4.frozen? ⟨w.heap.size, 8, none⟩ = false := frozen_of_row _ _ _ _ _ HX5.out
  clear HX3 HX4 HB3 HW3
  go_upto_region 45 with fail
  obtain ⟨vm, hvm⟩ : ∃ v, v = vs.setIfInBounds 8 (.slice (some ⟨g, 0, none⟩) n8 cap) := ⟨_, rfl⟩
  have hx7 := heap_setCell_same w4 w.heap.size 8 vs _ (.slice (some ⟨g, 0, none⟩) n8 cap) HX5.out
  rw [← hvm] at hx7
  have HX7 := Lib.hid hx7
  have HX8 : Hid ((w4.setCell ⟨w.heap.size, 8, none⟩ (.slice (some ⟨g, 0, none⟩) n8 cap)).heap[w.heap.size + 1]? = some (.cells zMv 34 (0, 0))) := Lib.hid (by rw [heap_setCell_other _ _ _ _ (by show w.heap.size + 1 ≠ w.heap.size; omega)]; exact HX6.out)
  have HB5 : Hid (Below w.heap.size w (w4.setCell ⟨w.heap.size, 8, none⟩ (.slice (some ⟨g, 0, none⟩) n8 cap))) := Lib.hid (HB4.out.setCell (p := ⟨w.heap.size, 8, none⟩) (Nat.le_refl _) _)
  have HW5 := Lib.hid (own_setOther (p := ⟨w.heap.size, 8, none⟩) (u := .slice (some ⟨g, 0, none⟩) n8 cap) HW4.out (by show w.heap.size < w.heap.size + 2; omega))
  clear hx7 dm fm HX5 HX6 HB4 HW4
  generalize w4.setCell ⟨w.heap.size, 8, none⟩ (.slice (some ⟨g, 0, none⟩) n8 cap) = w5 at *
  have HV16 : Hid (vm.size = 16) := Lib.hid (by rw [hvm, Array.size_setIfInBounds, HVS.out])
  have HVO : Hid (vm.all (·.oneCell') = true) := Lib.hid (by
    rw [hvm, ← Array.toArray_toList (xs := vs.setIfInBounds 8 _), Array.toList_setIfInBounds]
    refine all_oneCell_toArray fun u hu => ?_
    rcases List.mem_or_eq_of_mem_set hu with hu | hu
    · exact Array.all_eq_true_iff_forall_mem.1 HV1.out u (by simpa using hu)
    · rw [hu]; rfl)
  have HS : Hid ((Tryd.prog.info? 34).map (·.size) = some vm.size) := Lib.hid (by rw [HV16.out]; exact sz_Machine)
  have HSZ0 : Hid (zMv.size = vm.size) := Lib.hid (by rw [HV16.out]; rfl)
  have HFX := Lib.hid (setRow_heap _ _ _ vm _ _ HX8.out)
  have HFB := Lib.hid (below_setRow HB5.out (Nat.le_succ w.heap.size) vm)
  have HTQ : Hid (TurnQ cs by' w (.returned (.agg vm)) (w5.setRow (w.heap.size + 1) vm)) := Lib.hid (by
    have hbz : Below W0.heap.size W0 (w5.setRow (w.heap.size + 1) vm) := HB0.out.trans (HFB.out.mono HB0.out.size)
    have hl := list_turn (nb := Tryd.prog.bytesOf 51) (q := qCell) (d' := .i y) hbz HAT.out HOK.out HN8.out (own_setRow (g := w.heap.size + 1) (cs := vm) HW5.out (by omega)) (by unfold Ce.At; rfl) ⟨_, HQT.out, by unfold Ce.Ok; exact HD.out.1⟩
    have hbk := Ce.bulks_set (c := .i y) e8 (i * 62 + 61) HEX.out
    rw [hvm]
    rw [hvm] at hl
    refine turnq_of HH.out.ok HH.out.at' HB0.out (by rw [← hvm]; exact HFB.out) hc8 hl.1 ⟨_, rfl, hl.2⟩ ?_ ?_ ?_
    · simp only [Ce.bulk] at hbk ⊢
      omega
    · intro hb
      rw [HD.out.2.1 hb]
      congr 1
      exact set_same HEX.out
    · intro hb he
      injection he with _ he
      exact set_other HEX.out (fun h => HD.out.2.2 hb (by injection h)) he)
  clear hvm
  go_wp2_with (first | refine wpList_load_row rfl 34 _ rfl w.heap.size rfl 34 vm (0, 0) _ HX7.out Tryd.underlying34 rfl HS.out ?_ | refine wpList_store_row rfl 34 _ _ rfl (w.heap.size + 1) vm rfl rfl 34 zMv HX8.out HS.out HSZ0.out HVO.out ?_)
  (try simp only [Exit.inBlock, Exit.then])
  exact bodyPost_ret (v := .agg vm) (results_cell_row rfl _ _ (w.heap.size + 1) 34 _ (0, 0) _ rfl HFX.out Tryd.underlying34 rfl HS.out) rfl HTQ.out
set_option maxRecDepth 100000 in
set_option maxHeartbeats 16000000 in
theorem turned_c8 {W0 w : World} {cs : List Ce} {vs : Array Value} (h : MIn W0 cs vs) (hb0 : Below W0.heap.size W0 w) (which by' : Int) (hby : -9223372036854775808 ≤ by' ∧ by' ≤ 9223372036854775807) {n8 : Nat} {e8 : List Ce} (hc8 : cs[8]? = some (.l n8 e8)) (hpos : 0 < n8) (hk : bits BinOp.and IntKind.i64 which 15 = 8) :
    Calls Tryd.prog 10 #[.agg vs, .int .i64 which, .int .i64 by'] w fun e w' => TurnQ cs by' w e w' := by
  have hvs := mach_size h.ok h.at'
  have hv1 := mach_one h.at'
  obtain ⟨n8', e8', A8, c8, xs8, k8', g1, hu8, hcap8, hrd8, hat8, hn8, hok8⟩ := get_l h.ok h.at' 8 _ _ rfl
  rw [hc8] at g1
  injection g1 with g1
  injection g1 with g1 g1'
  subst g1 g1'
  have HH := Lib.hid h
  have HB0 := Lib.hid hb0
  obtain ⟨ie, zs8, hie, hiz, his, hib, hzs, _⟩ := zero_row zr_Cell (by decide)
  have HIE := Lib.hid hie
  have HIZ := Lib.hid hiz
  have HIS := Lib.hid his
  have HIB := Lib.hid hib
  have HZS := Lib.hid hzs
  clear hie hiz his hib hzs
  have hk62 : k8' = 62 ∨ n8 = 0 := by
    have e1 := hrd8.1
    have e2 := Ce.ats_length _ _ hat8
    have e3 := Ce.oks_length _ _ hok8
    rw [List.length_flatten] at e3
    simp [q_len] at e3
    rw [e2, e3] at e1
    rcases Nat.eq_zero_or_pos n8 with h | h
    · exact .inr h
    · exact .inl (Nat.eq_of_mul_eq_mul_left h e1.symm)
  have hrd : Rd W0 W0.heap.size 62 A8 n8 xs8 := by
    rcases hk62 with rfl | rfl
    · exact hrd8
    · have e1 := hrd8.1
      exact ⟨by rw [e1]; simp, fun h => absurd h (Nat.lt_irrefl _)⟩
  have hx1 := heap_alloc2_old w (.cells vs 34) (.cells zMv 34)
  have hx2 := heap_alloc2_new w (.cells vs 34) (.cells zMv 34)
  have hb2 : Below w.heap.size w ((w.alloc (.cells vs 34)).alloc (.cells zMv 34)) := ((Below.refl _ _).alloc (Nat.le_refl _) _).alloc (by simp) _
  have hsz : ((w.alloc (.cells vs 34)).alloc (.cells zMv 34)).heap.size = w.heap.size + 2 := by simp
  have HRD := Lib.hid hrd
  have HAT := Lib.hid hat8
  have HOK := Lib.hid hok8
  have HN8 := Lib.hid hn8
  have HVS := Lib.hid hvs
  have HV1 := Lib.hid hv1
  have HUS : Hid (∀ (j : Nat) (v : Value), vs.toList[j]? = some v → vs[j]? = some v) := Lib.hid (fun j v hv => by rw [← Array.getElem?_toList]; exact hv)
  have HU8 := Lib.hid hu8
  have HBY := Lib.hid hby
  have hn8' := hn8.1
  clear h hb0 hk62 hrd8 hrd hat8 hok8 hn8 hvs hv1 hu8 hcap8 hby
  go_enter Tryd.func10, Tryd.ntmps10
  go_upto_region 1 with (refine wpList_alloc_row rfl 34 rfl zMv zr_mach ?_)
  generalize (w.alloc (.cells vs 34)).alloc (.cells zMv 34) = w2 at *
  have d8 : w2.cell? ⟨w.heap.size, 8, none⟩ = some (.slice A8 n8 c8) := by rw [cell_of_row _ _ _ _ _ _ hx1]; exact HUS.out _ _ HU8.out
  have HX1 := Lib.hid hx1
  have HX2 := Lib.hid hx2
  have HB2 := Lib.hid hb2
  have HSZ := Lib.hid hsz
  have HRN : Hid (Rd w2 W0.heap.size 62 A8 n8 xs8) := Lib.hid (Rd.below HRD.out (HB0.out.trans (hb2.mono HB0.out.size)))
  have HNL : Hid (∀ u ∈ xs8, u.oneCell' = true) := Lib.hid (ces_one _ _ HAT.out)
  have HNI : Hid (w2.ownsRow w2.heap.size 51 62 (.slice none 0 0) 0 []) := Lib.hid ⟨by simp, .inl ⟨rfl, rfl⟩⟩
  clear hx1 hx2 hb2 hsz
  go_wp2_with (at_builtin; refine wpList_append_rd _ rfl _ _ 28 rfl w2.heap.size 51 ie (.agg zs8) 62 _ Tryd.underlying28 HIE.out HIZ.out HIS.out HIB.out HZS.out (by decide) _ 0 [] rfl HNI.out _ n8 c8 W0.heap.size xs8 rfl HRN.out HNL.out (by simp only [maxLen]; omega) (by rw [Nat.zero_add]; exact Nat.le_trans HN8.out.2 (by decide)) (Nat.le_refl _) ?_)
  intro vc w3 hown3 hgrow3
  have hb3 : Below w2.heap.size w2 w3 := (Below.refl _ w2).grown hgrow3 (Nat.le_refl _) (fun g hg => by cases hg)
  have HB3 := Lib.hid (HB2.out.trans (hb3.mono HB2.out.size))
  have HX3 := Lib.hid ((hb3.block w.heap.size (by rw [HSZ.out]; omega)).trans HX1.out)
  have HX4 := Lib.hid ((hb3.block (w.heap.size + 1) (by rw [HSZ.out]; omega)).trans HX2.out)
  have HW3 : Hid (w3.ownsRow (w.heap.size + 2) 51 62 vc n8 xs8) := Lib.hid (by rw [← HSZ.out]; exact hown3)
  clear hgrow3 hb3 hown3 d8 HNI HNL HRN HX1 HX2 HB2 HSZ
  obtain ⟨g, cap, hvc⟩ : ∃ g cap, vc = .slice (some ⟨g, 0, none⟩) n8 cap := by
    rcases HW3.out.2 with ⟨_, h0⟩ | ⟨g, cap, cur, hv, _⟩
    · omega
    · exact ⟨g, cap, hv⟩
  subst hvc
  have y1 : (0 : Int) < (n8 : Int) := by omega
  have y2 : decide ((0 : Int) < (n8 : Int)) = true := decide_eq_true y1
  have y3 : decide (0 < n8) = true := decide_eq_true hpos
  go_upto_region 6 with fail
  obtain ⟨q, hq⟩ : ∃ q : Int, (bits BinOp.and IntKind.i64 (which / 16) 255).tmod (n8 : Int) = q := ⟨_, rfl⟩
  rw [hq]
  obtain ⟨i, rfl, hin⟩ : ∃ i : Nat, q = (i : Int) ∧ i < n8 := by
    have hm := mask_in (which / 16) 255 (by decide)
    have hm1 : 0 ≤ bits BinOp.and IntKind.i64 (which / 16) 255 := hm.1
    rw [Int.tmod_eq_emod_of_nonneg hm1] at hq
    have h1 := Int.emod_nonneg (bits BinOp.and IntKind.i64 (which / 16) 255) (show (n8 : Int) ≠ 0 by omega)
    have h2 := Int.emod_lt_of_pos (bits BinOp.and IntKind.i64 (which / 16) 255) (show (0 : Int) < (n8 : Int) by omega)
    exact ⟨q.toNat, by omega, by omega⟩
  clear hq
  have j1 : (0 : Int) ≤ (i : Int) := by omega
  have j2 : (i : Int) < (n8 : Int) := by omega
  have hpl : i * 62 + 53 < n8 * 62 := by
    have : (i + 1) * 62 ≤ n8 * 62 := Nat.mul_le_mul_right _ hin
    omega
  have hqt : ((List.replicate n8 qCell).flatten)[i * 62 + 53]? = some .b := rep_at (e := qCell) hin (by rw [q_len]; decide) rfl
  obtain ⟨x, hex, hxx, HXR⟩ := get_b HOK.out HAT.out (i * 62 + 53) hqt
  obtain ⟨hcell, hfz, hgb, hgl⟩ := own_cell HW3.out (i * 62 + 53) _ hxx
  have HEX := Lib.hid hex
  have HQT := Lib.hid hqt
  have HXR' := Lib.hid HXR
  have HGB : Hid (w.heap.size + 2 ≤ g) := Lib.hid hgb
  have HPL := Lib.hid hpl
  clear hex hqt hxx HXR
  go_upto_region 28 with fail
  obtain ⟨y, hy⟩ : ∃ y, (!(x == (by' != 0))) = y := ⟨_, rfl⟩
  rw [hy]
  have HW4 := Lib.hid (own_set HW3.out (i * 62 + 53) HPL.out (.bool y))
  have HX5 : Hid ((w3.setCell ⟨g, i * 62 + 53, none⟩ (.bool y)).heap[w.heap.size]? = some (.cells vs 34 (0, 0))) := Lib.hid (by rw [heap_setCell_other _ _ _ _ (by show w.heap.size ≠ g; have := HGB.out; omega)]; exact HX3.out)
  have HX6 : Hid ((w3.setCell ⟨g, i * 62 + 53, none⟩ (.bool y)).heap[w.heap.size + 1]? = some (.cells zMv 34 (0, 0))) := Lib.hid (by rw [heap_setCell_other _ _ _ _ (by show w.heap.size + 1 ≠ g; have := HGB.out; omega)]; exact HX4.out)
  have HB4 : Hid (Below w.heap.size w (w3.setCell ⟨g, i * 62 + 53, none⟩ (.bool y))) := Lib.hid (HB3.out.setCell (p := ⟨g, i * 62 + 53, none⟩) (by show w.heap.size ≤ g; have := HGB.out; omega) _)
  have HD : Hid ((True) ∧ (by' = 0 → y = x) ∧ (by' ≠ 0 → y ≠ x)) := Lib.hid (by
    rw [← hy]
    exact ⟨trivial, fun h => by subst h; simp, fun h => by cases x <;> simp [h]⟩)
  clear hy hcell hfz hgb hgl hpl
  generalize w3.setCell ⟨g, i * 62 + 53, none⟩ (.bool y) = w4 at *
  have dm : w4.cell? ⟨w.heap.size, 8, none⟩ = some (.slice A8 n8 c8) := by rw [cell_of_row _ _ _ _ _ _ HX5.out]; exact HUS.out _ _ HU8.out
  have fm : w4.frozen? ⟨w.heap.size, 8, none⟩ = false := frozen_of_row _ _ _ _ _ HX5.out
  clear HX3 HX4 HB3 HW3
  go_upto_region 45 with fail
  obtain ⟨vm, hvm⟩ : ∃ v, v = vs.setIfInBounds 8 (.slice (some ⟨g, 0, none⟩) n8 cap) := ⟨_, rfl⟩
  have hx7 := heap_setCell_same w4 w.heap.size 8 vs _ (.slice (some ⟨g, 0, none⟩) n8 cap) HX5.out
  rw [← hvm] at hx7
  have HX7 := Lib.hid hx7
  have HX8 : Hid ((w4.setCell ⟨w.heap.size, 8, none⟩ (.slice (some ⟨g, 0, none⟩) n8 cap)).heap[w.heap.size + 1]? = some (.cells zMv 34 (0, 0))) := Lib.hid (by rw [heap_setCell_other _ _ _ _ (by show w.heap.size + 1 ≠ w.heap.size; omega)]; exact HX6.out)
  have HB5 : Hid (Below w.heap.size w (w4.setCell ⟨w.heap.size, 8, none⟩ (.slice (some ⟨g, 0, none⟩) n8 cap))) := Lib.hid (HB4.out.setCell (p := ⟨w.heap.size, 8, none⟩) (Nat.le_refl _) _)
  have HW5 := Lib.hid (own_setOther (p := ⟨w.heap.size, 8, none⟩) (u := .slice (some ⟨g, 0, none⟩) n8 cap) HW4.out (by show w.heap.size < w.heap.size + 2; omega))
  clear hx7 dm fm HX5 HX6 HB4 HW4
  generalize w4.setCell ⟨w.heap.size, 8, none⟩ (.slice (some ⟨g, 0, none⟩) n8 cap) = w5 at *
  have HV16 : Hid (vm.size = 16) := Lib.hid (by rw [hvm, Array.size_setIfInBounds, HVS.out])
  have HVO : Hid (vm.all (·.oneCell') = true) := Lib.hid (by
    rw [hvm, ← Array.toArray_toList (xs := vs.setIfInBounds 8 _), Array.toList_setIfInBounds]
    refine all_oneCell_toArray fun u hu => ?_
    rcases List.mem_or_eq_of_mem_set hu with hu | hu
    · exact Array.all_eq_true_iff_forall_mem.1 HV1.out u (by simpa using hu)
    · rw [hu]; rfl)
  have HS : Hid ((Tryd.prog.info? 34).map (·.size) = some vm.size) := Lib.hid (by rw [HV16.out]; exact sz_Machine)
  have HSZ0 : Hid (zMv.size = vm.size) := Lib.hid (by rw [HV16.out]; rfl)
  have HFX := Lib.hid (setRow_heap _ _ _ vm _ _ HX8.out)
  have HFB := Lib.hid (below_setRow HB5.out (Nat.le_succ w.heap.size) vm)
  have HTQ : Hid (TurnQ cs by' w (.returned (.agg vm)) (w5.setRow (w.heap.size + 1) vm)) := Lib.hid (by
    have hbz : Below W0.heap.size W0 (w5.setRow (w.heap.size + 1) vm) := HB0.out.trans (HFB.out.mono HB0.out.size)
    have hl := list_turn (nb := Tryd.prog.bytesOf 51) (q := qCell) (d' := .b y) hbz HAT.out HOK.out HN8.out (own_setRow (g := w.heap.size + 1) (cs := vm) HW5.out (by omega)) (by unfold Ce.At; rfl) ⟨_, HQT.out, by unfold Ce.Ok; trivial⟩
    have hbk := Ce.bulks_set (c := .b y) e8 (i * 62 + 53) HEX.out
    rw [hvm]
    rw [hvm] at hl
    refine turnq_of HH.out.ok HH.out.at' HB0.out (by rw [← hvm]; exact HFB.out) hc8 hl.1 ⟨_, rfl, hl.2⟩ ?_ ?_ ?_
    · simp only [Ce.bulk] at hbk ⊢
      omega
    · intro hb
      rw [HD.out.2.1 hb]
      congr 1
      exact set_same HEX.out
    · intro hb he
      injection he with _ he
      exact set_other HEX.out (fun h => HD.out.2.2 hb (by injection h)) he)
  clear hvm
  go_wp2_with (first | refine wpList_load_row rfl 34 _ rfl w.heap.size rfl 34 vm (0, 0) _ HX7.out Tryd.underlying34 rfl HS.out ?_ | refine wpList_store_row rfl 34 _ _ rfl (w.heap.size + 1) vm rfl rfl 34 zMv HX8.out HS.out HSZ0.out HVO.out ?_)
  (try simp only [Exit.inBlock, Exit.then])
  exact bodyPost_ret (v := .agg vm) (results_cell_row rfl _ _ (w.heap.size + 1) 34 _ (0, 0) _ rfl HFX.out Tryd.underlying34 rfl HS.out) rfl HTQ.out

end Go.Proofs.YtkgkipohalekmaaDoor
