/-
  A machine of which one thing is turned: the program's walk, where one of a cell's is turned.
-/
import Derived.Test.YtkgkipohalekmaaDoorHg
namespace Go.Proofs.YtkgkipohalekmaaDoor
open Go.RowKit Go.Shelf
set_option maxRecDepth 100000 in
set_option maxHeartbeats 16000000 in
theorem turned_boot {W0 w : World} {cs : List Ce} {vs : Array Value} (h : MIn W0 cs vs) (hb0 : Below W0.heap.size W0 w) (which by' : Int) (hby : -9223372036854775808 ≤ by' ∧ by' ≤ 9223372036854775807) {n8 : Nat} {e8 : List Ce} (hc8 : cs[8]? = some (.l n8 e8)) (hk : bits BinOp.and IntKind.i64 which 15 = 12) :
    Calls Tryd.prog 10 #[.agg vs, .int .i64 which, .int .i64 by'] w fun e w' => TurnQ cs by' w e w' := by
  have hvs := mach_size h.ok h.at'
  have hv1 := mach_one h.at'
  obtain ⟨n8', e8', A8, c8, xs8, k8', g1, hu8, hcap8, hrd8, hat8, hn8, hok8⟩ := get_l h.ok h.at' 8 _ _ rfl
  rw [hc8] at g1
  injection g1 with g1
  injection g1 with g1 g1'
  subst g1 g1'
  have HH := Lib.hid h
  have HB0 := Lib.hid hb0
  obtain ⟨ie, zs8, hie, hiz, his, hib, hzs, _⟩ := zero_row zr_Cell (by decide)
  have HIE := Lib.hid hie
  have HIZ := Lib.hid hiz
  have HIS := Lib.hid his
  have HIB := Lib.hid hib
  have HZS := Lib.hid hzs
  clear hie hiz his hib hzs
  have hk62 : k8' = 62 ∨ n8 = 0 := by
    have e1 := hrd8.1
    have e2 := Ce.ats_length _ _ hat8
    have e3 := Ce.oks_length _ _ hok8
    rw [List.length_flatten] at e3
    simp [q_len] at e3
    rw [e2, e3] at e1
    rcases Nat.eq_zero_or_pos n8 with h | h
    · exact .inr h
    · exact .inl (Nat.eq_of_mul_eq_mul_left h e1.symm)
  have hrd : Rd W0 W0.heap.size 62 A8 n8 xs8 := by
    rcases hk62 with rfl | rfl
    · exact hrd8
    · have e1 := hrd8.1
      exact ⟨by rw [e1]; simp, fun h => absurd h (Nat.lt_irrefl _)⟩
  have hx1 := heap_alloc2_old w (.cells vs 34) (.cells zMv 34)
  have hx2 := heap_alloc2_new w (.cells vs 34) (.cells zMv 34)
  have hb2 : Below w.heap.size w ((w.alloc (.cells vs 34)).alloc (.cells zMv 34)) := ((Below.refl _ _).alloc (Nat.le_refl _) _).alloc (by simp) _
  have hsz : ((w.alloc (.cells vs 34)).alloc (.cells zMv 34)).heap.size = w.heap.size + 2 := by simp
  have HRD := Lib.hid hrd
  have HAT := Lib.hid hat8
  have HOK := Lib.hid hok8
  have HN8 := Lib.hid hn8
  have HVS := Lib.hid hvs
  have HV1 := Lib.hid hv1
  have HUS : Hid (∀ (j : Nat) (v : Value), vs.toList[j]? = some v → vs[j]? = some v) := Lib.hid (fun j v hv => by rw [← Array.getElem?_toList]; exact hv)
  have HU8 := Lib.hid hu8
  have HBY := Lib.hid hby
  have hn8' := hn8.1
  clear h hb0 hk62 hrd8 hrd hat8 hok8 hn8 hvs hv1 hu8 hcap8 hby
  go_enter Tryd.func10, Tryd.ntmps10
  go_upto_region 1 with (refine wpList_alloc_row rfl 34 rfl zMv zr_mach ?_)
  generalize (w.alloc (.cells vs 34)).alloc (.cells zMv 34) = w2 at *
  have d8 : w2.cell? ⟨w.heap.size, 8, none⟩ = some (.slice A8 n8 c8) := by rw [cell_of_row _ _ _ _ _ _ hx1]; exact HUS.out _ _ HU8.out
  have HX1 := Lib.hid hx1
  have HX2 := Lib.hid hx2
  have HB2 := Lib.hid hb2
  have HSZ := Lib.hid hsz
  have HRN : Hid (Rd w2 W0.heap.size 62 A8 n8 xs8) := Lib.hid (Rd.below HRD.out (HB0.out.trans (hb2.mono HB0.out.size)))
  have HNL : Hid (∀ u ∈ xs8, u.oneCell' = true) := Lib.hid (ces_one _ _ HAT.out)
  have HNI : Hid (w2.ownsRow w2.heap.size 51 62 (.slice none 0 0) 0 []) := Lib.hid ⟨by simp, .inl ⟨rfl, rfl⟩⟩
  clear hx1 hx2 hb2 hsz
  go_wp2_with (at_builtin; refine wpList_append_rd _ rfl _ _ 28 rfl w2.heap.size 51 ie (.agg zs8) 62 _ Tryd.underlying28 HIE.out HIZ.out HIS.out HIB.out HZS.out (by decide) _ 0 [] rfl HNI.out _ n8 c8 W0.heap.size xs8 rfl HRN.out HNL.out (by simp only [maxLen]; omega) (by rw [Nat.zero_add]; exact Nat.le_trans HN8.out.2 (by decide)) (Nat.le_refl _) ?_)
  intro vc w3 hown3 hgrow3
  have hb3 : Below w2.heap.size w2 w3 := (Below.refl _ w2).grown hgrow3 (Nat.le_refl _) (fun g hg => by cases hg)
  have HB3 := Lib.hid (HB2.out.trans (hb3.mono HB2.out.size))
  have HX3 := Lib.hid ((hb3.block w.heap.size (by rw [HSZ.out]; omega)).trans HX1.out)
  have HX4 := Lib.hid ((hb3.block (w.heap.size + 1) (by rw [HSZ.out]; omega)).trans HX2.out)
  have HW3 : Hid (w3.ownsRow (w.heap.size + 2) 51 62 vc n8 xs8) := Lib.hid (by rw [← HSZ.out]; exact hown3)
  clear hgrow3 hb3 hown3 d8 HNI HNL HRN HX1 HX2 HB2 HSZ
  obtain ⟨Ac, cc, hvc, _, _⟩ := own_rd HW3.out (Nat.le_refl _)
  subst hvc
  obtain ⟨x, hcx, hux, hxr⟩ := get_i HH.out.ok HH.out.at' 1 rfl
  have dm : w3.cell? ⟨w.heap.size, 1, none⟩ = some (.int .i64 x) := by rw [cell_of_row _ _ _ _ _ _ HX3.out]; exact HUS.out _ _ hux
  have fm : w3.frozen? ⟨w.heap.size, 1, none⟩ = false := frozen_of_row _ _ _ _ _ HX3.out
  have HCX := Lib.hid hcx
  have HXR := Lib.hid hxr
  clear hcx hux hxr
  go_upto_region 45 with fail
  obtain ⟨y, hy⟩ : ∃ y, bits BinOp.xor IntKind.i64 x by' = y := ⟨_, rfl⟩
  rw [hy]
  have HD : Hid ((-9223372036854775808 ≤ y ∧ y ≤ 9223372036854775807) ∧ (by' = 0 → y = x) ∧ (by' ≠ 0 → y ≠ x)) := Lib.hid (by
    rw [← hy]
    exact ⟨xor_in _ _, fun h => by rw [h]; exact xor_zero _ HXR.out, xor_other _ _ HBY.out⟩)
  obtain ⟨vm, hvm⟩ : ∃ v, v = vs.setIfInBounds 1 (.int .i64 y) := ⟨_, rfl⟩
  have hx7 := heap_setCell_same w3 w.heap.size 1 vs _ (.int .i64 y) HX3.out
  rw [← hvm] at hx7
  have HX7 := Lib.hid hx7
  have HX8 : Hid ((w3.setCell ⟨w.heap.size, 1, none⟩ (.int .i64 y)).heap[w.heap.size + 1]? = some (.cells zMv 34 (0, 0))) := Lib.hid (by rw [heap_setCell_other _ _ _ _ (by show w.heap.size + 1 ≠ w.heap.size; omega)]; exact HX4.out)
  have HB5 : Hid (Below w.heap.size w (w3.setCell ⟨w.heap.size, 1, none⟩ (.int .i64 y))) := Lib.hid (HB3.out.setCell (p := ⟨w.heap.size, 1, none⟩) (Nat.le_refl _) _)
  clear hx7 dm fm HX3 HX4 HB3 HW3 hy
  generalize w3.setCell ⟨w.heap.size, 1, none⟩ (.int .i64 y) = w5 at *
  have HV16 : Hid (vm.size = 16) := Lib.hid (by rw [hvm, Array.size_setIfInBounds, HVS.out])
  have HVO : Hid (vm.all (·.oneCell') = true) := Lib.hid (by
    rw [hvm, ← Array.toArray_toList (xs := vs.setIfInBounds 1 _), Array.toList_setIfInBounds]
    refine all_oneCell_toArray fun u hu => ?_
    rcases List.mem_or_eq_of_mem_set hu with hu | hu
    · exact Array.all_eq_true_iff_forall_mem.1 HV1.out u (by simpa using hu)
    · rw [hu]; rfl)
  have HS : Hid ((Tryd.prog.info? 34).map (·.size) = some vm.size) := Lib.hid (by rw [HV16.out]; exact sz_Machine)
  have HSZ0 : Hid (zMv.size = vm.size) := Lib.hid (by rw [HV16.out]; rfl)
  have HFX := Lib.hid (setRow_heap _ _ _ vm _ _ HX8.out)
  have HFB := Lib.hid (below_setRow HB5.out (Nat.le_succ w.heap.size) vm)
  have HTQ : Hid (TurnQ cs by' w (.returned (.agg vm)) (w5.setRow (w.heap.size + 1) vm)) := Lib.hid (by
    rw [hvm]
    exact turnq_of HH.out.ok HH.out.at' HB0.out (by rw [← hvm]; exact HFB.out) HCX.out (c' := .i y) (by unfold Ce.At; rfl) ⟨.i, rfl, by unfold Ce.Ok; exact HD.out.1⟩ (Nat.le_add_right _ _) (fun h => by rw [HD.out.2.1 h]) (fun h he => HD.out.2.2 h (by injection he)))
  clear hvm
  go_wp2_with (first | refine wpList_load_row rfl 34 _ rfl w.heap.size rfl 34 vm (0, 0) _ HX7.out Tryd.underlying34 rfl HS.out ?_ | refine wpList_store_row rfl 34 _ _ rfl (w.heap.size + 1) vm rfl rfl 34 zMv HX8.out HS.out HSZ0.out HVO.out ?_)
  (try simp only [Exit.inBlock, Exit.then])
  exact bodyPost_ret (v := .agg vm) (results_cell_row rfl _ _ (w.heap.size + 1) 34 _ (0, 0) _ rfl HFX.out Tryd.underlying34 rfl HS.out) rfl HTQ.out
set_option maxRecDepth 100000 in
set_option maxHeartbeats 16000000 in
theorem turned_heard {W0 w : World} {cs : List Ce} {vs : Array Value} (h : MIn W0 cs vs) (hb0 : Below W0.heap.size W0 w) (which by' : Int) (hby : -9223372036854775808 ≤ by' ∧ by' ≤ 9223372036854775807) {n8 : Nat} {e8 : List Ce} (hc8 : cs[8]? = some (.l n8 e8)) (hk : bits BinOp.and IntKind.i64 which 15 = 13) :
    Calls Tryd.prog 10 #[.agg vs, .int .i64 which, .int .i64 by'] w fun e w' => TurnQ cs by' w e w' := by
  have hvs := mach_size h.ok h.at'
  have hv1 := mach_one h.at'
  obtain ⟨n8', e8', A8, c8, xs8, k8', g1, hu8, hcap8, hrd8, hat8, hn8, hok8⟩ := get_l h.ok h.at' 8 _ _ rfl
  rw [hc8] at g1
  injection g1 with g1
  injection g1 with g1 g1'
  subst g1 g1'
  have HH := Lib.hid h
  have HB0 := Lib.hid hb0
  obtain ⟨ie, zs8, hie, hiz, his, hib, hzs, _⟩ := zero_row zr_Cell (by decide)
  have HIE := Lib.hid hie
  have HIZ := Lib.hid hiz
  have HIS := Lib.hid his
  have HIB := Lib.hid hib
  have HZS := Lib.hid hzs
  clear hie hiz his hib hzs
  have hk62 : k8' = 62 ∨ n8 = 0 := by
    have e1 := hrd8.1
    have e2 := Ce.ats_length _ _ hat8
    have e3 := Ce.oks_length _ _ hok8
    rw [List.length_flatten] at e3
    simp [q_len] at e3
    rw [e2, e3] at e1
    rcases Nat.eq_zero_or_pos n8 with h | h
    · exact .inr h
    · exact .inl (Nat.eq_of_mul_eq_mul_left h e1.symm)
  have hrd : Rd W0 W0.heap.size 62 A8 n8 xs8 := by
    rcases hk62 with rfl | rfl
    · exact hrd8
    · have e1 := hrd8.1
      exact ⟨by rw [e1]; simp, fun h => absurd h (Nat.lt_irrefl _)⟩
  have hx1 := heap_alloc2_old w (.cells vs 34) (.cells zMv 34)
  have hx2 := heap_alloc2_new w (.cells vs 34) (.cells zMv 34)
  have hb2 : Below w.heap.size w ((w.alloc (.cells vs 34)).alloc (.cells zMv 34)) := ((Below.refl _ _).alloc (Nat.le_refl _) _).alloc (by simp) _
  have hsz : ((w.alloc (.cells vs 34)).alloc (.cells zMv 34)).heap.size = w.heap.size + 2 := by simp
  have HRD := Lib.hid hrd
  have HAT := Lib.hid hat8
  have HOK := Lib.hid hok8
  have HN8 := Lib.hid hn8
  have HVS := Lib.hid hvs
  have HV1 := Lib.hid hv1
  have HUS : Hid (∀ (j : Nat) (v : Value), vs.toList[j]? = some v → vs[j]? = some v) := Lib.hid (fun j v hv => by rw [← Array.getElem?_toList]; exact hv)
  have HU8 := Lib.hid hu8
  have HBY := Lib.hid hby
  have hn8' := hn8.1
  clear h hb0 hk62 hrd8 hrd hat8 hok8 hn8 hvs hv1 hu8 hcap8 hby
  go_enter Tryd.func10, Tryd.ntmps10
  go_upto_region 1 with (refine wpList_alloc_row rfl 34 rfl zMv zr_mach ?_)
  generalize (w.alloc (.cells vs 34)).alloc (.cells zMv 34) = w2 at *
  have d8 : w2.cell? ⟨w.heap.size, 8, none⟩ = some (.slice A8 n8 c8) := by rw [cell_of_row _ _ _ _ _ _ hx1]; exact HUS.out _ _ HU8.out
  have HX1 := Lib.hid hx1
  have HX2 := Lib.hid hx2
  have HB2 := Lib.hid hb2
  have HSZ := Lib.hid hsz
  have HRN : Hid (Rd w2 W0.heap.size 62 A8 n8 xs8) := Lib.hid (Rd.below HRD.out (HB0.out.trans (hb2.mono HB0.out.size)))
  have HNL : Hid (∀ u ∈ xs8, u.oneCell' = true) := Lib.hid (ces_one _ _ HAT.out)
  have HNI : Hid (w2.ownsRow w2.heap.size 51 62 (.slice none 0 0) 0 []) := Lib.hid ⟨by simp, .inl ⟨rfl, rfl⟩⟩
  clear hx1 hx2 hb2 hsz
  go_wp2_with (at_builtin; refine wpList_append_rd _ rfl _ _ 28 rfl w2.heap.size 51 ie (.agg zs8) 62 _ Tryd.underlying28 HIE.out HIZ.out HIS.out HIB.out HZS.out (by decide) _ 0 [] rfl HNI.out _ n8 c8 W0.heap.size xs8 rfl HRN.out HNL.out (by simp only [maxLen]; omega) (by rw [Nat.zero_add]; exact Nat.le_trans HN8.out.2 (by decide)) (Nat.le_refl _) ?_)
  intro vc w3 hown3 hgrow3
  have hb3 : Below w2.heap.size w2 w3 := (Below.refl _ w2).grown hgrow3 (Nat.le_refl _) (fun g hg => by cases hg)
  have HB3 := Lib.hid (HB2.out.trans (hb3.mono HB2.out.size))
  have HX3 := Lib.hid ((hb3.block w.heap.size (by rw [HSZ.out]; omega)).trans HX1.out)
  have HX4 := Lib.hid ((hb3.block (w.heap.size + 1) (by rw [HSZ.out]; omega)).trans HX2.out)
  have HW3 : Hid (w3.ownsRow (w.heap.size + 2) 51 62 vc n8 xs8) := Lib.hid (by rw [← HSZ.out]; exact hown3)
  clear hgrow3 hb3 hown3 d8 HNI HNL HRN HX1 HX2 HB2 HSZ
  obtain ⟨Ac, cc, hvc, _, _⟩ := own_rd HW3.out (Nat.le_refl _)
  subst hvc
  obtain ⟨x, hcx, hux, hxr⟩ := get_i HH.out.ok HH.out.at' 3 rfl
  have dm : w3.cell? ⟨w.heap.size, 3, none⟩ = some (.int .i64 x) := by rw [cell_of_row _ _ _ _ _ _ HX3.out]; exact HUS.out _ _ hux
  have fm : w3.frozen? ⟨w.heap.size, 3, none⟩ = false := frozen_of_row _ _ _ _ _ HX3.out
  have HCX := Lib.hid hcx
  have HXR := Lib.hid hxr
  clear hcx hux hxr
  go_upto_region 45 with fail
  obtain ⟨y, hy⟩ : ∃ y, bits BinOp.xor IntKind.i64 x by' = y := ⟨_, rfl⟩
  rw [hy]
  have HD : Hid ((-9223372036854775808 ≤ y ∧ y ≤ 9223372036854775807) ∧ (by' = 0 → y = x) ∧ (by' ≠ 0 → y ≠ x)) := Lib.hid (by
    rw [← hy]
    exact ⟨xor_in _ _, fun h => by rw [h]; exact xor_zero _ HXR.out, xor_other _ _ HBY.out⟩)
  obtain ⟨vm, hvm⟩ : ∃ v, v = vs.setIfInBounds 3 (.int .i64 y) := ⟨_, rfl⟩
  have hx7 := heap_setCell_same w3 w.heap.size 3 vs _ (.int .i64 y) HX3.out
  rw [← hvm] at hx7
  have HX7 := Lib.hid hx7
  have HX8 : Hid ((w3.setCell ⟨w.heap.size, 3, none⟩ (.int .i64 y)).heap[w.heap.size + 1]? = some (.cells zMv 34 (0, 0))) := Lib.hid (by rw [heap_setCell_other _ _ _ _ (by show w.heap.size + 1 ≠ w.heap.size; omega)]; exact HX4.out)
  have HB5 : Hid (Below w.heap.size w (w3.setCell ⟨w.heap.size, 3, none⟩ (.int .i64 y))) := Lib.hid (HB3.out.setCell (p := ⟨w.heap.size, 3, none⟩) (Nat.le_refl _) _)
  clear hx7 dm fm HX3 HX4 HB3 HW3 hy
  generalize w3.setCell ⟨w.heap.size, 3, none⟩ (.int .i64 y) = w5 at *
  have HV16 : Hid (vm.size = 16) := Lib.hid (by rw [hvm, Array.size_setIfInBounds, HVS.out])
  have HVO : Hid (vm.all (·.oneCell') = true) := Lib.hid (by
    rw [hvm, ← Array.toArray_toList (xs := vs.setIfInBounds 3 _), Array.toList_setIfInBounds]
    refine all_oneCell_toArray fun u hu => ?_
    rcases List.mem_or_eq_of_mem_set hu with hu | hu
    · exact Array.all_eq_true_iff_forall_mem.1 HV1.out u (by simpa using hu)
    · rw [hu]; rfl)
  have HS : Hid ((Tryd.prog.info? 34).map (·.size) = some vm.size) := Lib.hid (by rw [HV16.out]; exact sz_Machine)
  have HSZ0 : Hid (zMv.size = vm.size) := Lib.hid (by rw [HV16.out]; rfl)
  have HFX := Lib.hid (setRow_heap _ _ _ vm _ _ HX8.out)
  have HFB := Lib.hid (below_setRow HB5.out (Nat.le_succ w.heap.size) vm)
  have HTQ : Hid (TurnQ cs by' w (.returned (.agg vm)) (w5.setRow (w.heap.size + 1) vm)) := Lib.hid (by
    rw [hvm]
    exact turnq_of HH.out.ok HH.out.at' HB0.out (by rw [← hvm]; exact HFB.out) HCX.out (c' := .i y) (by unfold Ce.At; rfl) ⟨.i, rfl, by unfold Ce.Ok; exact HD.out.1⟩ (Nat.le_add_right _ _) (fun h => by rw [HD.out.2.1 h]) (fun h he => HD.out.2.2 h (by injection he)))
  clear hvm
  go_wp2_with (first | refine wpList_load_row rfl 34 _ rfl w.heap.size rfl 34 vm (0, 0) _ HX7.out Tryd.underlying34 rfl HS.out ?_ | refine wpList_store_row rfl 34 _ _ rfl (w.heap.size + 1) vm rfl rfl 34 zMv HX8.out HS.out HSZ0.out HVO.out ?_)
  (try simp only [Exit.inBlock, Exit.then])
  exact bodyPost_ret (v := .agg vm) (results_cell_row rfl _ _ (w.heap.size + 1) 34 _ (0, 0) _ rfl HFX.out Tryd.underlying34 rfl HS.out) rfl HTQ.out
set_option maxRecDepth 100000 in
set_option maxHeartbeats 16000000 in
theorem turned_own15 {W0 w : World} {cs : List Ce} {vs : Array Value} (h : MIn W0 cs vs) (hb0 : Below W0.heap.size W0 w) (which by' : Int) (hby : -9223372036854775808 ≤ by' ∧ by' ≤ 9223372036854775807) {n8 : Nat} {e8 : List Ce} (hc8 : cs[8]? = some (.l n8 e8)) (hk : bits BinOp.and IntKind.i64 which 15 = 15) :
    Calls Tryd.prog 10 #[.agg vs, .int .i64 which, .int .i64 by'] w fun e w' => TurnQ cs by' w e w' := by
  have hvs := mach_size h.ok h.at'
  have hv1 := mach_one h.at'
  obtain ⟨n8', e8', A8, c8, xs8, k8', g1, hu8, hcap8, hrd8, hat8, hn8, hok8⟩ := get_l h.ok h.at' 8 _ _ rfl
  rw [hc8] at g1
  injection g1 with g1
  injection g1 with g1 g1'
  subst g1 g1'
  have HH := Lib.hid h
  have HB0 := Lib.hid hb0
  obtain ⟨ie, zs8, hie, hiz, his, hib, hzs, _⟩ := zero_row zr_Cell (by decide)
  have HIE := Lib.hid hie
  have HIZ := Lib.hid hiz
  have HIS := Lib.hid his
  have HIB := Lib.hid hib
  have HZS := Lib.hid hzs
  clear hie hiz his hib hzs
  have hk62 : k8' = 62 ∨ n8 = 0 := by
    have e1 := hrd8.1
    have e2 := Ce.ats_length _ _ hat8
    have e3 := Ce.oks_length _ _ hok8
    rw [List.length_flatten] at e3
    simp [q_len] at e3
    rw [e2, e3] at e1
    rcases Nat.eq_zero_or_pos n8 with h | h
    · exact .inr h
    · exact .inl (Nat.eq_of_mul_eq_mul_left h e1.symm)
  have hrd : Rd W0 W0.heap.size 62 A8 n8 xs8 := by
    rcases hk62 with rfl | rfl
    · exact hrd8
    · have e1 := hrd8.1
      exact ⟨by rw [e1]; simp, fun h => absurd h (Nat.lt_irrefl _)⟩
  have hx1 := heap_alloc2_old w (.cells vs 34) (.cells zMv 34)
  have hx2 := heap_alloc2_new w (.cells vs 34) (.cells zMv 34)
  have hb2 : Below w.heap.size w ((w.alloc (.cells vs 34)).alloc (.cells zMv 34)) := ((Below.refl _ _).alloc (Nat.le_refl _) _).alloc (by simp) _
  have hsz : ((w.alloc (.cells vs 34)).alloc (.cells zMv 34)).heap.size = w.heap.size + 2 := by simp
  have HRD := Lib.hid hrd
  have HAT := Lib.hid hat8
  have HOK := Lib.hid hok8
  have HN8 := Lib.hid hn8
  have HVS := Lib.hid hvs
  have HV1 := Lib.hid hv1
  have HUS : Hid (∀ (j : Nat) (v : Value), vs.toList[j]? = some v → vs[j]? = some v) := Lib.hid (fun j v hv => by rw [← Array.getElem?_toList]; exact hv)
  have HU8 := Lib.hid hu8
  have HBY := Lib.hid hby
  have hn8' := hn8.1
  clear h hb0 hk62 hrd8 hrd hat8 hok8 hn8 hvs hv1 hu8 hcap8 hby
  go_enter Tryd.func10, Tryd.ntmps10
  go_upto_region 1 with (refine wpList_alloc_row rfl 34 rfl zMv zr_mach ?_)
  generalize (w.alloc (.cells vs 34)).alloc (.cells zMv 34) = w2 at *
  have d8 : w2.cell? ⟨w.heap.size, 8, none⟩ = some (.slice A8 n8 c8) := by rw [cell_of_row _ _ _ _ _ _ hx1]; exact HUS.out _ _ HU8.out
  have HX1 := Lib.hid hx1
  have HX2 := Lib.hid hx2
  have HB2 := Lib.hid hb2
  have HSZ := Lib.hid hsz
  have HRN : Hid (Rd w2 W0.heap.size 62 A8 n8 xs8) := Lib.hid (Rd.below HRD.out (HB0.out.trans (hb2.mono HB0.out.size)))
  have HNL : Hid (∀ u ∈ xs8, u.oneCell' = true) := Lib.hid (ces_one _ _ HAT.out)
  have HNI : Hid (w2.ownsRow w2.heap.size 51 62 (.slice none 0 0) 0 []) := Lib.hid ⟨by simp, .inl ⟨rfl, rfl⟩⟩
  clear hx1 hx2 hb2 hsz
  go_wp2_with (at_builtin; refine wpList_append_rd _ rfl _ _ 28 rfl w2.heap.size 51 ie (.agg zs8) 62 _ Tryd.underlying28 HIE.out HIZ.out HIS.out HIB.out HZS.out (by decide) _ 0 [] rfl HNI.out _ n8 c8 W0.heap.size xs8 rfl HRN.out HNL.out (by simp only [maxLen]; omega) (by rw [Nat.zero_add]; exact Nat.le_trans HN8.out.2 (by decide)) (Nat.le_refl _) ?_)
  intro vc w3 hown3 hgrow3
  have hb3 : Below w2.heap.size w2 w3 := (Below.refl _ w2).grown hgrow3 (Nat.le_refl _) (fun g hg => by cases hg)
  have HB3 := Lib.hid (HB2.out.trans (hb3.mono HB2.out.size))
  have HX3 := Lib.hid ((hb3.block w.heap.size (by rw [HSZ.out]; omega)).trans HX1.out)
  have HX4 := Lib.hid ((hb3.block (w.heap.size + 1) (by rw [HSZ.out]; omega)).trans HX2.out)
  have HW3 : Hid (w3.ownsRow (w.heap.size + 2) 51 62 vc n8 xs8) := Lib.hid (by rw [← HSZ.out]; exact hown3)
  clear hgrow3 hb3 hown3 d8 HNI HNL HRN HX1 HX2 HB2 HSZ
  obtain ⟨Ac, cc, hvc, _, _⟩ := own_rd HW3.out (Nat.le_refl _)
  subst hvc
  obtain ⟨x, hcx, hux, hxr⟩ := get_i HH.out.ok HH.out.at' 15 rfl
  have dm : w3.cell? ⟨w.heap.size, 15, none⟩ = some (.int .i64 x) := by rw [cell_of_row _ _ _ _ _ _ HX3.out]; exact HUS.out _ _ hux
  have fm : w3.frozen? ⟨w.heap.size, 15, none⟩ = false := frozen_of_row _ _ _ _ _ HX3.out
  have HCX := Lib.hid hcx
  have HXR := Lib.hid hxr
  clear hcx hux hxr
  go_upto_region 45 with fail
  obtain ⟨y, hy⟩ : ∃ y, bits BinOp.xor IntKind.i64 x by' = y := ⟨_, rfl⟩
  rw [hy]
  have HD : Hid ((-9223372036854775808 ≤ y ∧ y ≤ 9223372036854775807) ∧ (by' = 0 → y = x) ∧ (by' ≠ 0 → y ≠ x)) := Lib.hid (by
    rw [← hy]
    exact ⟨xor_in _ _, fun h => by rw [h]; exact xor_zero _ HXR.out, xor_other _ _ HBY.out⟩)
  obtain ⟨vm, hvm⟩ : ∃ v, v = vs.setIfInBounds 15 (.int .i64 y) := ⟨_, rfl⟩
  have hx7 := heap_setCell_same w3 w.heap.size 15 vs _ (.int .i64 y) HX3.out
  rw [← hvm] at hx7
  have HX7 := Lib.hid hx7
  have HX8 : Hid ((w3.setCell ⟨w.heap.size, 15, none⟩ (.int .i64 y)).heap[w.heap.size + 1]? = some (.cells zMv 34 (0, 0))) := Lib.hid (by rw [heap_setCell_other _ _ _ _ (by show w.heap.size + 1 ≠ w.heap.size; omega)]; exact HX4.out)
  have HB5 : Hid (Below w.heap.size w (w3.setCell ⟨w.heap.size, 15, none⟩ (.int .i64 y))) := Lib.hid (HB3.out.setCell (p := ⟨w.heap.size, 15, none⟩) (Nat.le_refl _) _)
  clear hx7 dm fm HX3 HX4 HB3 HW3 hy
  generalize w3.setCell ⟨w.heap.size, 15, none⟩ (.int .i64 y) = w5 at *
  have HV16 : Hid (vm.size = 16) := Lib.hid (by rw [hvm, Array.size_setIfInBounds, HVS.out])
  have HVO : Hid (vm.all (·.oneCell') = true) := Lib.hid (by
    rw [hvm, ← Array.toArray_toList (xs := vs.setIfInBounds 15 _), Array.toList_setIfInBounds]
    refine all_oneCell_toArray fun u hu => ?_
    rcases List.mem_or_eq_of_mem_set hu with hu | hu
    · exact Array.all_eq_true_iff_forall_mem.1 HV1.out u (by simpa using hu)
    · rw [hu]; rfl)
  have HS : Hid ((Tryd.prog.info? 34).map (·.size) = some vm.size) := Lib.hid (by rw [HV16.out]; exact sz_Machine)
  have HSZ0 : Hid (zMv.size = vm.size) := Lib.hid (by rw [HV16.out]; rfl)
  have HFX := Lib.hid (setRow_heap _ _ _ vm _ _ HX8.out)
  have HFB := Lib.hid (below_setRow HB5.out (Nat.le_succ w.heap.size) vm)
  have HTQ : Hid (TurnQ cs by' w (.returned (.agg vm)) (w5.setRow (w.heap.size + 1) vm)) := Lib.hid (by
    rw [hvm]
    exact turnq_of HH.out.ok HH.out.at' HB0.out (by rw [← hvm]; exact HFB.out) HCX.out (c' := .i y) (by unfold Ce.At; rfl) ⟨.i, rfl, by unfold Ce.Ok; exact HD.out.1⟩ (Nat.le_add_right _ _) (fun h => by rw [HD.out.2.1 h]) (fun h he => HD.out.2.2 h (by injection he)))
  clear hvm
  go_wp2_with (first | refine wpList_load_row rfl 34 _ rfl w.heap.size rfl 34 vm (0, 0) _ HX7.out Tryd.underlying34 rfl HS.out ?_ | refine wpList_store_row rfl 34 _ _ rfl (w.heap.size + 1) vm rfl rfl 34 zMv HX8.out HS.out HSZ0.out HVO.out ?_)
  (try simp only [Exit.inBlock, Exit.then])
  exact bodyPost_ret (v := .agg vm) (results_cell_row rfl _ _ (w.heap.size + 1) 34 _ (0, 0) _ rfl HFX.out Tryd.underlying34 rfl HS.out) rfl HTQ.out
set_option maxRecDepth 100000 in
set_option maxHeartbeats 16000000 in
theorem turned_own10 {W0 w : World} {cs : List Ce} {vs : Array Value} (h : MIn W0 cs vs) (hb0 : Below W0.heap.size W0 w) (which by' : Int) (hby : -9223372036854775808 ≤ by' ∧ by' ≤ 9223372036854775807) {n8 : Nat} {e8 : List Ce} (hc8 : cs[8]? = some (.l n8 e8)) (hk : bits BinOp.and IntKind.i64 which 15 = 10) {es : List Ce} (hcn : cs[14]? = some (.l 0 es)) :
    Calls Tryd.prog 10 #[.agg vs, .int .i64 which, .int .i64 by'] w fun e w' => TurnQ cs by' w e w' := by
  have hvs := mach_size h.ok h.at'
  have hv1 := mach_one h.at'
  obtain ⟨n8', e8', A8, c8, xs8, k8', g1, hu8, hcap8, hrd8, hat8, hn8, hok8⟩ := get_l h.ok h.at' 8 _ _ rfl
  rw [hc8] at g1
  injection g1 with g1
  injection g1 with g1 g1'
  subst g1 g1'
  have HH := Lib.hid h
  have HB0 := Lib.hid hb0
  obtain ⟨ie, zs8, hie, hiz, his, hib, hzs, _⟩ := zero_row zr_Cell (by decide)
  have HIE := Lib.hid hie
  have HIZ := Lib.hid hiz
  have HIS := Lib.hid his
  have HIB := Lib.hid hib
  have HZS := Lib.hid hzs
  clear hie hiz his hib hzs
  have hk62 : k8' = 62 ∨ n8 = 0 := by
    have e1 := hrd8.1
    have e2 := Ce.ats_length _ _ hat8
    have e3 := Ce.oks_length _ _ hok8
    rw [List.length_flatten] at e3
    simp [q_len] at e3
    rw [e2, e3] at e1
    rcases Nat.eq_zero_or_pos n8 with h | h
    · exact .inr h
    · exact .inl (Nat.eq_of_mul_eq_mul_left h e1.symm)
  have hrd : Rd W0 W0.heap.size 62 A8 n8 xs8 := by
    rcases hk62 with rfl | rfl
    · exact hrd8
    · have e1 := hrd8.1
      exact ⟨by rw [e1]; simp, fun h => absurd h (Nat.lt_irrefl _)⟩
  have hx1 := heap_alloc2_old w (.cells vs 34) (.cells zMv 34)
  have hx2 := heap_alloc2_new w (.cells vs 34) (.cells zMv 34)
  have hb2 : Below w.heap.size w ((w.alloc (.cells vs 34)).alloc (.cells zMv 34)) := ((Below.refl _ _).alloc (Nat.le_refl _) _).alloc (by simp) _
  have hsz : ((w.alloc (.cells vs 34)).alloc (.cells zMv 34)).heap.size = w.heap.size + 2 := by simp
  have HRD := Lib.hid hrd
  have HAT := Lib.hid hat8
  have HOK := Lib.hid hok8
  have HN8 := Lib.hid hn8
  have HVS := Lib.hid hvs
  have HV1 := Lib.hid hv1
  have HUS : Hid (∀ (j : Nat) (v : Value), vs.toList[j]? = some v → vs[j]? = some v) := Lib.hid (fun j v hv => by rw [← Array.getElem?_toList]; exact hv)
  have HU8 := Lib.hid hu8
  have HBY := Lib.hid hby
  have hn8' := hn8.1
  clear h hb0 hk62 hrd8 hrd hat8 hok8 hn8 hvs hv1 hu8 hcap8 hby
  go_enter Tryd.func10, Tryd.ntmps10
  go_upto_region 1 with (refine wpList_alloc_row rfl 34 rfl zMv zr_mach ?_)
  generalize (w.alloc (.cells vs 34)).alloc (.cells zMv 34) = w2 at *
  have d8 : w2.cell? ⟨w.heap.size, 8, none⟩ = some (.slice A8 n8 c8) := by rw [cell_of_row _ _ _ _ _ _ hx1]; exact HUS.out _ _ HU8.out
  have HX1 := Lib.hid hx1
  have HX2 := Lib.hid hx2
  have HB2 := Lib.hid hb2
  have HSZ := Lib.hid hsz
  have HRN : Hid (Rd w2 W0.heap.size 62 A8 n8 xs8) := Lib.hid (Rd.below HRD.out (HB0.out.trans (hb2.mono HB0.out.size)))
  have HNL : Hid (∀ u ∈ xs8, u.oneCell' = true) := Lib.hid (ces_one _ _ HAT.out)
  have HNI : Hid (w2.ownsRow w2.heap.size 51 62 (.slice none 0 0) 0 []) := Lib.hid ⟨by simp, .inl ⟨rfl, rfl⟩⟩
  clear hx1 hx2 hb2 hsz
  go_wp2_with (at_builtin; refine wpList_append_rd _ rfl _ _ 28 rfl w2.heap.size 51 ie (.agg zs8) 62 _ Tryd.underlying28 HIE.out HIZ.out HIS.out HIB.out HZS.out (by decide) _ 0 [] rfl HNI.out _ n8 c8 W0.heap.size xs8 rfl HRN.out HNL.out (by simp only [maxLen]; omega) (by rw [Nat.zero_add]; exact Nat.le_trans HN8.out.2 (by decide)) (Nat.le_refl _) ?_)
  intro vc w3 hown3 hgrow3
  have hb3 : Below w2.heap.size w2 w3 := (Below.refl _ w2).grown hgrow3 (Nat.le_refl _) (fun g hg => by cases hg)
  have HB3 := Lib.hid (HB2.out.trans (hb3.mono HB2.out.size))
  have HX3 := Lib.hid ((hb3.block w.heap.size (by rw [HSZ.out]; omega)).trans HX1.out)
  have HX4 := Lib.hid ((hb3.block (w.heap.size + 1) (by rw [HSZ.out]; omega)).trans HX2.out)
  have HW3 : Hid (w3.ownsRow (w.heap.size + 2) 51 62 vc n8 xs8) := Lib.hid (by rw [← HSZ.out]; exact hown3)
  clear hgrow3 hb3 hown3 d8 HNI HNL HRN HX1 HX2 HB2 HSZ
  obtain ⟨Ac, cc, hvc, _, _⟩ := own_rd HW3.out (Nat.le_refl _)
  subst hvc
  obtain ⟨n', es', AL, cL, xsL, kL, g1, huL, _⟩ := get_l HH.out.ok HH.out.at' 14 _ _ rfl
  rw [hcn] at g1
  injection g1 with g1
  injection g1 with g1 g1'
  subst g1 g1'
  have dl : w3.cell? ⟨w.heap.size, 14, none⟩ = some (.slice AL 0 cL) := by rw [cell_of_row _ _ _ _ _ _ HX3.out]; exact HUS.out _ _ huL
  clear huL
  obtain ⟨x, hcx, hux, hxr⟩ := get_i HH.out.ok HH.out.at' 15 rfl
  have dm : w3.cell? ⟨w.heap.size, 15, none⟩ = some (.int .i64 x) := by rw [cell_of_row _ _ _ _ _ _ HX3.out]; exact HUS.out _ _ hux
  have fm : w3.frozen? ⟨w.heap.size, 15, none⟩ = false := frozen_of_row _ _ _ _ _ HX3.out
  have HCX := Lib.hid hcx
  have HXR := Lib.hid hxr
  clear hcx hux hxr
  go_upto_region 45 with fail
  obtain ⟨y, hy⟩ : ∃ y, bits BinOp.xor IntKind.i64 x by' = y := ⟨_, rfl⟩
  rw [hy]
  have HD : Hid ((-9223372036854775808 ≤ y ∧ y ≤ 9223372036854775807) ∧ (by' = 0 → y = x) ∧ (by' ≠ 0 → y ≠ x)) := Lib.hid (by
    rw [← hy]
    exact ⟨xor_in _ _, fun h => by rw [h]; exact xor_zero _ HXR.out, xor_other _ _ HBY.out⟩)
  obtain ⟨vm, hvm⟩ : ∃ v, v = vs.setIfInBounds 15 (.int .i64 y) := ⟨_, rfl⟩
  have hx7 := heap_setCell_same w3 w.heap.size 15 vs _ (.int .i64 y) HX3.out
  rw [← hvm] at hx7
  have HX7 := Lib.hid hx7
  have HX8 : Hid ((w3.setCell ⟨w.heap.size, 15, none⟩ (.int .i64 y)).heap[w.heap.size + 1]? = some (.cells zMv 34 (0, 0))) := Lib.hid (by rw [heap_setCell_other _ _ _ _ (by show w.heap.size + 1 ≠ w.heap.size; omega)]; exact HX4.out)
  have HB5 : Hid (Below w.heap.size w (w3.setCell ⟨w.heap.size, 15, none⟩ (.int .i64 y))) := Lib.hid (HB3.out.setCell (p := ⟨w.heap.size, 15, none⟩) (Nat.le_refl _) _)
  clear hx7 dm fm HX3 HX4 HB3 HW3 hy
  generalize w3.setCell ⟨w.heap.size, 15, none⟩ (.int .i64 y) = w5 at *
  have HV16 : Hid (vm.size = 16) := Lib.hid (by rw [hvm, Array.size_setIfInBounds, HVS.out])
  have HVO : Hid (vm.all (·.oneCell') = true) := Lib.hid (by
    rw [hvm, ← Array.toArray_toList (xs := vs.setIfInBounds 15 _), Array.toList_setIfInBounds]
    refine all_oneCell_toArray fun u hu => ?_
    rcases List.mem_or_eq_of_mem_set hu with hu | hu
    · exact Array.all_eq_true_iff_forall_mem.1 HV1.out u (by simpa using hu)
    · rw [hu]; rfl)
  have HS : Hid ((Tryd.prog.info? 34).map (·.size) = some vm.size) := Lib.hid (by rw [HV16.out]; exact sz_Machine)
  have HSZ0 : Hid (zMv.size = vm.size) := Lib.hid (by rw [HV16.out]; rfl)
  have HFX := Lib.hid (setRow_heap _ _ _ vm _ _ HX8.out)
  have HFB := Lib.hid (below_setRow HB5.out (Nat.le_succ w.heap.size) vm)
  have HTQ : Hid (TurnQ cs by' w (.returned (.agg vm)) (w5.setRow (w.heap.size + 1) vm)) := Lib.hid (by
    rw [hvm]
    exact turnq_of HH.out.ok HH.out.at' HB0.out (by rw [← hvm]; exact HFB.out) HCX.out (c' := .i y) (by unfold Ce.At; rfl) ⟨.i, rfl, by unfold Ce.Ok; exact HD.out.1⟩ (Nat.le_add_right _ _) (fun h => by rw [HD.out.2.1 h]) (fun h he => HD.out.2.2 h (by injection he)))
  clear hvm
  go_wp2_with (first | refine wpList_load_row rfl 34 _ rfl w.heap.size rfl 34 vm (0, 0) _ HX7.out Tryd.underlying34 rfl HS.out ?_ | refine wpList_store_row rfl 34 _ _ rfl (w.heap.size + 1) vm rfl rfl 34 zMv HX8.out HS.out HSZ0.out HVO.out ?_)
  (try simp only [Exit.inBlock, Exit.then])
  exact bodyPost_ret (v := .agg vm) (results_cell_row rfl _ _ (w.heap.size + 1) 34 _ (0, 0) _ rfl HFX.out Tryd.underlying34 rfl HS.out) rfl HTQ.out
set_option maxRecDepth 100000 in
set_option maxHeartbeats 16000000 in
theorem turned_own11 {W0 w : World} {cs : List Ce} {vs : Array Value} (h : MIn W0 cs vs) (hb0 : Below W0.heap.size W0 w) (which by' : Int) (hby : -9223372036854775808 ≤ by' ∧ by' ≤ 9223372036854775807) {n8 : Nat} {e8 : List Ce} (hc8 : cs[8]? = some (.l n8 e8)) (hk : bits BinOp.and IntKind.i64 which 15 = 11) {es : List Ce} (hcn : cs[9]? = some (.l 0 es)) :
    Calls Tryd.prog 10 #[.agg vs, .int .i64 which, .int .i64 by'] w fun e w' => TurnQ cs by' w e w' := by
  have hvs := mach_size h.ok h.at'
  have hv1 := mach_one h.at'
  obtain ⟨n8', e8', A8, c8, xs8, k8', g1, hu8, hcap8, hrd8, hat8, hn8, hok8⟩ := get_l h.ok h.at' 8 _ _ rfl
  rw [hc8] at g1
  injection g1 with g1
  injection g1 with g1 g1'
  subst g1 g1'
  have HH := Lib.hid h
  have HB0 := Lib.hid hb0
  obtain ⟨ie, zs8, hie, hiz, his, hib, hzs, _⟩ := zero_row zr_Cell (by decide)
  have HIE := Lib.hid hie
  have HIZ := Lib.hid hiz
  have HIS := Lib.hid his
  have HIB := Lib.hid hib
  have HZS := Lib.hid hzs
  clear hie hiz his hib hzs
  have hk62 : k8' = 62 ∨ n8 = 0 := by
    have e1 := hrd8.1
    have e2 := Ce.ats_length _ _ hat8
    have e3 := Ce.oks_length _ _ hok8
    rw [List.length_flatten] at e3
    simp [q_len] at e3
    rw [e2, e3] at e1
    rcases Nat.eq_zero_or_pos n8 with h | h
    · exact .inr h
    · exact .inl (Nat.eq_of_mul_eq_mul_left h e1.symm)
  have hrd : Rd W0 W0.heap.size 62 A8 n8 xs8 := by
    rcases hk62 with rfl | rfl
    · exact hrd8
    · have e1 := hrd8.1
      exact ⟨by rw [e1]; simp, fun h => absurd h (Nat.lt_irrefl _)⟩
  have hx1 := heap_alloc2_old w (.cells vs 34) (.cells zMv 34)
  have hx2 := heap_alloc2_new w (.cells vs 34) (.cells zMv 34)
  have hb2 : Below w.heap.size w ((w.alloc (.cells vs 34)).alloc (.cells zMv 34)) := ((Below.refl _ _).alloc (Nat.le_refl _) _).alloc (by simp) _
  have hsz : ((w.alloc (.cells vs 34)).alloc (.cells zMv 34)).heap.size = w.heap.size + 2 := by simp
  have HRD := Lib.hid hrd
  have HAT := Lib.hid hat8
  have HOK := Lib.hid hok8
  have HN8 := Lib.hid hn8
  have HVS := Lib.hid hvs
  have HV1 := Lib.hid hv1
  have HUS : Hid (∀ (j : Nat) (v : Value), vs.toList[j]? = some v → vs[j]? = some v) := Lib.hid (fun j v hv => by rw [← Array.getElem?_toList]; exact hv)
  have HU8 := Lib.hid hu8
  have HBY := Lib.hid hby
  have hn8' := hn8.1
  clear h hb0 hk62 hrd8 hrd hat8 hok8 hn8 hvs hv1 hu8 hcap8 hby
  go_enter Tryd.func10, Tryd.ntmps10
  go_upto_region 1 with (refine wpList_alloc_row rfl 34 rfl zMv zr_mach ?_)
  generalize (w.alloc (.cells vs 34)).alloc (.cells zMv 34) = w2 at *
  have d8 : w2.cell? ⟨w.heap.size, 8, none⟩ = some (.slice A8 n8 c8) := by rw [cell_of_row _ _ _ _ _ _ hx1]; exact HUS.out _ _ HU8.out
  have HX1 := Lib.hid hx1
  have HX2 := Lib.hid hx2
  have HB2 := Lib.hid hb2
  have HSZ := Lib.hid hsz
  have HRN : Hid (Rd w2 W0.heap.size 62 A8 n8 xs8) := Lib.hid (Rd.below HRD.out (HB0.out.trans (hb2.mono HB0.out.size)))
  have HNL : Hid (∀ u ∈ xs8, u.oneCell' = true) := Lib.hid (ces_one _ _ HAT.out)
  have HNI : Hid (w2.ownsRow w2.heap.size 51 62 (.slice none 0 0) 0 []) := Lib.hid ⟨by simp, .inl ⟨rfl, rfl⟩⟩
  clear hx1 hx2 hb2 hsz
  go_wp2_with (at_builtin; refine wpList_append_rd _ rfl _ _ 28 rfl w2.heap.size 51 ie (.agg zs8) 62 _ Tryd.underlying28 HIE.out HIZ.out HIS.out HIB.out HZS.out (by decide) _ 0 [] rfl HNI.out _ n8 c8 W0.heap.size xs8 rfl HRN.out HNL.out (by simp only [maxLen]; omega) (by rw [Nat.zero_add]; exact Nat.le_trans HN8.out.2 (by decide)) (Nat.le_refl _) ?_)
  intro vc w3 hown3 hgrow3
  have hb3 : Below w2.heap.size w2 w3 := (Below.refl _ w2).grown hgrow3 (Nat.le_refl _) (fun g hg => by cases hg)
  have HB3 := Lib.hid (HB2.out.trans (hb3.mono HB2.out.size))
  have HX3 := Lib.hid ((hb3.block w.heap.size (by rw [HSZ.out]; omega)).trans HX1.out)
  have HX4 := Lib.hid ((hb3.block (w.heap.size + 1) (by rw [HSZ.out]; omega)).trans HX2.out)
  have HW3 : Hid (w3.ownsRow (w.heap.size + 2) 51 62 vc n8 xs8) := Lib.hid (by rw [← HSZ.out]; exact hown3)
  clear hgrow3 hb3 hown3 d8 HNI HNL HRN HX1 HX2 HB2 HSZ
  obtain ⟨Ac, cc, hvc, _, _⟩ := own_rd HW3.out (Nat.le_refl _)
  subst hvc
  obtain ⟨n', es', AL, cL, xsL, kL, g1, huL, _⟩ := get_l HH.out.ok HH.out.at' 9 _ _ rfl
  rw [hcn] at g1
  injection g1 with g1
  injection g1 with g1 g1'
  subst g1 g1'
  have dl : w3.cell? ⟨w.heap.size, 9, none⟩ = some (.slice AL 0 cL) := by rw [cell_of_row _ _ _ _ _ _ HX3.out]; exact HUS.out _ _ huL
  clear huL
  obtain ⟨x, hcx, hux, hxr⟩ := get_i HH.out.ok HH.out.at' 15 rfl
  have dm : w3.cell? ⟨w.heap.size, 15, none⟩ = some (.int .i64 x) := by rw [cell_of_row _ _ _ _ _ _ HX3.out]; exact HUS.out _ _ hux
  have fm : w3.frozen? ⟨w.heap.size, 15, none⟩ = false := frozen_of_row _ _ _ _ _ HX3.out
  have HCX := Lib.hid hcx
  have HXR := Lib.hid hxr
  clear hcx hux hxr
  go_upto_region 45 with fail
  obtain ⟨y, hy⟩ : ∃ y, bits BinOp.xor IntKind.i64 x by' = y := ⟨_, rfl⟩
  rw [hy]
  have HD : Hid ((-9223372036854775808 ≤ y ∧ y ≤ 9223372036854775807) ∧ (by' = 0 → y = x) ∧ (by' ≠ 0 → y ≠ x)) := Lib.hid (by
    rw [← hy]
    exact ⟨xor_in _ _, fun h => by rw [h]; exact xor_zero _ HXR.out, xor_other _ _ HBY.out⟩)
  obtain ⟨vm, hvm⟩ : ∃ v, v = vs.setIfInBounds 15 (.int .i64 y) := ⟨_, rfl⟩
  have hx7 := heap_setCell_same w3 w.heap.size 15 vs _ (.int .i64 y) HX3.out
  rw [← hvm] at hx7
  have HX7 := Lib.hid hx7
  have HX8 : Hid ((w3.setCell ⟨w.heap.size, 15, none⟩ (.int .i64 y)).heap[w.heap.size + 1]? = some (.cells zMv 34 (0, 0))) := Lib.hid (by rw [heap_setCell_other _ _ _ _ (by show w.heap.size + 1 ≠ w.heap.size; omega)]; exact HX4.out)
  have HB5 : Hid (Below w.heap.size w (w3.setCell ⟨w.heap.size, 15, none⟩ (.int .i64 y))) := Lib.hid (HB3.out.setCell (p := ⟨w.heap.size, 15, none⟩) (Nat.le_refl _) _)
  clear hx7 dm fm HX3 HX4 HB3 HW3 hy
  generalize w3.setCell ⟨w.heap.size, 15, none⟩ (.int .i64 y) = w5 at *
  have HV16 : Hid (vm.size = 16) := Lib.hid (by rw [hvm, Array.size_setIfInBounds, HVS.out])
  have HVO : Hid (vm.all (·.oneCell') = true) := Lib.hid (by
    rw [hvm, ← Array.toArray_toList (xs := vs.setIfInBounds 15 _), Array.toList_setIfInBounds]
    refine all_oneCell_toArray fun u hu => ?_
    rcases List.mem_or_eq_of_mem_set hu with hu | hu
    · exact Array.all_eq_true_iff_forall_mem.1 HV1.out u (by simpa using hu)
    · rw [hu]; rfl)
  have HS : Hid ((Tryd.prog.info? 34).map (·.size) = some vm.size) := Lib.hid (by rw [HV16.out]; exact sz_Machine)
  have HSZ0 : Hid (zMv.size = vm.size) := Lib.hid (by rw [HV16.out]; rfl)
  have HFX := Lib.hid (setRow_heap _ _ _ vm _ _ HX8.out)
  have HFB := Lib.hid (below_setRow HB5.out (Nat.le_succ w.heap.size) vm)
  have HTQ : Hid (TurnQ cs by' w (.returned (.agg vm)) (w5.setRow (w.heap.size + 1) vm)) := Lib.hid (by
    rw [hvm]
    exact turnq_of HH.out.ok HH.out.at' HB0.out (by rw [← hvm]; exact HFB.out) HCX.out (c' := .i y) (by unfold Ce.At; rfl) ⟨.i, rfl, by unfold Ce.Ok; exact HD.out.1⟩ (Nat.le_add_right _ _) (fun h => by rw [HD.out.2.1 h]) (fun h he => HD.out.2.2 h (by injection he)))
  clear hvm
  go_wp2_with (first | refine wpList_load_row rfl 34 _ rfl w.heap.size rfl 34 vm (0, 0) _ HX7.out Tryd.underlying34 rfl HS.out ?_ | refine wpList_store_row rfl 34 _ _ rfl (w.heap.size + 1) vm rfl rfl 34 zMv HX8.out HS.out HSZ0.out HVO.out ?_)
  (try simp only [Exit.inBlock, Exit.then])
  exact bodyPost_ret (v := .agg vm) (results_cell_row rfl _ _ (w.heap.size + 1) 34 _ (0, 0) _ rfl HFX.out Tryd.underlying34 rfl HS.out) rfl HTQ.out
set_option maxRecDepth 100000 in
set_option maxHeartbeats 16000000 in
theorem turned_own0 {W0 w : World} {cs : List Ce} {vs : Array Value} (h : MIn W0 cs vs) (hb0 : Below W0.heap.size W0 w) (which by' : Int) (hby : -9223372036854775808 ≤ by' ∧ by' ≤ 9223372036854775807) {n8 : Nat} {e8 : List Ce} (hc8 : cs[8]? = some (.l n8 e8)) {kk : Int} (hk : bits BinOp.and IntKind.i64 which 15 = kk) (hlt : 0 ≤ kk ∧ kk < 10) (h00 : ¬ 0 < n8) :
    Calls Tryd.prog 10 #[.agg vs, .int .i64 which, .int .i64 by'] w fun e w' => TurnQ cs by' w e w' := by
  have hvs := mach_size h.ok h.at'
  have hv1 := mach_one h.at'
  obtain ⟨n8', e8', A8, c8, xs8, k8', g1, hu8, hcap8, hrd8, hat8, hn8, hok8⟩ := get_l h.ok h.at' 8 _ _ rfl
  rw [hc8] at g1
  injection g1 with g1
  injection g1 with g1 g1'
  subst g1 g1'
  have HH := Lib.hid h
  have HB0 := Lib.hid hb0
  obtain ⟨ie, zs8, hie, hiz, his, hib, hzs, _⟩ := zero_row zr_Cell (by decide)
  have HIE := Lib.hid hie
  have HIZ := Lib.hid hiz
  have HIS := Lib.hid his
  have HIB := Lib.hid hib
  have HZS := Lib.hid hzs
  clear hie hiz his hib hzs
  have hk62 : k8' = 62 ∨ n8 = 0 := by
    have e1 := hrd8.1
    have e2 := Ce.ats_length _ _ hat8
    have e3 := Ce.oks_length _ _ hok8
    rw [List.length_flatten] at e3
    simp [q_len] at e3
    rw [e2, e3] at e1
    rcases Nat.eq_zero_or_pos n8 with h | h
    · exact .inr h
    · exact .inl (Nat.eq_of_mul_eq_mul_left h e1.symm)
  have hrd : Rd W0 W0.heap.size 62 A8 n8 xs8 := by
    rcases hk62 with rfl | rfl
    · exact hrd8
    · have e1 := hrd8.1
      exact ⟨by rw [e1]; simp, fun h => absurd h (Nat.lt_irrefl _)⟩
  have hx1 := heap_alloc2_old w (.cells vs 34) (.cells zMv 34)
  have hx2 := heap_alloc2_new w (.cells vs 34) (.cells zMv 34)
  have hb2 : Below w.heap.size w ((w.alloc (.cells vs 34)).alloc (.cells zMv 34)) := ((Below.refl _ _).alloc (Nat.le_refl _) _).alloc (by simp) _
  have hsz : ((w.alloc (.cells vs 34)).alloc (.cells zMv 34)).heap.size = w.heap.size + 2 := by simp
  have HRD := Lib.hid hrd
  have HAT := Lib.hid hat8
  have HOK := Lib.hid hok8
  have HN8 := Lib.hid hn8
  have HVS := Lib.hid hvs
  have HV1 := Lib.hid hv1
  have HUS : Hid (∀ (j : Nat) (v : Value), vs.toList[j]? = some v → vs[j]? = some v) := Lib.hid (fun j v hv => by rw [← Array.getElem?_toList]; exact hv)
  have HU8 := Lib.hid hu8
  have HBY := Lib.hid hby
  have hn8' := hn8.1
  clear h hb0 hk62 hrd8 hrd hat8 hok8 hn8 hvs hv1 hu8 hcap8 hby
  go_enter Tryd.func10, Tryd.ntmps10
  go_upto_region 1 with (refine wpList_alloc_row rfl 34 rfl zMv zr_mach ?_)
  generalize (w.alloc (.cells vs 34)).alloc (.cells zMv 34) = w2 at *
  have d8 : w2.cell? ⟨w.heap.size, 8, none⟩ = some (.slice A8 n8 c8) := by rw [cell_of_row _ _ _ _ _ _ hx1]; exact HUS.out _ _ HU8.out
  have HX1 := Lib.hid hx1
  have HX2 := Lib.hid hx2
  have HB2 := Lib.hid hb2
  have HSZ := Lib.hid hsz
  have HRN : Hid (Rd w2 W0.heap.size 62 A8 n8 xs8) := Lib.hid (Rd.below HRD.out (HB0.out.trans (hb2.mono HB0.out.size)))
  have HNL : Hid (∀ u ∈ xs8, u.oneCell' = true) := Lib.hid (ces_one _ _ HAT.out)
  have HNI : Hid (w2.ownsRow w2.heap.size 51 62 (.slice none 0 0) 0 []) := Lib.hid ⟨by simp, .inl ⟨rfl, rfl⟩⟩
  clear hx1 hx2 hb2 hsz
  go_wp2_with (at_builtin; refine wpList_append_rd _ rfl _ _ 28 rfl w2.heap.size 51 ie (.agg zs8) 62 _ Tryd.underlying28 HIE.out HIZ.out HIS.out HIB.out HZS.out (by decide) _ 0 [] rfl HNI.out _ n8 c8 W0.heap.size xs8 rfl HRN.out HNL.out (by simp only [maxLen]; omega) (by rw [Nat.zero_add]; exact Nat.le_trans HN8.out.2 (by decide)) (Nat.le_refl _) ?_)
  intro vc w3 hown3 hgrow3
  have hb3 : Below w2.heap.size w2 w3 := (Below.refl _ w2).grown hgrow3 (Nat.le_refl _) (fun g hg => by cases hg)
  have HB3 := Lib.hid (HB2.out.trans (hb3.mono HB2.out.size))
  have HX3 := Lib.hid ((hb3.block w.heap.size (by rw [HSZ.out]; omega)).trans HX1.out)
  have HX4 := Lib.hid ((hb3.block (w.heap.size + 1) (by rw [HSZ.out]; omega)).trans HX2.out)
  have HW3 : Hid (w3.ownsRow (w.heap.size + 2) 51 62 vc n8 xs8) := Lib.hid (by rw [← HSZ.out]; exact hown3)
  clear hgrow3 hb3 hown3 d8 HNI HNL HRN HX1 HX2 HB2 HSZ
  obtain ⟨Ac, cc, hvc, _, _⟩ := own_rd HW3.out (Nat.le_refl _)
  subst hvc
  have y0 : decide (0 < n8) = false := decide_eq_false h00
  have y0' : decide ((0 : Int) < (n8 : Int)) = false := decide_eq_false (by omega)
  have y1 : decide (kk < 10) = true := decide_eq_true hlt.2
  have y2 : (kk == 10) = false := by simp; omega
  have y3 : (kk == 11) = false := by simp; omega
  have y4 : (kk == 12) = false := by simp; omega
  have y5 : (kk == 13) = false := by simp; omega
  have y6 : (kk == 14) = false := by simp; omega
  have y7 : (kk != 14) = true := by simp; omega
  have HLT := Lib.hid hlt
  clear hlt
  obtain ⟨x, hcx, hux, hxr⟩ := get_i HH.out.ok HH.out.at' 15 rfl
  have dm : w3.cell? ⟨w.heap.size, 15, none⟩ = some (.int .i64 x) := by rw [cell_of_row _ _ _ _ _ _ HX3.out]; exact HUS.out _ _ hux
  have fm : w3.frozen? ⟨w.heap.size, 15, none⟩ = false := frozen_of_row _ _ _ _ _ HX3.out
  have HCX := Lib.hid hcx
  have HXR := Lib.hid hxr
  clear hcx hux hxr
  go_upto_region 45 with fail
  obtain ⟨y, hy⟩ : ∃ y, bits BinOp.xor IntKind.i64 x by' = y := ⟨_, rfl⟩
  rw [hy]
  have HD : Hid ((-9223372036854775808 ≤ y ∧ y ≤ 9223372036854775807) ∧ (by' = 0 → y = x) ∧ (by' ≠ 0 → y ≠ x)) := Lib.hid (by
    rw [← hy]
    exact ⟨xor_in _ _, fun h => by rw [h]; exact xor_zero _ HXR.out, xor_other _ _ HBY.out⟩)
  obtain ⟨vm, hvm⟩ : ∃ v, v = vs.setIfInBounds 15 (.int .i64 y) := ⟨_, rfl⟩
  have hx7 := heap_setCell_same w3 w.heap.size 15 vs _ (.int .i64 y) HX3.out
  rw [← hvm] at hx7
  have HX7 := Lib.hid hx7
  have HX8 : Hid ((w3.setCell ⟨w.heap.size, 15, none⟩ (.int .i64 y)).heap[w.heap.size + 1]? = some (.cells zMv 34 (0, 0))) := Lib.hid (by rw [heap_setCell_other _ _ _ _ (by show w.heap.size + 1 ≠ w.heap.size; omega)]; exact HX4.out)
  have HB5 : Hid (Below w.heap.size w (w3.setCell ⟨w.heap.size, 15, none⟩ (.int .i64 y))) := Lib.hid (HB3.out.setCell (p := ⟨w.heap.size, 15, none⟩) (Nat.le_refl _) _)
  clear hx7 dm fm HX3 HX4 HB3 HW3 hy
  generalize w3.setCell ⟨w.heap.size, 15, none⟩ (.int .i64 y) = w5 at *
  have HV16 : Hid (vm.size = 16) := Lib.hid (by rw [hvm, Array.size_setIfInBounds, HVS.out])
  have HVO : Hid (vm.all (·.oneCell') = true) := Lib.hid (by
    rw [hvm, ← Array.toArray_toList (xs := vs.setIfInBounds 15 _), Array.toList_setIfInBounds]
    refine all_oneCell_toArray fun u hu => ?_
    rcases List.mem_or_eq_of_mem_set hu with hu | hu
    · exact Array.all_eq_true_iff_forall_mem.1 HV1.out u (by simpa using hu)
    · rw [hu]; rfl)
  have HS : Hid ((Tryd.prog.info? 34).map (·.size) = some vm.size) := Lib.hid (by rw [HV16.out]; exact sz_Machine)
  have HSZ0 : Hid (zMv.size = vm.size) := Lib.hid (by rw [HV16.out]; rfl)
  have HFX := Lib.hid (setRow_heap _ _ _ vm _ _ HX8.out)
  have HFB := Lib.hid (below_setRow HB5.out (Nat.le_succ w.heap.size) vm)
  have HTQ : Hid (TurnQ cs by' w (.returned (.agg vm)) (w5.setRow (w.heap.size + 1) vm)) := Lib.hid (by
    rw [hvm]
    exact turnq_of HH.out.ok HH.out.at' HB0.out (by rw [← hvm]; exact HFB.out) HCX.out (c' := .i y) (by unfold Ce.At; rfl) ⟨.i, rfl, by unfold Ce.Ok; exact HD.out.1⟩ (Nat.le_add_right _ _) (fun h => by rw [HD.out.2.1 h]) (fun h he => HD.out.2.2 h (by injection he)))
  clear hvm
  go_wp2_with (first | refine wpList_load_row rfl 34 _ rfl w.heap.size rfl 34 vm (0, 0) _ HX7.out Tryd.underlying34 rfl HS.out ?_ | refine wpList_store_row rfl 34 _ _ rfl (w.heap.size + 1) vm rfl rfl 34 zMv HX8.out HS.out HSZ0.out HVO.out ?_)
  (try simp only [Exit.inBlock, Exit.then])
  exact bodyPost_ret (v := .agg vm) (results_cell_row rfl _ _ (w.heap.size + 1) 34 _ (0, 0) _ rfl HFX.out Tryd.underlying34 rfl HS.out) rfl HTQ.out
set_option maxRecDepth 100000 in
set_option maxHeartbeats 16000000 in
theorem turned_none {W0 w : World} {cs : List Ce} {vs : Array Value} (h : MIn W0 cs vs) (hb0 : Below W0.heap.size W0 w) (which by' : Int) (hby : -9223372036854775808 ≤ by' ∧ by' ≤ 9223372036854775807) {n8 : Nat} {e8 : List Ce} (hc8 : cs[8]? = some (.l n8 e8)) (hk : bits BinOp.and IntKind.i64 which 15 = 14) (hz : by' = 0) :
    Calls Tryd.prog 10 #[.agg vs, .int .i64 which, .int .i64 by'] w fun e w' => TurnQ cs by' w e w' := by
  have hvs := mach_size h.ok h.at'
  have hv1 := mach_one h.at'
  obtain ⟨n8', e8', A8, c8, xs8, k8', g1, hu8, hcap8, hrd8, hat8, hn8, hok8⟩ := get_l h.ok h.at' 8 _ _ rfl
  rw [hc8] at g1
  injection g1 with g1
  injection g1 with g1 g1'
  subst g1 g1'
  have HH := Lib.hid h
  have HB0 := Lib.hid hb0
  obtain ⟨ie, zs8, hie, hiz, his, hib, hzs, _⟩ := zero_row zr_Cell (by decide)
  have HIE := Lib.hid hie
  have HIZ := Lib.hid hiz
  have HIS := Lib.hid his
  have HIB := Lib.hid hib
  have HZS := Lib.hid hzs
  clear hie hiz his hib hzs
  have hk62 : k8' = 62 ∨ n8 = 0 := by
    have e1 := hrd8.1
    have e2 := Ce.ats_length _ _ hat8
    have e3 := Ce.oks_length _ _ hok8
    rw [List.length_flatten] at e3
    simp [q_len] at e3
    rw [e2, e3] at e1
    rcases Nat.eq_zero_or_pos n8 with h | h
    · exact .inr h
    · exact .inl (Nat.eq_of_mul_eq_mul_left h e1.symm)
  have hrd : Rd W0 W0.heap.size 62 A8 n8 xs8 := by
    rcases hk62 with rfl | rfl
    · exact hrd8
    · have e1 := hrd8.1
      exact ⟨by rw [e1]; simp, fun h => absurd h (Nat.lt_irrefl _)⟩
  have hx1 := heap_alloc2_old w (.cells vs 34) (.cells zMv 34)
  have hx2 := heap_alloc2_new w (.cells vs 34) (.cells zMv 34)
  have hb2 : Below w.heap.size w ((w.alloc (.cells vs 34)).alloc (.cells zMv 34)) := ((Below.refl _ _).alloc (Nat.le_refl _) _).alloc (by simp) _
  have hsz : ((w.alloc (.cells vs 34)).alloc (.cells zMv 34)).heap.size = w.heap.size + 2 := by simp
  have HRD := Lib.hid hrd
  have HAT := Lib.hid hat8
  have HOK := Lib.hid hok8
  have HN8 := Lib.hid hn8
  have HVS := Lib.hid hvs
  have HV1 := Lib.hid hv1
  have HUS : Hid (∀ (j : Nat) (v : Value), vs.toList[j]? = some v → vs[j]? = some v) := Lib.hid (fun j v hv => by rw [← Array.getElem?_toList]; exact hv)
  have HU8 := Lib.hid hu8
  have HBY := Lib.hid hby
  have hn8' := hn8.1
  clear h hb0 hk62 hrd8 hrd hat8 hok8 hn8 hvs hv1 hu8 hcap8 hby
  go_enter Tryd.func10, Tryd.ntmps10
  go_upto_region 1 with (refine wpList_alloc_row rfl 34 rfl zMv zr_mach ?_)
  generalize (w.alloc (.cells vs 34)).alloc (.cells zMv 34) = w2 at *
  have d8 : w2.cell? ⟨w.heap.size, 8, none⟩ = some (.slice A8 n8 c8) := by rw [cell_of_row _ _ _ _ _ _ hx1]; exact HUS.out _ _ HU8.out
  have HX1 := Lib.hid hx1
  have HX2 := Lib.hid hx2
  have HB2 := Lib.hid hb2
  have HSZ := Lib.hid hsz
  have HRN : Hid (Rd w2 W0.heap.size 62 A8 n8 xs8) := Lib.hid (Rd.below HRD.out (HB0.out.trans (hb2.mono HB0.out.size)))
  have HNL : Hid (∀ u ∈ xs8, u.oneCell' = true) := Lib.hid (ces_one _ _ HAT.out)
  have HNI : Hid (w2.ownsRow w2.heap.size 51 62 (.slice none 0 0) 0 []) := Lib.hid ⟨by simp, .inl ⟨rfl, rfl⟩⟩
  clear hx1 hx2 hb2 hsz
  go_wp2_with (at_builtin; refine wpList_append_rd _ rfl _ _ 28 rfl w2.heap.size 51 ie (.agg zs8) 62 _ Tryd.underlying28 HIE.out HIZ.out HIS.out HIB.out HZS.out (by decide) _ 0 [] rfl HNI.out _ n8 c8 W0.heap.size xs8 rfl HRN.out HNL.out (by simp only [maxLen]; omega) (by rw [Nat.zero_add]; exact Nat.le_trans HN8.out.2 (by decide)) (Nat.le_refl _) ?_)
  intro vc w3 hown3 hgrow3
  have hb3 : Below w2.heap.size w2 w3 := (Below.refl _ w2).grown hgrow3 (Nat.le_refl _) (fun g hg => by cases hg)
  have HB3 := Lib.hid (HB2.out.trans (hb3.mono HB2.out.size))
  have HX3 := Lib.hid ((hb3.block w.heap.size (by rw [HSZ.out]; omega)).trans HX1.out)
  have HX4 := Lib.hid ((hb3.block (w.heap.size + 1) (by rw [HSZ.out]; omega)).trans HX2.out)
  have HW3 : Hid (w3.ownsRow (w.heap.size + 2) 51 62 vc n8 xs8) := Lib.hid (by rw [← HSZ.out]; exact hown3)
  clear hgrow3 hb3 hown3 d8 HNI HNL HRN HX1 HX2 HB2 HSZ
  obtain ⟨Ac, cc, hvc, _, _⟩ := own_rd HW3.out (Nat.le_refl _)
  subst hvc
  subst hz
  obtain ⟨c, hcc⟩ : ∃ c, cs[15]? = some c := by
    obtain ⟨x, hcx, _⟩ := get_i HH.out.ok HH.out.at' 15 rfl
    exact ⟨_, hcx⟩
  have HCC := Lib.hid hcc
  clear hcc
  go_upto_region 45 with fail
  obtain ⟨vm, hvm⟩ : ∃ v, v = vs := ⟨_, rfl⟩
  have HX7 : Hid (w3.heap[w.heap.size]? = some (.cells vm 34 (0, 0))) := Lib.hid (by rw [hvm]; exact HX3.out)
  have HX8 := Lib.hid HX4.out
  have HB5 := Lib.hid HB3.out
  obtain ⟨w5, rfl⟩ : ∃ W : World, W = w3 := ⟨_, rfl⟩
  have HV16 : Hid (vm.size = 16) := Lib.hid (by rw [hvm]; exact HVS.out)
  have HVO : Hid (vm.all (·.oneCell') = true) := Lib.hid (by rw [hvm]; exact HV1.out)
  have HS : Hid ((Tryd.prog.info? 34).map (·.size) = some vm.size) := Lib.hid (by rw [HV16.out]; exact sz_Machine)
  have HSZ0 : Hid (zMv.size = vm.size) := Lib.hid (by rw [HV16.out]; rfl)
  have HFX := Lib.hid (setRow_heap _ _ _ vm _ _ HX8.out)
  have HFB := Lib.hid (below_setRow HB5.out (Nat.le_succ w.heap.size) vm)
  have HTQ : Hid (TurnQ cs 0 w (.returned (.agg vm)) (w5.setRow (w.heap.size + 1) vm)) := Lib.hid (by
    have hbz := HB0.out.trans (HFB.out.mono HB0.out.size)
    exact ⟨vm, cs, rfl, by rw [hvm] at hbz ⊢; exact Ce.Ats.grow hbz hbz.size _ _ HH.out.at', HH.out.ok, Nat.le_add_right _ _, fun _ => rfl, fun h => absurd rfl h, HFB.out⟩)
  clear hvm
  go_wp2_with (first | refine wpList_load_row rfl 34 _ rfl w.heap.size rfl 34 vm (0, 0) _ HX7.out Tryd.underlying34 rfl HS.out ?_ | refine wpList_store_row rfl 34 _ _ rfl (w.heap.size + 1) vm rfl rfl 34 zMv HX8.out HS.out HSZ0.out HVO.out ?_)
  (try simp only [Exit.inBlock, Exit.then])
  exact bodyPost_ret (v := .agg vm) (results_cell_row rfl _ _ (w.heap.size + 1) 34 _ (0, 0) _ rfl HFX.out Tryd.underlying34 rfl HS.out) rfl HTQ.out

end Go.Proofs.YtkgkipohalekmaaDoor
