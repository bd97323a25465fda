/-
  A machine of which one thing is turned: the program's walk, where one of a cell's is turned.
-/
import Derived.Test.YtkgkipohalekmaaDoorHg
namespace Go.Proofs.YtkgkipohalekmaaDoor
open Go.RowKit Go.Shelf
set_option maxRecDepth 100000 in
set_option maxHeartbeats 16000000 in
theorem turned_rows {W0 w : World} {cs : List Ce} {vs : Array Value} (h : MIn W0 cs vs) (hb0 : Below W0.heap.size W0 w) (which by' : Int) (hby : -9223372036854775808 ≤ by' ∧ by' ≤ 9223372036854775807) {n8 : Nat} {e8 : List Ce} (hc8 : cs[8]? = some (.l n8 e8)) (hk : bits BinOp.and IntKind.i64 which 15 = 10) {n : Nat} {es : List Ce} (hcn : cs[14]? = some (.l n es)) (hpos : 0 < n) :
    Calls Tryd.prog 10 #[.agg vs, .int .i64 which, .int .i64 by'] w fun e w' => TurnQ cs by' w e w' := by
  have hvs := mach_size h.ok h.at'
  have hv1 := mach_one h.at'
  obtain ⟨n8', e8', A8, c8, xs8, k8', g1, hu8, hcap8, hrd8, hat8, hn8, hok8⟩ := get_l h.ok h.at' 8 _ _ rfl
  rw [hc8] at g1
  injection g1 with g1
  injection g1 with g1 g1'
  subst g1 g1'
  have HH := Lib.hid h
  have HB0 := Lib.hid hb0
  obtain ⟨ie, zs8, hie, hiz, his, hib, hzs, _⟩ := zero_row zr_Cell (by decide)
  have HIE := Lib.hid hie
  have HIZ := Lib.hid hiz
  have HIS := Lib.hid his
  have HIB := Lib.hid hib
  have HZS := Lib.hid hzs
  clear hie hiz his hib hzs
  have hk62 : k8' = 62 ∨ n8 = 0 := by
    have e1 := hrd8.1
    have e2 := Ce.ats_length _ _ hat8
    have e3 := Ce.oks_length _ _ hok8
    rw [List.length_flatten] at e3
    simp [q_len] at e3
    rw [e2, e3] at e1
    rcases Nat.eq_zero_or_pos n8 with h | h
    · exact .inr h
    · exact .inl (Nat.eq_of_mul_eq_mul_left h e1.symm)
  have hrd : Rd W0 W0.heap.size 62 A8 n8 xs8 := by
    rcases hk62 with rfl | rfl
    · exact hrd8
    · have e1 := hrd8.1
      exact ⟨by rw [e1]; simp, fun h => absurd h (Nat.lt_irrefl _)⟩
  have hx1 := heap_alloc2_old w (.cells vs 34) (.cells zMv 34)
  have hx2 := heap_alloc2_new w (.cells vs 34) (.cells zMv 34)
  have hb2 : Below w.heap.size w ((w.alloc (.cells vs 34)).alloc (.cells zMv 34)) := ((Below.refl _ _).alloc (Nat.le_refl _) _).alloc (by simp) _
  have hsz : ((w.alloc (.cells vs 34)).alloc (.cells zMv 34)).heap.size = w.heap.size + 2 := by simp
  have HRD := Lib.hid hrd
  have HAT := Lib.hid hat8
  have HOK := Lib.hid hok8
  have HN8 := Lib.hid hn8
  have HVS := Lib.hid hvs
  have HV1 := Lib.hid hv1
  have HUS : Hid (∀ (j : Nat) (v : Value), vs.toList[j]? = some v → vs[j]? = some v) := Lib.hid (fun j v hv => by rw [← Array.getElem?_toList]; exact hv)
  have HU8 := Lib.hid hu8
  have HBY := Lib.hid hby
  have hn8' := hn8.1
  clear h hb0 hk62 hrd8 hrd hat8 hok8 hn8 hvs hv1 hu8 hcap8 hby
  go_enter Tryd.func10, Tryd.ntmps10
  go_upto_region 1 with (refine wpList_alloc_row rfl 34 rfl zMv zr_mach ?_)
  generalize (w.alloc (.cells vs 34)).alloc (.cells zMv 34) = w2 at *
  have d8 : w2.cell? ⟨w.heap.size, 8, none⟩ = some (.slice A8 n8 c8) := by rw [cell_of_row _ _ _ _ _ _ hx1]; exact HUS.out _ _ HU8.out
  have HX1 := Lib.hid hx1
  have HX2 := Lib.hid hx2
  have HB2 := Lib.hid hb2
  have HSZ := Lib.hid hsz
  have HRN : Hid (Rd w2 W0.heap.size 62 A8 n8 xs8) := Lib.hid (Rd.below HRD.out (HB0.out.trans (hb2.mono HB0.out.size)))
  have HNL : Hid (∀ u ∈ xs8, u.oneCell' = true) := Lib.hid (ces_one _ _ HAT.out)
  have HNI : Hid (w2.ownsRow w2.heap.size 51 62 (.slice none 0 0) 0 []) := Lib.hid ⟨by simp, .inl ⟨rfl, rfl⟩⟩
  clear hx1 hx2 hb2 hsz
  go_wp2_with (at_builtin; refine wpList_append_rd _ rfl _ _ 28 rfl w2.heap.size 51 ie (.agg zs8) 62 _ Tryd.underlying28 HIE.out HIZ.out HIS.out HIB.out HZS.out (by decide) _ 0 [] rfl HNI.out _ n8 c8 W0.heap.size xs8 rfl HRN.out HNL.out (by simp only [maxLen]; omega) (by rw [Nat.zero_add]; exact Nat.le_trans HN8.out.2 (by decide)) (Nat.le_refl _) ?_)
  intro vc w3 hown3 hgrow3
  have hb3 : Below w2.heap.size w2 w3 := (Below.refl _ w2).grown hgrow3 (Nat.le_refl _) (fun g hg => by cases hg)
  have HB3 := Lib.hid (HB2.out.trans (hb3.mono HB2.out.size))
  have HX3 := Lib.hid ((hb3.block w.heap.size (by rw [HSZ.out]; omega)).trans HX1.out)
  have HX4 := Lib.hid ((hb3.block (w.heap.size + 1) (by rw [HSZ.out]; omega)).trans HX2.out)
  have HW3 : Hid (w3.ownsRow (w.heap.size + 2) 51 62 vc n8 xs8) := Lib.hid (by rw [← HSZ.out]; exact hown3)
  clear hgrow3 hb3 hown3 d8 HNI HNL HRN HX1 HX2 HB2 HSZ
  obtain ⟨Ac, cc, hvc, _, _⟩ := own_rd HW3.out (Nat.le_refl _)
  subst hvc
  obtain ⟨n', es', AL, cL, xsL, kL, g1, huL, hcapL, hrdL, hatL, hnL, hokL⟩ := get_l HH.out.ok HH.out.at' 14 _ _ rfl
  rw [hcn] at g1
  injection g1 with g1
  injection g1 with g1 g1'
  subst g1 g1'
  obtain ⟨je, zsL, hje, hjz, hjs, hjb, hjzs, _⟩ := zero_row zr_Row (by decide)
  have HJE := Lib.hid hje
  have HJZ := Lib.hid hjz
  have HJS := Lib.hid hjs
  have HJB := Lib.hid hjb
  have HJZS := Lib.hid hjzs
  have hkL : kL = 5 := by
    have e1 := hrdL.1
    have e2 := Ce.ats_length _ _ hatL
    have e3 := Ce.oks_length _ _ hokL
    rw [List.length_flatten] at e3
    simp at e3
    rw [e2, e3] at e1
    exact Nat.eq_of_mul_eq_mul_left hpos e1.symm
  subst hkL
  obtain ⟨i, hi⟩ : ∃ i, n = i + 1 := ⟨n - 1, by omega⟩
  subst hi
  have hnL' := hnL.1
  have HNB := Lib.hid hnL
  have HATL := Lib.hid hatL
  have HOKL := Lib.hid hokL
  have HCN := Lib.hid hcn
  have HRL : Hid (Rd w3 W0.heap.size 5 AL (i + 1) xsL) := Lib.hid (Rd.below hrdL (HB0.out.trans (HB3.out.mono HB0.out.size)))
  have HNLL : Hid (∀ u ∈ xsL, u.oneCell' = true) := Lib.hid (ces_one _ _ hatL)
  have HNI : Hid (w3.ownsRow w3.heap.size 77 5 (.slice none 0 0) 0 []) := Lib.hid ⟨by simp, .inl ⟨rfl, rfl⟩⟩
  have dl : w3.cell? ⟨w.heap.size, 14, none⟩ = some (.slice AL (i + 1) cL) := by rw [cell_of_row _ _ _ _ _ _ HX3.out]; exact HUS.out _ _ huL
  have HUL := Lib.hid huL
  have y1 : (0 : Int) < ((i + 1 : Nat) : Int) := by omega
  have y2 : decide ((0 : Int) < ((i + 1 : Nat) : Int)) = true := decide_eq_true y1
  have y3 : decide (0 < i + 1) = true := decide_eq_true (by omega)
  have y4 : IntKind.i64.wrap (((i + 1 : Nat) : Int) - 1) = (i : Int) := by rw [IntKind.wrap_i64]; omega
  have y5 : (i : Int) < ((i + 1 : Nat) : Int) := by omega
  have y6 : (0 : Int) ≤ (i : Int) := by omega
  clear hje hjz hjs hjb hjzs hrdL hatL hnL hokL hcn huL
  go_upto_region 30 with fail
  go_wp2_with (at_builtin; refine wpList_append_rd _ rfl _ _ 32 rfl w3.heap.size 77 je (.agg zsL) 5 _ Tryd.underlying32 HJE.out HJZ.out HJS.out HJB.out HJZS.out (by decide) _ 0 [] rfl HNI.out _ (i + 1) cL W0.heap.size xsL rfl HRL.out HNLL.out (by simp only [maxLen]; omega) (by rw [Nat.zero_add]; exact Nat.le_trans HNB.out.2 (by decide)) (Nat.le_refl _) ?_)
  intro vl w3b hownb hgrowb
  have hwb := (Array.getElem?_eq_some_iff.1 HX4.out).1
  have hbb : Below w3.heap.size w3 w3b := (Below.refl _ w3).grown hgrowb (Nat.le_refl _) (fun g hg => by cases hg)
  have HBB := Lib.hid (HB3.out.trans (hbb.mono HB3.out.size))
  have HXB := Lib.hid ((hbb.block w.heap.size (by omega)).trans HX3.out)
  have HXC := Lib.hid ((hbb.block (w.heap.size + 1) hwb).trans HX4.out)
  obtain ⟨g, cap, hvl⟩ : ∃ g cap, vl = .slice (some ⟨g, 0, none⟩) (i + 1) cap := by
    rcases hownb.2 with ⟨_, h0⟩ | ⟨g, cap, cur, hv, _⟩
    · omega
    · exact ⟨g, cap, hv⟩
  subst hvl
  have HWB : Hid (w3b.ownsRow (w.heap.size + 2) 77 5 (.slice (some ⟨g, 0, none⟩) (i + 1) cap) (i + 1) xsL) := Lib.hid (by
    obtain ⟨q1, q2⟩ := hownb
    refine ⟨q1, ?_⟩
    rcases q2 with q2 | ⟨b, cp, cur, q3, q4, q5⟩
    · exact .inl q2
    · exact .inr ⟨b, cp, cur, q3, by omega, q5⟩)
  clear hgrowb hbb hownb dl HNI HNLL HRL hwb
  clear HX3 HX4 HB3 HW3
  obtain ⟨w3, rfl⟩ : ∃ W : World, W = w3b := ⟨_, rfl⟩
  have HB3 := HBB
  have HX3 := HXB
  have HX4 := HXC
  have HW3 := HWB
  clear HBB HXB HXC HWB
  obtain ⟨p, hp⟩ : ∃ p, p = i * 5 + 2 := ⟨_, rfl⟩
  have hpl : p < (i + 1) * 5 := by omega
  have hqt : ((List.replicate (i + 1) ([.i, .s, .i, .i, .s] : List Ty)).flatten)[p]? = some .i := by
    have := rep_at (e := ([.i, .s, .i, .i, .s] : List Ty)) (n := i + 1) (i := i) (p := 2) (t := .i) (by omega) (by decide) rfl
    rw [hp]
    simpa using this
  obtain ⟨x, hex, hxx, HXR⟩ := get_i HOKL.out HATL.out p hqt
  obtain ⟨hcell, hfz, hgb, hgl⟩ := own_cell HW3.out p _ hxx
  have HEX := Lib.hid hex
  have HQT := Lib.hid hqt
  have HXR' := Lib.hid HXR
  have HGB : Hid (w.heap.size + 2 ≤ g) := Lib.hid hgb
  have HPL := Lib.hid hpl
  have HP := Lib.hid hp
  rw [hp] at hcell hfz
  clear hex hqt hxx HXR hp
  go_upto_region 32 with fail
  rw [← HP.out]
  obtain ⟨y, hy⟩ : ∃ y, bits BinOp.xor IntKind.i64 x by' = y := ⟨_, rfl⟩
  rw [hy]
  have HW4 := Lib.hid (own_set HW3.out (p) HPL.out (.int .i64 y))
  have HX5 : Hid ((w3.setCell ⟨g, p, none⟩ (.int .i64 y)).heap[w.heap.size]? = some (.cells vs 34 (0, 0))) := Lib.hid (by rw [heap_setCell_other _ _ _ _ (by show w.heap.size ≠ g; have := HGB.out; omega)]; exact HX3.out)
  have HX6 : Hid ((w3.setCell ⟨g, p, none⟩ (.int .i64 y)).heap[w.heap.size + 1]? = some (.cells zMv 34 (0, 0))) := Lib.hid (by rw [heap_setCell_other _ _ _ _ (by show w.heap.size + 1 ≠ g; have := HGB.out; omega)]; exact HX4.out)
  have HB4 : Hid (Below w.heap.size w (w3.setCell ⟨g, p, none⟩ (.int .i64 y))) := Lib.hid (HB3.out.setCell (p := ⟨g, p, none⟩) (by show w.heap.size ≤ g; have := HGB.out; omega) _)
  have HD : Hid ((-9223372036854775808 ≤ y ∧ y ≤ 9223372036854775807) ∧ (by' = 0 → y = x) ∧ (by' ≠ 0 → y ≠ x)) := Lib.hid (by
    rw [← hy]
    exact ⟨xor_in _ _, fun h => by rw [h]; exact xor_zero _ HXR'.out, xor_other _ _ HBY.out⟩)
  clear hy hcell hfz hgb hgl hpl
  generalize w3.setCell ⟨g, p, none⟩ (.int .i64 y) = w4 at *
  have dm : w4.cell? ⟨w.heap.size, 14, none⟩ = some (.slice AL (i + 1) cL) := by rw [cell_of_row _ _ _ _ _ _ HX5.out]; exact HUS.out _ _ HUL.out
  have fm : w4.frozen? ⟨w.heap.size, 14, none⟩ = false := frozen_of_row _ _ _ _ _ HX5.out
  clear HX3 HX4 HB3 HW3
  go_upto_region 45 with fail
  obtain ⟨vm, hvm⟩ : ∃ v, v = vs.setIfInBounds 14 (.slice (some ⟨g, 0, none⟩) (i + 1) cap) := ⟨_, rfl⟩
  have hx7 := heap_setCell_same w4 w.heap.size 14 vs _ (.slice (some ⟨g, 0, none⟩) (i + 1) cap) HX5.out
  rw [← hvm] at hx7
  have HX7 := Lib.hid hx7
  have HX8 : Hid ((w4.setCell ⟨w.heap.size, 14, none⟩ (.slice (some ⟨g, 0, none⟩) (i + 1) cap)).heap[w.heap.size + 1]? = some (.cells zMv 34 (0, 0))) := Lib.hid (by rw [heap_setCell_other _ _ _ _ (by show w.heap.size + 1 ≠ w.heap.size; omega)]; exact HX6.out)
  have HB5 : Hid (Below w.heap.size w (w4.setCell ⟨w.heap.size, 14, none⟩ (.slice (some ⟨g, 0, none⟩) (i + 1) cap))) := Lib.hid (HB4.out.setCell (p := ⟨w.heap.size, 14, none⟩) (Nat.le_refl _) _)
  have HW5 := Lib.hid (own_setOther (p := ⟨w.heap.size, 14, none⟩) (u := .slice (some ⟨g, 0, none⟩) (i + 1) cap) HW4.out (by show w.heap.size < w.heap.size + 2; omega))
  clear hx7 dm fm HX5 HX6 HB4 HW4
  generalize w4.setCell ⟨w.heap.size, 14, none⟩ (.slice (some ⟨g, 0, none⟩) (i + 1) cap) = w5 at *
  have HV16 : Hid (vm.size = 16) := Lib.hid (by rw [hvm, Array.size_setIfInBounds, HVS.out])
  have HVO : Hid (vm.all (·.oneCell') = true) := Lib.hid (by
    rw [hvm, ← Array.toArray_toList (xs := vs.setIfInBounds 14 _), Array.toList_setIfInBounds]
    refine all_oneCell_toArray fun u hu => ?_
    rcases List.mem_or_eq_of_mem_set hu with hu | hu
    · exact Array.all_eq_true_iff_forall_mem.1 HV1.out u (by simpa using hu)
    · rw [hu]; rfl)
  have HS : Hid ((Tryd.prog.info? 34).map (·.size) = some vm.size) := Lib.hid (by rw [HV16.out]; exact sz_Machine)
  have HSZ0 : Hid (zMv.size = vm.size) := Lib.hid (by rw [HV16.out]; rfl)
  have HFX := Lib.hid (setRow_heap _ _ _ vm _ _ HX8.out)
  have HFB := Lib.hid (below_setRow HB5.out (Nat.le_succ w.heap.size) vm)
  have HTQ : Hid (TurnQ cs by' w (.returned (.agg vm)) (w5.setRow (w.heap.size + 1) vm)) := Lib.hid (by
    have hbz : Below W0.heap.size W0 (w5.setRow (w.heap.size + 1) vm) := HB0.out.trans (HFB.out.mono HB0.out.size)
    have hl := list_turn (nb := Tryd.prog.bytesOf 77) (q := ([.i, .s, .i, .i, .s] : List Ty)) (d' := .i y) hbz HATL.out HOKL.out HNB.out (own_setRow (g := w.heap.size + 1) (cs := vm) HW5.out (by omega)) (by unfold Ce.At; rfl) ⟨_, HQT.out, by unfold Ce.Ok; exact HD.out.1⟩
    have hbk := Ce.bulks_set (c := .i y) es (p) HEX.out
    rw [hvm]
    rw [hvm] at hl
    refine turnq_of HH.out.ok HH.out.at' HB0.out (by rw [← hvm]; exact HFB.out) HCN.out hl.1 ⟨_, rfl, hl.2⟩ ?_ ?_ ?_
    · simp only [Ce.bulk] at hbk ⊢
      omega
    · intro hb
      rw [HD.out.2.1 hb]
      congr 1
      exact set_same HEX.out
    · intro hb he
      injection he with _ he
      exact set_other HEX.out (fun h => HD.out.2.2 hb (by injection h)) he)
  clear hvm
  go_wp2_with (first | refine wpList_load_row rfl 34 _ rfl w.heap.size rfl 34 vm (0, 0) _ HX7.out Tryd.underlying34 rfl HS.out ?_ | refine wpList_store_row rfl 34 _ _ rfl (w.heap.size + 1) vm rfl rfl 34 zMv HX8.out HS.out HSZ0.out HVO.out ?_)
  (try simp only [Exit.inBlock, Exit.then])
  exact bodyPost_ret (v := .agg vm) (results_cell_row rfl _ _ (w.heap.size + 1) 34 _ (0, 0) _ rfl HFX.out Tryd.underlying34 rfl HS.out) rfl HTQ.out
set_option maxRecDepth 100000 in
set_option maxHeartbeats 16000000 in
theorem turned_queue {W0 w : World} {cs : List Ce} {vs : Array Value} (h : MIn W0 cs vs) (hb0 : Below W0.heap.size W0 w) (which by' : Int) (hby : -9223372036854775808 ≤ by' ∧ by' ≤ 9223372036854775807) {n8 : Nat} {e8 : List Ce} (hc8 : cs[8]? = some (.l n8 e8)) (hk : bits BinOp.and IntKind.i64 which 15 = 11) {n : Nat} {es : List Ce} (hcn : cs[9]? = some (.l n es)) (hpos : 0 < n) :
    Calls Tryd.prog 10 #[.agg vs, .int .i64 which, .int .i64 by'] w fun e w' => TurnQ cs by' w e w' := by
  have hvs := mach_size h.ok h.at'
  have hv1 := mach_one h.at'
  obtain ⟨n8', e8', A8, c8, xs8, k8', g1, hu8, hcap8, hrd8, hat8, hn8, hok8⟩ := get_l h.ok h.at' 8 _ _ rfl
  rw [hc8] at g1
  injection g1 with g1
  injection g1 with g1 g1'
  subst g1 g1'
  have HH := Lib.hid h
  have HB0 := Lib.hid hb0
  obtain ⟨ie, zs8, hie, hiz, his, hib, hzs, _⟩ := zero_row zr_Cell (by decide)
  have HIE := Lib.hid hie
  have HIZ := Lib.hid hiz
  have HIS := Lib.hid his
  have HIB := Lib.hid hib
  have HZS := Lib.hid hzs
  clear hie hiz his hib hzs
  have hk62 : k8' = 62 ∨ n8 = 0 := by
    have e1 := hrd8.1
    have e2 := Ce.ats_length _ _ hat8
    have e3 := Ce.oks_length _ _ hok8
    rw [List.length_flatten] at e3
    simp [q_len] at e3
    rw [e2, e3] at e1
    rcases Nat.eq_zero_or_pos n8 with h | h
    · exact .inr h
    · exact .inl (Nat.eq_of_mul_eq_mul_left h e1.symm)
  have hrd : Rd W0 W0.heap.size 62 A8 n8 xs8 := by
    rcases hk62 with rfl | rfl
    · exact hrd8
    · have e1 := hrd8.1
      exact ⟨by rw [e1]; simp, fun h => absurd h (Nat.lt_irrefl _)⟩
  have hx1 := heap_alloc2_old w (.cells vs 34) (.cells zMv 34)
  have hx2 := heap_alloc2_new w (.cells vs 34) (.cells zMv 34)
  have hb2 : Below w.heap.size w ((w.alloc (.cells vs 34)).alloc (.cells zMv 34)) := ((Below.refl _ _).alloc (Nat.le_refl _) _).alloc (by simp) _
  have hsz : ((w.alloc (.cells vs 34)).alloc (.cells zMv 34)).heap.size = w.heap.size + 2 := by simp
  have HRD := Lib.hid hrd
  have HAT := Lib.hid hat8
  have HOK := Lib.hid hok8
  have HN8 := Lib.hid hn8
  have HVS := Lib.hid hvs
  have HV1 := Lib.hid hv1
  have HUS : Hid (∀ (j : Nat) (v : Value), vs.toList[j]? = some v → vs[j]? = some v) := Lib.hid (fun j v hv => by rw [← Array.getElem?_toList]; exact hv)
  have HU8 := Lib.hid hu8
  have HBY := Lib.hid hby
  have hn8' := hn8.1
  clear h hb0 hk62 hrd8 hrd hat8 hok8 hn8 hvs hv1 hu8 hcap8 hby
  go_enter Tryd.func10, Tryd.ntmps10
  go_upto_region 1 with (refine wpList_alloc_row rfl 34 rfl zMv zr_mach ?_)
  generalize (w.alloc (.cells vs 34)).alloc (.cells zMv 34) = w2 at *
  have d8 : w2.cell? ⟨w.heap.size, 8, none⟩ = some (.slice A8 n8 c8) := by rw [cell_of_row _ _ _ _ _ _ hx1]; exact HUS.out _ _ HU8.out
  have HX1 := Lib.hid hx1
  have HX2 := Lib.hid hx2
  have HB2 := Lib.hid hb2
  have HSZ := Lib.hid hsz
  have HRN : Hid (Rd w2 W0.heap.size 62 A8 n8 xs8) := Lib.hid (Rd.below HRD.out (HB0.out.trans (hb2.mono HB0.out.size)))
  have HNL : Hid (∀ u ∈ xs8, u.oneCell' = true) := Lib.hid (ces_one _ _ HAT.out)
  have HNI : Hid (w2.ownsRow w2.heap.size 51 62 (.slice none 0 0) 0 []) := Lib.hid ⟨by simp, .inl ⟨rfl, rfl⟩⟩
  clear hx1 hx2 hb2 hsz
  go_wp2_with (at_builtin; refine wpList_append_rd _ rfl _ _ 28 rfl w2.heap.size 51 ie (.agg zs8) 62 _ Tryd.underlying28 HIE.out HIZ.out HIS.out HIB.out HZS.out (by decide) _ 0 [] rfl HNI.out _ n8 c8 W0.heap.size xs8 rfl HRN.out HNL.out (by simp only [maxLen]; omega) (by rw [Nat.zero_add]; exact Nat.le_trans HN8.out.2 (by decide)) (Nat.le_refl _) ?_)
  intro vc w3 hown3 hgrow3
  have hb3 : Below w2.heap.size w2 w3 := (Below.refl _ w2).grown hgrow3 (Nat.le_refl _) (fun g hg => by cases hg)
  have HB3 := Lib.hid (HB2.out.trans (hb3.mono HB2.out.size))
  have HX3 := Lib.hid ((hb3.block w.heap.size (by rw [HSZ.out]; omega)).trans HX1.out)
  have HX4 := Lib.hid ((hb3.block (w.heap.size + 1) (by rw [HSZ.out]; omega)).trans HX2.out)
  have HW3 : Hid (w3.ownsRow (w.heap.size + 2) 51 62 vc n8 xs8) := Lib.hid (by rw [← HSZ.out]; exact hown3)
  clear hgrow3 hb3 hown3 d8 HNI HNL HRN HX1 HX2 HB2 HSZ
  obtain ⟨Ac, cc, hvc, _, _⟩ := own_rd HW3.out (Nat.le_refl _)
  subst hvc
  obtain ⟨n', es', AL, cL, xsL, kL, g1, huL, hcapL, hrdL, hatL, hnL, hokL⟩ := get_l HH.out.ok HH.out.at' 9 _ _ rfl
  rw [hcn] at g1
  injection g1 with g1
  injection g1 with g1 g1'
  subst g1 g1'
  obtain ⟨je, zsL, hje, hjz, hjs, hjb, hjzs, _⟩ := zero_row zr_Job (by decide)
  have HJE := Lib.hid hje
  have HJZ := Lib.hid hjz
  have HJS := Lib.hid hjs
  have HJB := Lib.hid hjb
  have HJZS := Lib.hid hjzs
  have hkL : kL = 4 := by
    have e1 := hrdL.1
    have e2 := Ce.ats_length _ _ hatL
    have e3 := Ce.oks_length _ _ hokL
    rw [List.length_flatten] at e3
    simp at e3
    rw [e2, e3] at e1
    exact Nat.eq_of_mul_eq_mul_left hpos e1.symm
  subst hkL
  obtain ⟨i, hi⟩ : ∃ i, n = i + 1 := ⟨n - 1, by omega⟩
  subst hi
  have hnL' := hnL.1
  have HNB := Lib.hid hnL
  have HATL := Lib.hid hatL
  have HOKL := Lib.hid hokL
  have HCN := Lib.hid hcn
  have HRL : Hid (Rd w3 W0.heap.size 4 AL (i + 1) xsL) := Lib.hid (Rd.below hrdL (HB0.out.trans (HB3.out.mono HB0.out.size)))
  have HNLL : Hid (∀ u ∈ xsL, u.oneCell' = true) := Lib.hid (ces_one _ _ hatL)
  have HNI : Hid (w3.ownsRow w3.heap.size 71 4 (.slice none 0 0) 0 []) := Lib.hid ⟨by simp, .inl ⟨rfl, rfl⟩⟩
  have dl : w3.cell? ⟨w.heap.size, 9, none⟩ = some (.slice AL (i + 1) cL) := by rw [cell_of_row _ _ _ _ _ _ HX3.out]; exact HUS.out _ _ huL
  have HUL := Lib.hid huL
  have y1 : (0 : Int) < ((i + 1 : Nat) : Int) := by omega
  have y2 : decide ((0 : Int) < ((i + 1 : Nat) : Int)) = true := decide_eq_true y1
  have y3 : decide (0 < i + 1) = true := decide_eq_true (by omega)
  have y4 : IntKind.i64.wrap (((i + 1 : Nat) : Int) - 1) = (i : Int) := by rw [IntKind.wrap_i64]; omega
  have y5 : (i : Int) < ((i + 1 : Nat) : Int) := by omega
  have y6 : (0 : Int) ≤ (i : Int) := by omega
  clear hje hjz hjs hjb hjzs hrdL hatL hnL hokL hcn huL
  go_upto_region 34 with fail
  go_wp2_with (at_builtin; refine wpList_append_rd _ rfl _ _ 29 rfl w3.heap.size 71 je (.agg zsL) 4 _ Tryd.underlying29 HJE.out HJZ.out HJS.out HJB.out HJZS.out (by decide) _ 0 [] rfl HNI.out _ (i + 1) cL W0.heap.size xsL rfl HRL.out HNLL.out (by simp only [maxLen]; omega) (by rw [Nat.zero_add]; exact Nat.le_trans HNB.out.2 (by decide)) (Nat.le_refl _) ?_)
  intro vl w3b hownb hgrowb
  have hwb := (Array.getElem?_eq_some_iff.1 HX4.out).1
  have hbb : Below w3.heap.size w3 w3b := (Below.refl _ w3).grown hgrowb (Nat.le_refl _) (fun g hg => by cases hg)
  have HBB := Lib.hid (HB3.out.trans (hbb.mono HB3.out.size))
  have HXB := Lib.hid ((hbb.block w.heap.size (by omega)).trans HX3.out)
  have HXC := Lib.hid ((hbb.block (w.heap.size + 1) hwb).trans HX4.out)
  obtain ⟨g, cap, hvl⟩ : ∃ g cap, vl = .slice (some ⟨g, 0, none⟩) (i + 1) cap := by
    rcases hownb.2 with ⟨_, h0⟩ | ⟨g, cap, cur, hv, _⟩
    · omega
    · exact ⟨g, cap, hv⟩
  subst hvl
  have HWB : Hid (w3b.ownsRow (w.heap.size + 2) 71 4 (.slice (some ⟨g, 0, none⟩) (i + 1) cap) (i + 1) xsL) := Lib.hid (by
    obtain ⟨q1, q2⟩ := hownb
    refine ⟨q1, ?_⟩
    rcases q2 with q2 | ⟨b, cp, cur, q3, q4, q5⟩
    · exact .inl q2
    · exact .inr ⟨b, cp, cur, q3, by omega, q5⟩)
  clear hgrowb hbb hownb dl HNI HNLL HRL hwb
  clear HX3 HX4 HB3 HW3
  obtain ⟨w3, rfl⟩ : ∃ W : World, W = w3b := ⟨_, rfl⟩
  have HB3 := HBB
  have HX3 := HXB
  have HX4 := HXC
  have HW3 := HWB
  clear HBB HXB HXC HWB
  have hp : 3 = 3 := rfl
  have hpl : 3 < (i + 1) * 4 := by omega
  have hqt : ((List.replicate (i + 1) ([.s, .i, .i, .i] : List Ty)).flatten)[3]? = some .i := by
    have := rep_at (e := ([.s, .i, .i, .i] : List Ty)) (n := i + 1) (i := 0) (p := 3) (t := .i) (by omega) (by decide) rfl

    simpa using this
  obtain ⟨x, hex, hxx, HXR⟩ := get_i HOKL.out HATL.out 3 hqt
  obtain ⟨hcell, hfz, hgb, hgl⟩ := own_cell HW3.out 3 _ hxx
  have HEX := Lib.hid hex
  have HQT := Lib.hid hqt
  have HXR' := Lib.hid HXR
  have HGB : Hid (w.heap.size + 2 ≤ g) := Lib.hid hgb
  have HPL := Lib.hid hpl
  have HP := Lib.hid hp
  skip
  clear hex hqt hxx HXR hp
  go_upto_region 36 with fail
  skip
  obtain ⟨y, hy⟩ : ∃ y, bits BinOp.xor IntKind.i64 x by' = y := ⟨_, rfl⟩
  rw [hy]
  have HW4 := Lib.hid (own_set HW3.out (3) HPL.out (.int .i64 y))
  have HX5 : Hid ((w3.setCell ⟨g, 3, none⟩ (.int .i64 y)).heap[w.heap.size]? = some (.cells vs 34 (0, 0))) := Lib.hid (by rw [heap_setCell_other _ _ _ _ (by show w.heap.size ≠ g; have := HGB.out; omega)]; exact HX3.out)
  have HX6 : Hid ((w3.setCell ⟨g, 3, none⟩ (.int .i64 y)).heap[w.heap.size + 1]? = some (.cells zMv 34 (0, 0))) := Lib.hid (by rw [heap_setCell_other _ _ _ _ (by show w.heap.size + 1 ≠ g; have := HGB.out; omega)]; exact HX4.out)
  have HB4 : Hid (Below w.heap.size w (w3.setCell ⟨g, 3, none⟩ (.int .i64 y))) := Lib.hid (HB3.out.setCell (p := ⟨g, 3, none⟩) (by show w.heap.size ≤ g; have := HGB.out; omega) _)
  have HD : Hid ((-9223372036854775808 ≤ y ∧ y ≤ 9223372036854775807) ∧ (by' = 0 → y = x) ∧ (by' ≠ 0 → y ≠ x)) := Lib.hid (by
    rw [← hy]
    exact ⟨xor_in _ _, fun h => by rw [h]; exact xor_zero _ HXR'.out, xor_other _ _ HBY.out⟩)
  clear hy hcell hfz hgb hgl hpl
  generalize w3.setCell ⟨g, 3, none⟩ (.int .i64 y) = w4 at *
  have dm : w4.cell? ⟨w.heap.size, 9, none⟩ = some (.slice AL (i + 1) cL) := by rw [cell_of_row _ _ _ _ _ _ HX5.out]; exact HUS.out _ _ HUL.out
  have fm : w4.frozen? ⟨w.heap.size, 9, none⟩ = false := frozen_of_row _ _ _ _ _ HX5.out
  clear HX3 HX4 HB3 HW3
  go_upto_region 45 with fail
  obtain ⟨vm, hvm⟩ : ∃ v, v = vs.setIfInBounds 9 (.slice (some ⟨g, 0, none⟩) (i + 1) cap) := ⟨_, rfl⟩
  have hx7 := heap_setCell_same w4 w.heap.size 9 vs _ (.slice (some ⟨g, 0, none⟩) (i + 1) cap) HX5.out
  rw [← hvm] at hx7
  have HX7 := Lib.hid hx7
  have HX8 : Hid ((w4.setCell ⟨w.heap.size, 9, none⟩ (.slice (some ⟨g, 0, none⟩) (i + 1) cap)).heap[w.heap.size + 1]? = some (.cells zMv 34 (0, 0))) := Lib.hid (by rw [heap_setCell_other _ _ _ _ (by show w.heap.size + 1 ≠ w.heap.size; omega)]; exact HX6.out)
  have HB5 : Hid (Below w.heap.size w (w4.setCell ⟨w.heap.size, 9, none⟩ (.slice (some ⟨g, 0, none⟩) (i + 1) cap))) := Lib.hid (HB4.out.setCell (p := ⟨w.heap.size, 9, none⟩) (Nat.le_refl _) _)
  have HW5 := Lib.hid (own_setOther (p := ⟨w.heap.size, 9, none⟩) (u := .slice (some ⟨g, 0, none⟩) (i + 1) cap) HW4.out (by show w.heap.size < w.heap.size + 2; omega))
  clear hx7 dm fm HX5 HX6 HB4 HW4
  generalize w4.setCell ⟨w.heap.size, 9, none⟩ (.slice (some ⟨g, 0, none⟩) (i + 1) cap) = w5 at *
  have HV16 : Hid (vm.size = 16) := Lib.hid (by rw [hvm, Array.size_setIfInBounds, HVS.out])
  have HVO : Hid (vm.all (·.oneCell') = true) := Lib.hid (by
    rw [hvm, ← Array.toArray_toList (xs := vs.setIfInBounds 9 _), Array.toList_setIfInBounds]
    refine all_oneCell_toArray fun u hu => ?_
    rcases List.mem_or_eq_of_mem_set hu with hu | hu
    · exact Array.all_eq_true_iff_forall_mem.1 HV1.out u (by simpa using hu)
    · rw [hu]; rfl)
  have HS : Hid ((Tryd.prog.info? 34).map (·.size) = some vm.size) := Lib.hid (by rw [HV16.out]; exact sz_Machine)
  have HSZ0 : Hid (zMv.size = vm.size) := Lib.hid (by rw [HV16.out]; rfl)
  have HFX := Lib.hid (setRow_heap _ _ _ vm _ _ HX8.out)
  have HFB := Lib.hid (below_setRow HB5.out (Nat.le_succ w.heap.size) vm)
  have HTQ : Hid (TurnQ cs by' w (.returned (.agg vm)) (w5.setRow (w.heap.size + 1) vm)) := Lib.hid (by
    have hbz : Below W0.heap.size W0 (w5.setRow (w.heap.size + 1) vm) := HB0.out.trans (HFB.out.mono HB0.out.size)
    have hl := list_turn (nb := Tryd.prog.bytesOf 71) (q := ([.s, .i, .i, .i] : List Ty)) (d' := .i y) hbz HATL.out HOKL.out HNB.out (own_setRow (g := w.heap.size + 1) (cs := vm) HW5.out (by omega)) (by unfold Ce.At; rfl) ⟨_, HQT.out, by unfold Ce.Ok; exact HD.out.1⟩
    have hbk := Ce.bulks_set (c := .i y) es (3) HEX.out
    rw [hvm]
    rw [hvm] at hl
    refine turnq_of HH.out.ok HH.out.at' HB0.out (by rw [← hvm]; exact HFB.out) HCN.out hl.1 ⟨_, rfl, hl.2⟩ ?_ ?_ ?_
    · simp only [Ce.bulk] at hbk ⊢
      omega
    · intro hb
      rw [HD.out.2.1 hb]
      congr 1
      exact set_same HEX.out
    · intro hb he
      injection he with _ he
      exact set_other HEX.out (fun h => HD.out.2.2 hb (by injection h)) he)
  clear hvm
  go_wp2_with (first | refine wpList_load_row rfl 34 _ rfl w.heap.size rfl 34 vm (0, 0) _ HX7.out Tryd.underlying34 rfl HS.out ?_ | refine wpList_store_row rfl 34 _ _ rfl (w.heap.size + 1) vm rfl rfl 34 zMv HX8.out HS.out HSZ0.out HVO.out ?_)
  (try simp only [Exit.inBlock, Exit.then])
  exact bodyPost_ret (v := .agg vm) (results_cell_row rfl _ _ (w.heap.size + 1) 34 _ (0, 0) _ rfl HFX.out Tryd.underlying34 rfl HS.out) rfl HTQ.out

end Go.Proofs.YtkgkipohalekmaaDoor
