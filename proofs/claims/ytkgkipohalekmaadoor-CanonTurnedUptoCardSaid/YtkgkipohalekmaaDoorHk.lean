/-
  A machine of which one thing is turned: the program's walk, where a list grows.
-/
import Derived.Test.YtkgkipohalekmaaDoorHg
namespace Go.Proofs.YtkgkipohalekmaaDoor
open Go.RowKit Go.Shelf
theorem inf_int : (Tryd.prog.info? 3).map (fun i => (i.zero, i.size, i.bytes)) = some (some (.int .i64 0), 1, 8) := by kernel_rfl
theorem app_turn {W0 W' : World} {base n k nb : Nat} {es ds : List Ce} {xs us : List Value} {q : List Ty} {e : TypeId} {v' : Value} (hb : Below W0.heap.size W0 W') (hat : Ce.Ats W0 W0.heap.size es xs) (hok : Ce.Oks es (List.replicate n q).flatten) (hn : n + 1 ≤ 140737488351232 ∧ (n + 1) * nb ≤ 140737488351232)
    (hown : W'.ownsRow base e k v' (n + 1) (xs ++ us)) (hd : Ce.Ats W' W'.heap.size ds us) (hdk : Ce.Oks ds q) : (Ce.l (n + 1) (es ++ ds)).At W' W'.heap.size v' ∧ (Ce.l (n + 1) (es ++ ds)).Ok (.l nb q) := by
  obtain ⟨A, c, h1, h2, h3⟩ := own_rd hown (Nat.le_refl _)
  constructor
  · unfold Ce.At
    exact ⟨A, c, k, _, h1, h2, h3, Ce.ats_append _ _ (Ce.Ats.grow hb hb.size _ _ hat) hd⟩
  · unfold Ce.Ok
    refine ⟨hn, ?_⟩
    rw [List.replicate_succ', List.flatten_append]
    exact Ce.oks_append _ _ hok (by simpa using hdk)
theorem same_turn {W0 W' : World} {base n k nb : Nat} {es : List Ce} {xs : List Value} {q : List Ty} {e : TypeId} {v' : Value} (hb : Below W0.heap.size W0 W') (hat : Ce.Ats W0 W0.heap.size es xs) (hok : Ce.Oks es (List.replicate n q).flatten) (hn : n ≤ 140737488351232 ∧ n * nb ≤ 140737488351232)
    (hown : W'.ownsRow base e k v' n xs) : (Ce.l n es).At W' W'.heap.size v' ∧ (Ce.l n es).Ok (.l nb q) := by
  obtain ⟨A, c, h1, h2, h3⟩ := own_rd hown (Nat.le_refl _)
  constructor
  · unfold Ce.At
    exact ⟨A, c, k, _, h1, h2, h3, Ce.Ats.grow hb hb.size _ _ hat⟩
  · unfold Ce.Ok
    exact ⟨hn, hok⟩
theorem own_keepB {w w' : World} {B base n k : Nat} {e : TypeId} {v : Value} {xs : List Value} (h : w.ownsRow base e k v n xs) (hg : ∀ g, v.ownBlock = some g → g < B) (hb : Below B w w') : w'.ownsRow base e k v n xs := by
  obtain ⟨hl, h | ⟨b, cap, cur, rfl, h2, h3, h4⟩⟩ := h
  · exact ⟨hl, .inl h⟩
  · exact ⟨hl, .inr ⟨b, cap, cur, rfl, h2, (hb.block b (hg b rfl)).trans h3, h4⟩⟩
theorem bulk_at : ∀ (cs : List Ce) (k : Nat) (c : Ce), cs[k]? = some c → c.bulk ≤ Ce.bulks cs
  | [], _, _, h => by cases h
  | d :: r, 0, c, h => by
    obtain rfl : d = c := by simpa using h
    unfold Ce.bulks
    omega
  | d :: r, k + 1, c, h => by
    have := bulk_at r k c (by simpa using h)
    unfold Ce.bulks
    omega
theorem own_blk {w : World} {base n k : Nat} {e : TypeId} {v : Value} {xs : List Value} (h : w.ownsRow base e k v n xs) : ∀ g, v.ownBlock = some g → base ≤ g ∧ g < w.heap.size := fun g hg => by
  obtain ⟨hl, ⟨rfl, _⟩ | ⟨b, cap, cur, rfl, h2, h3, h4⟩⟩ := h
  · cases hg
  · injection hg with hg
    subst hg
    exact ⟨h2, (Array.getElem?_eq_some_iff.1 h3).1⟩
set_option maxRecDepth 100000 in
set_option maxHeartbeats 16000000 in
theorem turned_c9 {W0 w : World} {cs : List Ce} {vs : Array Value} (h : MIn W0 cs vs) (hb0 : Below W0.heap.size W0 w) (which by' : Int) (hby : -9223372036854775808 ≤ by' ∧ by' ≤ 9223372036854775807) {n8 : Nat} {e8 : List Ce} (hc8 : cs[8]? = some (.l n8 e8)) (hpos : 0 < n8) (hk : bits BinOp.and IntKind.i64 which 15 = 9) :
    Calls Tryd.prog 10 #[.agg vs, .int .i64 which, .int .i64 by'] w fun e w' => TurnQ cs by' w e w' := by
  have hvs := mach_size h.ok h.at'
  have hv1 := mach_one h.at'
  obtain ⟨n8', e8', A8, c8, xs8, k8', g1, hu8, hcap8, hrd8, hat8, hn8, hok8⟩ := get_l h.ok h.at' 8 _ _ rfl
  rw [hc8] at g1
  injection g1 with g1
  injection g1 with g1 g1'
  subst g1 g1'
  have HH := Lib.hid h
  have HB0 := Lib.hid hb0
  obtain ⟨ie, zs8, hie, hiz, his, hib, hzs, _⟩ := zero_row zr_Cell (by decide)
  have HIE := Lib.hid hie
  have HIZ := Lib.hid hiz
  have HIS := Lib.hid his
  have HIB := Lib.hid hib
  have HZS := Lib.hid hzs
  clear hie hiz his hib hzs
  have hk62 : k8' = 62 ∨ n8 = 0 := by
    have e1 := hrd8.1
    have e2 := Ce.ats_length _ _ hat8
    have e3 := Ce.oks_length _ _ hok8
    rw [List.length_flatten] at e3
    simp [q_len] at e3
    rw [e2, e3] at e1
    rcases Nat.eq_zero_or_pos n8 with h | h
    · exact .inr h
    · exact .inl (Nat.eq_of_mul_eq_mul_left h e1.symm)
  have hrd : Rd W0 W0.heap.size 62 A8 n8 xs8 := by
    rcases hk62 with rfl | rfl
    · exact hrd8
    · have e1 := hrd8.1
      exact ⟨by rw [e1]; simp, fun h => absurd h (Nat.lt_irrefl _)⟩
  have hx1 := heap_alloc2_old w (.cells vs 34) (.cells zMv 34)
  have hx2 := heap_alloc2_new w (.cells vs 34) (.cells zMv 34)
  have hb2 : Below w.heap.size w ((w.alloc (.cells vs 34)).alloc (.cells zMv 34)) := ((Below.refl _ _).alloc (Nat.le_refl _) _).alloc (by simp) _
  have hsz : ((w.alloc (.cells vs 34)).alloc (.cells zMv 34)).heap.size = w.heap.size + 2 := by simp
  have HRD := Lib.hid hrd
  have HAT := Lib.hid hat8
  have HOK := Lib.hid hok8
  have HN8 := Lib.hid hn8
  have HVS := Lib.hid hvs
  have HV1 := Lib.hid hv1
  have HUS : Hid (∀ (j : Nat) (v : Value), vs.toList[j]? = some v → vs[j]? = some v) := Lib.hid (fun j v hv => by rw [← Array.getElem?_toList]; exact hv)
  have HU8 := Lib.hid hu8
  have HBY := Lib.hid hby
  have hn8' := hn8.1
  clear h hb0 hk62 hrd8 hrd hat8 hok8 hn8 hvs hv1 hu8 hcap8 hby
  go_enter Tryd.func10, Tryd.ntmps10
  go_upto_region 1 with (refine wpList_alloc_row rfl 34 rfl zMv zr_mach ?_)
  generalize (w.alloc (.cells vs 34)).alloc (.cells zMv 34) = w2 at *
  have d8 : w2.cell? ⟨w.heap.size, 8, none⟩ = some (.slice A8 n8 c8) := by rw [cell_of_row _ _ _ _ _ _ hx1]; exact HUS.out _ _ HU8.out
  have HX1 := Lib.hid hx1
  have HX2 := Lib.hid hx2
  have HB2 := Lib.hid hb2
  have HSZ := Lib.hid hsz
  have HRN : Hid (Rd w2 W0.heap.size 62 A8 n8 xs8) := Lib.hid (Rd.below HRD.out (HB0.out.trans (hb2.mono HB0.out.size)))
  have HNL : Hid (∀ u ∈ xs8, u.oneCell' = true) := Lib.hid (ces_one _ _ HAT.out)
  have HNI : Hid (w2.ownsRow w2.heap.size 51 62 (.slice none 0 0) 0 []) := Lib.hid ⟨by simp, .inl ⟨rfl, rfl⟩⟩
  clear hx1 hx2 hb2 hsz
  go_wp2_with (at_builtin; refine wpList_append_rd _ rfl _ _ 28 rfl w2.heap.size 51 ie (.agg zs8) 62 _ Tryd.underlying28 HIE.out HIZ.out HIS.out HIB.out HZS.out (by decide) _ 0 [] rfl HNI.out _ n8 c8 W0.heap.size xs8 rfl HRN.out HNL.out (by simp only [maxLen]; omega) (by rw [Nat.zero_add]; exact Nat.le_trans HN8.out.2 (by decide)) (Nat.le_refl _) ?_)
  intro vc w3 hown3 hgrow3
  have hb3 : Below w2.heap.size w2 w3 := (Below.refl _ w2).grown hgrow3 (Nat.le_refl _) (fun g hg => by cases hg)
  have HB3 := Lib.hid (HB2.out.trans (hb3.mono HB2.out.size))
  have HX3 := Lib.hid ((hb3.block w.heap.size (by rw [HSZ.out]; omega)).trans HX1.out)
  have HX4 := Lib.hid ((hb3.block (w.heap.size + 1) (by rw [HSZ.out]; omega)).trans HX2.out)
  have HW3 : Hid (w3.ownsRow (w.heap.size + 2) 51 62 vc n8 xs8) := Lib.hid (by rw [← HSZ.out]; exact hown3)
  clear hgrow3 hb3 hown3 d8 HNI HNL HRN HX1 HX2 HB2 HSZ
  obtain ⟨g, cap, hvc⟩ : ∃ g cap, vc = .slice (some ⟨g, 0, none⟩) n8 cap := by
    rcases HW3.out.2 with ⟨_, h0⟩ | ⟨g, cap, cur, hv, _⟩
    · omega
    · exact ⟨g, cap, hv⟩
  subst hvc
  have y1 : (0 : Int) < (n8 : Int) := by omega
  have y2 : decide ((0 : Int) < (n8 : Int)) = true := decide_eq_true y1
  have y3 : decide (0 < n8) = true := decide_eq_true hpos
  go_upto_region 6 with fail
  obtain ⟨q, hq⟩ : ∃ q : Int, (bits BinOp.and IntKind.i64 (which / 16) 255).tmod (n8 : Int) = q := ⟨_, rfl⟩
  rw [hq]
  obtain ⟨i, rfl, hin⟩ : ∃ i : Nat, q = (i : Int) ∧ i < n8 := by
    have hm := mask_in (which / 16) 255 (by decide)
    have hm1 : 0 ≤ bits BinOp.and IntKind.i64 (which / 16) 255 := hm.1
    rw [Int.tmod_eq_emod_of_nonneg hm1] at hq
    have h1 := Int.emod_nonneg (bits BinOp.and IntKind.i64 (which / 16) 255) (show (n8 : Int) ≠ 0 by omega)
    have h2 := Int.emod_lt_of_pos (bits BinOp.and IntKind.i64 (which / 16) 255) (show (0 : Int) < (n8 : Int) by omega)
    exact ⟨q.toNat, by omega, by omega⟩
  clear hq
  have j1 : (0 : Int) ≤ (i : Int) := by omega
  have j2 : (i : Int) < (n8 : Int) := by omega
  have hpl : i * 62 + 38 < n8 * 62 := by
    have : (i + 1) * 62 ≤ n8 * 62 := Nat.mul_le_mul_right _ hin
    omega
  have hqt : ((List.replicate n8 qCell).flatten)[i * 62 + 38]? = some (.l (Tryd.prog.bytesOf 3) [.i]) := rep_at (e := qCell) hin (by rw [q_len]; decide) rfl
  obtain ⟨nb, eb, Ab, cb, xb, kb, hex, hxx, hcapb, hrdb, hatb, hnb, hokb⟩ := get_l HOK.out HAT.out (i * 62 + 38) _ _ hqt
  obtain ⟨hcell, hfz, hgb, hgl⟩ := own_cell HW3.out (i * 62 + 38) _ hxx
  have hrd1 : Rd W0 W0.heap.size 1 Ab nb xb := by
    have e1 := hrdb.1
    have e2 := Ce.ats_length _ _ hatb
    have e3 := Ce.oks_length _ _ hokb
    rw [List.length_flatten] at e3
    simp at e3
    exact ⟨by omega, hrdb.2⟩
  obtain ⟨i0, hi0, hz0, hs0, hb0'⟩ := info_parts inf_int
  have HI0 := Lib.hid hi0
  have HI1 := Lib.hid hz0
  have HI2 := Lib.hid hs0
  have HI3 := Lib.hid hb0'
  have hbk : nb ≤ 1048577 := by
    have h1 := bulk_at _ _ _ hc8
    have h2 := bulk_at _ _ _ hex
    have h3 := HH.out.bulk
    have h4 := Ce.bulks_length eb
    have h5 := Ce.oks_length _ _ hokb
    rw [List.length_flatten] at h5
    simp at h5
    simp only [Ce.bulk] at h1 h2
    omega
  have HEX := Lib.hid hex
  have HXX := Lib.hid hxx
  have HQT := Lib.hid hqt
  have HGB : Hid (w.heap.size + 2 ≤ g) := Lib.hid hgb
  have HPL := Lib.hid hpl
  have HATB := Lib.hid hatb
  have HOKB := Lib.hid hokb
  have HNB := Lib.hid hnb
  have HRB : Hid (Rd w3 W0.heap.size 1 Ab nb xb) := Lib.hid (Rd.below hrd1 (HB0.out.trans (HB3.out.mono HB0.out.size)))
  have HNLB : Hid (∀ u ∈ xb, u.oneCell' = true) := Lib.hid (ces_one _ _ hatb)
  have HNI : Hid (w3.ownsRow w3.heap.size 3 1 (.slice none 0 0) 0 []) := Lib.hid ⟨by simp, .inl ⟨rfl, rfl⟩⟩
  clear hex hqt hxx hrdb hrd1 hatb hokb hnb hcapb hi0 hz0 hs0 hb0'
  go_upto_region 7 with fail
  have hle := HRB.out
  go_wp2_with (at_builtin; refine wpList_append_rd _ rfl _ _ 44 rfl w3.heap.size 3 i0 (.int .i64 0) 1 8 Tryd.underlying44 HI0.out HI1.out HI2.out HI3.out rfl (by decide) _ 0 [] rfl HNI.out _ nb cb W0.heap.size xb rfl HRB.out HNLB.out (by simp only [maxLen]; omega) (by omega) (Nat.le_refl _) ?_)
  intro vb w4 hownb hgrowb
  have hb4 : Below w3.heap.size w3 w4 := (Below.refl _ w3).grown hgrowb (Nat.le_refl _) (fun g hg => by cases hg)
  have HOB : Hid (w4.ownsRow w3.heap.size 3 1 vb nb xb) := Lib.hid hownb
  have HW4 := Lib.hid (own_keepB (B := w3.heap.size) HW3.out (fun b hb => by injection hb with hb; rw [← hb]; exact hgl) hb4)
  have HX5 := Lib.hid ((hb4.block w.heap.size (Array.getElem?_eq_some_iff.1 HX3.out).1).trans HX3.out)
  have HX6 := Lib.hid ((hb4.block (w.heap.size + 1) (Array.getElem?_eq_some_iff.1 HX4.out).1).trans HX4.out)
  have HB4 := Lib.hid (HB3.out.trans (hb4.mono HB3.out.size))
  obtain ⟨hc4, hf4, _, _⟩ := own_cell HW4.out (i * 62 + 38) _ HXX.out
  obtain ⟨Av, cv, hvb, _, _⟩ := own_rd HOB.out (Nat.le_refl _)
  subst hvb
  have hsz34 : w3.heap.size ≤ w4.heap.size := hb4.size
  have HMB : Hid (w.heap.size + 1 < w3.heap.size) := Lib.hid (Array.getElem?_eq_some_iff.1 HX4.out).1
  have HGL := Lib.hid hgl
  have HS5 := Lib.hid (own_set HW4.out (i * 62 + 38) HPL.out (.slice Av nb cv))
  have HT5 : Hid ((w4.setCell ⟨g, i * 62 + 38, none⟩ (.slice Av nb cv)).heap[w.heap.size]? = some (.cells vs 34 (0, 0))) := Lib.hid (by rw [heap_setCell_other _ _ _ _ (by show w.heap.size ≠ g; have := HGB.out; omega)]; exact HX5.out)
  have HT6 : Hid ((w4.setCell ⟨g, i * 62 + 38, none⟩ (.slice Av nb cv)).heap[w.heap.size + 1]? = some (.cells zMv 34 (0, 0))) := Lib.hid (by rw [heap_setCell_other _ _ _ _ (by show w.heap.size + 1 ≠ g; have := HGB.out; omega)]; exact HX6.out)
  have HTB : Hid (Below w.heap.size w (w4.setCell ⟨g, i * 62 + 38, none⟩ (.slice Av nb cv))) := Lib.hid (HB4.out.setCell (p := ⟨g, i * 62 + 38, none⟩) (by show w.heap.size ≤ g; have := HGB.out; omega) _)
  have HTO := Lib.hid (own_setOther (p := ⟨g, i * 62 + 38, none⟩) (u := .slice Av nb cv) HOB.out hgl)
  have hsz35 : w3.heap.size ≤ (w4.setCell ⟨g, i * 62 + 38, none⟩ (.slice Av nb cv)).heap.size := by simpa using hsz34
  clear hgrowb hownb hcell hfz HNI HNLB HRB hb4 hgl hgb hle HX3 HX4 HB3 HW3 HX5 HX6 HB4 HW4 HOB hsz34
  obtain ⟨w3s, hw3s⟩ : ∃ n, n = w3.heap.size := ⟨_, rfl⟩
  rw [← hw3s] at hsz35 HMB HGL HTO
  clear hw3s
  by_cases hz : by' = 0
  · have hbn : (by' != 0) = false := by simp [hz]
    have HZ := Lib.hid hz
    clear hz
    go_upto_region 28 with fail
    generalize w4.setCell ⟨g, i * 62 + 38, none⟩ (.slice Av nb cv) = w4 at *
    have HX5 := HT5
    have HX6 := HT6
    have HB4 := HTB
    have HW4 := HS5
    clear HT5 HT6 HTB HS5 hc4 hf4 hbn
    have dm : w4.cell? ⟨w.heap.size, 8, none⟩ = some (.slice A8 n8 c8) := by rw [cell_of_row _ _ _ _ _ _ HX5.out]; exact HUS.out _ _ HU8.out
    have fm : w4.frozen? ⟨w.heap.size, 8, none⟩ = false := frozen_of_row _ _ _ _ _ HX5.out
    go_upto_region 45 with fail
    obtain ⟨vm, hvm⟩ : ∃ v, v = vs.setIfInBounds 8 (.slice (some ⟨g, 0, none⟩) n8 cap) := ⟨_, rfl⟩
    have hx7 := heap_setCell_same w4 w.heap.size 8 vs _ (.slice (some ⟨g, 0, none⟩) n8 cap) HX5.out
    rw [← hvm] at hx7
    have HX7 := Lib.hid hx7
    have HX8 : Hid ((w4.setCell ⟨w.heap.size, 8, none⟩ (.slice (some ⟨g, 0, none⟩) n8 cap)).heap[w.heap.size + 1]? = some (.cells zMv 34 (0, 0))) := Lib.hid (by rw [heap_setCell_other _ _ _ _ (by show w.heap.size + 1 ≠ w.heap.size; omega)]; exact HX6.out)
    have HB5 : Hid (Below w.heap.size w (w4.setCell ⟨w.heap.size, 8, none⟩ (.slice (some ⟨g, 0, none⟩) n8 cap))) := Lib.hid (HB4.out.setCell (p := ⟨w.heap.size, 8, none⟩) (Nat.le_refl _) _)
    have HW5 := Lib.hid (own_setOther (p := ⟨w.heap.size, 8, none⟩) (u := .slice (some ⟨g, 0, none⟩) n8 cap) HW4.out (by show w.heap.size < w.heap.size + 2; omega))
    have HTP := Lib.hid (own_setOther (p := ⟨w.heap.size, 8, none⟩) (u := .slice (some ⟨g, 0, none⟩) n8 cap) HTO.out (by show w.heap.size < w3s; have := HMB.out; omega))
    clear HTO
    clear hx7 dm fm HX5 HX6 HB4 HW4
    generalize w4.setCell ⟨w.heap.size, 8, none⟩ (.slice (some ⟨g, 0, none⟩) n8 cap) = w5 at *
    have HV16 : Hid (vm.size = 16) := Lib.hid (by rw [hvm, Array.size_setIfInBounds, HVS.out])
    have HVO : Hid (vm.all (·.oneCell') = true) := Lib.hid (by
      rw [hvm, ← Array.toArray_toList (xs := vs.setIfInBounds 8 _), Array.toList_setIfInBounds]
      refine all_oneCell_toArray fun u hu => ?_
      rcases List.mem_or_eq_of_mem_set hu with hu | hu
      · exact Array.all_eq_true_iff_forall_mem.1 HV1.out u (by simpa using hu)
      · rw [hu]; rfl)
    have HS : Hid ((Tryd.prog.info? 34).map (·.size) = some vm.size) := Lib.hid (by rw [HV16.out]; exact sz_Machine)
    have HSZ0 : Hid (zMv.size = vm.size) := Lib.hid (by rw [HV16.out]; rfl)
    have HFX := Lib.hid (setRow_heap _ _ _ vm _ _ HX8.out)
    have HFB := Lib.hid (below_setRow HB5.out (Nat.le_succ w.heap.size) vm)
    have HTQ : Hid (TurnQ cs by' w (.returned (.agg vm)) (w5.setRow (w.heap.size + 1) vm)) := Lib.hid (by
      have hbz : Below W0.heap.size W0 (w5.setRow (w.heap.size + 1) vm) := HB0.out.trans (HFB.out.mono HB0.out.size)
      have hox := own_setRow (g := w.heap.size + 1) (cs := vm) HTP.out HMB.out
      have hdd := same_turn (nb := Tryd.prog.bytesOf 3) (q := [.i]) hbz HATB.out HOKB.out HNB.out hox
      have hl := list_turn (nb := Tryd.prog.bytesOf 51) (q := qCell) (d' := .l nb eb) hbz HAT.out HOK.out HN8.out (own_setRow (g := w.heap.size + 1) (cs := vm) HW5.out (by omega)) hdd.1 ⟨_, HQT.out, hdd.2⟩
      have hbk := Ce.bulks_set (c := .l nb eb) e8 (i * 62 + 38) HEX.out
      rw [hvm]
      rw [hvm] at hl
      refine turnq_of HH.out.ok HH.out.at' HB0.out (by rw [← hvm]; exact HFB.out) hc8 hl.1 ⟨_, rfl, hl.2⟩ ?_ ?_ ?_
      · simp only [Ce.bulk] at hbk ⊢
        omega
      · intro hb
        congr 1
        exact set_same HEX.out
      · intro hb he
        exact hb HZ.out)
    clear hvm
    go_wp2_with (first | refine wpList_load_row rfl 34 _ rfl w.heap.size rfl 34 vm (0, 0) _ HX7.out Tryd.underlying34 rfl HS.out ?_ | refine wpList_store_row rfl 34 _ _ rfl (w.heap.size + 1) vm rfl rfl 34 zMv HX8.out HS.out HSZ0.out HVO.out ?_)
    (try simp only [Exit.inBlock, Exit.then])
    exact bodyPost_ret (v := .agg vm) (results_cell_row rfl _ _ (w.heap.size + 1) 34 _ (0, 0) _ rfl HFX.out Tryd.underlying34 rfl HS.out) rfl HTQ.out
  · have hbn : (by' != 0) = true := by simp [hz]
    have HZ := Lib.hid hz
    clear hz
    go_upto_region 9 with fail
    generalize w4.setCell ⟨g, i * 62 + 38, none⟩ (.slice Av nb cv) = w5 at *
    have hxs : (xs8.set (i * 62 + 38) (.slice Av nb cv))[i * 62 + 38]? = some (.slice Av nb cv) := List.getElem?_set_self (by have h5 := HS5.out.1; rw [List.length_set] at h5; have := HPL.out; omega)
    obtain ⟨hc5, _, _, _⟩ := own_cell HS5.out (i * 62 + 38) _ hxs
    have HXS := Lib.hid hxs
    have hba : Below w5.heap.size w5 (w5.alloc (.cells #[.int .i64 by'] 3)) := (Below.refl _ _).alloc (Nat.le_refl _) _
    have HOA := Lib.hid (own_keepB HTO.out (fun b hb => (own_blk HTO.out b hb).2) hba)
    have HRN : Hid (Rd (w5.alloc (.cells #[.int .i64 by'] 3)) (w5.alloc (.cells #[.int .i64 by'] 3)).heap.size 1 (some ⟨w5.heap.size, 0, none⟩) 1 [.int .i64 by']) := Lib.hid (rd_block 1 1 (heap_alloc_new w5 _) (by simp) rfl)
    have HNL1 : Hid (∀ u ∈ [Value.int .i64 by'], u.oneCell' = true) := Lib.hid (fun u hu => by rw [List.mem_singleton] at hu; rw [hu]; rfl)
    have hsa : w3s ≤ (w5.alloc (.cells #[.int .i64 by'] 3)).heap.size := by simp; omega
    have HBA := Lib.hid (HTB.out.trans (hba.mono HTB.out.size))
    have HSA := Lib.hid (own_keepB (B := w5.heap.size) HS5.out (fun b hb => (own_blk HS5.out b hb).2) hba)
    have HT5a := Lib.hid ((hba.block w.heap.size (Array.getElem?_eq_some_iff.1 HT5.out).1).trans HT5.out)
    have HT6a := Lib.hid ((hba.block (w.heap.size + 1) (Array.getElem?_eq_some_iff.1 HT6.out).1).trans HT6.out)
    clear hxs hba HT5 HT6 HTB HS5 HTO
    go_wp2_with (at_builtin; refine wpList_append_rd _ rfl _ _ 44 rfl w3s 3 i0 (.int .i64 0) 1 8 Tryd.underlying44 HI0.out HI1.out HI2.out HI3.out rfl (by decide) _ nb xb rfl HOA.out _ 1 1 (w5.alloc (.cells #[.int .i64 by'] 3)).heap.size [.int .i64 by'] rfl HRN.out HNL1.out (by simp only [maxLen]; omega) (by omega) hsa ?_)
    intro vd w6 hown6 hgrow6
    have hb6 : Below w3s (w5.alloc (.cells #[.int .i64 by'] 3)) w6 := (Below.refl _ _).grown hgrow6 hsa (fun b hb => (own_blk HOA.out b hb).1)
    have HO6 := Lib.hid hown6
    obtain ⟨Aw, cw, hvd, _, _⟩ := own_rd hown6 (Nat.le_refl _)
    subst hvd
    have HS6 := Lib.hid (own_keepB (B := w3s) HSA.out (fun b hb => by injection hb with hb; rw [← hb]; exact HGL.out) hb6)
    obtain ⟨hc6, hf6, _, _⟩ := own_cell HS6.out (i * 62 + 38) _ HXS.out
    have HT5b := Lib.hid ((hb6.block w.heap.size (by have := HMB.out; omega)).trans HT5a.out)
    have HT6b := Lib.hid ((hb6.block (w.heap.size + 1) (by have := HMB.out; omega)).trans HT6a.out)
    have HB6 := Lib.hid (HBA.out.trans (hb6.mono (by have := HMB.out; omega)))
    clear hown6 hgrow6 hb6 HRN HNL1 hc4 hf4 hc5 hbn HOA HBA HSA HT5a HT6a
    go_upto_region 28 with fail
    have HW4' := Lib.hid (own_set HS6.out (i * 62 + 38) (by have := HPL.out; exact this) (.slice Aw (nb + 1) cw))
    rw [List.set_set] at HW4'
    have HW4 := HW4'
    have HX5 : Hid ((w6.setCell ⟨g, i * 62 + 38, none⟩ (.slice Aw (nb + 1) cw)).heap[w.heap.size]? = some (.cells vs 34 (0, 0))) := Lib.hid (by rw [heap_setCell_other _ _ _ _ (by show w.heap.size ≠ g; have := HGB.out; omega)]; exact HT5b.out)
    have HX6 : Hid ((w6.setCell ⟨g, i * 62 + 38, none⟩ (.slice Aw (nb + 1) cw)).heap[w.heap.size + 1]? = some (.cells zMv 34 (0, 0))) := Lib.hid (by rw [heap_setCell_other _ _ _ _ (by show w.heap.size + 1 ≠ g; have := HGB.out; omega)]; exact HT6b.out)
    have HB4 : Hid (Below w.heap.size w (w6.setCell ⟨g, i * 62 + 38, none⟩ (.slice Aw (nb + 1) cw))) := Lib.hid (HB6.out.setCell (p := ⟨g, i * 62 + 38, none⟩) (by show w.heap.size ≤ g; have := HGB.out; omega) _)
    have HTO := Lib.hid (own_setOther (p := ⟨g, i * 62 + 38, none⟩) (u := .slice Aw (nb + 1) cw) HO6.out HGL.out)
    clear HW4' HS6 hc6 hf6 HT5b HT6b HB6 HO6
    generalize w6.setCell ⟨g, i * 62 + 38, none⟩ (.slice Aw (nb + 1) cw) = w4 at *
    have dm : w4.cell? ⟨w.heap.size, 8, none⟩ = some (.slice A8 n8 c8) := by rw [cell_of_row _ _ _ _ _ _ HX5.out]; exact HUS.out _ _ HU8.out
    have fm : w4.frozen? ⟨w.heap.size, 8, none⟩ = false := frozen_of_row _ _ _ _ _ HX5.out
    go_upto_region 45 with fail
    obtain ⟨vm, hvm⟩ : ∃ v, v = vs.setIfInBounds 8 (.slice (some ⟨g, 0, none⟩) n8 cap) := ⟨_, rfl⟩
    have hx7 := heap_setCell_same w4 w.heap.size 8 vs _ (.slice (some ⟨g, 0, none⟩) n8 cap) HX5.out
    rw [← hvm] at hx7
    have HX7 := Lib.hid hx7
    have HX8 : Hid ((w4.setCell ⟨w.heap.size, 8, none⟩ (.slice (some ⟨g, 0, none⟩) n8 cap)).heap[w.heap.size + 1]? = some (.cells zMv 34 (0, 0))) := Lib.hid (by rw [heap_setCell_other _ _ _ _ (by show w.heap.size + 1 ≠ w.heap.size; omega)]; exact HX6.out)
    have HB5 : Hid (Below w.heap.size w (w4.setCell ⟨w.heap.size, 8, none⟩ (.slice (some ⟨g, 0, none⟩) n8 cap))) := Lib.hid (HB4.out.setCell (p := ⟨w.heap.size, 8, none⟩) (Nat.le_refl _) _)
    have HW5 := Lib.hid (own_setOther (p := ⟨w.heap.size, 8, none⟩) (u := .slice (some ⟨g, 0, none⟩) n8 cap) HW4.out (by show w.heap.size < w.heap.size + 2; omega))
    have HTP := Lib.hid (own_setOther (p := ⟨w.heap.size, 8, none⟩) (u := .slice (some ⟨g, 0, none⟩) n8 cap) HTO.out (by show w.heap.size < w3s; have := HMB.out; omega))
    clear HTO
    clear hx7 dm fm HX5 HX6 HB4 HW4
    generalize w4.setCell ⟨w.heap.size, 8, none⟩ (.slice (some ⟨g, 0, none⟩) n8 cap) = w5 at *
    have HV16 : Hid (vm.size = 16) := Lib.hid (by rw [hvm, Array.size_setIfInBounds, HVS.out])
    have HVO : Hid (vm.all (·.oneCell') = true) := Lib.hid (by
      rw [hvm, ← Array.toArray_toList (xs := vs.setIfInBounds 8 _), Array.toList_setIfInBounds]
      refine all_oneCell_toArray fun u hu => ?_
      rcases List.mem_or_eq_of_mem_set hu with hu | hu
      · exact Array.all_eq_true_iff_forall_mem.1 HV1.out u (by simpa using hu)
      · rw [hu]; rfl)
    have HS : Hid ((Tryd.prog.info? 34).map (·.size) = some vm.size) := Lib.hid (by rw [HV16.out]; exact sz_Machine)
    have HSZ0 : Hid (zMv.size = vm.size) := Lib.hid (by rw [HV16.out]; rfl)
    have HFX := Lib.hid (setRow_heap _ _ _ vm _ _ HX8.out)
    have HFB := Lib.hid (below_setRow HB5.out (Nat.le_succ w.heap.size) vm)
    have HTQ : Hid (TurnQ cs by' w (.returned (.agg vm)) (w5.setRow (w.heap.size + 1) vm)) := Lib.hid (by
      have hbz : Below W0.heap.size W0 (w5.setRow (w.heap.size + 1) vm) := HB0.out.trans (HFB.out.mono HB0.out.size)
      have hox := own_setRow (g := w.heap.size + 1) (cs := vm) HTP.out HMB.out
      have hdd := app_turn (nb := Tryd.prog.bytesOf 3) (q := [.i]) (ds := [.i by']) hbz HATB.out HOKB.out ⟨by omega, by rw [show Tryd.prog.bytesOf 3 = 8 by kernel_rfl]; omega⟩ hox (by simp [Ce.Ats, Ce.At]) (by simp only [Ce.Oks, Ce.Ok]; exact ⟨HBY.out, trivial⟩)
      have hl := list_turn (nb := Tryd.prog.bytesOf 51) (q := qCell) (d' := (.l (nb + 1) (eb ++ [.i by']))) hbz HAT.out HOK.out HN8.out (own_setRow (g := w.heap.size + 1) (cs := vm) HW5.out (by omega)) hdd.1 ⟨_, HQT.out, hdd.2⟩
      have hbk := Ce.bulks_set (c := (.l (nb + 1) (eb ++ [.i by']))) e8 (i * 62 + 38) HEX.out
      rw [hvm]
      rw [hvm] at hl
      refine turnq_of HH.out.ok HH.out.at' HB0.out (by rw [← hvm]; exact HFB.out) hc8 hl.1 ⟨_, rfl, hl.2⟩ ?_ ?_ ?_
      · simp only [Ce.bulk, Ce.bulks_append, Ce.bulks] at hbk ⊢
        omega
      · intro hb
        exact absurd hb HZ.out
      · intro hb he
        injection he with _ he
        exact set_other HEX.out (fun h => by injection h with h _; omega) he)
    clear hvm
    go_wp2_with (first | refine wpList_load_row rfl 34 _ rfl w.heap.size rfl 34 vm (0, 0) _ HX7.out Tryd.underlying34 rfl HS.out ?_ | refine wpList_store_row rfl 34 _ _ rfl (w.heap.size + 1) vm rfl rfl 34 zMv HX8.out HS.out HSZ0.out HVO.out ?_)
    (try simp only [Exit.inBlock, Exit.then])
    exact bodyPost_ret (v := .agg vm) (results_cell_row rfl _ _ (w.heap.size + 1) 34 _ (0, 0) _ rfl HFX.out Tryd.underlying34 rfl HS.out) rfl HTQ.out
set_option maxRecDepth 100000 in
set_option maxHeartbeats 16000000 in
theorem turned_back {W0 w : World} {cs : List Ce} {vs : Array Value} (h : MIn W0 cs vs) (hb0 : Below W0.heap.size W0 w) (which by' : Int) (hby : -9223372036854775808 ≤ by' ∧ by' ≤ 9223372036854775807) {n8 : Nat} {e8 : List Ce} (hc8 : cs[8]? = some (.l n8 e8)) (hk : bits BinOp.and IntKind.i64 which 15 = 14) (hz : by' ≠ 0) :
    Calls Tryd.prog 10 #[.agg vs, .int .i64 which, .int .i64 by'] w fun e w' => TurnQ cs by' w e w' := by
  have hvs := mach_size h.ok h.at'
  have hv1 := mach_one h.at'
  obtain ⟨n8', e8', A8, c8, xs8, k8', g1, hu8, hcap8, hrd8, hat8, hn8, hok8⟩ := get_l h.ok h.at' 8 _ _ rfl
  rw [hc8] at g1
  injection g1 with g1
  injection g1 with g1 g1'
  subst g1 g1'
  have HH := Lib.hid h
  have HB0 := Lib.hid hb0
  obtain ⟨ie, zs8, hie, hiz, his, hib, hzs, _⟩ := zero_row zr_Cell (by decide)
  have HIE := Lib.hid hie
  have HIZ := Lib.hid hiz
  have HIS := Lib.hid his
  have HIB := Lib.hid hib
  have HZS := Lib.hid hzs
  clear hie hiz his hib hzs
  have hk62 : k8' = 62 ∨ n8 = 0 := by
    have e1 := hrd8.1
    have e2 := Ce.ats_length _ _ hat8
    have e3 := Ce.oks_length _ _ hok8
    rw [List.length_flatten] at e3
    simp [q_len] at e3
    rw [e2, e3] at e1
    rcases Nat.eq_zero_or_pos n8 with h | h
    · exact .inr h
    · exact .inl (Nat.eq_of_mul_eq_mul_left h e1.symm)
  have hrd : Rd W0 W0.heap.size 62 A8 n8 xs8 := by
    rcases hk62 with rfl | rfl
    · exact hrd8
    · have e1 := hrd8.1
      exact ⟨by rw [e1]; simp, fun h => absurd h (Nat.lt_irrefl _)⟩
  have hx1 := heap_alloc2_old w (.cells vs 34) (.cells zMv 34)
  have hx2 := heap_alloc2_new w (.cells vs 34) (.cells zMv 34)
  have hb2 : Below w.heap.size w ((w.alloc (.cells vs 34)).alloc (.cells zMv 34)) := ((Below.refl _ _).alloc (Nat.le_refl _) _).alloc (by simp) _
  have hsz : ((w.alloc (.cells vs 34)).alloc (.cells zMv 34)).heap.size = w.heap.size + 2 := by simp
  have HRD := Lib.hid hrd
  have HAT := Lib.hid hat8
  have HOK := Lib.hid hok8
  have HN8 := Lib.hid hn8
  have HVS := Lib.hid hvs
  have HV1 := Lib.hid hv1
  have HUS : Hid (∀ (j : Nat) (v : Value), vs.toList[j]? = some v → vs[j]? = some v) := Lib.hid (fun j v hv => by rw [← Array.getElem?_toList]; exact hv)
  have HU8 := Lib.hid hu8
  have HBY := Lib.hid hby
  have hn8' := hn8.1
  clear h hb0 hk62 hrd8 hrd hat8 hok8 hn8 hvs hv1 hu8 hcap8 hby
  go_enter Tryd.func10, Tryd.ntmps10
  go_upto_region 1 with (refine wpList_alloc_row rfl 34 rfl zMv zr_mach ?_)
  generalize (w.alloc (.cells vs 34)).alloc (.cells zMv 34) = w2 at *
  have d8 : w2.cell? ⟨w.heap.size, 8, none⟩ = some (.slice A8 n8 c8) := by rw [cell_of_row _ _ _ _ _ _ hx1]; exact HUS.out _ _ HU8.out
  have HX1 := Lib.hid hx1
  have HX2 := Lib.hid hx2
  have HB2 := Lib.hid hb2
  have HSZ := Lib.hid hsz
  have HRN : Hid (Rd w2 W0.heap.size 62 A8 n8 xs8) := Lib.hid (Rd.below HRD.out (HB0.out.trans (hb2.mono HB0.out.size)))
  have HNL : Hid (∀ u ∈ xs8, u.oneCell' = true) := Lib.hid (ces_one _ _ HAT.out)
  have HNI : Hid (w2.ownsRow w2.heap.size 51 62 (.slice none 0 0) 0 []) := Lib.hid ⟨by simp, .inl ⟨rfl, rfl⟩⟩
  clear hx1 hx2 hb2 hsz
  go_wp2_with (at_builtin; refine wpList_append_rd _ rfl _ _ 28 rfl w2.heap.size 51 ie (.agg zs8) 62 _ Tryd.underlying28 HIE.out HIZ.out HIS.out HIB.out HZS.out (by decide) _ 0 [] rfl HNI.out _ n8 c8 W0.heap.size xs8 rfl HRN.out HNL.out (by simp only [maxLen]; omega) (by rw [Nat.zero_add]; exact Nat.le_trans HN8.out.2 (by decide)) (Nat.le_refl _) ?_)
  intro vc w3 hown3 hgrow3
  have hb3 : Below w2.heap.size w2 w3 := (Below.refl _ w2).grown hgrow3 (Nat.le_refl _) (fun g hg => by cases hg)
  have HB3 := Lib.hid (HB2.out.trans (hb3.mono HB2.out.size))
  have HX3 := Lib.hid ((hb3.block w.heap.size (by rw [HSZ.out]; omega)).trans HX1.out)
  have HX4 := Lib.hid ((hb3.block (w.heap.size + 1) (by rw [HSZ.out]; omega)).trans HX2.out)
  have HW3 : Hid (w3.ownsRow (w.heap.size + 2) 51 62 vc n8 xs8) := Lib.hid (by rw [← HSZ.out]; exact hown3)
  clear hgrow3 hb3 hown3 d8 HNI HNL HRN HX1 HX2 HB2 HSZ
  obtain ⟨Ac, cc, hvc, _, _⟩ := own_rd HW3.out (Nat.le_refl _)
  subst hvc
  have hbn : (by' != 0) = true := by simp [hz]
  have HZ := Lib.hid hz
  obtain ⟨n, es, AL, cL, xsL, kL, hcn, huL, hcapL, hrdL, hatL, hnL, hokL⟩ := get_l HH.out.ok HH.out.at' 13 _ _ rfl
  obtain ⟨je, zsL, hje, hjz, hjs, hjb, hjzs, hjr⟩ := zero_row zr_Conn (by decide)
  clear hjr
  have HJE := Lib.hid hje
  have HJZ := Lib.hid hjz
  have HJS := Lib.hid hjs
  have HJB := Lib.hid hjb
  have HJZS := Lib.hid hjzs
  have hle := Ce.oks_length _ _ hokL
  rw [List.length_flatten] at hle
  simp at hle
  have hrd5 : Rd W0 W0.heap.size 5 AL n xsL := by
    have e2 := Ce.ats_length _ _ hatL
    exact ⟨by omega, hrdL.2⟩
  have hbk : n ≤ 1048577 := by
    have h1 := bulk_at _ _ _ hcn
    have h3 := HH.out.bulk
    have h4 := Ce.bulks_length es
    simp only [Ce.bulk] at h1
    omega
  have HNB := Lib.hid hnL
  have HATL := Lib.hid hatL
  have HOKL := Lib.hid hokL
  have HCN := Lib.hid hcn
  have HRL : Hid (Rd w3 W0.heap.size 5 AL n xsL) := Lib.hid (Rd.below hrd5 (HB0.out.trans (HB3.out.mono HB0.out.size)))
  have HNLL : Hid (∀ u ∈ xsL, u.oneCell' = true) := Lib.hid (ces_one _ _ hatL)
  have HNI : Hid (w3.ownsRow w3.heap.size 79 5 (.slice none 0 0) 0 []) := Lib.hid ⟨by simp, .inl ⟨rfl, rfl⟩⟩
  have dl : w3.cell? ⟨w.heap.size, 13, none⟩ = some (.slice AL n cL) := by rw [cell_of_row _ _ _ _ _ _ HX3.out]; exact HUS.out _ _ huL
  have HUL := Lib.hid huL
  have HBB5 : Hid (Tryd.prog.bytesOf 79 = 48) := Lib.hid (by kernel_rfl)
  have HMB : Hid (w.heap.size + 1 < w3.heap.size) := Lib.hid (Array.getElem?_eq_some_iff.1 HX4.out).1
  clear hje hjz hjs hjb hjzs hrdL hatL hnL hokL hcn huL hrd5 hle hz
  go_upto_region 42 with fail
  go_wp2_with (at_builtin; refine wpList_append_rd _ rfl _ _ 31 rfl w3.heap.size 79 je (.agg zsL) 5 _ Tryd.underlying31 HJE.out HJZ.out HJS.out HJB.out HJZS.out (by decide) _ 0 [] rfl HNI.out _ n cL W0.heap.size xsL rfl HRL.out HNLL.out (by simp only [maxLen]; omega) (by rw [HBB5.out]; omega) (Nat.le_refl _) ?_)
  intro vb w4 hownb hgrowb
  have hb4 : Below w3.heap.size w3 w4 := (Below.refl _ w3).grown hgrowb (Nat.le_refl _) (fun g hg => by cases hg)
  have HOB : Hid (w4.ownsRow w3.heap.size 79 5 vb n xsL) := Lib.hid hownb
  obtain ⟨Av, cv, hvb, _, _⟩ := own_rd HOB.out (Nat.le_refl _)
  subst hvb
  have hba : Below w4.heap.size w4 (w4.alloc (.cells #[.string ⟨#[]⟩, .int .i64 by', .int .i64 0, .int .i64 0, .int .i64 0] 79)) := (Below.refl _ _).alloc (Nat.le_refl _) _
  have HOA := Lib.hid (own_keepB HOB.out (fun b hb => (own_blk HOB.out b hb).2) hba)
  have HRN : Hid (Rd (w4.alloc (.cells #[.string ⟨#[]⟩, .int .i64 by', .int .i64 0, .int .i64 0, .int .i64 0] 79)) (w4.alloc (.cells #[.string ⟨#[]⟩, .int .i64 by', .int .i64 0, .int .i64 0, .int .i64 0] 79)).heap.size 5 (some ⟨w4.heap.size, 0, none⟩) 1 [.string ⟨#[]⟩, .int .i64 by', .int .i64 0, .int .i64 0, .int .i64 0]) := Lib.hid (rd_block 1 5 (heap_alloc_new w4 _) (by simp) rfl)
  have HNL1 : Hid (∀ u ∈ ([.string ⟨#[]⟩, .int .i64 by', .int .i64 0, .int .i64 0, .int .i64 0] : List Value), u.oneCell' = true) := Lib.hid (fun u hu => by
    simp only [List.mem_cons, List.not_mem_nil, or_false] at hu
    rcases hu with rfl | rfl | rfl | rfl | rfl <;> rfl)
  have hsa : w3.heap.size ≤ (w4.alloc (.cells #[.string ⟨#[]⟩, .int .i64 by', .int .i64 0, .int .i64 0, .int .i64 0] 79)).heap.size := by have := hb4.size; simp; omega
  have hba3 := hb4.trans (hba.mono hb4.size)
  have HBA := Lib.hid (HB3.out.trans (hba3.mono HB3.out.size))
  have HT5a := Lib.hid ((hba3.block w.heap.size (by have := HMB.out; omega)).trans HX3.out)
  have HT6a := Lib.hid ((hba3.block (w.heap.size + 1) HMB.out).trans HX4.out)
  obtain ⟨w3s, hw3s⟩ : ∃ n, n = w3.heap.size := ⟨_, rfl⟩
  rw [← hw3s] at hsa HMB HOA
  clear hgrowb hownb HNI HNLL HRL hb4 hba hba3 dl HX3 HX4 HB3 HW3 HOB hw3s
  go_wp2_with (at_builtin; refine wpList_append_rd _ rfl _ _ 31 rfl w3s 79 je (.agg zsL) 5 _ Tryd.underlying31 HJE.out HJZ.out HJS.out HJB.out HJZS.out (by decide) _ n xsL rfl HOA.out _ 1 1 (w4.alloc (.cells #[.string ⟨#[]⟩, .int .i64 by', .int .i64 0, .int .i64 0, .int .i64 0] 79)).heap.size [.string ⟨#[]⟩, .int .i64 by', .int .i64 0, .int .i64 0, .int .i64 0] rfl HRN.out HNL1.out (by simp only [maxLen]; omega) (by rw [HBB5.out]; omega) hsa ?_)
  intro vd w6 hown6 hgrow6
  have hb6 : Below w3s (w4.alloc (.cells #[.string ⟨#[]⟩, .int .i64 by', .int .i64 0, .int .i64 0, .int .i64 0] 79)) w6 := (Below.refl _ _).grown hgrow6 hsa (fun b hb => (own_blk HOA.out b hb).1)
  have HO6 := Lib.hid hown6
  obtain ⟨Aw, cw, hvd, _, _⟩ := own_rd hown6 (Nat.le_refl _)
  subst hvd
  have HX5 := Lib.hid ((hb6.block w.heap.size (by have := HMB.out; omega)).trans HT5a.out)
  have HX6 := Lib.hid ((hb6.block (w.heap.size + 1) (by have := HMB.out; omega)).trans HT6a.out)
  have HB4 := Lib.hid (HBA.out.trans (hb6.mono (by have := HMB.out; omega)))
  clear hown6 hgrow6 hb6 HRN HNL1 HBA HT5a HT6a HOA hsa
  have dm : w6.cell? ⟨w.heap.size, 13, none⟩ = some (.slice AL n cL) := by rw [cell_of_row _ _ _ _ _ _ HX5.out]; exact HUS.out _ _ HUL.out
  have fm : w6.frozen? ⟨w.heap.size, 13, none⟩ = false := frozen_of_row _ _ _ _ _ HX5.out
  go_upto_region 45 with fail
  obtain ⟨vm, hvm⟩ : ∃ v, v = vs.setIfInBounds 13 (.slice Aw (n + 1) cw) := ⟨_, rfl⟩
  have hx7 := heap_setCell_same w6 w.heap.size 13 vs _ (.slice Aw (n + 1) cw) HX5.out
  rw [← hvm] at hx7
  have HX7 := Lib.hid hx7
  have HX8 : Hid ((w6.setCell ⟨w.heap.size, 13, none⟩ (.slice Aw (n + 1) cw)).heap[w.heap.size + 1]? = some (.cells zMv 34 (0, 0))) := Lib.hid (by rw [heap_setCell_other _ _ _ _ (by show w.heap.size + 1 ≠ w.heap.size; omega)]; exact HX6.out)
  have HB5 : Hid (Below w.heap.size w (w6.setCell ⟨w.heap.size, 13, none⟩ (.slice Aw (n + 1) cw))) := Lib.hid (HB4.out.setCell (p := ⟨w.heap.size, 13, none⟩) (Nat.le_refl _) _)
  have HTP := Lib.hid (own_setOther (p := ⟨w.heap.size, 13, none⟩) (u := .slice Aw (n + 1) cw) HO6.out (by show w.heap.size < w3s; have := HMB.out; omega))
  clear hx7 dm fm HX5 HX6 HB4 HO6
  generalize w6.setCell ⟨w.heap.size, 13, none⟩ (.slice Aw (n + 1) cw) = w5 at *
  have HV16 : Hid (vm.size = 16) := Lib.hid (by rw [hvm, Array.size_setIfInBounds, HVS.out])
  have HVO : Hid (vm.all (·.oneCell') = true) := Lib.hid (by
    rw [hvm, ← Array.toArray_toList (xs := vs.setIfInBounds 13 _), Array.toList_setIfInBounds]
    refine all_oneCell_toArray fun u hu => ?_
    rcases List.mem_or_eq_of_mem_set hu with hu | hu
    · exact Array.all_eq_true_iff_forall_mem.1 HV1.out u (by simpa using hu)
    · rw [hu]; rfl)
  have HS : Hid ((Tryd.prog.info? 34).map (·.size) = some vm.size) := Lib.hid (by rw [HV16.out]; exact sz_Machine)
  have HSZ0 : Hid (zMv.size = vm.size) := Lib.hid (by rw [HV16.out]; rfl)
  have HFX := Lib.hid (setRow_heap _ _ _ vm _ _ HX8.out)
  have HFB := Lib.hid (below_setRow HB5.out (Nat.le_succ w.heap.size) vm)
  have HTQ : Hid (TurnQ cs by' w (.returned (.agg vm)) (w5.setRow (w.heap.size + 1) vm)) := Lib.hid (by
    have hbz : Below W0.heap.size W0 (w5.setRow (w.heap.size + 1) vm) := HB0.out.trans (HFB.out.mono HB0.out.size)
    have hox := own_setRow (g := w.heap.size + 1) (cs := vm) HTP.out HMB.out
    have hdd := app_turn (nb := Tryd.prog.bytesOf 79) (q := [.s, .i, .i, .i, .i]) (ds := [.s ⟨#[]⟩, .i by', .i 0, .i 0, .i 0]) hbz HATL.out HOKL.out ⟨by omega, by rw [HBB5.out]; omega⟩ hox (by simp [Ce.Ats, Ce.At]) (by simp only [Ce.Oks, Ce.Ok]; exact ⟨by decide, HBY.out, by decide, by decide, by decide, trivial⟩)
    rw [hvm]
    rw [hvm] at hdd
    refine turnq_of HH.out.ok HH.out.at' HB0.out (by rw [← hvm]; exact HFB.out) HCN.out hdd.1 ⟨_, rfl, hdd.2⟩ ?_ ?_ ?_
    · simp only [Ce.bulk, Ce.bulks_append, Ce.bulks]
      have : (⟨#[]⟩ : ByteArray).size = 0 := rfl
      omega
    · intro hb
      exact absurd hb HZ.out
    · intro hb he
      injection he with he _
      omega)
  clear hvm
  go_wp2_with (first | refine wpList_load_row rfl 34 _ rfl w.heap.size rfl 34 vm (0, 0) _ HX7.out Tryd.underlying34 rfl HS.out ?_ | refine wpList_store_row rfl 34 _ _ rfl (w.heap.size + 1) vm rfl rfl 34 zMv HX8.out HS.out HSZ0.out HVO.out ?_)
  (try simp only [Exit.inBlock, Exit.then])
  exact bodyPost_ret (v := .agg vm) (results_cell_row rfl _ _ (w.heap.size + 1) 34 _ (0, 0) _ rfl HFX.out Tryd.underlying34 rfl HS.out) rfl HTQ.out

end Go.Proofs.YtkgkipohalekmaaDoor
