/-
  A machine gone over: the writer's walk.
-/
import Derived.Test.YtkgkipohalekmaaDoorBx
namespace Go.Proofs.YtkgkipohalekmaaDoor
open Go.RowKit Go.Shelf

theorem zr_Cell : (Tryd.prog.info? 51).map (fun i => match i.zero with | some (.agg zs) => (zs.size, i.size, i.bytes) | _ => (0, 0, 0)) = some (62, 62, Tryd.prog.bytesOf 51) := by kernel_rfl

theorem sz_Cell : (Tryd.prog.info? 51).map (·.size) = some 62 := by kernel_rfl

set_option maxRecDepth 100000 in
set_option maxHeartbeats 16000000 in
theorem list_Cell {W0 w0 w : World} {wb blk o i : Nat} {S : List UInt8} {q : List Ty} (E : Env W0) (p : Nat) (h : Gst W0 wb blk o i S (.l (Tryd.prog.bytesOf 51) qCell :: q) w0 w) (hp : p = o + i) :
    Calls Tryd.prog 42 #[.iface 80 (.pointer (some ⟨wb, 0, none⟩)), .pointer (some ⟨blk, p, none⟩), .func (.func 43) #[] #[]] w fun e w' => e = .returned (.tuple #[]) ∧ Gst W0 wb blk o (i + 1) S q w0 w' := by
  subst hp
  have HONE : Hid (∀ xb W S', Gst W0 wb xb 0 0 S' qCell W W → Calls Tryd.prog 43 #[.iface 80 (.pointer (some ⟨wb, 0, none⟩)), .pointer (some ⟨xb, 0, none⟩)] W fun e w' => e = .returned (.tuple #[]) ∧ Gst W0 wb xb 0 62 S' [] W w') := Lib.hid (fun xb W S' hg => Cell_w (q := []) E 0 hg rfl)
  have hq : ((qCell) : List Ty).length = 62 := rfl
  obtain ⟨ie, zs, hie, hiz, his, hib, hzs, hzr⟩ := zero_row zr_Cell (by decide)
  have HZ := Lib.hid hzr
  have HIE := Lib.hid hie
  have HIZ := Lib.hid hiz
  have HIS := Lib.hid his
  have HIB := Lib.hid hib
  have HZS := Lib.hid hzs
  clear hie hiz his hib hzs hzr
  obtain ⟨s, cs, vs, h1, h2, h3, h4, h5, h6, h7⟩ := h
  obtain ⟨n, es, r, rfl⟩ : ∃ n es r, cs = .l n es :: r := by
    match cs, h4 with
    | .l n es :: r, _ => exact ⟨n, es, r, rfl⟩
    | .i _ :: _, h4 => unfold Ce.Oks Ce.Ok at h4; exact h4.1.elim
    | .b _ :: _, h4 => unfold Ce.Oks Ce.Ok at h4; exact h4.1.elim
    | .s _ :: _, h4 => unfold Ce.Oks Ce.Ok at h4; exact h4.1.elim
    | [], h4 => unfold Ce.Oks at h4; exact h4.elim
  unfold Ce.Ats at h3
  obtain ⟨v, us, rfl, hv, h3⟩ := h3
  unfold Ce.Oks at h4
  have hok := h4.1
  unfold Ce.Ok at hok
  unfold Ce.At at hv
  obtain ⟨A, cap, k', xs, rfl, hcap, hrd, hats⟩ := hv
  have hn1 := hok.1.1
  have hlen2 := h6
  simp only [Ce.bulks, Ce.bulk] at hlen2
  have HXL : Hid (xs.length = n * 62) := Lib.hid (by
    have e1 := Ce.ats_length _ _ hats
    have e2 := Ce.oks_length _ _ hok.2
    rw [e1, e2, List.length_flatten]
    simp [hq])
  have HRD : Hid (0 < n → ∃ ad, A = some ad ∧ ad.block < W0.heap.size ∧ ∀ j u, xs[j]? = some u → W0.cell? (ad.add j) = some u) := Lib.hid hrd.2
  have HATS := Lib.hid hats
  have HOKS := Lib.hid hok.2
  have HBY : Hid (∀ j, j ≤ n → j * Tryd.prog.bytesOf 51 ≤ 140737488351232) := Lib.hid (fun j hj => Nat.le_trans (Nat.mul_le_mul_right _ hj) hok.1.2)
  have HEND : Hid (∀ wN w' ov, Below w.heap.size w wN → Lst W0 wN wb 51 62 (s ++ tokI n ++ Ce.txts es) ov n w' → Gst W0 wb blk o (i + 1) S q w0 (w'.setCell ⟨blk, o + i, none⟩ ov)) := Lib.hid (fun wN w' ov hN hL => lst_end h2 h3 h4.1 h4.2 h5 h6 h7 hN hL)
  have HLN : Hid (∀ j, (s ++ tokI n ++ Ce.txts (es.take (j * 62))).length + 23 * Ce.bulks ((es.drop (j * 62)).take 62) ≤ 100000000) := Lib.hid (fun j => by
    have e1 := bulks_step es j 62
    have e2 := Ce.txts_len _ _ (oks_take (j * 62) es hok.2)
    have e3 := tokI_len n (by omega) (by omega)
    rw [List.length_append, List.length_append]
    omega)
  have hl0 : s.length ≤ 100000000 := by omega
  have hc := h2.cell 0 rfl
  have hfz := h2.fz (o + i)
  have hbl := h2.lt
  have hne := h2.ne
  have hge := h2.ge
  have hwl := h1.wu.lt
  have hwg : W0.heap.size ≤ wb := by
    have hw := h1.wu
    unfold Wu Lib.IsBuilderF at hw
    rcases hw with hw | hw <;> exact hw.1
  obtain ⟨cells0, t0, hobj, ht0, _⟩ := h2.obj
  have HT0 := Lib.hid ht0
  have HOB : Hid (w.drew.heap[blk]? = some (.cells cells0 t0 (0, 0))) := Lib.hid hobj
  have HC0 : Hid (cells0[o + i]? = some (.slice A n cap)) := Lib.hid (by rw [← cell_of_row w blk _ _ _ _ hobj]; simpa using hc)
  have HS := Lib.hid (h1.keep (Below.drew (Below.refl _ w)))
  have HDR : Hid (Below w.heap.size w w.drew) := Lib.hid (Below.drew (Below.refl _ w))
  have hbl2 : blk < w.drew.heap.size := hbl
  have hwl2 : wb < w.drew.heap.size := hwl
  have hcd : w.drew.cell? ⟨blk, o + i, none⟩ = some (.slice A n cap) := by simpa using hc
  have HL0 := Lib.hid hq
  have hsz2 : W0.heap.size ≤ w.drew.heap.size := by
    have := h1.hb.size
    exact this
  clear hok hats hrd h1 h2 h3 h4 h5 h6 h7 hlen2 hbl hwl hobj ht0 hc hfz hq
  have q1 := na_len
  have q2 := me_len
  have q3 := me_bad
  go_enter Tryd.func42, Tryd.ntmps42
  go_upto_region 0 with fail
  go_still_tail 8, (by kernel_rfl)
  change wpList _ _ _ _ _ w.drew
  generalize w.drew = w2 at *
  go_wp2_with fail
  refine (w_len W0 w2 wb s n E HS.out (by omega) hl0).mono ?_
  rintro e w3 ⟨rfl, hs3, ho3⟩
  have HLI : Hid (Lst W0 w2 wb 51 62 (s ++ tokI n ++ Ce.txts (es.take (0 * 62))) (.slice none 0 0) 0 w3) := Lib.hid ⟨by rw [Nat.zero_mul, List.take_zero, Ce.txts, List.append_nil]; exact hs3, ho3, [], by simp, .inl ⟨rfl, rfl⟩⟩
  clear hs3 ho3 hcd
  go_wp2_with fail
  go_loopw [7, 8] (fun ov iv wr => ∃ j : Nat, j ≤ n ∧ iv = .int .i64 j ∧ Hid (Lst W0 w2 wb 51 62 (s ++ tokI n ++ Ce.txts (es.take (j * 62))) ov j wr)) (fun _ iv _ => n - (intOf iv).toNat)
  case atStart => exact ⟨0, Nat.zero_le _, rfl, HLI⟩
  case round =>
    clear HLI
    obtain ⟨j, hj, rfl, HLI⟩ := hrel
    obtain ⟨A', c', hov⟩ := HLI.out.slice
    subst hov
    have HOW : Hid (wr.heap[blk]? = some (.cells cells0 t0 (0, 0))) := Lib.hid (HLI.out.2.1.2 _ _ HOB.out hne (fun c fz e => HT0.out (by injection e)))
    have hblr : blk < wr.heap.size := Nat.lt_of_lt_of_le hbl2 HLI.out.2.1.1
    have hwlr : wb < wr.heap.size := Nat.lt_of_lt_of_le hwl2 HLI.out.2.1.1
    have hszr : W0.heap.size ≤ wr.heap.size := Nat.le_trans hsz2 HLI.out.2.1.1
    by_cases hjn : j < n
    · have hj1 : (j : Int) < (n : Int) := by omega
      have hj0 : (0 : Int) ≤ (j : Int) := by omega
      have v1 : IntKind.i64.wrap ((j : Int) + 1) = ((j + 1 : Nat) : Int) := by rw [IntKind.wrap_i64]; omega
      obtain ⟨ad, rfl, hadb, hcell⟩ := HRD.out (by omega)
      have HCL := Lib.hid hcell
      have hue : ((xs.drop (j * 62)).take 62).length = 62 := by
        rw [List.length_take, List.length_drop, HXL.out]
        have : (j + 1) * 62 ≤ n * 62 := Nat.mul_le_mul_right _ hjn
        omega
      obtain ⟨ue, hU⟩ : ∃ ue, ue = (xs.drop (j * 62)).take 62 := ⟨_, rfl⟩
      have HU := Lib.hid hU
      have HUE : Hid (ue.length = 62) := Lib.hid (by rw [hU]; exact hue)
      clear hU hue hcell
      go_wp2_with fail
      refine (w_bad wb wr).mono ?_
      rintro e w' ⟨rfl, rfl⟩
      have hx5 := heap_alloc_new wr (.cells zs 51)
      have hb5 : Below wr.heap.size wr (wr.alloc (.cells zs 51)) := (Below.refl _ _).alloc (Nat.le_refl _) _
      go_upto_region 6 with (refine wpList_alloc_row rfl 51 rfl zs HZ.out ?_)
      generalize wr.alloc (.cells zs 51) = w5 at *
      have HX5 := Lib.hid hx5
      have HB5 := Lib.hid hb5
      have hc0 : w5.cell? ⟨blk, o + i, none⟩ = some (.slice (some ad) n cap) := by
        rw [cell_of_row w5 blk _ _ _ _ ((hb5.block blk hblr).trans HOW.out)]
        exact HC0.out
      clear hx5 hb5
      have hcl : ∀ x u, ue[x]? = some u → w5.cell? ((ad.add (j * 62)).add x) = some u := fun x u hx => by
        rw [HU.out, List.getElem?_take] at hx
        split at hx
        · rw [List.getElem?_drop] at hx
          rw [Go.Deep.add_add]
          have e1 := HCL.out _ _ hx
          rw [← e1]
          exact ((HLI.out.1.hb.trans (HB5.out.mono hszr)).cell (p := ad.add (j * 62 + x)) (by rw [add_block]; exact hadb))
        · cases hx
      have hone : ue.toArray.all (·.oneCell') = true := by
        rw [HU.out]
        exact all_oneCell_toArray (ces_one _ _ (elem_ats HATS.out (j * 62) 62))
      have HCE := Lib.hid hcl
      have HON := Lib.hid hone
      have HSU : Hid ((Tryd.prog.info? 51).map (·.size) = some ue.length) := Lib.hid (by rw [HUE.out]; exact sz_Cell)
      have HSA : Hid ((Tryd.prog.info? 51).map (·.size) = some ue.toArray.size) := Lib.hid (by rw [List.size_toArray, HUE.out]; exact sz_Cell)
      have HZU : Hid (zs.size = ue.toArray.size) := Lib.hid (by rw [HZS.out, List.size_toArray, HUE.out])
      clear hcl hone
      go_upto_region 8 with (first | refine wpList_load_at rfl 51 _ rfl (ad.add (j * 62)) rfl ue _ HCE.out Tryd.underlying51 rfl HSU.out ?_ | refine wpList_store_row rfl 51 _ _ rfl wr.heap.size ue.toArray rfl rfl 51 zs HX5.out HSA.out HZU.out HON.out ?_)
      have hx6 : (w5.setRow wr.heap.size ue.toArray).heap[wr.heap.size]? = some (.cells ue.toArray 51 (0, 0)) := setRow_heap _ _ _ _ _ _ HX5.out
      have hb6 : Below wr.heap.size wr (w5.setRow wr.heap.size ue.toArray) := below_setRow HB5.out (Nat.le_refl _) _
      generalize w5.setRow wr.heap.size ue.toArray = w6 at *
      have HX6 := Lib.hid hx6
      have HB6 := Lib.hid hb6
      have HG6 := Lib.hid (elem_gst (HLI.out.1.keep hb6) hx6 (show wr.heap.size ≠ wb by omega) hszr (by decide) (elem_ats HATS.out (j * 62) 62 |> fun h => by rw [HU.out]; exact h) (by have h := elem_oks n es HOKS.out j hjn; rw [HL0.out] at h; exact h) (HLN.out j))
      clear hx6 hb6 hc0 HCE HON HSU HSA HZU HX5 HB5
      go_wp2_with fail
      refine (HONE.out _ _ _ HG6.out).mono ?_
      rintro e w7 ⟨rfl, hg7⟩
      obtain ⟨hs7, hch7⟩ := hg7.done
      have HS7 := Lib.hid hs7
      obtain ⟨c7, hx7, hz7, _, ho7⟩ := hch7.box _ _ HX6.out (by decide)
      have HOr : Hid (Oth (· = wb) wr w7) := Lib.hid ⟨Nat.le_trans HB6.out.size hch7.oth.1, fun i' o' hi hx ho => by
        have hlt := (Array.getElem?_eq_some_iff.1 hi).1
        exact hch7.oth.2 _ _ ((HB6.out.block i' hlt).trans hi) (fun h => by
          rcases h with h | h
          · exact hx h
          · omega) ho⟩
      have HO7 := Lib.hid (HLI.out.2.1.trans HOr.out)
      have HW7 := Lib.hid (own_oth HLI.out.2.2 HOr.out (fun g hg _ e => by omega) (by decide))
      have hs2r : w2.heap.size ≤ wr.heap.size := HLI.out.2.1.1
      have hsr7 : wr.heap.size ≤ w7.heap.size := HOr.out.1
      have HX7 := Lib.hid hx7
      have HZ7 : Hid (c7.size = 62) := Lib.hid (by rw [hz7, List.size_toArray, HUE.out])
      have HN7 : Hid (c7.all (·.oneCell') = true) := Lib.hid (ho7 (by
        rw [HU.out]
        exact all_oneCell_toArray (ces_one _ _ (elem_ats HATS.out (j * 62) 62))))
      have HSC : Hid ((Tryd.prog.info? 51).map (·.size) = some c7.size) := Lib.hid (by rw [HZ7.out]; exact sz_Cell)
      have hba : Below w7.heap.size w7 (w7.alloc (.cells c7 51)) := (Below.refl _ _).alloc (Nat.le_refl _) _
      have HOA := Lib.hid (HO7.out.trans (Oth.below (X := (· = wb)) hba))
      have HSA7 := Lib.hid (HS7.out.keep hba)
      obtain ⟨ys, hys⟩ := own_oth HW7.out (Oth.below (X := fun _ => False) hba) (fun _ _ _ h => h) (by decide)
      have HYS := Lib.hid hys
      have hsa : w2.heap.size ≤ (w7.alloc (.cells c7 51)).heap.size := HOA.out.1
      have hrd : Rd (w7.alloc (.cells c7 51)) (w7.heap.size + 1) 62 (some ⟨w7.heap.size, 0, none⟩) 1 c7.toList := ⟨by rw [Array.length_toList, HZ7.out], fun _ => ⟨_, rfl, Nat.lt_succ_self _, fun x u hu => by
        have e1 : (⟨w7.heap.size, 0, none⟩ : Addr).add x = ⟨w7.heap.size, x, none⟩ := by rw [Addr.add_mid, Nat.zero_add]
        rw [e1, cell_of_row _ _ _ _ _ _ (heap_alloc_new w7 _)]
        simpa using hu⟩⟩
      have HRN := Lib.hid hrd
      have HNL : Hid (∀ u ∈ c7.toList, u.oneCell' = true) := Lib.hid (fun u hu => Array.all_eq_true_iff_forall_mem.1 HN7.out u (by simpa using hu))
      have hbb := HBY.out (j + 1) (by omega)
      clear hs7 hch7 hx7 hz7 ho7 hrd hys hba
      go_wp2_with (first | refine wpList_load_row rfl 51 _ rfl wr.heap.size rfl 51 c7 (0, 0) _ HX7.out Tryd.underlying51 rfl HSC.out ?_ | refine wpList_build_one rfl 28 51 _ rfl c7 rfl ie _ Tryd.underlying28 HIE.out HIZ.out (by rw [HIS.out, HZ7.out]) (by rw [HZ7.out]; decide) (by rw [HZ7.out]; decide) ?_ | (at_builtin; refine wpList_append_rd _ rfl _ _ 28 rfl w2.heap.size 51 ie (.agg zs) 62 _ Tryd.underlying28 HIE.out HIZ.out HIS.out HIB.out HZS.out (by decide) _ j ys rfl HYS.out _ 1 1 _ c7.toList rfl HRN.out HNL.out (by simp only [maxLen]; omega) (by omega) hsa ?_))
      intro v' w8 hown8 hgrow8
      have HL8 : Hid (Lst W0 w2 wb 51 62 (s ++ tokI n ++ Ce.txts (es.take ((j + 1) * 62))) v' (j + 1) w8) := Lib.hid ⟨by
        rw [txts_step, ← List.append_assoc]
        exact HSA7.out.grown hgrow8 ⟨ys, HYS.out⟩ (by decide) hwl2 hsz2, oth_grown hgrow8 (fun g hg => by
          rcases HYS.out.2 with ⟨e, _⟩ | ⟨g', cap', cur', e, hb', _⟩
          · rw [e] at hg; cases hg
          · rw [e] at hg
            injection hg with hg
            rw [← hg]
            exact hb') wb HOA.out (Nat.le_refl _), _, hown8⟩
      clear hown8 hgrow8
      go_wp2
      go_roundw
      case rel => exact ⟨j + 1, by omega, by first | rfl | go_num, HL8⟩
      case measure => simp [intOf]; omega
    · obtain rfl : j = n := by omega
      have hj1 : ¬ (j : Int) < (j : Int) := by omega
      have hfz : wr.frozen? ⟨blk, o + i, none⟩ = false := frozen_of_row wr blk _ _ _ HOW.out
      have hcw : wr.cell? ⟨blk, o + i, none⟩ = some (.slice A j cap) := by
        rw [cell_of_row wr blk _ _ _ _ HOW.out]
        exact HC0.out
      have HFIN := Lib.hid (HEND.out w2 wr (.slice A' j c') HDR.out (by
        have h := HLI.out
        rw [List.take_of_length_le (by have h1 := Ce.ats_length _ _ HATS.out; rw [← h1, HXL.out]; exact Nat.le_refl _)] at h
        exact h))
      go_wp2
      go_end0
      exact ⟨rfl, HFIN.out⟩

noncomputable def qMach : List Ty := [.i, .i, .i, .i, .l (Tryd.prog.bytesOf 9) [.s], .l (Tryd.prog.bytesOf 86) [.s, .i, .i], .l (Tryd.prog.bytesOf 88) [.s, .s, .i], .l (Tryd.prog.bytesOf 47) qUnit, .l (Tryd.prog.bytesOf 51) qCell, .l (Tryd.prog.bytesOf 71) [.s, .i, .i, .i], .l (Tryd.prog.bytesOf 73) [.i, .s, .i], .l (Tryd.prog.bytesOf 9) [.s], .l (Tryd.prog.bytesOf 9) [.s], .l (Tryd.prog.bytesOf 79) [.s, .i, .i, .i, .i], .l (Tryd.prog.bytesOf 77) [.i, .s, .i, .i, .s], .i]

set_option maxRecDepth 100000 in
set_option maxHeartbeats 16000000 in
theorem Machine_w {W0 w0 w : World} {wb blk o i : Nat} {S : List UInt8} {q : List Ty} (E : Env W0) (p : Nat) (h : Gst W0 wb blk o i S (qMach ++ q) w0 w) (hp : p = o + i) :
    Calls Tryd.prog 28 #[.iface 80 (.pointer (some ⟨wb, 0, none⟩)), .pointer (some ⟨blk, p, none⟩)] w fun e w' => e = .returned (.tuple #[]) ∧ Gst W0 wb blk o (i + 16) S q w0 w' := by
  have na1 := na_int
  have na2 := na_bool
  have na3 := na_text
  have me1 := me_int
  have me2 := me_bool
  have me3 := me_text
  subst hp
  unfold qMach at h
  have HG := Lib.hid h
  clear h
  go_enter Tryd.func28, Tryd.ntmps28
  go_upto_region 0 with fail
  have hb0 : Below w.heap.size w (w.drew.alloc (.cells #[.pointer (some ⟨blk, o + i, none⟩), .pointer (some ⟨blk, o + i + 1, none⟩), .pointer (some ⟨blk, o + i + 2, none⟩), .pointer (some ⟨blk, o + i + 3, none⟩)] 95)) := (Below.drew (Below.refl _ w)).alloc (Nat.le_refl _) _
  have HC0 := Lib.hid (nums_w E 4 w.drew.heap.size _ _ _ (HG.out.keep hb0) (heap_alloc_new w.drew _) (by decide) (fun j hj => by match j, hj with | 0, _ => exact ptr_eq (by omega) | 1, _ => exact ptr_eq (by omega) | 2, _ => exact ptr_eq (by omega) | 3, _ => exact ptr_eq (by omega)) (by have : wb < w.drew.heap.size := HG.out.wlt; omega) (by have : blk < w.drew.heap.size := HG.out.lt; omega) (by decide))
  clear hb0
  go_region_held3 (fun _ => True) (trivial) (first | (go_at_call 34; refine Calls.mono HC0.out ?_; rintro e w1 ⟨rfl, hg⟩))
  replace HG := Lib.hid hg
  clear hg HC0
  go_upto_region 1 with fail
  have hb1 : Below w1.heap.size w1 (w1.alloc (.cells #[.pointer (some ⟨blk, o + i + 4, none⟩)] 97)) := (Below.refl _ _).alloc (Nat.le_refl _) _
  have HC1 := Lib.hid (texts_w E 1 w1.heap.size _ _ _ (HG.out.keep hb1) (heap_alloc_new w1 _) (by decide) (fun j hj => by match j, hj with | 0, _ => exact ptr_eq (by omega)) (by have := HG.out.wlt; omega) (by have := HG.out.lt; omega) (by decide))
  clear hb1
  go_wp2_with fail
  refine HC1.out.mono ?_
  rintro e w2 ⟨rfl, hg⟩
  replace HG := Lib.hid hg
  clear hg HC1
  go_upto_region 2 with fail
  go_wp2_with fail
  refine (list_Node E _ HG.out (by omega)).mono ?_
  rintro e w3 ⟨rfl, hg⟩
  replace HG := Lib.hid hg
  clear hg
  go_upto_region 3 with fail
  go_wp2_with fail
  refine (list_Edge E _ HG.out (by omega)).mono ?_
  rintro e w4 ⟨rfl, hg⟩
  replace HG := Lib.hid hg
  clear hg
  go_upto_region 4 with fail
  go_wp2_with fail
  refine (list_Unit E _ HG.out (by omega)).mono ?_
  rintro e w5 ⟨rfl, hg⟩
  replace HG := Lib.hid hg
  clear hg
  go_upto_region 5 with fail
  go_wp2_with fail
  refine (list_Cell E _ HG.out (by omega)).mono ?_
  rintro e w6 ⟨rfl, hg⟩
  replace HG := Lib.hid hg
  clear hg
  go_upto_region 6 with fail
  go_wp2_with fail
  refine (list_Job E _ HG.out (by omega)).mono ?_
  rintro e w7 ⟨rfl, hg⟩
  replace HG := Lib.hid hg
  clear hg
  go_upto_region 7 with fail
  go_wp2_with fail
  refine (list_Ask E _ HG.out (by omega)).mono ?_
  rintro e w8 ⟨rfl, hg⟩
  replace HG := Lib.hid hg
  clear hg
  go_upto_region 8 with fail
  have hb8 : Below w8.heap.size w8 (w8.drew.alloc (.cells #[.pointer (some ⟨blk, o + i + 11, none⟩), .pointer (some ⟨blk, o + i + 12, none⟩)] 97)) := (Below.drew (Below.refl _ w8)).alloc (Nat.le_refl _) _
  have HC8 := Lib.hid (texts_w E 2 w8.drew.heap.size _ _ _ (HG.out.keep hb8) (heap_alloc_new w8.drew _) (by decide) (fun j hj => by match j, hj with | 0, _ => exact ptr_eq (by omega) | 1, _ => exact ptr_eq (by omega)) (by have : wb < w8.drew.heap.size := HG.out.wlt; omega) (by have : blk < w8.drew.heap.size := HG.out.lt; omega) (by decide))
  clear hb8
  go_region_held3 (fun _ => True) (trivial) (first | (go_at_call 35; refine Calls.mono HC8.out ?_; rintro e w9 ⟨rfl, hg⟩))
  replace HG := Lib.hid hg
  clear hg HC8
  go_upto_region 9 with fail
  go_wp2_with fail
  refine (list_Conn E _ HG.out (by omega)).mono ?_
  rintro e w10 ⟨rfl, hg⟩
  replace HG := Lib.hid hg
  clear hg
  go_upto_region 10 with fail
  go_wp2_with fail
  refine (list_Row E _ HG.out (by omega)).mono ?_
  rintro e w11 ⟨rfl, hg⟩
  replace HG := Lib.hid hg
  clear hg
  go_upto_region 11 with fail
  replace HG := Lib.hid (HG.out.keep (Below.drew (Below.refl _ w11)))
  go_still_tail 7, (by kernel_rfl)
  change wpList _ _ _ _ _ w11.drew
  generalize w11.drew = w11d at *
  go_wp2_with fail
  refine (stp_int E _ HG.out (by omega)).mono ?_
  rintro e w12 ⟨rfl, hg⟩
  replace HG := Lib.hid hg
  clear hg
  go_wp2
  go_end0
  exact ⟨rfl, HG.out⟩

end Go.Proofs.YtkgkipohalekmaaDoor
