/-
  Lists of small structs gone over: the writer's walks.
-/
import Derived.Test.YtkgkipohalekmaaDoorBp
namespace Go.Proofs.YtkgkipohalekmaaDoor
open Go.RowKit Go.Shelf

theorem zr_Exec : (Tryd.prog.info? 164).map (fun i => match i.zero with | some (.agg zs) => (zs.size, i.size, i.bytes) | _ => (0, 0, 0)) = some (2, 2, Tryd.prog.bytesOf 164) := by kernel_rfl

theorem sz_Exec : (Tryd.prog.info? 164).map (·.size) = some 2 := by kernel_rfl

set_option maxRecDepth 100000 in
set_option maxHeartbeats 16000000 in
theorem list_Exec {W0 w0 w : World} {wb blk o i : Nat} {S : List UInt8} {q : List Ty} (E : Env W0) (p : Nat) (h : Gst W0 wb blk o i S (.l (Tryd.prog.bytesOf 164) [.b, .l (Tryd.prog.bytesOf 9) [.s]] :: q) w0 w) (hp : p = o + i) :
    Calls Tryd.prog 71 #[.iface 80 (.pointer (some ⟨wb, 0, none⟩)), .pointer (some ⟨blk, p, none⟩), .func (.func 72) #[] #[]] w fun e w' => e = .returned (.tuple #[]) ∧ Gst W0 wb blk o (i + 1) S q w0 w' := by
  subst hp
  have HONE : Hid (∀ xb W S', Gst W0 wb xb 0 0 S' [.b, .l (Tryd.prog.bytesOf 9) [.s]] W W → Calls Tryd.prog 72 #[.iface 80 (.pointer (some ⟨wb, 0, none⟩)), .pointer (some ⟨xb, 0, none⟩)] W fun e w' => e = .returned (.tuple #[]) ∧ Gst W0 wb xb 0 2 S' [] W w') := Lib.hid (fun xb W S' hg => command_w (q := []) E 0 hg rfl)
  have hq : (([.b, .l (Tryd.prog.bytesOf 9) [.s]]) : List Ty).length = 2 := rfl
  obtain ⟨ie, zs, hie, hiz, his, hib, hzs, hzr⟩ := zero_row zr_Exec (by decide)
  have HZ := Lib.hid hzr
  have HIE := Lib.hid hie
  have HIZ := Lib.hid hiz
  have HIS := Lib.hid his
  have HIB := Lib.hid hib
  have HZS := Lib.hid hzs
  clear hie hiz his hib hzs hzr
  obtain ⟨s, cs, vs, h1, h2, h3, h4, h5, h6, h7⟩ := h
  obtain ⟨n, es, r, rfl⟩ : ∃ n es r, cs = .l n es :: r := by
    match cs, h4 with
    | .l n es :: r, _ => exact ⟨n, es, r, rfl⟩
    | .i _ :: _, h4 => unfold Ce.Oks Ce.Ok at h4; exact h4.1.elim
    | .b _ :: _, h4 => unfold Ce.Oks Ce.Ok at h4; exact h4.1.elim
    | .s _ :: _, h4 => unfold Ce.Oks Ce.Ok at h4; exact h4.1.elim
    | [], h4 => unfold Ce.Oks at h4; exact h4.elim
  unfold Ce.Ats at h3
  obtain ⟨v, us, rfl, hv, h3⟩ := h3
  unfold Ce.Oks at h4
  have hok := h4.1
  unfold Ce.Ok at hok
  unfold Ce.At at hv
  obtain ⟨A, cap, k', xs, rfl, hcap, hrd, hats⟩ := hv
  have hn1 := hok.1.1
  have hlen2 := h6
  simp only [Ce.bulks, Ce.bulk] at hlen2
  have HXL : Hid (xs.length = n * 2) := Lib.hid (by
    have e1 := Ce.ats_length _ _ hats
    have e2 := Ce.oks_length _ _ hok.2
    rw [e1, e2, List.length_flatten]
    simp [hq])
  have HRD : Hid (0 < n → ∃ ad, A = some ad ∧ ad.block < W0.heap.size ∧ ∀ j u, xs[j]? = some u → W0.cell? (ad.add j) = some u) := Lib.hid hrd.2
  have HATS := Lib.hid hats
  have HOKS := Lib.hid hok.2
  have HBY : Hid (∀ j, j ≤ n → j * Tryd.prog.bytesOf 164 ≤ 140737488351232) := Lib.hid (fun j hj => Nat.le_trans (Nat.mul_le_mul_right _ hj) hok.1.2)
  have HEND : Hid (∀ wN w' ov, Below w.heap.size w wN → Lst W0 wN wb 164 2 (s ++ tokI n ++ Ce.txts es) ov n w' → Gst W0 wb blk o (i + 1) S q w0 (w'.setCell ⟨blk, o + i, none⟩ ov)) := Lib.hid (fun wN w' ov hN hL => lst_end h2 h3 h4.1 h4.2 h5 h6 h7 hN hL)
  have HLN : Hid (∀ j, (s ++ tokI n ++ Ce.txts (es.take (j * 2))).length + 23 * Ce.bulks ((es.drop (j * 2)).take 2) ≤ 100000000) := Lib.hid (fun j => by
    have e1 := bulks_step es j 2
    have e2 := Ce.txts_len _ _ (oks_take (j * 2) es hok.2)
    have e3 := tokI_len n (by omega) (by omega)
    rw [List.length_append, List.length_append]
    omega)
  have hl0 : s.length ≤ 100000000 := by omega
  have hc := h2.cell 0 rfl
  have hfz := h2.fz (o + i)
  have hbl := h2.lt
  have hne := h2.ne
  have hge := h2.ge
  have hwl := h1.wu.lt
  have hwg : W0.heap.size ≤ wb := by
    have hw := h1.wu
    unfold Wu Lib.IsBuilderF at hw
    rcases hw with hw | hw <;> exact hw.1
  obtain ⟨cells0, t0, hobj, ht0, _⟩ := h2.obj
  have HT0 := Lib.hid ht0
  have HOB : Hid (w.drew.heap[blk]? = some (.cells cells0 t0 (0, 0))) := Lib.hid hobj
  have HC0 : Hid (cells0[o + i]? = some (.slice A n cap)) := Lib.hid (by rw [← cell_of_row w blk _ _ _ _ hobj]; simpa using hc)
  have HS := Lib.hid (h1.keep (Below.drew (Below.refl _ w)))
  have HDR : Hid (Below w.heap.size w w.drew) := Lib.hid (Below.drew (Below.refl _ w))
  have hbl2 : blk < w.drew.heap.size := hbl
  have hwl2 : wb < w.drew.heap.size := hwl
  have hcd : w.drew.cell? ⟨blk, o + i, none⟩ = some (.slice A n cap) := by simpa using hc
  have HL0 := Lib.hid hq
  have hsz2 : W0.heap.size ≤ w.drew.heap.size := by
    have := h1.hb.size
    exact this
  clear hok hats hrd h1 h2 h3 h4 h5 h6 h7 hlen2 hbl hwl hobj ht0 hc hfz hq
  have q1 := na_len
  have q2 := me_len
  have q3 := me_bad
  go_enter Tryd.func71, Tryd.ntmps71
  go_upto_region 0 with fail
  go_still_tail 8, (by kernel_rfl)
  change wpList _ _ _ _ _ w.drew
  generalize w.drew = w2 at *
  go_wp2_with fail
  refine (w_len W0 w2 wb s n E HS.out (by omega) hl0).mono ?_
  rintro e w3 ⟨rfl, hs3, ho3⟩
  have HLI : Hid (Lst W0 w2 wb 164 2 (s ++ tokI n ++ Ce.txts (es.take (0 * 2))) (.slice none 0 0) 0 w3) := Lib.hid ⟨by rw [Nat.zero_mul, List.take_zero, Ce.txts, List.append_nil]; exact hs3, ho3, [], by simp, .inl ⟨rfl, rfl⟩⟩
  clear hs3 ho3 hcd
  go_wp2_with fail
  go_loopw [7, 8] (fun ov iv wr => ∃ j : Nat, j ≤ n ∧ iv = .int .i64 j ∧ Hid (Lst W0 w2 wb 164 2 (s ++ tokI n ++ Ce.txts (es.take (j * 2))) ov j wr)) (fun _ iv _ => n - (intOf iv).toNat)
  case atStart => exact ⟨0, Nat.zero_le _, rfl, HLI⟩
  case round =>
    clear HLI
    obtain ⟨j, hj, rfl, HLI⟩ := hrel
    obtain ⟨A', c', hov⟩ := HLI.out.slice
    subst hov
    have HOW : Hid (wr.heap[blk]? = some (.cells cells0 t0 (0, 0))) := Lib.hid (HLI.out.2.1.2 _ _ HOB.out hne (fun c fz e => HT0.out (by injection e)))
    have hblr : blk < wr.heap.size := Nat.lt_of_lt_of_le hbl2 HLI.out.2.1.1
    have hwlr : wb < wr.heap.size := Nat.lt_of_lt_of_le hwl2 HLI.out.2.1.1
    have hszr : W0.heap.size ≤ wr.heap.size := Nat.le_trans hsz2 HLI.out.2.1.1
    by_cases hjn : j < n
    · have hj1 : (j : Int) < (n : Int) := by omega
      have hj0 : (0 : Int) ≤ (j : Int) := by omega
      have v1 : IntKind.i64.wrap ((j : Int) + 1) = ((j + 1 : Nat) : Int) := by rw [IntKind.wrap_i64]; omega
      obtain ⟨ad, rfl, hadb, hcell⟩ := HRD.out (by omega)
      have HCL := Lib.hid hcell
      have hue : ((xs.drop (j * 2)).take 2).length = 2 := by
        rw [List.length_take, List.length_drop, HXL.out]
        have : (j + 1) * 2 ≤ n * 2 := Nat.mul_le_mul_right _ hjn
        omega
      obtain ⟨ue, hU⟩ : ∃ ue, ue = (xs.drop (j * 2)).take 2 := ⟨_, rfl⟩
      have HU := Lib.hid hU
      have HUE : Hid (ue.length = 2) := Lib.hid (by rw [hU]; exact hue)
      clear hU hue hcell
      go_wp2_with fail
      refine (w_bad wb wr).mono ?_
      rintro e w' ⟨rfl, rfl⟩
      have hx5 := heap_alloc_new wr (.cells zs 164)
      have hb5 : Below wr.heap.size wr (wr.alloc (.cells zs 164)) := (Below.refl _ _).alloc (Nat.le_refl _) _
      go_upto_region 6 with (refine wpList_alloc_row rfl 164 rfl zs HZ.out ?_)
      generalize wr.alloc (.cells zs 164) = w5 at *
      have HX5 := Lib.hid hx5
      have HB5 := Lib.hid hb5
      have hc0 : w5.cell? ⟨blk, o + i, none⟩ = some (.slice (some ad) n cap) := by
        rw [cell_of_row w5 blk _ _ _ _ ((hb5.block blk hblr).trans HOW.out)]
        exact HC0.out
      clear hx5 hb5
      have hcl : ∀ x u, ue[x]? = some u → w5.cell? ((ad.add (j * 2)).add x) = some u := fun x u hx => by
        rw [HU.out, List.getElem?_take] at hx
        split at hx
        · rw [List.getElem?_drop] at hx
          rw [Go.Deep.add_add]
          have e1 := HCL.out _ _ hx
          rw [← e1]
          exact ((HLI.out.1.hb.trans (HB5.out.mono hszr)).cell (p := ad.add (j * 2 + x)) (by rw [add_block]; exact hadb))
        · cases hx
      have hone : ue.toArray.all (·.oneCell') = true := by
        rw [HU.out]
        exact all_oneCell_toArray (ces_one _ _ (elem_ats HATS.out (j * 2) 2))
      have HCE := Lib.hid hcl
      have HON := Lib.hid hone
      have HSU : Hid ((Tryd.prog.info? 164).map (·.size) = some ue.length) := Lib.hid (by rw [HUE.out]; exact sz_Exec)
      have HSA : Hid ((Tryd.prog.info? 164).map (·.size) = some ue.toArray.size) := Lib.hid (by rw [List.size_toArray, HUE.out]; exact sz_Exec)
      have HZU : Hid (zs.size = ue.toArray.size) := Lib.hid (by rw [HZS.out, List.size_toArray, HUE.out])
      clear hcl hone
      go_upto_region 8 with (first | refine wpList_load_at rfl 164 _ rfl (ad.add (j * 2)) rfl ue _ HCE.out Tryd.underlying164 rfl HSU.out ?_ | refine wpList_store_row rfl 164 _ _ rfl wr.heap.size ue.toArray rfl rfl 164 zs HX5.out HSA.out HZU.out HON.out ?_)
      have hx6 : (w5.setRow wr.heap.size ue.toArray).heap[wr.heap.size]? = some (.cells ue.toArray 164 (0, 0)) := setRow_heap _ _ _ _ _ _ HX5.out
      have hb6 : Below wr.heap.size wr (w5.setRow wr.heap.size ue.toArray) := below_setRow HB5.out (Nat.le_refl _) _
      generalize w5.setRow wr.heap.size ue.toArray = w6 at *
      have HX6 := Lib.hid hx6
      have HB6 := Lib.hid hb6
      have HG6 := Lib.hid (elem_gst (HLI.out.1.keep hb6) hx6 (show wr.heap.size ≠ wb by omega) hszr (by decide) (elem_ats HATS.out (j * 2) 2 |> fun h => by rw [HU.out]; exact h) (by have h := elem_oks n es HOKS.out j hjn; rw [HL0.out] at h; exact h) (HLN.out j))
      clear hx6 hb6 hc0 HCE HON HSU HSA HZU HX5 HB5
      go_wp2_with fail
      refine (HONE.out _ _ _ HG6.out).mono ?_
      rintro e w7 ⟨rfl, hg7⟩
      obtain ⟨hs7, hch7⟩ := hg7.done
      have HS7 := Lib.hid hs7
      obtain ⟨c7, hx7, hz7, _, ho7⟩ := hch7.box _ _ HX6.out (by decide)
      have HOr : Hid (Oth (· = wb) wr w7) := Lib.hid ⟨Nat.le_trans HB6.out.size hch7.oth.1, fun i' o' hi hx ho => by
        have hlt := (Array.getElem?_eq_some_iff.1 hi).1
        exact hch7.oth.2 _ _ ((HB6.out.block i' hlt).trans hi) (fun h => by
          rcases h with h | h
          · exact hx h
          · omega) ho⟩
      have HO7 := Lib.hid (HLI.out.2.1.trans HOr.out)
      have HW7 := Lib.hid (own_oth HLI.out.2.2 HOr.out (fun g hg _ e => by omega) (by decide))
      have hs2r : w2.heap.size ≤ wr.heap.size := HLI.out.2.1.1
      have hsr7 : wr.heap.size ≤ w7.heap.size := HOr.out.1
      have HX7 := Lib.hid hx7
      have HZ7 : Hid (c7.size = 2) := Lib.hid (by rw [hz7, List.size_toArray, HUE.out])
      have HN7 : Hid (c7.all (·.oneCell') = true) := Lib.hid (ho7 (by
        rw [HU.out]
        exact all_oneCell_toArray (ces_one _ _ (elem_ats HATS.out (j * 2) 2))))
      have HSC : Hid ((Tryd.prog.info? 164).map (·.size) = some c7.size) := Lib.hid (by rw [HZ7.out]; exact sz_Exec)
      have hba : Below w7.heap.size w7 (w7.alloc (.cells c7 164)) := (Below.refl _ _).alloc (Nat.le_refl _) _
      have HOA := Lib.hid (HO7.out.trans (Oth.below (X := (· = wb)) hba))
      have HSA7 := Lib.hid (HS7.out.keep hba)
      obtain ⟨ys, hys⟩ := own_oth HW7.out (Oth.below (X := fun _ => False) hba) (fun _ _ _ h => h) (by decide)
      have HYS := Lib.hid hys
      have hsa : w2.heap.size ≤ (w7.alloc (.cells c7 164)).heap.size := HOA.out.1
      have hrd : Rd (w7.alloc (.cells c7 164)) (w7.heap.size + 1) 2 (some ⟨w7.heap.size, 0, none⟩) 1 c7.toList := ⟨by rw [Array.length_toList, HZ7.out], fun _ => ⟨_, rfl, Nat.lt_succ_self _, fun x u hu => by
        have e1 : (⟨w7.heap.size, 0, none⟩ : Addr).add x = ⟨w7.heap.size, x, none⟩ := by rw [Addr.add_mid, Nat.zero_add]
        rw [e1, cell_of_row _ _ _ _ _ _ (heap_alloc_new w7 _)]
        simpa using hu⟩⟩
      have HRN := Lib.hid hrd
      have HNL : Hid (∀ u ∈ c7.toList, u.oneCell' = true) := Lib.hid (fun u hu => Array.all_eq_true_iff_forall_mem.1 HN7.out u (by simpa using hu))
      have hbb := HBY.out (j + 1) (by omega)
      clear hs7 hch7 hx7 hz7 ho7 hrd hys hba
      go_wp2_with (first | refine wpList_load_row rfl 164 _ rfl wr.heap.size rfl 164 c7 (0, 0) _ HX7.out Tryd.underlying164 rfl HSC.out ?_ | refine wpList_build_one rfl 43 164 _ rfl c7 rfl ie _ Tryd.underlying43 HIE.out HIZ.out (by rw [HIS.out, HZ7.out]) (by rw [HZ7.out]; decide) (by rw [HZ7.out]; decide) ?_ | (at_builtin; refine wpList_append_rd _ rfl _ _ 43 rfl w2.heap.size 164 ie (.agg zs) 2 _ Tryd.underlying43 HIE.out HIZ.out HIS.out HIB.out HZS.out (by decide) _ j ys rfl HYS.out _ 1 1 _ c7.toList rfl HRN.out HNL.out (by simp only [maxLen]; omega) (by omega) hsa ?_))
      intro v' w8 hown8 hgrow8
      have HL8 : Hid (Lst W0 w2 wb 164 2 (s ++ tokI n ++ Ce.txts (es.take ((j + 1) * 2))) v' (j + 1) w8) := Lib.hid ⟨by
        rw [txts_step, ← List.append_assoc]
        exact HSA7.out.grown hgrow8 ⟨ys, HYS.out⟩ (by decide) hwl2 hsz2, oth_grown hgrow8 (fun g hg => by
          rcases HYS.out.2 with ⟨e, _⟩ | ⟨g', cap', cur', e, hb', _⟩
          · rw [e] at hg; cases hg
          · rw [e] at hg
            injection hg with hg
            rw [← hg]
            exact hb') wb HOA.out (Nat.le_refl _), _, hown8⟩
      clear hown8 hgrow8
      go_wp2
      go_roundw
      case rel => exact ⟨j + 1, by omega, by first | rfl | go_num, HL8⟩
      case measure => simp [intOf]; omega
    · obtain rfl : j = n := by omega
      have hj1 : ¬ (j : Int) < (j : Int) := by omega
      have hfz : wr.frozen? ⟨blk, o + i, none⟩ = false := frozen_of_row wr blk _ _ _ HOW.out
      have hcw : wr.cell? ⟨blk, o + i, none⟩ = some (.slice A j cap) := by
        rw [cell_of_row wr blk _ _ _ _ HOW.out]
        exact HC0.out
      have HFIN := Lib.hid (HEND.out w2 wr (.slice A' j c') HDR.out (by
        have h := HLI.out
        rw [List.take_of_length_le (by have h1 := Ce.ats_length _ _ HATS.out; rw [← h1, HXL.out]; exact Nat.le_refl _)] at h
        exact h))
      go_wp2
      go_end0
      exact ⟨rfl, HFIN.out⟩

theorem zr_Pair : (Tryd.prog.info? 153).map (fun i => match i.zero with | some (.agg zs) => (zs.size, i.size, i.bytes) | _ => (0, 0, 0)) = some (2, 2, Tryd.prog.bytesOf 153) := by kernel_rfl

theorem sz_Pair : (Tryd.prog.info? 153).map (·.size) = some 2 := by kernel_rfl

set_option maxRecDepth 100000 in
set_option maxHeartbeats 16000000 in
theorem list_Pair {W0 w0 w : World} {wb blk o i : Nat} {S : List UInt8} {q : List Ty} (E : Env W0) (p : Nat) (h : Gst W0 wb blk o i S (.l (Tryd.prog.bytesOf 153) [.s, .s] :: q) w0 w) (hp : p = o + i) :
    Calls Tryd.prog 64 #[.iface 80 (.pointer (some ⟨wb, 0, none⟩)), .pointer (some ⟨blk, p, none⟩), .func (.func 65) #[] #[]] w fun e w' => e = .returned (.tuple #[]) ∧ Gst W0 wb blk o (i + 1) S q w0 w' := by
  subst hp
  have HONE : Hid (∀ xb W S', Gst W0 wb xb 0 0 S' [.s, .s] W W → Calls Tryd.prog 65 #[.iface 80 (.pointer (some ⟨wb, 0, none⟩)), .pointer (some ⟨xb, 0, none⟩)] W fun e w' => e = .returned (.tuple #[]) ∧ Gst W0 wb xb 0 2 S' [] W w') := Lib.hid (fun xb W S' hg => pair_w (q := []) E 0 hg rfl)
  have hq : (([.s, .s]) : List Ty).length = 2 := rfl
  obtain ⟨ie, zs, hie, hiz, his, hib, hzs, hzr⟩ := zero_row zr_Pair (by decide)
  have HZ := Lib.hid hzr
  have HIE := Lib.hid hie
  have HIZ := Lib.hid hiz
  have HIS := Lib.hid his
  have HIB := Lib.hid hib
  have HZS := Lib.hid hzs
  clear hie hiz his hib hzs hzr
  obtain ⟨s, cs, vs, h1, h2, h3, h4, h5, h6, h7⟩ := h
  obtain ⟨n, es, r, rfl⟩ : ∃ n es r, cs = .l n es :: r := by
    match cs, h4 with
    | .l n es :: r, _ => exact ⟨n, es, r, rfl⟩
    | .i _ :: _, h4 => unfold Ce.Oks Ce.Ok at h4; exact h4.1.elim
    | .b _ :: _, h4 => unfold Ce.Oks Ce.Ok at h4; exact h4.1.elim
    | .s _ :: _, h4 => unfold Ce.Oks Ce.Ok at h4; exact h4.1.elim
    | [], h4 => unfold Ce.Oks at h4; exact h4.elim
  unfold Ce.Ats at h3
  obtain ⟨v, us, rfl, hv, h3⟩ := h3
  unfold Ce.Oks at h4
  have hok := h4.1
  unfold Ce.Ok at hok
  unfold Ce.At at hv
  obtain ⟨A, cap, k', xs, rfl, hcap, hrd, hats⟩ := hv
  have hn1 := hok.1.1
  have hlen2 := h6
  simp only [Ce.bulks, Ce.bulk] at hlen2
  have HXL : Hid (xs.length = n * 2) := Lib.hid (by
    have e1 := Ce.ats_length _ _ hats
    have e2 := Ce.oks_length _ _ hok.2
    rw [e1, e2, List.length_flatten]
    simp [hq])
  have HRD : Hid (0 < n → ∃ ad, A = some ad ∧ ad.block < W0.heap.size ∧ ∀ j u, xs[j]? = some u → W0.cell? (ad.add j) = some u) := Lib.hid hrd.2
  have HATS := Lib.hid hats
  have HOKS := Lib.hid hok.2
  have HBY : Hid (∀ j, j ≤ n → j * Tryd.prog.bytesOf 153 ≤ 140737488351232) := Lib.hid (fun j hj => Nat.le_trans (Nat.mul_le_mul_right _ hj) hok.1.2)
  have HEND : Hid (∀ wN w' ov, Below w.heap.size w wN → Lst W0 wN wb 153 2 (s ++ tokI n ++ Ce.txts es) ov n w' → Gst W0 wb blk o (i + 1) S q w0 (w'.setCell ⟨blk, o + i, none⟩ ov)) := Lib.hid (fun wN w' ov hN hL => lst_end h2 h3 h4.1 h4.2 h5 h6 h7 hN hL)
  have HLN : Hid (∀ j, (s ++ tokI n ++ Ce.txts (es.take (j * 2))).length + 23 * Ce.bulks ((es.drop (j * 2)).take 2) ≤ 100000000) := Lib.hid (fun j => by
    have e1 := bulks_step es j 2
    have e2 := Ce.txts_len _ _ (oks_take (j * 2) es hok.2)
    have e3 := tokI_len n (by omega) (by omega)
    rw [List.length_append, List.length_append]
    omega)
  have hl0 : s.length ≤ 100000000 := by omega
  have hc := h2.cell 0 rfl
  have hfz := h2.fz (o + i)
  have hbl := h2.lt
  have hne := h2.ne
  have hge := h2.ge
  have hwl := h1.wu.lt
  have hwg : W0.heap.size ≤ wb := by
    have hw := h1.wu
    unfold Wu Lib.IsBuilderF at hw
    rcases hw with hw | hw <;> exact hw.1
  obtain ⟨cells0, t0, hobj, ht0, _⟩ := h2.obj
  have HT0 := Lib.hid ht0
  have HOB : Hid (w.drew.heap[blk]? = some (.cells cells0 t0 (0, 0))) := Lib.hid hobj
  have HC0 : Hid (cells0[o + i]? = some (.slice A n cap)) := Lib.hid (by rw [← cell_of_row w blk _ _ _ _ hobj]; simpa using hc)
  have HS := Lib.hid (h1.keep (Below.drew (Below.refl _ w)))
  have HDR : Hid (Below w.heap.size w w.drew) := Lib.hid (Below.drew (Below.refl _ w))
  have hbl2 : blk < w.drew.heap.size := hbl
  have hwl2 : wb < w.drew.heap.size := hwl
  have hcd : w.drew.cell? ⟨blk, o + i, none⟩ = some (.slice A n cap) := by simpa using hc
  have HL0 := Lib.hid hq
  have hsz2 : W0.heap.size ≤ w.drew.heap.size := by
    have := h1.hb.size
    exact this
  clear hok hats hrd h1 h2 h3 h4 h5 h6 h7 hlen2 hbl hwl hobj ht0 hc hfz hq
  have q1 := na_len
  have q2 := me_len
  have q3 := me_bad
  go_enter Tryd.func64, Tryd.ntmps64
  go_upto_region 0 with fail
  go_still_tail 8, (by kernel_rfl)
  change wpList _ _ _ _ _ w.drew
  generalize w.drew = w2 at *
  go_wp2_with fail
  refine (w_len W0 w2 wb s n E HS.out (by omega) hl0).mono ?_
  rintro e w3 ⟨rfl, hs3, ho3⟩
  have HLI : Hid (Lst W0 w2 wb 153 2 (s ++ tokI n ++ Ce.txts (es.take (0 * 2))) (.slice none 0 0) 0 w3) := Lib.hid ⟨by rw [Nat.zero_mul, List.take_zero, Ce.txts, List.append_nil]; exact hs3, ho3, [], by simp, .inl ⟨rfl, rfl⟩⟩
  clear hs3 ho3 hcd
  go_wp2_with fail
  go_loopw [7, 8] (fun ov iv wr => ∃ j : Nat, j ≤ n ∧ iv = .int .i64 j ∧ Hid (Lst W0 w2 wb 153 2 (s ++ tokI n ++ Ce.txts (es.take (j * 2))) ov j wr)) (fun _ iv _ => n - (intOf iv).toNat)
  case atStart => exact ⟨0, Nat.zero_le _, rfl, HLI⟩
  case round =>
    clear HLI
    obtain ⟨j, hj, rfl, HLI⟩ := hrel
    obtain ⟨A', c', hov⟩ := HLI.out.slice
    subst hov
    have HOW : Hid (wr.heap[blk]? = some (.cells cells0 t0 (0, 0))) := Lib.hid (HLI.out.2.1.2 _ _ HOB.out hne (fun c fz e => HT0.out (by injection e)))
    have hblr : blk < wr.heap.size := Nat.lt_of_lt_of_le hbl2 HLI.out.2.1.1
    have hwlr : wb < wr.heap.size := Nat.lt_of_lt_of_le hwl2 HLI.out.2.1.1
    have hszr : W0.heap.size ≤ wr.heap.size := Nat.le_trans hsz2 HLI.out.2.1.1
    by_cases hjn : j < n
    · have hj1 : (j : Int) < (n : Int) := by omega
      have hj0 : (0 : Int) ≤ (j : Int) := by omega
      have v1 : IntKind.i64.wrap ((j : Int) + 1) = ((j + 1 : Nat) : Int) := by rw [IntKind.wrap_i64]; omega
      obtain ⟨ad, rfl, hadb, hcell⟩ := HRD.out (by omega)
      have HCL := Lib.hid hcell
      have hue : ((xs.drop (j * 2)).take 2).length = 2 := by
        rw [List.length_take, List.length_drop, HXL.out]
        have : (j + 1) * 2 ≤ n * 2 := Nat.mul_le_mul_right _ hjn
        omega
      obtain ⟨ue, hU⟩ : ∃ ue, ue = (xs.drop (j * 2)).take 2 := ⟨_, rfl⟩
      have HU := Lib.hid hU
      have HUE : Hid (ue.length = 2) := Lib.hid (by rw [hU]; exact hue)
      clear hU hue hcell
      go_wp2_with fail
      refine (w_bad wb wr).mono ?_
      rintro e w' ⟨rfl, rfl⟩
      have hx5 := heap_alloc_new wr (.cells zs 153)
      have hb5 : Below wr.heap.size wr (wr.alloc (.cells zs 153)) := (Below.refl _ _).alloc (Nat.le_refl _) _
      go_upto_region 6 with (refine wpList_alloc_row rfl 153 rfl zs HZ.out ?_)
      generalize wr.alloc (.cells zs 153) = w5 at *
      have HX5 := Lib.hid hx5
      have HB5 := Lib.hid hb5
      have hc0 : w5.cell? ⟨blk, o + i, none⟩ = some (.slice (some ad) n cap) := by
        rw [cell_of_row w5 blk _ _ _ _ ((hb5.block blk hblr).trans HOW.out)]
        exact HC0.out
      clear hx5 hb5
      have hcl : ∀ x u, ue[x]? = some u → w5.cell? ((ad.add (j * 2)).add x) = some u := fun x u hx => by
        rw [HU.out, List.getElem?_take] at hx
        split at hx
        · rw [List.getElem?_drop] at hx
          rw [Go.Deep.add_add]
          have e1 := HCL.out _ _ hx
          rw [← e1]
          exact ((HLI.out.1.hb.trans (HB5.out.mono hszr)).cell (p := ad.add (j * 2 + x)) (by rw [add_block]; exact hadb))
        · cases hx
      have hone : ue.toArray.all (·.oneCell') = true := by
        rw [HU.out]
        exact all_oneCell_toArray (ces_one _ _ (elem_ats HATS.out (j * 2) 2))
      have HCE := Lib.hid hcl
      have HON := Lib.hid hone
      have HSU : Hid ((Tryd.prog.info? 153).map (·.size) = some ue.length) := Lib.hid (by rw [HUE.out]; exact sz_Pair)
      have HSA : Hid ((Tryd.prog.info? 153).map (·.size) = some ue.toArray.size) := Lib.hid (by rw [List.size_toArray, HUE.out]; exact sz_Pair)
      have HZU : Hid (zs.size = ue.toArray.size) := Lib.hid (by rw [HZS.out, List.size_toArray, HUE.out])
      clear hcl hone
      go_upto_region 8 with (first | refine wpList_load_at rfl 153 _ rfl (ad.add (j * 2)) rfl ue _ HCE.out Tryd.underlying153 rfl HSU.out ?_ | refine wpList_store_row rfl 153 _ _ rfl wr.heap.size ue.toArray rfl rfl 153 zs HX5.out HSA.out HZU.out HON.out ?_)
      have hx6 : (w5.setRow wr.heap.size ue.toArray).heap[wr.heap.size]? = some (.cells ue.toArray 153 (0, 0)) := setRow_heap _ _ _ _ _ _ HX5.out
      have hb6 : Below wr.heap.size wr (w5.setRow wr.heap.size ue.toArray) := below_setRow HB5.out (Nat.le_refl _) _
      generalize w5.setRow wr.heap.size ue.toArray = w6 at *
      have HX6 := Lib.hid hx6
      have HB6 := Lib.hid hb6
      have HG6 := Lib.hid (elem_gst (HLI.out.1.keep hb6) hx6 (show wr.heap.size ≠ wb by omega) hszr (by decide) (elem_ats HATS.out (j * 2) 2 |> fun h => by rw [HU.out]; exact h) (by have h := elem_oks n es HOKS.out j hjn; rw [HL0.out] at h; exact h) (HLN.out j))
      clear hx6 hb6 hc0 HCE HON HSU HSA HZU HX5 HB5
      go_wp2_with fail
      refine (HONE.out _ _ _ HG6.out).mono ?_
      rintro e w7 ⟨rfl, hg7⟩
      obtain ⟨hs7, hch7⟩ := hg7.done
      have HS7 := Lib.hid hs7
      obtain ⟨c7, hx7, hz7, _, ho7⟩ := hch7.box _ _ HX6.out (by decide)
      have HOr : Hid (Oth (· = wb) wr w7) := Lib.hid ⟨Nat.le_trans HB6.out.size hch7.oth.1, fun i' o' hi hx ho => by
        have hlt := (Array.getElem?_eq_some_iff.1 hi).1
        exact hch7.oth.2 _ _ ((HB6.out.block i' hlt).trans hi) (fun h => by
          rcases h with h | h
          · exact hx h
          · omega) ho⟩
      have HO7 := Lib.hid (HLI.out.2.1.trans HOr.out)
      have HW7 := Lib.hid (own_oth HLI.out.2.2 HOr.out (fun g hg _ e => by omega) (by decide))
      have hs2r : w2.heap.size ≤ wr.heap.size := HLI.out.2.1.1
      have hsr7 : wr.heap.size ≤ w7.heap.size := HOr.out.1
      have HX7 := Lib.hid hx7
      have HZ7 : Hid (c7.size = 2) := Lib.hid (by rw [hz7, List.size_toArray, HUE.out])
      have HN7 : Hid (c7.all (·.oneCell') = true) := Lib.hid (ho7 (by
        rw [HU.out]
        exact all_oneCell_toArray (ces_one _ _ (elem_ats HATS.out (j * 2) 2))))
      have HSC : Hid ((Tryd.prog.info? 153).map (·.size) = some c7.size) := Lib.hid (by rw [HZ7.out]; exact sz_Pair)
      have hba : Below w7.heap.size w7 (w7.alloc (.cells c7 153)) := (Below.refl _ _).alloc (Nat.le_refl _) _
      have HOA := Lib.hid (HO7.out.trans (Oth.below (X := (· = wb)) hba))
      have HSA7 := Lib.hid (HS7.out.keep hba)
      obtain ⟨ys, hys⟩ := own_oth HW7.out (Oth.below (X := fun _ => False) hba) (fun _ _ _ h => h) (by decide)
      have HYS := Lib.hid hys
      have hsa : w2.heap.size ≤ (w7.alloc (.cells c7 153)).heap.size := HOA.out.1
      have hrd : Rd (w7.alloc (.cells c7 153)) (w7.heap.size + 1) 2 (some ⟨w7.heap.size, 0, none⟩) 1 c7.toList := ⟨by rw [Array.length_toList, HZ7.out], fun _ => ⟨_, rfl, Nat.lt_succ_self _, fun x u hu => by
        have e1 : (⟨w7.heap.size, 0, none⟩ : Addr).add x = ⟨w7.heap.size, x, none⟩ := by rw [Addr.add_mid, Nat.zero_add]
        rw [e1, cell_of_row _ _ _ _ _ _ (heap_alloc_new w7 _)]
        simpa using hu⟩⟩
      have HRN := Lib.hid hrd
      have HNL : Hid (∀ u ∈ c7.toList, u.oneCell' = true) := Lib.hid (fun u hu => Array.all_eq_true_iff_forall_mem.1 HN7.out u (by simpa using hu))
      have hbb := HBY.out (j + 1) (by omega)
      clear hs7 hch7 hx7 hz7 ho7 hrd hys hba
      go_wp2_with (first | refine wpList_load_row rfl 153 _ rfl wr.heap.size rfl 153 c7 (0, 0) _ HX7.out Tryd.underlying153 rfl HSC.out ?_ | refine wpList_build_one rfl 45 153 _ rfl c7 rfl ie _ Tryd.underlying45 HIE.out HIZ.out (by rw [HIS.out, HZ7.out]) (by rw [HZ7.out]; decide) (by rw [HZ7.out]; decide) ?_ | (at_builtin; refine wpList_append_rd _ rfl _ _ 45 rfl w2.heap.size 153 ie (.agg zs) 2 _ Tryd.underlying45 HIE.out HIZ.out HIS.out HIB.out HZS.out (by decide) _ j ys rfl HYS.out _ 1 1 _ c7.toList rfl HRN.out HNL.out (by simp only [maxLen]; omega) (by omega) hsa ?_))
      intro v' w8 hown8 hgrow8
      have HL8 : Hid (Lst W0 w2 wb 153 2 (s ++ tokI n ++ Ce.txts (es.take ((j + 1) * 2))) v' (j + 1) w8) := Lib.hid ⟨by
        rw [txts_step, ← List.append_assoc]
        exact HSA7.out.grown hgrow8 ⟨ys, HYS.out⟩ (by decide) hwl2 hsz2, oth_grown hgrow8 (fun g hg => by
          rcases HYS.out.2 with ⟨e, _⟩ | ⟨g', cap', cur', e, hb', _⟩
          · rw [e] at hg; cases hg
          · rw [e] at hg
            injection hg with hg
            rw [← hg]
            exact hb') wb HOA.out (Nat.le_refl _), _, hown8⟩
      clear hown8 hgrow8
      go_wp2
      go_roundw
      case rel => exact ⟨j + 1, by omega, by first | rfl | go_num, HL8⟩
      case measure => simp [intOf]; omega
    · obtain rfl : j = n := by omega
      have hj1 : ¬ (j : Int) < (j : Int) := by omega
      have hfz : wr.frozen? ⟨blk, o + i, none⟩ = false := frozen_of_row wr blk _ _ _ HOW.out
      have hcw : wr.cell? ⟨blk, o + i, none⟩ = some (.slice A j cap) := by
        rw [cell_of_row wr blk _ _ _ _ HOW.out]
        exact HC0.out
      have HFIN := Lib.hid (HEND.out w2 wr (.slice A' j c') HDR.out (by
        have h := HLI.out
        rw [List.take_of_length_le (by have h1 := Ce.ats_length _ _ HATS.out; rw [← h1, HXL.out]; exact Nat.le_refl _)] at h
        exact h))
      go_wp2
      go_end0
      exact ⟨rfl, HFIN.out⟩

theorem zr_Conn : (Tryd.prog.info? 79).map (fun i => match i.zero with | some (.agg zs) => (zs.size, i.size, i.bytes) | _ => (0, 0, 0)) = some (5, 5, Tryd.prog.bytesOf 79) := by kernel_rfl

theorem sz_Conn : (Tryd.prog.info? 79).map (·.size) = some 5 := by kernel_rfl

set_option maxRecDepth 100000 in
set_option maxHeartbeats 16000000 in
theorem list_Conn {W0 w0 w : World} {wb blk o i : Nat} {S : List UInt8} {q : List Ty} (E : Env W0) (p : Nat) (h : Gst W0 wb blk o i S (.l (Tryd.prog.bytesOf 79) [.s, .i, .i, .i, .i] :: q) w0 w) (hp : p = o + i) :
    Calls Tryd.prog 48 #[.iface 80 (.pointer (some ⟨wb, 0, none⟩)), .pointer (some ⟨blk, p, none⟩), .func (.func 49) #[] #[]] w fun e w' => e = .returned (.tuple #[]) ∧ Gst W0 wb blk o (i + 1) S q w0 w' := by
  subst hp
  have HONE : Hid (∀ xb W S', Gst W0 wb xb 0 0 S' [.s, .i, .i, .i, .i] W W → Calls Tryd.prog 49 #[.iface 80 (.pointer (some ⟨wb, 0, none⟩)), .pointer (some ⟨xb, 0, none⟩)] W fun e w' => e = .returned (.tuple #[]) ∧ Gst W0 wb xb 0 5 S' [] W w') := Lib.hid (fun xb W S' hg => conn_w (q := []) E 0 hg rfl)
  have hq : (([.s, .i, .i, .i, .i]) : List Ty).length = 5 := rfl
  obtain ⟨ie, zs, hie, hiz, his, hib, hzs, hzr⟩ := zero_row zr_Conn (by decide)
  have HZ := Lib.hid hzr
  have HIE := Lib.hid hie
  have HIZ := Lib.hid hiz
  have HIS := Lib.hid his
  have HIB := Lib.hid hib
  have HZS := Lib.hid hzs
  clear hie hiz his hib hzs hzr
  obtain ⟨s, cs, vs, h1, h2, h3, h4, h5, h6, h7⟩ := h
  obtain ⟨n, es, r, rfl⟩ : ∃ n es r, cs = .l n es :: r := by
    match cs, h4 with
    | .l n es :: r, _ => exact ⟨n, es, r, rfl⟩
    | .i _ :: _, h4 => unfold Ce.Oks Ce.Ok at h4; exact h4.1.elim
    | .b _ :: _, h4 => unfold Ce.Oks Ce.Ok at h4; exact h4.1.elim
    | .s _ :: _, h4 => unfold Ce.Oks Ce.Ok at h4; exact h4.1.elim
    | [], h4 => unfold Ce.Oks at h4; exact h4.elim
  unfold Ce.Ats at h3
  obtain ⟨v, us, rfl, hv, h3⟩ := h3
  unfold Ce.Oks at h4
  have hok := h4.1
  unfold Ce.Ok at hok
  unfold Ce.At at hv
  obtain ⟨A, cap, k', xs, rfl, hcap, hrd, hats⟩ := hv
  have hn1 := hok.1.1
  have hlen2 := h6
  simp only [Ce.bulks, Ce.bulk] at hlen2
  have HXL : Hid (xs.length = n * 5) := Lib.hid (by
    have e1 := Ce.ats_length _ _ hats
    have e2 := Ce.oks_length _ _ hok.2
    rw [e1, e2, List.length_flatten]
    simp [hq])
  have HRD : Hid (0 < n → ∃ ad, A = some ad ∧ ad.block < W0.heap.size ∧ ∀ j u, xs[j]? = some u → W0.cell? (ad.add j) = some u) := Lib.hid hrd.2
  have HATS := Lib.hid hats
  have HOKS := Lib.hid hok.2
  have HBY : Hid (∀ j, j ≤ n → j * Tryd.prog.bytesOf 79 ≤ 140737488351232) := Lib.hid (fun j hj => Nat.le_trans (Nat.mul_le_mul_right _ hj) hok.1.2)
  have HEND : Hid (∀ wN w' ov, Below w.heap.size w wN → Lst W0 wN wb 79 5 (s ++ tokI n ++ Ce.txts es) ov n w' → Gst W0 wb blk o (i + 1) S q w0 (w'.setCell ⟨blk, o + i, none⟩ ov)) := Lib.hid (fun wN w' ov hN hL => lst_end h2 h3 h4.1 h4.2 h5 h6 h7 hN hL)
  have HLN : Hid (∀ j, (s ++ tokI n ++ Ce.txts (es.take (j * 5))).length + 23 * Ce.bulks ((es.drop (j * 5)).take 5) ≤ 100000000) := Lib.hid (fun j => by
    have e1 := bulks_step es j 5
    have e2 := Ce.txts_len _ _ (oks_take (j * 5) es hok.2)
    have e3 := tokI_len n (by omega) (by omega)
    rw [List.length_append, List.length_append]
    omega)
  have hl0 : s.length ≤ 100000000 := by omega
  have hc := h2.cell 0 rfl
  have hfz := h2.fz (o + i)
  have hbl := h2.lt
  have hne := h2.ne
  have hge := h2.ge
  have hwl := h1.wu.lt
  have hwg : W0.heap.size ≤ wb := by
    have hw := h1.wu
    unfold Wu Lib.IsBuilderF at hw
    rcases hw with hw | hw <;> exact hw.1
  obtain ⟨cells0, t0, hobj, ht0, _⟩ := h2.obj
  have HT0 := Lib.hid ht0
  have HOB : Hid (w.drew.heap[blk]? = some (.cells cells0 t0 (0, 0))) := Lib.hid hobj
  have HC0 : Hid (cells0[o + i]? = some (.slice A n cap)) := Lib.hid (by rw [← cell_of_row w blk _ _ _ _ hobj]; simpa using hc)
  have HS := Lib.hid (h1.keep (Below.drew (Below.refl _ w)))
  have HDR : Hid (Below w.heap.size w w.drew) := Lib.hid (Below.drew (Below.refl _ w))
  have hbl2 : blk < w.drew.heap.size := hbl
  have hwl2 : wb < w.drew.heap.size := hwl
  have hcd : w.drew.cell? ⟨blk, o + i, none⟩ = some (.slice A n cap) := by simpa using hc
  have HL0 := Lib.hid hq
  have hsz2 : W0.heap.size ≤ w.drew.heap.size := by
    have := h1.hb.size
    exact this
  clear hok hats hrd h1 h2 h3 h4 h5 h6 h7 hlen2 hbl hwl hobj ht0 hc hfz hq
  have q1 := na_len
  have q2 := me_len
  have q3 := me_bad
  go_enter Tryd.func48, Tryd.ntmps48
  go_upto_region 0 with fail
  go_still_tail 8, (by kernel_rfl)
  change wpList _ _ _ _ _ w.drew
  generalize w.drew = w2 at *
  go_wp2_with fail
  refine (w_len W0 w2 wb s n E HS.out (by omega) hl0).mono ?_
  rintro e w3 ⟨rfl, hs3, ho3⟩
  have HLI : Hid (Lst W0 w2 wb 79 5 (s ++ tokI n ++ Ce.txts (es.take (0 * 5))) (.slice none 0 0) 0 w3) := Lib.hid ⟨by rw [Nat.zero_mul, List.take_zero, Ce.txts, List.append_nil]; exact hs3, ho3, [], by simp, .inl ⟨rfl, rfl⟩⟩
  clear hs3 ho3 hcd
  go_wp2_with fail
  go_loopw [7, 8] (fun ov iv wr => ∃ j : Nat, j ≤ n ∧ iv = .int .i64 j ∧ Hid (Lst W0 w2 wb 79 5 (s ++ tokI n ++ Ce.txts (es.take (j * 5))) ov j wr)) (fun _ iv _ => n - (intOf iv).toNat)
  case atStart => exact ⟨0, Nat.zero_le _, rfl, HLI⟩
  case round =>
    clear HLI
    obtain ⟨j, hj, rfl, HLI⟩ := hrel
    obtain ⟨A', c', hov⟩ := HLI.out.slice
    subst hov
    have HOW : Hid (wr.heap[blk]? = some (.cells cells0 t0 (0, 0))) := Lib.hid (HLI.out.2.1.2 _ _ HOB.out hne (fun c fz e => HT0.out (by injection e)))
    have hblr : blk < wr.heap.size := Nat.lt_of_lt_of_le hbl2 HLI.out.2.1.1
    have hwlr : wb < wr.heap.size := Nat.lt_of_lt_of_le hwl2 HLI.out.2.1.1
    have hszr : W0.heap.size ≤ wr.heap.size := Nat.le_trans hsz2 HLI.out.2.1.1
    by_cases hjn : j < n
    · have hj1 : (j : Int) < (n : Int) := by omega
      have hj0 : (0 : Int) ≤ (j : Int) := by omega
      have v1 : IntKind.i64.wrap ((j : Int) + 1) = ((j + 1 : Nat) : Int) := by rw [IntKind.wrap_i64]; omega
      obtain ⟨ad, rfl, hadb, hcell⟩ := HRD.out (by omega)
      have HCL := Lib.hid hcell
      have hue : ((xs.drop (j * 5)).take 5).length = 5 := by
        rw [List.length_take, List.length_drop, HXL.out]
        have : (j + 1) * 5 ≤ n * 5 := Nat.mul_le_mul_right _ hjn
        omega
      obtain ⟨ue, hU⟩ : ∃ ue, ue = (xs.drop (j * 5)).take 5 := ⟨_, rfl⟩
      have HU := Lib.hid hU
      have HUE : Hid (ue.length = 5) := Lib.hid (by rw [hU]; exact hue)
      clear hU hue hcell
      go_wp2_with fail
      refine (w_bad wb wr).mono ?_
      rintro e w' ⟨rfl, rfl⟩
      have hx5 := heap_alloc_new wr (.cells zs 79)
      have hb5 : Below wr.heap.size wr (wr.alloc (.cells zs 79)) := (Below.refl _ _).alloc (Nat.le_refl _) _
      go_upto_region 6 with (refine wpList_alloc_row rfl 79 rfl zs HZ.out ?_)
      generalize wr.alloc (.cells zs 79) = w5 at *
      have HX5 := Lib.hid hx5
      have HB5 := Lib.hid hb5
      have hc0 : w5.cell? ⟨blk, o + i, none⟩ = some (.slice (some ad) n cap) := by
        rw [cell_of_row w5 blk _ _ _ _ ((hb5.block blk hblr).trans HOW.out)]
        exact HC0.out
      clear hx5 hb5
      have hcl : ∀ x u, ue[x]? = some u → w5.cell? ((ad.add (j * 5)).add x) = some u := fun x u hx => by
        rw [HU.out, List.getElem?_take] at hx
        split at hx
        · rw [List.getElem?_drop] at hx
          rw [Go.Deep.add_add]
          have e1 := HCL.out _ _ hx
          rw [← e1]
          exact ((HLI.out.1.hb.trans (HB5.out.mono hszr)).cell (p := ad.add (j * 5 + x)) (by rw [add_block]; exact hadb))
        · cases hx
      have hone : ue.toArray.all (·.oneCell') = true := by
        rw [HU.out]
        exact all_oneCell_toArray (ces_one _ _ (elem_ats HATS.out (j * 5) 5))
      have HCE := Lib.hid hcl
      have HON := Lib.hid hone
      have HSU : Hid ((Tryd.prog.info? 79).map (·.size) = some ue.length) := Lib.hid (by rw [HUE.out]; exact sz_Conn)
      have HSA : Hid ((Tryd.prog.info? 79).map (·.size) = some ue.toArray.size) := Lib.hid (by rw [List.size_toArray, HUE.out]; exact sz_Conn)
      have HZU : Hid (zs.size = ue.toArray.size) := Lib.hid (by rw [HZS.out, List.size_toArray, HUE.out])
      clear hcl hone
      go_upto_region 8 with (first | refine wpList_load_at rfl 79 _ rfl (ad.add (j * 5)) rfl ue _ HCE.out Tryd.underlying79 rfl HSU.out ?_ | refine wpList_store_row rfl 79 _ _ rfl wr.heap.size ue.toArray rfl rfl 79 zs HX5.out HSA.out HZU.out HON.out ?_)
      have hx6 : (w5.setRow wr.heap.size ue.toArray).heap[wr.heap.size]? = some (.cells ue.toArray 79 (0, 0)) := setRow_heap _ _ _ _ _ _ HX5.out
      have hb6 : Below wr.heap.size wr (w5.setRow wr.heap.size ue.toArray) := below_setRow HB5.out (Nat.le_refl _) _
      generalize w5.setRow wr.heap.size ue.toArray = w6 at *
      have HX6 := Lib.hid hx6
      have HB6 := Lib.hid hb6
      have HG6 := Lib.hid (elem_gst (HLI.out.1.keep hb6) hx6 (show wr.heap.size ≠ wb by omega) hszr (by decide) (elem_ats HATS.out (j * 5) 5 |> fun h => by rw [HU.out]; exact h) (by have h := elem_oks n es HOKS.out j hjn; rw [HL0.out] at h; exact h) (HLN.out j))
      clear hx6 hb6 hc0 HCE HON HSU HSA HZU HX5 HB5
      go_wp2_with fail
      refine (HONE.out _ _ _ HG6.out).mono ?_
      rintro e w7 ⟨rfl, hg7⟩
      obtain ⟨hs7, hch7⟩ := hg7.done
      have HS7 := Lib.hid hs7
      obtain ⟨c7, hx7, hz7, _, ho7⟩ := hch7.box _ _ HX6.out (by decide)
      have HOr : Hid (Oth (· = wb) wr w7) := Lib.hid ⟨Nat.le_trans HB6.out.size hch7.oth.1, fun i' o' hi hx ho => by
        have hlt := (Array.getElem?_eq_some_iff.1 hi).1
        exact hch7.oth.2 _ _ ((HB6.out.block i' hlt).trans hi) (fun h => by
          rcases h with h | h
          · exact hx h
          · omega) ho⟩
      have HO7 := Lib.hid (HLI.out.2.1.trans HOr.out)
      have HW7 := Lib.hid (own_oth HLI.out.2.2 HOr.out (fun g hg _ e => by omega) (by decide))
      have hs2r : w2.heap.size ≤ wr.heap.size := HLI.out.2.1.1
      have hsr7 : wr.heap.size ≤ w7.heap.size := HOr.out.1
      have HX7 := Lib.hid hx7
      have HZ7 : Hid (c7.size = 5) := Lib.hid (by rw [hz7, List.size_toArray, HUE.out])
      have HN7 : Hid (c7.all (·.oneCell') = true) := Lib.hid (ho7 (by
        rw [HU.out]
        exact all_oneCell_toArray (ces_one _ _ (elem_ats HATS.out (j * 5) 5))))
      have HSC : Hid ((Tryd.prog.info? 79).map (·.size) = some c7.size) := Lib.hid (by rw [HZ7.out]; exact sz_Conn)
      have hba : Below w7.heap.size w7 (w7.alloc (.cells c7 79)) := (Below.refl _ _).alloc (Nat.le_refl _) _
      have HOA := Lib.hid (HO7.out.trans (Oth.below (X := (· = wb)) hba))
      have HSA7 := Lib.hid (HS7.out.keep hba)
      obtain ⟨ys, hys⟩ := own_oth HW7.out (Oth.below (X := fun _ => False) hba) (fun _ _ _ h => h) (by decide)
      have HYS := Lib.hid hys
      have hsa : w2.heap.size ≤ (w7.alloc (.cells c7 79)).heap.size := HOA.out.1
      have hrd : Rd (w7.alloc (.cells c7 79)) (w7.heap.size + 1) 5 (some ⟨w7.heap.size, 0, none⟩) 1 c7.toList := ⟨by rw [Array.length_toList, HZ7.out], fun _ => ⟨_, rfl, Nat.lt_succ_self _, fun x u hu => by
        have e1 : (⟨w7.heap.size, 0, none⟩ : Addr).add x = ⟨w7.heap.size, x, none⟩ := by rw [Addr.add_mid, Nat.zero_add]
        rw [e1, cell_of_row _ _ _ _ _ _ (heap_alloc_new w7 _)]
        simpa using hu⟩⟩
      have HRN := Lib.hid hrd
      have HNL : Hid (∀ u ∈ c7.toList, u.oneCell' = true) := Lib.hid (fun u hu => Array.all_eq_true_iff_forall_mem.1 HN7.out u (by simpa using hu))
      have hbb := HBY.out (j + 1) (by omega)
      clear hs7 hch7 hx7 hz7 ho7 hrd hys hba
      go_wp2_with (first | refine wpList_load_row rfl 79 _ rfl wr.heap.size rfl 79 c7 (0, 0) _ HX7.out Tryd.underlying79 rfl HSC.out ?_ | refine wpList_build_one rfl 31 79 _ rfl c7 rfl ie _ Tryd.underlying31 HIE.out HIZ.out (by rw [HIS.out, HZ7.out]) (by rw [HZ7.out]; decide) (by rw [HZ7.out]; decide) ?_ | (at_builtin; refine wpList_append_rd _ rfl _ _ 31 rfl w2.heap.size 79 ie (.agg zs) 5 _ Tryd.underlying31 HIE.out HIZ.out HIS.out HIB.out HZS.out (by decide) _ j ys rfl HYS.out _ 1 1 _ c7.toList rfl HRN.out HNL.out (by simp only [maxLen]; omega) (by omega) hsa ?_))
      intro v' w8 hown8 hgrow8
      have HL8 : Hid (Lst W0 w2 wb 79 5 (s ++ tokI n ++ Ce.txts (es.take ((j + 1) * 5))) v' (j + 1) w8) := Lib.hid ⟨by
        rw [txts_step, ← List.append_assoc]
        exact HSA7.out.grown hgrow8 ⟨ys, HYS.out⟩ (by decide) hwl2 hsz2, oth_grown hgrow8 (fun g hg => by
          rcases HYS.out.2 with ⟨e, _⟩ | ⟨g', cap', cur', e, hb', _⟩
          · rw [e] at hg; cases hg
          · rw [e] at hg
            injection hg with hg
            rw [← hg]
            exact hb') wb HOA.out (Nat.le_refl _), _, hown8⟩
      clear hown8 hgrow8
      go_wp2
      go_roundw
      case rel => exact ⟨j + 1, by omega, by first | rfl | go_num, HL8⟩
      case measure => simp [intOf]; omega
    · obtain rfl : j = n := by omega
      have hj1 : ¬ (j : Int) < (j : Int) := by omega
      have hfz : wr.frozen? ⟨blk, o + i, none⟩ = false := frozen_of_row wr blk _ _ _ HOW.out
      have hcw : wr.cell? ⟨blk, o + i, none⟩ = some (.slice A j cap) := by
        rw [cell_of_row wr blk _ _ _ _ HOW.out]
        exact HC0.out
      have HFIN := Lib.hid (HEND.out w2 wr (.slice A' j c') HDR.out (by
        have h := HLI.out
        rw [List.take_of_length_le (by have h1 := Ce.ats_length _ _ HATS.out; rw [← h1, HXL.out]; exact Nat.le_refl _)] at h
        exact h))
      go_wp2
      go_end0
      exact ⟨rfl, HFIN.out⟩

theorem zr_Row : (Tryd.prog.info? 77).map (fun i => match i.zero with | some (.agg zs) => (zs.size, i.size, i.bytes) | _ => (0, 0, 0)) = some (5, 5, Tryd.prog.bytesOf 77) := by kernel_rfl

theorem sz_Row : (Tryd.prog.info? 77).map (·.size) = some 5 := by kernel_rfl

set_option maxRecDepth 100000 in
set_option maxHeartbeats 16000000 in
theorem list_Row {W0 w0 w : World} {wb blk o i : Nat} {S : List UInt8} {q : List Ty} (E : Env W0) (p : Nat) (h : Gst W0 wb blk o i S (.l (Tryd.prog.bytesOf 77) [.i, .s, .i, .i, .s] :: q) w0 w) (hp : p = o + i) :
    Calls Tryd.prog 50 #[.iface 80 (.pointer (some ⟨wb, 0, none⟩)), .pointer (some ⟨blk, p, none⟩), .func (.func 51) #[] #[]] w fun e w' => e = .returned (.tuple #[]) ∧ Gst W0 wb blk o (i + 1) S q w0 w' := by
  subst hp
  have HONE : Hid (∀ xb W S', Gst W0 wb xb 0 0 S' [.i, .s, .i, .i, .s] W W → Calls Tryd.prog 51 #[.iface 80 (.pointer (some ⟨wb, 0, none⟩)), .pointer (some ⟨xb, 0, none⟩)] W fun e w' => e = .returned (.tuple #[]) ∧ Gst W0 wb xb 0 5 S' [] W w') := Lib.hid (fun xb W S' hg => row_w (q := []) E 0 hg rfl)
  have hq : (([.i, .s, .i, .i, .s]) : List Ty).length = 5 := rfl
  obtain ⟨ie, zs, hie, hiz, his, hib, hzs, hzr⟩ := zero_row zr_Row (by decide)
  have HZ := Lib.hid hzr
  have HIE := Lib.hid hie
  have HIZ := Lib.hid hiz
  have HIS := Lib.hid his
  have HIB := Lib.hid hib
  have HZS := Lib.hid hzs
  clear hie hiz his hib hzs hzr
  obtain ⟨s, cs, vs, h1, h2, h3, h4, h5, h6, h7⟩ := h
  obtain ⟨n, es, r, rfl⟩ : ∃ n es r, cs = .l n es :: r := by
    match cs, h4 with
    | .l n es :: r, _ => exact ⟨n, es, r, rfl⟩
    | .i _ :: _, h4 => unfold Ce.Oks Ce.Ok at h4; exact h4.1.elim
    | .b _ :: _, h4 => unfold Ce.Oks Ce.Ok at h4; exact h4.1.elim
    | .s _ :: _, h4 => unfold Ce.Oks Ce.Ok at h4; exact h4.1.elim
    | [], h4 => unfold Ce.Oks at h4; exact h4.elim
  unfold Ce.Ats at h3
  obtain ⟨v, us, rfl, hv, h3⟩ := h3
  unfold Ce.Oks at h4
  have hok := h4.1
  unfold Ce.Ok at hok
  unfold Ce.At at hv
  obtain ⟨A, cap, k', xs, rfl, hcap, hrd, hats⟩ := hv
  have hn1 := hok.1.1
  have hlen2 := h6
  simp only [Ce.bulks, Ce.bulk] at hlen2
  have HXL : Hid (xs.length = n * 5) := Lib.hid (by
    have e1 := Ce.ats_length _ _ hats
    have e2 := Ce.oks_length _ _ hok.2
    rw [e1, e2, List.length_flatten]
    simp [hq])
  have HRD : Hid (0 < n → ∃ ad, A = some ad ∧ ad.block < W0.heap.size ∧ ∀ j u, xs[j]? = some u → W0.cell? (ad.add j) = some u) := Lib.hid hrd.2
  have HATS := Lib.hid hats
  have HOKS := Lib.hid hok.2
  have HBY : Hid (∀ j, j ≤ n → j * Tryd.prog.bytesOf 77 ≤ 140737488351232) := Lib.hid (fun j hj => Nat.le_trans (Nat.mul_le_mul_right _ hj) hok.1.2)
  have HEND : Hid (∀ wN w' ov, Below w.heap.size w wN → Lst W0 wN wb 77 5 (s ++ tokI n ++ Ce.txts es) ov n w' → Gst W0 wb blk o (i + 1) S q w0 (w'.setCell ⟨blk, o + i, none⟩ ov)) := Lib.hid (fun wN w' ov hN hL => lst_end h2 h3 h4.1 h4.2 h5 h6 h7 hN hL)
  have HLN : Hid (∀ j, (s ++ tokI n ++ Ce.txts (es.take (j * 5))).length + 23 * Ce.bulks ((es.drop (j * 5)).take 5) ≤ 100000000) := Lib.hid (fun j => by
    have e1 := bulks_step es j 5
    have e2 := Ce.txts_len _ _ (oks_take (j * 5) es hok.2)
    have e3 := tokI_len n (by omega) (by omega)
    rw [List.length_append, List.length_append]
    omega)
  have hl0 : s.length ≤ 100000000 := by omega
  have hc := h2.cell 0 rfl
  have hfz := h2.fz (o + i)
  have hbl := h2.lt
  have hne := h2.ne
  have hge := h2.ge
  have hwl := h1.wu.lt
  have hwg : W0.heap.size ≤ wb := by
    have hw := h1.wu
    unfold Wu Lib.IsBuilderF at hw
    rcases hw with hw | hw <;> exact hw.1
  obtain ⟨cells0, t0, hobj, ht0, _⟩ := h2.obj
  have HT0 := Lib.hid ht0
  have HOB : Hid (w.drew.heap[blk]? = some (.cells cells0 t0 (0, 0))) := Lib.hid hobj
  have HC0 : Hid (cells0[o + i]? = some (.slice A n cap)) := Lib.hid (by rw [← cell_of_row w blk _ _ _ _ hobj]; simpa using hc)
  have HS := Lib.hid (h1.keep (Below.drew (Below.refl _ w)))
  have HDR : Hid (Below w.heap.size w w.drew) := Lib.hid (Below.drew (Below.refl _ w))
  have hbl2 : blk < w.drew.heap.size := hbl
  have hwl2 : wb < w.drew.heap.size := hwl
  have hcd : w.drew.cell? ⟨blk, o + i, none⟩ = some (.slice A n cap) := by simpa using hc
  have HL0 := Lib.hid hq
  have hsz2 : W0.heap.size ≤ w.drew.heap.size := by
    have := h1.hb.size
    exact this
  clear hok hats hrd h1 h2 h3 h4 h5 h6 h7 hlen2 hbl hwl hobj ht0 hc hfz hq
  have q1 := na_len
  have q2 := me_len
  have q3 := me_bad
  go_enter Tryd.func50, Tryd.ntmps50
  go_upto_region 0 with fail
  go_still_tail 8, (by kernel_rfl)
  change wpList _ _ _ _ _ w.drew
  generalize w.drew = w2 at *
  go_wp2_with fail
  refine (w_len W0 w2 wb s n E HS.out (by omega) hl0).mono ?_
  rintro e w3 ⟨rfl, hs3, ho3⟩
  have HLI : Hid (Lst W0 w2 wb 77 5 (s ++ tokI n ++ Ce.txts (es.take (0 * 5))) (.slice none 0 0) 0 w3) := Lib.hid ⟨by rw [Nat.zero_mul, List.take_zero, Ce.txts, List.append_nil]; exact hs3, ho3, [], by simp, .inl ⟨rfl, rfl⟩⟩
  clear hs3 ho3 hcd
  go_wp2_with fail
  go_loopw [7, 8] (fun ov iv wr => ∃ j : Nat, j ≤ n ∧ iv = .int .i64 j ∧ Hid (Lst W0 w2 wb 77 5 (s ++ tokI n ++ Ce.txts (es.take (j * 5))) ov j wr)) (fun _ iv _ => n - (intOf iv).toNat)
  case atStart => exact ⟨0, Nat.zero_le _, rfl, HLI⟩
  case round =>
    clear HLI
    obtain ⟨j, hj, rfl, HLI⟩ := hrel
    obtain ⟨A', c', hov⟩ := HLI.out.slice
    subst hov
    have HOW : Hid (wr.heap[blk]? = some (.cells cells0 t0 (0, 0))) := Lib.hid (HLI.out.2.1.2 _ _ HOB.out hne (fun c fz e => HT0.out (by injection e)))
    have hblr : blk < wr.heap.size := Nat.lt_of_lt_of_le hbl2 HLI.out.2.1.1
    have hwlr : wb < wr.heap.size := Nat.lt_of_lt_of_le hwl2 HLI.out.2.1.1
    have hszr : W0.heap.size ≤ wr.heap.size := Nat.le_trans hsz2 HLI.out.2.1.1
    by_cases hjn : j < n
    · have hj1 : (j : Int) < (n : Int) := by omega
      have hj0 : (0 : Int) ≤ (j : Int) := by omega
      have v1 : IntKind.i64.wrap ((j : Int) + 1) = ((j + 1 : Nat) : Int) := by rw [IntKind.wrap_i64]; omega
      obtain ⟨ad, rfl, hadb, hcell⟩ := HRD.out (by omega)
      have HCL := Lib.hid hcell
      have hue : ((xs.drop (j * 5)).take 5).length = 5 := by
        rw [List.length_take, List.length_drop, HXL.out]
        have : (j + 1) * 5 ≤ n * 5 := Nat.mul_le_mul_right _ hjn
        omega
      obtain ⟨ue, hU⟩ : ∃ ue, ue = (xs.drop (j * 5)).take 5 := ⟨_, rfl⟩
      have HU := Lib.hid hU
      have HUE : Hid (ue.length = 5) := Lib.hid (by rw [hU]; exact hue)
      clear hU hue hcell
      go_wp2_with fail
      refine (w_bad wb wr).mono ?_
      rintro e w' ⟨rfl, rfl⟩
      have hx5 := heap_alloc_new wr (.cells zs 77)
      have hb5 : Below wr.heap.size wr (wr.alloc (.cells zs 77)) := (Below.refl _ _).alloc (Nat.le_refl _) _
      go_upto_region 6 with (refine wpList_alloc_row rfl 77 rfl zs HZ.out ?_)
      generalize wr.alloc (.cells zs 77) = w5 at *
      have HX5 := Lib.hid hx5
      have HB5 := Lib.hid hb5
      have hc0 : w5.cell? ⟨blk, o + i, none⟩ = some (.slice (some ad) n cap) := by
        rw [cell_of_row w5 blk _ _ _ _ ((hb5.block blk hblr).trans HOW.out)]
        exact HC0.out
      clear hx5 hb5
      have hcl : ∀ x u, ue[x]? = some u → w5.cell? ((ad.add (j * 5)).add x) = some u := fun x u hx => by
        rw [HU.out, List.getElem?_take] at hx
        split at hx
        · rw [List.getElem?_drop] at hx
          rw [Go.Deep.add_add]
          have e1 := HCL.out _ _ hx
          rw [← e1]
          exact ((HLI.out.1.hb.trans (HB5.out.mono hszr)).cell (p := ad.add (j * 5 + x)) (by rw [add_block]; exact hadb))
        · cases hx
      have hone : ue.toArray.all (·.oneCell') = true := by
        rw [HU.out]
        exact all_oneCell_toArray (ces_one _ _ (elem_ats HATS.out (j * 5) 5))
      have HCE := Lib.hid hcl
      have HON := Lib.hid hone
      have HSU : Hid ((Tryd.prog.info? 77).map (·.size) = some ue.length) := Lib.hid (by rw [HUE.out]; exact sz_Row)
      have HSA : Hid ((Tryd.prog.info? 77).map (·.size) = some ue.toArray.size) := Lib.hid (by rw [List.size_toArray, HUE.out]; exact sz_Row)
      have HZU : Hid (zs.size = ue.toArray.size) := Lib.hid (by rw [HZS.out, List.size_toArray, HUE.out])
      clear hcl hone
      go_upto_region 8 with (first | refine wpList_load_at rfl 77 _ rfl (ad.add (j * 5)) rfl ue _ HCE.out Tryd.underlying77 rfl HSU.out ?_ | refine wpList_store_row rfl 77 _ _ rfl wr.heap.size ue.toArray rfl rfl 77 zs HX5.out HSA.out HZU.out HON.out ?_)
      have hx6 : (w5.setRow wr.heap.size ue.toArray).heap[wr.heap.size]? = some (.cells ue.toArray 77 (0, 0)) := setRow_heap _ _ _ _ _ _ HX5.out
      have hb6 : Below wr.heap.size wr (w5.setRow wr.heap.size ue.toArray) := below_setRow HB5.out (Nat.le_refl _) _
      generalize w5.setRow wr.heap.size ue.toArray = w6 at *
      have HX6 := Lib.hid hx6
      have HB6 := Lib.hid hb6
      have HG6 := Lib.hid (elem_gst (HLI.out.1.keep hb6) hx6 (show wr.heap.size ≠ wb by omega) hszr (by decide) (elem_ats HATS.out (j * 5) 5 |> fun h => by rw [HU.out]; exact h) (by have h := elem_oks n es HOKS.out j hjn; rw [HL0.out] at h; exact h) (HLN.out j))
      clear hx6 hb6 hc0 HCE HON HSU HSA HZU HX5 HB5
      go_wp2_with fail
      refine (HONE.out _ _ _ HG6.out).mono ?_
      rintro e w7 ⟨rfl, hg7⟩
      obtain ⟨hs7, hch7⟩ := hg7.done
      have HS7 := Lib.hid hs7
      obtain ⟨c7, hx7, hz7, _, ho7⟩ := hch7.box _ _ HX6.out (by decide)
      have HOr : Hid (Oth (· = wb) wr w7) := Lib.hid ⟨Nat.le_trans HB6.out.size hch7.oth.1, fun i' o' hi hx ho => by
        have hlt := (Array.getElem?_eq_some_iff.1 hi).1
        exact hch7.oth.2 _ _ ((HB6.out.block i' hlt).trans hi) (fun h => by
          rcases h with h | h
          · exact hx h
          · omega) ho⟩
      have HO7 := Lib.hid (HLI.out.2.1.trans HOr.out)
      have HW7 := Lib.hid (own_oth HLI.out.2.2 HOr.out (fun g hg _ e => by omega) (by decide))
      have hs2r : w2.heap.size ≤ wr.heap.size := HLI.out.2.1.1
      have hsr7 : wr.heap.size ≤ w7.heap.size := HOr.out.1
      have HX7 := Lib.hid hx7
      have HZ7 : Hid (c7.size = 5) := Lib.hid (by rw [hz7, List.size_toArray, HUE.out])
      have HN7 : Hid (c7.all (·.oneCell') = true) := Lib.hid (ho7 (by
        rw [HU.out]
        exact all_oneCell_toArray (ces_one _ _ (elem_ats HATS.out (j * 5) 5))))
      have HSC : Hid ((Tryd.prog.info? 77).map (·.size) = some c7.size) := Lib.hid (by rw [HZ7.out]; exact sz_Row)
      have hba : Below w7.heap.size w7 (w7.alloc (.cells c7 77)) := (Below.refl _ _).alloc (Nat.le_refl _) _
      have HOA := Lib.hid (HO7.out.trans (Oth.below (X := (· = wb)) hba))
      have HSA7 := Lib.hid (HS7.out.keep hba)
      obtain ⟨ys, hys⟩ := own_oth HW7.out (Oth.below (X := fun _ => False) hba) (fun _ _ _ h => h) (by decide)
      have HYS := Lib.hid hys
      have hsa : w2.heap.size ≤ (w7.alloc (.cells c7 77)).heap.size := HOA.out.1
      have hrd : Rd (w7.alloc (.cells c7 77)) (w7.heap.size + 1) 5 (some ⟨w7.heap.size, 0, none⟩) 1 c7.toList := ⟨by rw [Array.length_toList, HZ7.out], fun _ => ⟨_, rfl, Nat.lt_succ_self _, fun x u hu => by
        have e1 : (⟨w7.heap.size, 0, none⟩ : Addr).add x = ⟨w7.heap.size, x, none⟩ := by rw [Addr.add_mid, Nat.zero_add]
        rw [e1, cell_of_row _ _ _ _ _ _ (heap_alloc_new w7 _)]
        simpa using hu⟩⟩
      have HRN := Lib.hid hrd
      have HNL : Hid (∀ u ∈ c7.toList, u.oneCell' = true) := Lib.hid (fun u hu => Array.all_eq_true_iff_forall_mem.1 HN7.out u (by simpa using hu))
      have hbb := HBY.out (j + 1) (by omega)
      clear hs7 hch7 hx7 hz7 ho7 hrd hys hba
      go_wp2_with (first | refine wpList_load_row rfl 77 _ rfl wr.heap.size rfl 77 c7 (0, 0) _ HX7.out Tryd.underlying77 rfl HSC.out ?_ | refine wpList_build_one rfl 32 77 _ rfl c7 rfl ie _ Tryd.underlying32 HIE.out HIZ.out (by rw [HIS.out, HZ7.out]) (by rw [HZ7.out]; decide) (by rw [HZ7.out]; decide) ?_ | (at_builtin; refine wpList_append_rd _ rfl _ _ 32 rfl w2.heap.size 77 ie (.agg zs) 5 _ Tryd.underlying32 HIE.out HIZ.out HIS.out HIB.out HZS.out (by decide) _ j ys rfl HYS.out _ 1 1 _ c7.toList rfl HRN.out HNL.out (by simp only [maxLen]; omega) (by omega) hsa ?_))
      intro v' w8 hown8 hgrow8
      have HL8 : Hid (Lst W0 w2 wb 77 5 (s ++ tokI n ++ Ce.txts (es.take ((j + 1) * 5))) v' (j + 1) w8) := Lib.hid ⟨by
        rw [txts_step, ← List.append_assoc]
        exact HSA7.out.grown hgrow8 ⟨ys, HYS.out⟩ (by decide) hwl2 hsz2, oth_grown hgrow8 (fun g hg => by
          rcases HYS.out.2 with ⟨e, _⟩ | ⟨g', cap', cur', e, hb', _⟩
          · rw [e] at hg; cases hg
          · rw [e] at hg
            injection hg with hg
            rw [← hg]
            exact hb') wb HOA.out (Nat.le_refl _), _, hown8⟩
      clear hown8 hgrow8
      go_wp2
      go_roundw
      case rel => exact ⟨j + 1, by omega, by first | rfl | go_num, HL8⟩
      case measure => simp [intOf]; omega
    · obtain rfl : j = n := by omega
      have hj1 : ¬ (j : Int) < (j : Int) := by omega
      have hfz : wr.frozen? ⟨blk, o + i, none⟩ = false := frozen_of_row wr blk _ _ _ HOW.out
      have hcw : wr.cell? ⟨blk, o + i, none⟩ = some (.slice A j cap) := by
        rw [cell_of_row wr blk _ _ _ _ HOW.out]
        exact HC0.out
      have HFIN := Lib.hid (HEND.out w2 wr (.slice A' j c') HDR.out (by
        have h := HLI.out
        rw [List.take_of_length_le (by have h1 := Ce.ats_length _ _ HATS.out; rw [← h1, HXL.out]; exact Nat.le_refl _)] at h
        exact h))
      go_wp2
      go_end0
      exact ⟨rfl, HFIN.out⟩

theorem zr_Ask : (Tryd.prog.info? 73).map (fun i => match i.zero with | some (.agg zs) => (zs.size, i.size, i.bytes) | _ => (0, 0, 0)) = some (3, 3, Tryd.prog.bytesOf 73) := by kernel_rfl

theorem sz_Ask : (Tryd.prog.info? 73).map (·.size) = some 3 := by kernel_rfl

set_option maxRecDepth 100000 in
set_option maxHeartbeats 16000000 in
theorem list_Ask {W0 w0 w : World} {wb blk o i : Nat} {S : List UInt8} {q : List Ty} (E : Env W0) (p : Nat) (h : Gst W0 wb blk o i S (.l (Tryd.prog.bytesOf 73) [.i, .s, .i] :: q) w0 w) (hp : p = o + i) :
    Calls Tryd.prog 46 #[.iface 80 (.pointer (some ⟨wb, 0, none⟩)), .pointer (some ⟨blk, p, none⟩), .func (.func 47) #[] #[]] w fun e w' => e = .returned (.tuple #[]) ∧ Gst W0 wb blk o (i + 1) S q w0 w' := by
  subst hp
  have HONE : Hid (∀ xb W S', Gst W0 wb xb 0 0 S' [.i, .s, .i] W W → Calls Tryd.prog 47 #[.iface 80 (.pointer (some ⟨wb, 0, none⟩)), .pointer (some ⟨xb, 0, none⟩)] W fun e w' => e = .returned (.tuple #[]) ∧ Gst W0 wb xb 0 3 S' [] W w') := Lib.hid (fun xb W S' hg => ask_w (q := []) E 0 hg rfl)
  have hq : (([.i, .s, .i]) : List Ty).length = 3 := rfl
  obtain ⟨ie, zs, hie, hiz, his, hib, hzs, hzr⟩ := zero_row zr_Ask (by decide)
  have HZ := Lib.hid hzr
  have HIE := Lib.hid hie
  have HIZ := Lib.hid hiz
  have HIS := Lib.hid his
  have HIB := Lib.hid hib
  have HZS := Lib.hid hzs
  clear hie hiz his hib hzs hzr
  obtain ⟨s, cs, vs, h1, h2, h3, h4, h5, h6, h7⟩ := h
  obtain ⟨n, es, r, rfl⟩ : ∃ n es r, cs = .l n es :: r := by
    match cs, h4 with
    | .l n es :: r, _ => exact ⟨n, es, r, rfl⟩
    | .i _ :: _, h4 => unfold Ce.Oks Ce.Ok at h4; exact h4.1.elim
    | .b _ :: _, h4 => unfold Ce.Oks Ce.Ok at h4; exact h4.1.elim
    | .s _ :: _, h4 => unfold Ce.Oks Ce.Ok at h4; exact h4.1.elim
    | [], h4 => unfold Ce.Oks at h4; exact h4.elim
  unfold Ce.Ats at h3
  obtain ⟨v, us, rfl, hv, h3⟩ := h3
  unfold Ce.Oks at h4
  have hok := h4.1
  unfold Ce.Ok at hok
  unfold Ce.At at hv
  obtain ⟨A, cap, k', xs, rfl, hcap, hrd, hats⟩ := hv
  have hn1 := hok.1.1
  have hlen2 := h6
  simp only [Ce.bulks, Ce.bulk] at hlen2
  have HXL : Hid (xs.length = n * 3) := Lib.hid (by
    have e1 := Ce.ats_length _ _ hats
    have e2 := Ce.oks_length _ _ hok.2
    rw [e1, e2, List.length_flatten]
    simp [hq])
  have HRD : Hid (0 < n → ∃ ad, A = some ad ∧ ad.block < W0.heap.size ∧ ∀ j u, xs[j]? = some u → W0.cell? (ad.add j) = some u) := Lib.hid hrd.2
  have HATS := Lib.hid hats
  have HOKS := Lib.hid hok.2
  have HBY : Hid (∀ j, j ≤ n → j * Tryd.prog.bytesOf 73 ≤ 140737488351232) := Lib.hid (fun j hj => Nat.le_trans (Nat.mul_le_mul_right _ hj) hok.1.2)
  have HEND : Hid (∀ wN w' ov, Below w.heap.size w wN → Lst W0 wN wb 73 3 (s ++ tokI n ++ Ce.txts es) ov n w' → Gst W0 wb blk o (i + 1) S q w0 (w'.setCell ⟨blk, o + i, none⟩ ov)) := Lib.hid (fun wN w' ov hN hL => lst_end h2 h3 h4.1 h4.2 h5 h6 h7 hN hL)
  have HLN : Hid (∀ j, (s ++ tokI n ++ Ce.txts (es.take (j * 3))).length + 23 * Ce.bulks ((es.drop (j * 3)).take 3) ≤ 100000000) := Lib.hid (fun j => by
    have e1 := bulks_step es j 3
    have e2 := Ce.txts_len _ _ (oks_take (j * 3) es hok.2)
    have e3 := tokI_len n (by omega) (by omega)
    rw [List.length_append, List.length_append]
    omega)
  have hl0 : s.length ≤ 100000000 := by omega
  have hc := h2.cell 0 rfl
  have hfz := h2.fz (o + i)
  have hbl := h2.lt
  have hne := h2.ne
  have hge := h2.ge
  have hwl := h1.wu.lt
  have hwg : W0.heap.size ≤ wb := by
    have hw := h1.wu
    unfold Wu Lib.IsBuilderF at hw
    rcases hw with hw | hw <;> exact hw.1
  obtain ⟨cells0, t0, hobj, ht0, _⟩ := h2.obj
  have HT0 := Lib.hid ht0
  have HOB : Hid (w.drew.heap[blk]? = some (.cells cells0 t0 (0, 0))) := Lib.hid hobj
  have HC0 : Hid (cells0[o + i]? = some (.slice A n cap)) := Lib.hid (by rw [← cell_of_row w blk _ _ _ _ hobj]; simpa using hc)
  have HS := Lib.hid (h1.keep (Below.drew (Below.refl _ w)))
  have HDR : Hid (Below w.heap.size w w.drew) := Lib.hid (Below.drew (Below.refl _ w))
  have hbl2 : blk < w.drew.heap.size := hbl
  have hwl2 : wb < w.drew.heap.size := hwl
  have hcd : w.drew.cell? ⟨blk, o + i, none⟩ = some (.slice A n cap) := by simpa using hc
  have HL0 := Lib.hid hq
  have hsz2 : W0.heap.size ≤ w.drew.heap.size := by
    have := h1.hb.size
    exact this
  clear hok hats hrd h1 h2 h3 h4 h5 h6 h7 hlen2 hbl hwl hobj ht0 hc hfz hq
  have q1 := na_len
  have q2 := me_len
  have q3 := me_bad
  go_enter Tryd.func46, Tryd.ntmps46
  go_upto_region 0 with fail
  go_still_tail 8, (by kernel_rfl)
  change wpList _ _ _ _ _ w.drew
  generalize w.drew = w2 at *
  go_wp2_with fail
  refine (w_len W0 w2 wb s n E HS.out (by omega) hl0).mono ?_
  rintro e w3 ⟨rfl, hs3, ho3⟩
  have HLI : Hid (Lst W0 w2 wb 73 3 (s ++ tokI n ++ Ce.txts (es.take (0 * 3))) (.slice none 0 0) 0 w3) := Lib.hid ⟨by rw [Nat.zero_mul, List.take_zero, Ce.txts, List.append_nil]; exact hs3, ho3, [], by simp, .inl ⟨rfl, rfl⟩⟩
  clear hs3 ho3 hcd
  go_wp2_with fail
  go_loopw [7, 8] (fun ov iv wr => ∃ j : Nat, j ≤ n ∧ iv = .int .i64 j ∧ Hid (Lst W0 w2 wb 73 3 (s ++ tokI n ++ Ce.txts (es.take (j * 3))) ov j wr)) (fun _ iv _ => n - (intOf iv).toNat)
  case atStart => exact ⟨0, Nat.zero_le _, rfl, HLI⟩
  case round =>
    clear HLI
    obtain ⟨j, hj, rfl, HLI⟩ := hrel
    obtain ⟨A', c', hov⟩ := HLI.out.slice
    subst hov
    have HOW : Hid (wr.heap[blk]? = some (.cells cells0 t0 (0, 0))) := Lib.hid (HLI.out.2.1.2 _ _ HOB.out hne (fun c fz e => HT0.out (by injection e)))
    have hblr : blk < wr.heap.size := Nat.lt_of_lt_of_le hbl2 HLI.out.2.1.1
    have hwlr : wb < wr.heap.size := Nat.lt_of_lt_of_le hwl2 HLI.out.2.1.1
    have hszr : W0.heap.size ≤ wr.heap.size := Nat.le_trans hsz2 HLI.out.2.1.1
    by_cases hjn : j < n
    · have hj1 : (j : Int) < (n : Int) := by omega
      have hj0 : (0 : Int) ≤ (j : Int) := by omega
      have v1 : IntKind.i64.wrap ((j : Int) + 1) = ((j + 1 : Nat) : Int) := by rw [IntKind.wrap_i64]; omega
      obtain ⟨ad, rfl, hadb, hcell⟩ := HRD.out (by omega)
      have HCL := Lib.hid hcell
      have hue : ((xs.drop (j * 3)).take 3).length = 3 := by
        rw [List.length_take, List.length_drop, HXL.out]
        have : (j + 1) * 3 ≤ n * 3 := Nat.mul_le_mul_right _ hjn
        omega
      obtain ⟨ue, hU⟩ : ∃ ue, ue = (xs.drop (j * 3)).take 3 := ⟨_, rfl⟩
      have HU := Lib.hid hU
      have HUE : Hid (ue.length = 3) := Lib.hid (by rw [hU]; exact hue)
      clear hU hue hcell
      go_wp2_with fail
      refine (w_bad wb wr).mono ?_
      rintro e w' ⟨rfl, rfl⟩
      have hx5 := heap_alloc_new wr (.cells zs 73)
      have hb5 : Below wr.heap.size wr (wr.alloc (.cells zs 73)) := (Below.refl _ _).alloc (Nat.le_refl _) _
      go_upto_region 6 with (refine wpList_alloc_row rfl 73 rfl zs HZ.out ?_)
      generalize wr.alloc (.cells zs 73) = w5 at *
      have HX5 := Lib.hid hx5
      have HB5 := Lib.hid hb5
      have hc0 : w5.cell? ⟨blk, o + i, none⟩ = some (.slice (some ad) n cap) := by
        rw [cell_of_row w5 blk _ _ _ _ ((hb5.block blk hblr).trans HOW.out)]
        exact HC0.out
      clear hx5 hb5
      have hcl : ∀ x u, ue[x]? = some u → w5.cell? ((ad.add (j * 3)).add x) = some u := fun x u hx => by
        rw [HU.out, List.getElem?_take] at hx
        split at hx
        · rw [List.getElem?_drop] at hx
          rw [Go.Deep.add_add]
          have e1 := HCL.out _ _ hx
          rw [← e1]
          exact ((HLI.out.1.hb.trans (HB5.out.mono hszr)).cell (p := ad.add (j * 3 + x)) (by rw [add_block]; exact hadb))
        · cases hx
      have hone : ue.toArray.all (·.oneCell') = true := by
        rw [HU.out]
        exact all_oneCell_toArray (ces_one _ _ (elem_ats HATS.out (j * 3) 3))
      have HCE := Lib.hid hcl
      have HON := Lib.hid hone
      have HSU : Hid ((Tryd.prog.info? 73).map (·.size) = some ue.length) := Lib.hid (by rw [HUE.out]; exact sz_Ask)
      have HSA : Hid ((Tryd.prog.info? 73).map (·.size) = some ue.toArray.size) := Lib.hid (by rw [List.size_toArray, HUE.out]; exact sz_Ask)
      have HZU : Hid (zs.size = ue.toArray.size) := Lib.hid (by rw [HZS.out, List.size_toArray, HUE.out])
      clear hcl hone
      go_upto_region 8 with (first | refine wpList_load_at rfl 73 _ rfl (ad.add (j * 3)) rfl ue _ HCE.out Tryd.underlying73 rfl HSU.out ?_ | refine wpList_store_row rfl 73 _ _ rfl wr.heap.size ue.toArray rfl rfl 73 zs HX5.out HSA.out HZU.out HON.out ?_)
      have hx6 : (w5.setRow wr.heap.size ue.toArray).heap[wr.heap.size]? = some (.cells ue.toArray 73 (0, 0)) := setRow_heap _ _ _ _ _ _ HX5.out
      have hb6 : Below wr.heap.size wr (w5.setRow wr.heap.size ue.toArray) := below_setRow HB5.out (Nat.le_refl _) _
      generalize w5.setRow wr.heap.size ue.toArray = w6 at *
      have HX6 := Lib.hid hx6
      have HB6 := Lib.hid hb6
      have HG6 := Lib.hid (elem_gst (HLI.out.1.keep hb6) hx6 (show wr.heap.size ≠ wb by omega) hszr (by decide) (elem_ats HATS.out (j * 3) 3 |> fun h => by rw [HU.out]; exact h) (by have h := elem_oks n es HOKS.out j hjn; rw [HL0.out] at h; exact h) (HLN.out j))
      clear hx6 hb6 hc0 HCE HON HSU HSA HZU HX5 HB5
      go_wp2_with fail
      refine (HONE.out _ _ _ HG6.out).mono ?_
      rintro e w7 ⟨rfl, hg7⟩
      obtain ⟨hs7, hch7⟩ := hg7.done
      have HS7 := Lib.hid hs7
      obtain ⟨c7, hx7, hz7, _, ho7⟩ := hch7.box _ _ HX6.out (by decide)
      have HOr : Hid (Oth (· = wb) wr w7) := Lib.hid ⟨Nat.le_trans HB6.out.size hch7.oth.1, fun i' o' hi hx ho => by
        have hlt := (Array.getElem?_eq_some_iff.1 hi).1
        exact hch7.oth.2 _ _ ((HB6.out.block i' hlt).trans hi) (fun h => by
          rcases h with h | h
          · exact hx h
          · omega) ho⟩
      have HO7 := Lib.hid (HLI.out.2.1.trans HOr.out)
      have HW7 := Lib.hid (own_oth HLI.out.2.2 HOr.out (fun g hg _ e => by omega) (by decide))
      have hs2r : w2.heap.size ≤ wr.heap.size := HLI.out.2.1.1
      have hsr7 : wr.heap.size ≤ w7.heap.size := HOr.out.1
      have HX7 := Lib.hid hx7
      have HZ7 : Hid (c7.size = 3) := Lib.hid (by rw [hz7, List.size_toArray, HUE.out])
      have HN7 : Hid (c7.all (·.oneCell') = true) := Lib.hid (ho7 (by
        rw [HU.out]
        exact all_oneCell_toArray (ces_one _ _ (elem_ats HATS.out (j * 3) 3))))
      have HSC : Hid ((Tryd.prog.info? 73).map (·.size) = some c7.size) := Lib.hid (by rw [HZ7.out]; exact sz_Ask)
      have hba : Below w7.heap.size w7 (w7.alloc (.cells c7 73)) := (Below.refl _ _).alloc (Nat.le_refl _) _
      have HOA := Lib.hid (HO7.out.trans (Oth.below (X := (· = wb)) hba))
      have HSA7 := Lib.hid (HS7.out.keep hba)
      obtain ⟨ys, hys⟩ := own_oth HW7.out (Oth.below (X := fun _ => False) hba) (fun _ _ _ h => h) (by decide)
      have HYS := Lib.hid hys
      have hsa : w2.heap.size ≤ (w7.alloc (.cells c7 73)).heap.size := HOA.out.1
      have hrd : Rd (w7.alloc (.cells c7 73)) (w7.heap.size + 1) 3 (some ⟨w7.heap.size, 0, none⟩) 1 c7.toList := ⟨by rw [Array.length_toList, HZ7.out], fun _ => ⟨_, rfl, Nat.lt_succ_self _, fun x u hu => by
        have e1 : (⟨w7.heap.size, 0, none⟩ : Addr).add x = ⟨w7.heap.size, x, none⟩ := by rw [Addr.add_mid, Nat.zero_add]
        rw [e1, cell_of_row _ _ _ _ _ _ (heap_alloc_new w7 _)]
        simpa using hu⟩⟩
      have HRN := Lib.hid hrd
      have HNL : Hid (∀ u ∈ c7.toList, u.oneCell' = true) := Lib.hid (fun u hu => Array.all_eq_true_iff_forall_mem.1 HN7.out u (by simpa using hu))
      have hbb := HBY.out (j + 1) (by omega)
      clear hs7 hch7 hx7 hz7 ho7 hrd hys hba
      go_wp2_with (first | refine wpList_load_row rfl 73 _ rfl wr.heap.size rfl 73 c7 (0, 0) _ HX7.out Tryd.underlying73 rfl HSC.out ?_ | refine wpList_build_one rfl 30 73 _ rfl c7 rfl ie _ Tryd.underlying30 HIE.out HIZ.out (by rw [HIS.out, HZ7.out]) (by rw [HZ7.out]; decide) (by rw [HZ7.out]; decide) ?_ | (at_builtin; refine wpList_append_rd _ rfl _ _ 30 rfl w2.heap.size 73 ie (.agg zs) 3 _ Tryd.underlying30 HIE.out HIZ.out HIS.out HIB.out HZS.out (by decide) _ j ys rfl HYS.out _ 1 1 _ c7.toList rfl HRN.out HNL.out (by simp only [maxLen]; omega) (by omega) hsa ?_))
      intro v' w8 hown8 hgrow8
      have HL8 : Hid (Lst W0 w2 wb 73 3 (s ++ tokI n ++ Ce.txts (es.take ((j + 1) * 3))) v' (j + 1) w8) := Lib.hid ⟨by
        rw [txts_step, ← List.append_assoc]
        exact HSA7.out.grown hgrow8 ⟨ys, HYS.out⟩ (by decide) hwl2 hsz2, oth_grown hgrow8 (fun g hg => by
          rcases HYS.out.2 with ⟨e, _⟩ | ⟨g', cap', cur', e, hb', _⟩
          · rw [e] at hg; cases hg
          · rw [e] at hg
            injection hg with hg
            rw [← hg]
            exact hb') wb HOA.out (Nat.le_refl _), _, hown8⟩
      clear hown8 hgrow8
      go_wp2
      go_roundw
      case rel => exact ⟨j + 1, by omega, by first | rfl | go_num, HL8⟩
      case measure => simp [intOf]; omega
    · obtain rfl : j = n := by omega
      have hj1 : ¬ (j : Int) < (j : Int) := by omega
      have hfz : wr.frozen? ⟨blk, o + i, none⟩ = false := frozen_of_row wr blk _ _ _ HOW.out
      have hcw : wr.cell? ⟨blk, o + i, none⟩ = some (.slice A j cap) := by
        rw [cell_of_row wr blk _ _ _ _ HOW.out]
        exact HC0.out
      have HFIN := Lib.hid (HEND.out w2 wr (.slice A' j c') HDR.out (by
        have h := HLI.out
        rw [List.take_of_length_le (by have h1 := Ce.ats_length _ _ HATS.out; rw [← h1, HXL.out]; exact Nat.le_refl _)] at h
        exact h))
      go_wp2
      go_end0
      exact ⟨rfl, HFIN.out⟩

theorem zr_Job : (Tryd.prog.info? 71).map (fun i => match i.zero with | some (.agg zs) => (zs.size, i.size, i.bytes) | _ => (0, 0, 0)) = some (4, 4, Tryd.prog.bytesOf 71) := by kernel_rfl

theorem sz_Job : (Tryd.prog.info? 71).map (·.size) = some 4 := by kernel_rfl

set_option maxRecDepth 100000 in
set_option maxHeartbeats 16000000 in
theorem list_Job {W0 w0 w : World} {wb blk o i : Nat} {S : List UInt8} {q : List Ty} (E : Env W0) (p : Nat) (h : Gst W0 wb blk o i S (.l (Tryd.prog.bytesOf 71) [.s, .i, .i, .i] :: q) w0 w) (hp : p = o + i) :
    Calls Tryd.prog 44 #[.iface 80 (.pointer (some ⟨wb, 0, none⟩)), .pointer (some ⟨blk, p, none⟩), .func (.func 45) #[] #[]] w fun e w' => e = .returned (.tuple #[]) ∧ Gst W0 wb blk o (i + 1) S q w0 w' := by
  subst hp
  have HONE : Hid (∀ xb W S', Gst W0 wb xb 0 0 S' [.s, .i, .i, .i] W W → Calls Tryd.prog 45 #[.iface 80 (.pointer (some ⟨wb, 0, none⟩)), .pointer (some ⟨xb, 0, none⟩)] W fun e w' => e = .returned (.tuple #[]) ∧ Gst W0 wb xb 0 4 S' [] W w') := Lib.hid (fun xb W S' hg => job_w (q := []) E 0 hg rfl)
  have hq : (([.s, .i, .i, .i]) : List Ty).length = 4 := rfl
  obtain ⟨ie, zs, hie, hiz, his, hib, hzs, hzr⟩ := zero_row zr_Job (by decide)
  have HZ := Lib.hid hzr
  have HIE := Lib.hid hie
  have HIZ := Lib.hid hiz
  have HIS := Lib.hid his
  have HIB := Lib.hid hib
  have HZS := Lib.hid hzs
  clear hie hiz his hib hzs hzr
  obtain ⟨s, cs, vs, h1, h2, h3, h4, h5, h6, h7⟩ := h
  obtain ⟨n, es, r, rfl⟩ : ∃ n es r, cs = .l n es :: r := by
    match cs, h4 with
    | .l n es :: r, _ => exact ⟨n, es, r, rfl⟩
    | .i _ :: _, h4 => unfold Ce.Oks Ce.Ok at h4; exact h4.1.elim
    | .b _ :: _, h4 => unfold Ce.Oks Ce.Ok at h4; exact h4.1.elim
    | .s _ :: _, h4 => unfold Ce.Oks Ce.Ok at h4; exact h4.1.elim
    | [], h4 => unfold Ce.Oks at h4; exact h4.elim
  unfold Ce.Ats at h3
  obtain ⟨v, us, rfl, hv, h3⟩ := h3
  unfold Ce.Oks at h4
  have hok := h4.1
  unfold Ce.Ok at hok
  unfold Ce.At at hv
  obtain ⟨A, cap, k', xs, rfl, hcap, hrd, hats⟩ := hv
  have hn1 := hok.1.1
  have hlen2 := h6
  simp only [Ce.bulks, Ce.bulk] at hlen2
  have HXL : Hid (xs.length = n * 4) := Lib.hid (by
    have e1 := Ce.ats_length _ _ hats
    have e2 := Ce.oks_length _ _ hok.2
    rw [e1, e2, List.length_flatten]
    simp [hq])
  have HRD : Hid (0 < n → ∃ ad, A = some ad ∧ ad.block < W0.heap.size ∧ ∀ j u, xs[j]? = some u → W0.cell? (ad.add j) = some u) := Lib.hid hrd.2
  have HATS := Lib.hid hats
  have HOKS := Lib.hid hok.2
  have HBY : Hid (∀ j, j ≤ n → j * Tryd.prog.bytesOf 71 ≤ 140737488351232) := Lib.hid (fun j hj => Nat.le_trans (Nat.mul_le_mul_right _ hj) hok.1.2)
  have HEND : Hid (∀ wN w' ov, Below w.heap.size w wN → Lst W0 wN wb 71 4 (s ++ tokI n ++ Ce.txts es) ov n w' → Gst W0 wb blk o (i + 1) S q w0 (w'.setCell ⟨blk, o + i, none⟩ ov)) := Lib.hid (fun wN w' ov hN hL => lst_end h2 h3 h4.1 h4.2 h5 h6 h7 hN hL)
  have HLN : Hid (∀ j, (s ++ tokI n ++ Ce.txts (es.take (j * 4))).length + 23 * Ce.bulks ((es.drop (j * 4)).take 4) ≤ 100000000) := Lib.hid (fun j => by
    have e1 := bulks_step es j 4
    have e2 := Ce.txts_len _ _ (oks_take (j * 4) es hok.2)
    have e3 := tokI_len n (by omega) (by omega)
    rw [List.length_append, List.length_append]
    omega)
  have hl0 : s.length ≤ 100000000 := by omega
  have hc := h2.cell 0 rfl
  have hfz := h2.fz (o + i)
  have hbl := h2.lt
  have hne := h2.ne
  have hge := h2.ge
  have hwl := h1.wu.lt
  have hwg : W0.heap.size ≤ wb := by
    have hw := h1.wu
    unfold Wu Lib.IsBuilderF at hw
    rcases hw with hw | hw <;> exact hw.1
  obtain ⟨cells0, t0, hobj, ht0, _⟩ := h2.obj
  have HT0 := Lib.hid ht0
  have HOB : Hid (w.drew.heap[blk]? = some (.cells cells0 t0 (0, 0))) := Lib.hid hobj
  have HC0 : Hid (cells0[o + i]? = some (.slice A n cap)) := Lib.hid (by rw [← cell_of_row w blk _ _ _ _ hobj]; simpa using hc)
  have HS := Lib.hid (h1.keep (Below.drew (Below.refl _ w)))
  have HDR : Hid (Below w.heap.size w w.drew) := Lib.hid (Below.drew (Below.refl _ w))
  have hbl2 : blk < w.drew.heap.size := hbl
  have hwl2 : wb < w.drew.heap.size := hwl
  have hcd : w.drew.cell? ⟨blk, o + i, none⟩ = some (.slice A n cap) := by simpa using hc
  have HL0 := Lib.hid hq
  have hsz2 : W0.heap.size ≤ w.drew.heap.size := by
    have := h1.hb.size
    exact this
  clear hok hats hrd h1 h2 h3 h4 h5 h6 h7 hlen2 hbl hwl hobj ht0 hc hfz hq
  have q1 := na_len
  have q2 := me_len
  have q3 := me_bad
  go_enter Tryd.func44, Tryd.ntmps44
  go_upto_region 0 with fail
  go_still_tail 8, (by kernel_rfl)
  change wpList _ _ _ _ _ w.drew
  generalize w.drew = w2 at *
  go_wp2_with fail
  refine (w_len W0 w2 wb s n E HS.out (by omega) hl0).mono ?_
  rintro e w3 ⟨rfl, hs3, ho3⟩
  have HLI : Hid (Lst W0 w2 wb 71 4 (s ++ tokI n ++ Ce.txts (es.take (0 * 4))) (.slice none 0 0) 0 w3) := Lib.hid ⟨by rw [Nat.zero_mul, List.take_zero, Ce.txts, List.append_nil]; exact hs3, ho3, [], by simp, .inl ⟨rfl, rfl⟩⟩
  clear hs3 ho3 hcd
  go_wp2_with fail
  go_loopw [7, 8] (fun ov iv wr => ∃ j : Nat, j ≤ n ∧ iv = .int .i64 j ∧ Hid (Lst W0 w2 wb 71 4 (s ++ tokI n ++ Ce.txts (es.take (j * 4))) ov j wr)) (fun _ iv _ => n - (intOf iv).toNat)
  case atStart => exact ⟨0, Nat.zero_le _, rfl, HLI⟩
  case round =>
    clear HLI
    obtain ⟨j, hj, rfl, HLI⟩ := hrel
    obtain ⟨A', c', hov⟩ := HLI.out.slice
    subst hov
    have HOW : Hid (wr.heap[blk]? = some (.cells cells0 t0 (0, 0))) := Lib.hid (HLI.out.2.1.2 _ _ HOB.out hne (fun c fz e => HT0.out (by injection e)))
    have hblr : blk < wr.heap.size := Nat.lt_of_lt_of_le hbl2 HLI.out.2.1.1
    have hwlr : wb < wr.heap.size := Nat.lt_of_lt_of_le hwl2 HLI.out.2.1.1
    have hszr : W0.heap.size ≤ wr.heap.size := Nat.le_trans hsz2 HLI.out.2.1.1
    by_cases hjn : j < n
    · have hj1 : (j : Int) < (n : Int) := by omega
      have hj0 : (0 : Int) ≤ (j : Int) := by omega
      have v1 : IntKind.i64.wrap ((j : Int) + 1) = ((j + 1 : Nat) : Int) := by rw [IntKind.wrap_i64]; omega
      obtain ⟨ad, rfl, hadb, hcell⟩ := HRD.out (by omega)
      have HCL := Lib.hid hcell
      have hue : ((xs.drop (j * 4)).take 4).length = 4 := by
        rw [List.length_take, List.length_drop, HXL.out]
        have : (j + 1) * 4 ≤ n * 4 := Nat.mul_le_mul_right _ hjn
        omega
      obtain ⟨ue, hU⟩ : ∃ ue, ue = (xs.drop (j * 4)).take 4 := ⟨_, rfl⟩
      have HU := Lib.hid hU
      have HUE : Hid (ue.length = 4) := Lib.hid (by rw [hU]; exact hue)
      clear hU hue hcell
      go_wp2_with fail
      refine (w_bad wb wr).mono ?_
      rintro e w' ⟨rfl, rfl⟩
      have hx5 := heap_alloc_new wr (.cells zs 71)
      have hb5 : Below wr.heap.size wr (wr.alloc (.cells zs 71)) := (Below.refl _ _).alloc (Nat.le_refl _) _
      go_upto_region 6 with (refine wpList_alloc_row rfl 71 rfl zs HZ.out ?_)
      generalize wr.alloc (.cells zs 71) = w5 at *
      have HX5 := Lib.hid hx5
      have HB5 := Lib.hid hb5
      have hc0 : w5.cell? ⟨blk, o + i, none⟩ = some (.slice (some ad) n cap) := by
        rw [cell_of_row w5 blk _ _ _ _ ((hb5.block blk hblr).trans HOW.out)]
        exact HC0.out
      clear hx5 hb5
      have hcl : ∀ x u, ue[x]? = some u → w5.cell? ((ad.add (j * 4)).add x) = some u := fun x u hx => by
        rw [HU.out, List.getElem?_take] at hx
        split at hx
        · rw [List.getElem?_drop] at hx
          rw [Go.Deep.add_add]
          have e1 := HCL.out _ _ hx
          rw [← e1]
          exact ((HLI.out.1.hb.trans (HB5.out.mono hszr)).cell (p := ad.add (j * 4 + x)) (by rw [add_block]; exact hadb))
        · cases hx
      have hone : ue.toArray.all (·.oneCell') = true := by
        rw [HU.out]
        exact all_oneCell_toArray (ces_one _ _ (elem_ats HATS.out (j * 4) 4))
      have HCE := Lib.hid hcl
      have HON := Lib.hid hone
      have HSU : Hid ((Tryd.prog.info? 71).map (·.size) = some ue.length) := Lib.hid (by rw [HUE.out]; exact sz_Job)
      have HSA : Hid ((Tryd.prog.info? 71).map (·.size) = some ue.toArray.size) := Lib.hid (by rw [List.size_toArray, HUE.out]; exact sz_Job)
      have HZU : Hid (zs.size = ue.toArray.size) := Lib.hid (by rw [HZS.out, List.size_toArray, HUE.out])
      clear hcl hone
      go_upto_region 8 with (first | refine wpList_load_at rfl 71 _ rfl (ad.add (j * 4)) rfl ue _ HCE.out Tryd.underlying71 rfl HSU.out ?_ | refine wpList_store_row rfl 71 _ _ rfl wr.heap.size ue.toArray rfl rfl 71 zs HX5.out HSA.out HZU.out HON.out ?_)
      have hx6 : (w5.setRow wr.heap.size ue.toArray).heap[wr.heap.size]? = some (.cells ue.toArray 71 (0, 0)) := setRow_heap _ _ _ _ _ _ HX5.out
      have hb6 : Below wr.heap.size wr (w5.setRow wr.heap.size ue.toArray) := below_setRow HB5.out (Nat.le_refl _) _
      generalize w5.setRow wr.heap.size ue.toArray = w6 at *
      have HX6 := Lib.hid hx6
      have HB6 := Lib.hid hb6
      have HG6 := Lib.hid (elem_gst (HLI.out.1.keep hb6) hx6 (show wr.heap.size ≠ wb by omega) hszr (by decide) (elem_ats HATS.out (j * 4) 4 |> fun h => by rw [HU.out]; exact h) (by have h := elem_oks n es HOKS.out j hjn; rw [HL0.out] at h; exact h) (HLN.out j))
      clear hx6 hb6 hc0 HCE HON HSU HSA HZU HX5 HB5
      go_wp2_with fail
      refine (HONE.out _ _ _ HG6.out).mono ?_
      rintro e w7 ⟨rfl, hg7⟩
      obtain ⟨hs7, hch7⟩ := hg7.done
      have HS7 := Lib.hid hs7
      obtain ⟨c7, hx7, hz7, _, ho7⟩ := hch7.box _ _ HX6.out (by decide)
      have HOr : Hid (Oth (· = wb) wr w7) := Lib.hid ⟨Nat.le_trans HB6.out.size hch7.oth.1, fun i' o' hi hx ho => by
        have hlt := (Array.getElem?_eq_some_iff.1 hi).1
        exact hch7.oth.2 _ _ ((HB6.out.block i' hlt).trans hi) (fun h => by
          rcases h with h | h
          · exact hx h
          · omega) ho⟩
      have HO7 := Lib.hid (HLI.out.2.1.trans HOr.out)
      have HW7 := Lib.hid (own_oth HLI.out.2.2 HOr.out (fun g hg _ e => by omega) (by decide))
      have hs2r : w2.heap.size ≤ wr.heap.size := HLI.out.2.1.1
      have hsr7 : wr.heap.size ≤ w7.heap.size := HOr.out.1
      have HX7 := Lib.hid hx7
      have HZ7 : Hid (c7.size = 4) := Lib.hid (by rw [hz7, List.size_toArray, HUE.out])
      have HN7 : Hid (c7.all (·.oneCell') = true) := Lib.hid (ho7 (by
        rw [HU.out]
        exact all_oneCell_toArray (ces_one _ _ (elem_ats HATS.out (j * 4) 4))))
      have HSC : Hid ((Tryd.prog.info? 71).map (·.size) = some c7.size) := Lib.hid (by rw [HZ7.out]; exact sz_Job)
      have hba : Below w7.heap.size w7 (w7.alloc (.cells c7 71)) := (Below.refl _ _).alloc (Nat.le_refl _) _
      have HOA := Lib.hid (HO7.out.trans (Oth.below (X := (· = wb)) hba))
      have HSA7 := Lib.hid (HS7.out.keep hba)
      obtain ⟨ys, hys⟩ := own_oth HW7.out (Oth.below (X := fun _ => False) hba) (fun _ _ _ h => h) (by decide)
      have HYS := Lib.hid hys
      have hsa : w2.heap.size ≤ (w7.alloc (.cells c7 71)).heap.size := HOA.out.1
      have hrd : Rd (w7.alloc (.cells c7 71)) (w7.heap.size + 1) 4 (some ⟨w7.heap.size, 0, none⟩) 1 c7.toList := ⟨by rw [Array.length_toList, HZ7.out], fun _ => ⟨_, rfl, Nat.lt_succ_self _, fun x u hu => by
        have e1 : (⟨w7.heap.size, 0, none⟩ : Addr).add x = ⟨w7.heap.size, x, none⟩ := by rw [Addr.add_mid, Nat.zero_add]
        rw [e1, cell_of_row _ _ _ _ _ _ (heap_alloc_new w7 _)]
        simpa using hu⟩⟩
      have HRN := Lib.hid hrd
      have HNL : Hid (∀ u ∈ c7.toList, u.oneCell' = true) := Lib.hid (fun u hu => Array.all_eq_true_iff_forall_mem.1 HN7.out u (by simpa using hu))
      have hbb := HBY.out (j + 1) (by omega)
      clear hs7 hch7 hx7 hz7 ho7 hrd hys hba
      go_wp2_with (first | refine wpList_load_row rfl 71 _ rfl wr.heap.size rfl 71 c7 (0, 0) _ HX7.out Tryd.underlying71 rfl HSC.out ?_ | refine wpList_build_one rfl 29 71 _ rfl c7 rfl ie _ Tryd.underlying29 HIE.out HIZ.out (by rw [HIS.out, HZ7.out]) (by rw [HZ7.out]; decide) (by rw [HZ7.out]; decide) ?_ | (at_builtin; refine wpList_append_rd _ rfl _ _ 29 rfl w2.heap.size 71 ie (.agg zs) 4 _ Tryd.underlying29 HIE.out HIZ.out HIS.out HIB.out HZS.out (by decide) _ j ys rfl HYS.out _ 1 1 _ c7.toList rfl HRN.out HNL.out (by simp only [maxLen]; omega) (by omega) hsa ?_))
      intro v' w8 hown8 hgrow8
      have HL8 : Hid (Lst W0 w2 wb 71 4 (s ++ tokI n ++ Ce.txts (es.take ((j + 1) * 4))) v' (j + 1) w8) := Lib.hid ⟨by
        rw [txts_step, ← List.append_assoc]
        exact HSA7.out.grown hgrow8 ⟨ys, HYS.out⟩ (by decide) hwl2 hsz2, oth_grown hgrow8 (fun g hg => by
          rcases HYS.out.2 with ⟨e, _⟩ | ⟨g', cap', cur', e, hb', _⟩
          · rw [e] at hg; cases hg
          · rw [e] at hg
            injection hg with hg
            rw [← hg]
            exact hb') wb HOA.out (Nat.le_refl _), _, hown8⟩
      clear hown8 hgrow8
      go_wp2
      go_roundw
      case rel => exact ⟨j + 1, by omega, by first | rfl | go_num, HL8⟩
      case measure => simp [intOf]; omega
    · obtain rfl : j = n := by omega
      have hj1 : ¬ (j : Int) < (j : Int) := by omega
      have hfz : wr.frozen? ⟨blk, o + i, none⟩ = false := frozen_of_row wr blk _ _ _ HOW.out
      have hcw : wr.cell? ⟨blk, o + i, none⟩ = some (.slice A j cap) := by
        rw [cell_of_row wr blk _ _ _ _ HOW.out]
        exact HC0.out
      have HFIN := Lib.hid (HEND.out w2 wr (.slice A' j c') HDR.out (by
        have h := HLI.out
        rw [List.take_of_length_le (by have h1 := Ce.ats_length _ _ HATS.out; rw [← h1, HXL.out]; exact Nat.le_refl _)] at h
        exact h))
      go_wp2
      go_end0
      exact ⟨rfl, HFIN.out⟩

theorem zr_Node : (Tryd.prog.info? 86).map (fun i => match i.zero with | some (.agg zs) => (zs.size, i.size, i.bytes) | _ => (0, 0, 0)) = some (3, 3, Tryd.prog.bytesOf 86) := by kernel_rfl

theorem sz_Node : (Tryd.prog.info? 86).map (·.size) = some 3 := by kernel_rfl

set_option maxRecDepth 100000 in
set_option maxHeartbeats 16000000 in
theorem list_Node {W0 w0 w : World} {wb blk o i : Nat} {S : List UInt8} {q : List Ty} (E : Env W0) (p : Nat) (h : Gst W0 wb blk o i S (.l (Tryd.prog.bytesOf 86) [.s, .i, .i] :: q) w0 w) (hp : p = o + i) :
    Calls Tryd.prog 36 #[.iface 80 (.pointer (some ⟨wb, 0, none⟩)), .pointer (some ⟨blk, p, none⟩), .func (.func 37) #[] #[]] w fun e w' => e = .returned (.tuple #[]) ∧ Gst W0 wb blk o (i + 1) S q w0 w' := by
  subst hp
  have HONE : Hid (∀ xb W S', Gst W0 wb xb 0 0 S' [.s, .i, .i] W W → Calls Tryd.prog 37 #[.iface 80 (.pointer (some ⟨wb, 0, none⟩)), .pointer (some ⟨xb, 0, none⟩)] W fun e w' => e = .returned (.tuple #[]) ∧ Gst W0 wb xb 0 3 S' [] W w') := Lib.hid (fun xb W S' hg => node_w (q := []) E 0 hg rfl)
  have hq : (([.s, .i, .i]) : List Ty).length = 3 := rfl
  obtain ⟨ie, zs, hie, hiz, his, hib, hzs, hzr⟩ := zero_row zr_Node (by decide)
  have HZ := Lib.hid hzr
  have HIE := Lib.hid hie
  have HIZ := Lib.hid hiz
  have HIS := Lib.hid his
  have HIB := Lib.hid hib
  have HZS := Lib.hid hzs
  clear hie hiz his hib hzs hzr
  obtain ⟨s, cs, vs, h1, h2, h3, h4, h5, h6, h7⟩ := h
  obtain ⟨n, es, r, rfl⟩ : ∃ n es r, cs = .l n es :: r := by
    match cs, h4 with
    | .l n es :: r, _ => exact ⟨n, es, r, rfl⟩
    | .i _ :: _, h4 => unfold Ce.Oks Ce.Ok at h4; exact h4.1.elim
    | .b _ :: _, h4 => unfold Ce.Oks Ce.Ok at h4; exact h4.1.elim
    | .s _ :: _, h4 => unfold Ce.Oks Ce.Ok at h4; exact h4.1.elim
    | [], h4 => unfold Ce.Oks at h4; exact h4.elim
  unfold Ce.Ats at h3
  obtain ⟨v, us, rfl, hv, h3⟩ := h3
  unfold Ce.Oks at h4
  have hok := h4.1
  unfold Ce.Ok at hok
  unfold Ce.At at hv
  obtain ⟨A, cap, k', xs, rfl, hcap, hrd, hats⟩ := hv
  have hn1 := hok.1.1
  have hlen2 := h6
  simp only [Ce.bulks, Ce.bulk] at hlen2
  have HXL : Hid (xs.length = n * 3) := Lib.hid (by
    have e1 := Ce.ats_length _ _ hats
    have e2 := Ce.oks_length _ _ hok.2
    rw [e1, e2, List.length_flatten]
    simp [hq])
  have HRD : Hid (0 < n → ∃ ad, A = some ad ∧ ad.block < W0.heap.size ∧ ∀ j u, xs[j]? = some u → W0.cell? (ad.add j) = some u) := Lib.hid hrd.2
  have HATS := Lib.hid hats
  have HOKS := Lib.hid hok.2
  have HBY : Hid (∀ j, j ≤ n → j * Tryd.prog.bytesOf 86 ≤ 140737488351232) := Lib.hid (fun j hj => Nat.le_trans (Nat.mul_le_mul_right _ hj) hok.1.2)
  have HEND : Hid (∀ wN w' ov, Below w.heap.size w wN → Lst W0 wN wb 86 3 (s ++ tokI n ++ Ce.txts es) ov n w' → Gst W0 wb blk o (i + 1) S q w0 (w'.setCell ⟨blk, o + i, none⟩ ov)) := Lib.hid (fun wN w' ov hN hL => lst_end h2 h3 h4.1 h4.2 h5 h6 h7 hN hL)
  have HLN : Hid (∀ j, (s ++ tokI n ++ Ce.txts (es.take (j * 3))).length + 23 * Ce.bulks ((es.drop (j * 3)).take 3) ≤ 100000000) := Lib.hid (fun j => by
    have e1 := bulks_step es j 3
    have e2 := Ce.txts_len _ _ (oks_take (j * 3) es hok.2)
    have e3 := tokI_len n (by omega) (by omega)
    rw [List.length_append, List.length_append]
    omega)
  have hl0 : s.length ≤ 100000000 := by omega
  have hc := h2.cell 0 rfl
  have hfz := h2.fz (o + i)
  have hbl := h2.lt
  have hne := h2.ne
  have hge := h2.ge
  have hwl := h1.wu.lt
  have hwg : W0.heap.size ≤ wb := by
    have hw := h1.wu
    unfold Wu Lib.IsBuilderF at hw
    rcases hw with hw | hw <;> exact hw.1
  obtain ⟨cells0, t0, hobj, ht0, _⟩ := h2.obj
  have HT0 := Lib.hid ht0
  have HOB : Hid (w.drew.heap[blk]? = some (.cells cells0 t0 (0, 0))) := Lib.hid hobj
  have HC0 : Hid (cells0[o + i]? = some (.slice A n cap)) := Lib.hid (by rw [← cell_of_row w blk _ _ _ _ hobj]; simpa using hc)
  have HS := Lib.hid (h1.keep (Below.drew (Below.refl _ w)))
  have HDR : Hid (Below w.heap.size w w.drew) := Lib.hid (Below.drew (Below.refl _ w))
  have hbl2 : blk < w.drew.heap.size := hbl
  have hwl2 : wb < w.drew.heap.size := hwl
  have hcd : w.drew.cell? ⟨blk, o + i, none⟩ = some (.slice A n cap) := by simpa using hc
  have HL0 := Lib.hid hq
  have hsz2 : W0.heap.size ≤ w.drew.heap.size := by
    have := h1.hb.size
    exact this
  clear hok hats hrd h1 h2 h3 h4 h5 h6 h7 hlen2 hbl hwl hobj ht0 hc hfz hq
  have q1 := na_len
  have q2 := me_len
  have q3 := me_bad
  go_enter Tryd.func36, Tryd.ntmps36
  go_upto_region 0 with fail
  go_still_tail 8, (by kernel_rfl)
  change wpList _ _ _ _ _ w.drew
  generalize w.drew = w2 at *
  go_wp2_with fail
  refine (w_len W0 w2 wb s n E HS.out (by omega) hl0).mono ?_
  rintro e w3 ⟨rfl, hs3, ho3⟩
  have HLI : Hid (Lst W0 w2 wb 86 3 (s ++ tokI n ++ Ce.txts (es.take (0 * 3))) (.slice none 0 0) 0 w3) := Lib.hid ⟨by rw [Nat.zero_mul, List.take_zero, Ce.txts, List.append_nil]; exact hs3, ho3, [], by simp, .inl ⟨rfl, rfl⟩⟩
  clear hs3 ho3 hcd
  go_wp2_with fail
  go_loopw [7, 8] (fun ov iv wr => ∃ j : Nat, j ≤ n ∧ iv = .int .i64 j ∧ Hid (Lst W0 w2 wb 86 3 (s ++ tokI n ++ Ce.txts (es.take (j * 3))) ov j wr)) (fun _ iv _ => n - (intOf iv).toNat)
  case atStart => exact ⟨0, Nat.zero_le _, rfl, HLI⟩
  case round =>
    clear HLI
    obtain ⟨j, hj, rfl, HLI⟩ := hrel
    obtain ⟨A', c', hov⟩ := HLI.out.slice
    subst hov
    have HOW : Hid (wr.heap[blk]? = some (.cells cells0 t0 (0, 0))) := Lib.hid (HLI.out.2.1.2 _ _ HOB.out hne (fun c fz e => HT0.out (by injection e)))
    have hblr : blk < wr.heap.size := Nat.lt_of_lt_of_le hbl2 HLI.out.2.1.1
    have hwlr : wb < wr.heap.size := Nat.lt_of_lt_of_le hwl2 HLI.out.2.1.1
    have hszr : W0.heap.size ≤ wr.heap.size := Nat.le_trans hsz2 HLI.out.2.1.1
    by_cases hjn : j < n
    · have hj1 : (j : Int) < (n : Int) := by omega
      have hj0 : (0 : Int) ≤ (j : Int) := by omega
      have v1 : IntKind.i64.wrap ((j : Int) + 1) = ((j + 1 : Nat) : Int) := by rw [IntKind.wrap_i64]; omega
      obtain ⟨ad, rfl, hadb, hcell⟩ := HRD.out (by omega)
      have HCL := Lib.hid hcell
      have hue : ((xs.drop (j * 3)).take 3).length = 3 := by
        rw [List.length_take, List.length_drop, HXL.out]
        have : (j + 1) * 3 ≤ n * 3 := Nat.mul_le_mul_right _ hjn
        omega
      obtain ⟨ue, hU⟩ : ∃ ue, ue = (xs.drop (j * 3)).take 3 := ⟨_, rfl⟩
      have HU := Lib.hid hU
      have HUE : Hid (ue.length = 3) := Lib.hid (by rw [hU]; exact hue)
      clear hU hue hcell
      go_wp2_with fail
      refine (w_bad wb wr).mono ?_
      rintro e w' ⟨rfl, rfl⟩
      have hx5 := heap_alloc_new wr (.cells zs 86)
      have hb5 : Below wr.heap.size wr (wr.alloc (.cells zs 86)) := (Below.refl _ _).alloc (Nat.le_refl _) _
      go_upto_region 6 with (refine wpList_alloc_row rfl 86 rfl zs HZ.out ?_)
      generalize wr.alloc (.cells zs 86) = w5 at *
      have HX5 := Lib.hid hx5
      have HB5 := Lib.hid hb5
      have hc0 : w5.cell? ⟨blk, o + i, none⟩ = some (.slice (some ad) n cap) := by
        rw [cell_of_row w5 blk _ _ _ _ ((hb5.block blk hblr).trans HOW.out)]
        exact HC0.out
      clear hx5 hb5
      have hcl : ∀ x u, ue[x]? = some u → w5.cell? ((ad.add (j * 3)).add x) = some u := fun x u hx => by
        rw [HU.out, List.getElem?_take] at hx
        split at hx
        · rw [List.getElem?_drop] at hx
          rw [Go.Deep.add_add]
          have e1 := HCL.out _ _ hx
          rw [← e1]
          exact ((HLI.out.1.hb.trans (HB5.out.mono hszr)).cell (p := ad.add (j * 3 + x)) (by rw [add_block]; exact hadb))
        · cases hx
      have hone : ue.toArray.all (·.oneCell') = true := by
        rw [HU.out]
        exact all_oneCell_toArray (ces_one _ _ (elem_ats HATS.out (j * 3) 3))
      have HCE := Lib.hid hcl
      have HON := Lib.hid hone
      have HSU : Hid ((Tryd.prog.info? 86).map (·.size) = some ue.length) := Lib.hid (by rw [HUE.out]; exact sz_Node)
      have HSA : Hid ((Tryd.prog.info? 86).map (·.size) = some ue.toArray.size) := Lib.hid (by rw [List.size_toArray, HUE.out]; exact sz_Node)
      have HZU : Hid (zs.size = ue.toArray.size) := Lib.hid (by rw [HZS.out, List.size_toArray, HUE.out])
      clear hcl hone
      go_upto_region 8 with (first | refine wpList_load_at rfl 86 _ rfl (ad.add (j * 3)) rfl ue _ HCE.out Tryd.underlying86 rfl HSU.out ?_ | refine wpList_store_row rfl 86 _ _ rfl wr.heap.size ue.toArray rfl rfl 86 zs HX5.out HSA.out HZU.out HON.out ?_)
      have hx6 : (w5.setRow wr.heap.size ue.toArray).heap[wr.heap.size]? = some (.cells ue.toArray 86 (0, 0)) := setRow_heap _ _ _ _ _ _ HX5.out
      have hb6 : Below wr.heap.size wr (w5.setRow wr.heap.size ue.toArray) := below_setRow HB5.out (Nat.le_refl _) _
      generalize w5.setRow wr.heap.size ue.toArray = w6 at *
      have HX6 := Lib.hid hx6
      have HB6 := Lib.hid hb6
      have HG6 := Lib.hid (elem_gst (HLI.out.1.keep hb6) hx6 (show wr.heap.size ≠ wb by omega) hszr (by decide) (elem_ats HATS.out (j * 3) 3 |> fun h => by rw [HU.out]; exact h) (by have h := elem_oks n es HOKS.out j hjn; rw [HL0.out] at h; exact h) (HLN.out j))
      clear hx6 hb6 hc0 HCE HON HSU HSA HZU HX5 HB5
      go_wp2_with fail
      refine (HONE.out _ _ _ HG6.out).mono ?_
      rintro e w7 ⟨rfl, hg7⟩
      obtain ⟨hs7, hch7⟩ := hg7.done
      have HS7 := Lib.hid hs7
      obtain ⟨c7, hx7, hz7, _, ho7⟩ := hch7.box _ _ HX6.out (by decide)
      have HOr : Hid (Oth (· = wb) wr w7) := Lib.hid ⟨Nat.le_trans HB6.out.size hch7.oth.1, fun i' o' hi hx ho => by
        have hlt := (Array.getElem?_eq_some_iff.1 hi).1
        exact hch7.oth.2 _ _ ((HB6.out.block i' hlt).trans hi) (fun h => by
          rcases h with h | h
          · exact hx h
          · omega) ho⟩
      have HO7 := Lib.hid (HLI.out.2.1.trans HOr.out)
      have HW7 := Lib.hid (own_oth HLI.out.2.2 HOr.out (fun g hg _ e => by omega) (by decide))
      have hs2r : w2.heap.size ≤ wr.heap.size := HLI.out.2.1.1
      have hsr7 : wr.heap.size ≤ w7.heap.size := HOr.out.1
      have HX7 := Lib.hid hx7
      have HZ7 : Hid (c7.size = 3) := Lib.hid (by rw [hz7, List.size_toArray, HUE.out])
      have HN7 : Hid (c7.all (·.oneCell') = true) := Lib.hid (ho7 (by
        rw [HU.out]
        exact all_oneCell_toArray (ces_one _ _ (elem_ats HATS.out (j * 3) 3))))
      have HSC : Hid ((Tryd.prog.info? 86).map (·.size) = some c7.size) := Lib.hid (by rw [HZ7.out]; exact sz_Node)
      have hba : Below w7.heap.size w7 (w7.alloc (.cells c7 86)) := (Below.refl _ _).alloc (Nat.le_refl _) _
      have HOA := Lib.hid (HO7.out.trans (Oth.below (X := (· = wb)) hba))
      have HSA7 := Lib.hid (HS7.out.keep hba)
      obtain ⟨ys, hys⟩ := own_oth HW7.out (Oth.below (X := fun _ => False) hba) (fun _ _ _ h => h) (by decide)
      have HYS := Lib.hid hys
      have hsa : w2.heap.size ≤ (w7.alloc (.cells c7 86)).heap.size := HOA.out.1
      have hrd : Rd (w7.alloc (.cells c7 86)) (w7.heap.size + 1) 3 (some ⟨w7.heap.size, 0, none⟩) 1 c7.toList := ⟨by rw [Array.length_toList, HZ7.out], fun _ => ⟨_, rfl, Nat.lt_succ_self _, fun x u hu => by
        have e1 : (⟨w7.heap.size, 0, none⟩ : Addr).add x = ⟨w7.heap.size, x, none⟩ := by rw [Addr.add_mid, Nat.zero_add]
        rw [e1, cell_of_row _ _ _ _ _ _ (heap_alloc_new w7 _)]
        simpa using hu⟩⟩
      have HRN := Lib.hid hrd
      have HNL : Hid (∀ u ∈ c7.toList, u.oneCell' = true) := Lib.hid (fun u hu => Array.all_eq_true_iff_forall_mem.1 HN7.out u (by simpa using hu))
      have hbb := HBY.out (j + 1) (by omega)
      clear hs7 hch7 hx7 hz7 ho7 hrd hys hba
      go_wp2_with (first | refine wpList_load_row rfl 86 _ rfl wr.heap.size rfl 86 c7 (0, 0) _ HX7.out Tryd.underlying86 rfl HSC.out ?_ | refine wpList_build_one rfl 23 86 _ rfl c7 rfl ie _ Tryd.underlying23 HIE.out HIZ.out (by rw [HIS.out, HZ7.out]) (by rw [HZ7.out]; decide) (by rw [HZ7.out]; decide) ?_ | (at_builtin; refine wpList_append_rd _ rfl _ _ 23 rfl w2.heap.size 86 ie (.agg zs) 3 _ Tryd.underlying23 HIE.out HIZ.out HIS.out HIB.out HZS.out (by decide) _ j ys rfl HYS.out _ 1 1 _ c7.toList rfl HRN.out HNL.out (by simp only [maxLen]; omega) (by omega) hsa ?_))
      intro v' w8 hown8 hgrow8
      have HL8 : Hid (Lst W0 w2 wb 86 3 (s ++ tokI n ++ Ce.txts (es.take ((j + 1) * 3))) v' (j + 1) w8) := Lib.hid ⟨by
        rw [txts_step, ← List.append_assoc]
        exact HSA7.out.grown hgrow8 ⟨ys, HYS.out⟩ (by decide) hwl2 hsz2, oth_grown hgrow8 (fun g hg => by
          rcases HYS.out.2 with ⟨e, _⟩ | ⟨g', cap', cur', e, hb', _⟩
          · rw [e] at hg; cases hg
          · rw [e] at hg
            injection hg with hg
            rw [← hg]
            exact hb') wb HOA.out (Nat.le_refl _), _, hown8⟩
      clear hown8 hgrow8
      go_wp2
      go_roundw
      case rel => exact ⟨j + 1, by omega, by first | rfl | go_num, HL8⟩
      case measure => simp [intOf]; omega
    · obtain rfl : j = n := by omega
      have hj1 : ¬ (j : Int) < (j : Int) := by omega
      have hfz : wr.frozen? ⟨blk, o + i, none⟩ = false := frozen_of_row wr blk _ _ _ HOW.out
      have hcw : wr.cell? ⟨blk, o + i, none⟩ = some (.slice A j cap) := by
        rw [cell_of_row wr blk _ _ _ _ HOW.out]
        exact HC0.out
      have HFIN := Lib.hid (HEND.out w2 wr (.slice A' j c') HDR.out (by
        have h := HLI.out
        rw [List.take_of_length_le (by have h1 := Ce.ats_length _ _ HATS.out; rw [← h1, HXL.out]; exact Nat.le_refl _)] at h
        exact h))
      go_wp2
      go_end0
      exact ⟨rfl, HFIN.out⟩

theorem zr_Edge : (Tryd.prog.info? 88).map (fun i => match i.zero with | some (.agg zs) => (zs.size, i.size, i.bytes) | _ => (0, 0, 0)) = some (3, 3, Tryd.prog.bytesOf 88) := by kernel_rfl

theorem sz_Edge : (Tryd.prog.info? 88).map (·.size) = some 3 := by kernel_rfl

set_option maxRecDepth 100000 in
set_option maxHeartbeats 16000000 in
theorem list_Edge {W0 w0 w : World} {wb blk o i : Nat} {S : List UInt8} {q : List Ty} (E : Env W0) (p : Nat) (h : Gst W0 wb blk o i S (.l (Tryd.prog.bytesOf 88) [.s, .s, .i] :: q) w0 w) (hp : p = o + i) :
    Calls Tryd.prog 38 #[.iface 80 (.pointer (some ⟨wb, 0, none⟩)), .pointer (some ⟨blk, p, none⟩), .func (.func 39) #[] #[]] w fun e w' => e = .returned (.tuple #[]) ∧ Gst W0 wb blk o (i + 1) S q w0 w' := by
  subst hp
  have HONE : Hid (∀ xb W S', Gst W0 wb xb 0 0 S' [.s, .s, .i] W W → Calls Tryd.prog 39 #[.iface 80 (.pointer (some ⟨wb, 0, none⟩)), .pointer (some ⟨xb, 0, none⟩)] W fun e w' => e = .returned (.tuple #[]) ∧ Gst W0 wb xb 0 3 S' [] W w') := Lib.hid (fun xb W S' hg => edge_w (q := []) E 0 hg rfl)
  have hq : (([.s, .s, .i]) : List Ty).length = 3 := rfl
  obtain ⟨ie, zs, hie, hiz, his, hib, hzs, hzr⟩ := zero_row zr_Edge (by decide)
  have HZ := Lib.hid hzr
  have HIE := Lib.hid hie
  have HIZ := Lib.hid hiz
  have HIS := Lib.hid his
  have HIB := Lib.hid hib
  have HZS := Lib.hid hzs
  clear hie hiz his hib hzs hzr
  obtain ⟨s, cs, vs, h1, h2, h3, h4, h5, h6, h7⟩ := h
  obtain ⟨n, es, r, rfl⟩ : ∃ n es r, cs = .l n es :: r := by
    match cs, h4 with
    | .l n es :: r, _ => exact ⟨n, es, r, rfl⟩
    | .i _ :: _, h4 => unfold Ce.Oks Ce.Ok at h4; exact h4.1.elim
    | .b _ :: _, h4 => unfold Ce.Oks Ce.Ok at h4; exact h4.1.elim
    | .s _ :: _, h4 => unfold Ce.Oks Ce.Ok at h4; exact h4.1.elim
    | [], h4 => unfold Ce.Oks at h4; exact h4.elim
  unfold Ce.Ats at h3
  obtain ⟨v, us, rfl, hv, h3⟩ := h3
  unfold Ce.Oks at h4
  have hok := h4.1
  unfold Ce.Ok at hok
  unfold Ce.At at hv
  obtain ⟨A, cap, k', xs, rfl, hcap, hrd, hats⟩ := hv
  have hn1 := hok.1.1
  have hlen2 := h6
  simp only [Ce.bulks, Ce.bulk] at hlen2
  have HXL : Hid (xs.length = n * 3) := Lib.hid (by
    have e1 := Ce.ats_length _ _ hats
    have e2 := Ce.oks_length _ _ hok.2
    rw [e1, e2, List.length_flatten]
    simp [hq])
  have HRD : Hid (0 < n → ∃ ad, A = some ad ∧ ad.block < W0.heap.size ∧ ∀ j u, xs[j]? = some u → W0.cell? (ad.add j) = some u) := Lib.hid hrd.2
  have HATS := Lib.hid hats
  have HOKS := Lib.hid hok.2
  have HBY : Hid (∀ j, j ≤ n → j * Tryd.prog.bytesOf 88 ≤ 140737488351232) := Lib.hid (fun j hj => Nat.le_trans (Nat.mul_le_mul_right _ hj) hok.1.2)
  have HEND : Hid (∀ wN w' ov, Below w.heap.size w wN → Lst W0 wN wb 88 3 (s ++ tokI n ++ Ce.txts es) ov n w' → Gst W0 wb blk o (i + 1) S q w0 (w'.setCell ⟨blk, o + i, none⟩ ov)) := Lib.hid (fun wN w' ov hN hL => lst_end h2 h3 h4.1 h4.2 h5 h6 h7 hN hL)
  have HLN : Hid (∀ j, (s ++ tokI n ++ Ce.txts (es.take (j * 3))).length + 23 * Ce.bulks ((es.drop (j * 3)).take 3) ≤ 100000000) := Lib.hid (fun j => by
    have e1 := bulks_step es j 3
    have e2 := Ce.txts_len _ _ (oks_take (j * 3) es hok.2)
    have e3 := tokI_len n (by omega) (by omega)
    rw [List.length_append, List.length_append]
    omega)
  have hl0 : s.length ≤ 100000000 := by omega
  have hc := h2.cell 0 rfl
  have hfz := h2.fz (o + i)
  have hbl := h2.lt
  have hne := h2.ne
  have hge := h2.ge
  have hwl := h1.wu.lt
  have hwg : W0.heap.size ≤ wb := by
    have hw := h1.wu
    unfold Wu Lib.IsBuilderF at hw
    rcases hw with hw | hw <;> exact hw.1
  obtain ⟨cells0, t0, hobj, ht0, _⟩ := h2.obj
  have HT0 := Lib.hid ht0
  have HOB : Hid (w.drew.heap[blk]? = some (.cells cells0 t0 (0, 0))) := Lib.hid hobj
  have HC0 : Hid (cells0[o + i]? = some (.slice A n cap)) := Lib.hid (by rw [← cell_of_row w blk _ _ _ _ hobj]; simpa using hc)
  have HS := Lib.hid (h1.keep (Below.drew (Below.refl _ w)))
  have HDR : Hid (Below w.heap.size w w.drew) := Lib.hid (Below.drew (Below.refl _ w))
  have hbl2 : blk < w.drew.heap.size := hbl
  have hwl2 : wb < w.drew.heap.size := hwl
  have hcd : w.drew.cell? ⟨blk, o + i, none⟩ = some (.slice A n cap) := by simpa using hc
  have HL0 := Lib.hid hq
  have hsz2 : W0.heap.size ≤ w.drew.heap.size := by
    have := h1.hb.size
    exact this
  clear hok hats hrd h1 h2 h3 h4 h5 h6 h7 hlen2 hbl hwl hobj ht0 hc hfz hq
  have q1 := na_len
  have q2 := me_len
  have q3 := me_bad
  go_enter Tryd.func38, Tryd.ntmps38
  go_upto_region 0 with fail
  go_still_tail 8, (by kernel_rfl)
  change wpList _ _ _ _ _ w.drew
  generalize w.drew = w2 at *
  go_wp2_with fail
  refine (w_len W0 w2 wb s n E HS.out (by omega) hl0).mono ?_
  rintro e w3 ⟨rfl, hs3, ho3⟩
  have HLI : Hid (Lst W0 w2 wb 88 3 (s ++ tokI n ++ Ce.txts (es.take (0 * 3))) (.slice none 0 0) 0 w3) := Lib.hid ⟨by rw [Nat.zero_mul, List.take_zero, Ce.txts, List.append_nil]; exact hs3, ho3, [], by simp, .inl ⟨rfl, rfl⟩⟩
  clear hs3 ho3 hcd
  go_wp2_with fail
  go_loopw [7, 8] (fun ov iv wr => ∃ j : Nat, j ≤ n ∧ iv = .int .i64 j ∧ Hid (Lst W0 w2 wb 88 3 (s ++ tokI n ++ Ce.txts (es.take (j * 3))) ov j wr)) (fun _ iv _ => n - (intOf iv).toNat)
  case atStart => exact ⟨0, Nat.zero_le _, rfl, HLI⟩
  case round =>
    clear HLI
    obtain ⟨j, hj, rfl, HLI⟩ := hrel
    obtain ⟨A', c', hov⟩ := HLI.out.slice
    subst hov
    have HOW : Hid (wr.heap[blk]? = some (.cells cells0 t0 (0, 0))) := Lib.hid (HLI.out.2.1.2 _ _ HOB.out hne (fun c fz e => HT0.out (by injection e)))
    have hblr : blk < wr.heap.size := Nat.lt_of_lt_of_le hbl2 HLI.out.2.1.1
    have hwlr : wb < wr.heap.size := Nat.lt_of_lt_of_le hwl2 HLI.out.2.1.1
    have hszr : W0.heap.size ≤ wr.heap.size := Nat.le_trans hsz2 HLI.out.2.1.1
    by_cases hjn : j < n
    · have hj1 : (j : Int) < (n : Int) := by omega
      have hj0 : (0 : Int) ≤ (j : Int) := by omega
      have v1 : IntKind.i64.wrap ((j : Int) + 1) = ((j + 1 : Nat) : Int) := by rw [IntKind.wrap_i64]; omega
      obtain ⟨ad, rfl, hadb, hcell⟩ := HRD.out (by omega)
      have HCL := Lib.hid hcell
      have hue : ((xs.drop (j * 3)).take 3).length = 3 := by
        rw [List.length_take, List.length_drop, HXL.out]
        have : (j + 1) * 3 ≤ n * 3 := Nat.mul_le_mul_right _ hjn
        omega
      obtain ⟨ue, hU⟩ : ∃ ue, ue = (xs.drop (j * 3)).take 3 := ⟨_, rfl⟩
      have HU := Lib.hid hU
      have HUE : Hid (ue.length = 3) := Lib.hid (by rw [hU]; exact hue)
      clear hU hue hcell
      go_wp2_with fail
      refine (w_bad wb wr).mono ?_
      rintro e w' ⟨rfl, rfl⟩
      have hx5 := heap_alloc_new wr (.cells zs 88)
      have hb5 : Below wr.heap.size wr (wr.alloc (.cells zs 88)) := (Below.refl _ _).alloc (Nat.le_refl _) _
      go_upto_region 6 with (refine wpList_alloc_row rfl 88 rfl zs HZ.out ?_)
      generalize wr.alloc (.cells zs 88) = w5 at *
      have HX5 := Lib.hid hx5
      have HB5 := Lib.hid hb5
      have hc0 : w5.cell? ⟨blk, o + i, none⟩ = some (.slice (some ad) n cap) := by
        rw [cell_of_row w5 blk _ _ _ _ ((hb5.block blk hblr).trans HOW.out)]
        exact HC0.out
      clear hx5 hb5
      have hcl : ∀ x u, ue[x]? = some u → w5.cell? ((ad.add (j * 3)).add x) = some u := fun x u hx => by
        rw [HU.out, List.getElem?_take] at hx
        split at hx
        · rw [List.getElem?_drop] at hx
          rw [Go.Deep.add_add]
          have e1 := HCL.out _ _ hx
          rw [← e1]
          exact ((HLI.out.1.hb.trans (HB5.out.mono hszr)).cell (p := ad.add (j * 3 + x)) (by rw [add_block]; exact hadb))
        · cases hx
      have hone : ue.toArray.all (·.oneCell') = true := by
        rw [HU.out]
        exact all_oneCell_toArray (ces_one _ _ (elem_ats HATS.out (j * 3) 3))
      have HCE := Lib.hid hcl
      have HON := Lib.hid hone
      have HSU : Hid ((Tryd.prog.info? 88).map (·.size) = some ue.length) := Lib.hid (by rw [HUE.out]; exact sz_Edge)
      have HSA : Hid ((Tryd.prog.info? 88).map (·.size) = some ue.toArray.size) := Lib.hid (by rw [List.size_toArray, HUE.out]; exact sz_Edge)
      have HZU : Hid (zs.size = ue.toArray.size) := Lib.hid (by rw [HZS.out, List.size_toArray, HUE.out])
      clear hcl hone
      go_upto_region 8 with (first | refine wpList_load_at rfl 88 _ rfl (ad.add (j * 3)) rfl ue _ HCE.out Tryd.underlying88 rfl HSU.out ?_ | refine wpList_store_row rfl 88 _ _ rfl wr.heap.size ue.toArray rfl rfl 88 zs HX5.out HSA.out HZU.out HON.out ?_)
      have hx6 : (w5.setRow wr.heap.size ue.toArray).heap[wr.heap.size]? = some (.cells ue.toArray 88 (0, 0)) := setRow_heap _ _ _ _ _ _ HX5.out
      have hb6 : Below wr.heap.size wr (w5.setRow wr.heap.size ue.toArray) := below_setRow HB5.out (Nat.le_refl _) _
      generalize w5.setRow wr.heap.size ue.toArray = w6 at *
      have HX6 := Lib.hid hx6
      have HB6 := Lib.hid hb6
      have HG6 := Lib.hid (elem_gst (HLI.out.1.keep hb6) hx6 (show wr.heap.size ≠ wb by omega) hszr (by decide) (elem_ats HATS.out (j * 3) 3 |> fun h => by rw [HU.out]; exact h) (by have h := elem_oks n es HOKS.out j hjn; rw [HL0.out] at h; exact h) (HLN.out j))
      clear hx6 hb6 hc0 HCE HON HSU HSA HZU HX5 HB5
      go_wp2_with fail
      refine (HONE.out _ _ _ HG6.out).mono ?_
      rintro e w7 ⟨rfl, hg7⟩
      obtain ⟨hs7, hch7⟩ := hg7.done
      have HS7 := Lib.hid hs7
      obtain ⟨c7, hx7, hz7, _, ho7⟩ := hch7.box _ _ HX6.out (by decide)
      have HOr : Hid (Oth (· = wb) wr w7) := Lib.hid ⟨Nat.le_trans HB6.out.size hch7.oth.1, fun i' o' hi hx ho => by
        have hlt := (Array.getElem?_eq_some_iff.1 hi).1
        exact hch7.oth.2 _ _ ((HB6.out.block i' hlt).trans hi) (fun h => by
          rcases h with h | h
          · exact hx h
          · omega) ho⟩
      have HO7 := Lib.hid (HLI.out.2.1.trans HOr.out)
      have HW7 := Lib.hid (own_oth HLI.out.2.2 HOr.out (fun g hg _ e => by omega) (by decide))
      have hs2r : w2.heap.size ≤ wr.heap.size := HLI.out.2.1.1
      have hsr7 : wr.heap.size ≤ w7.heap.size := HOr.out.1
      have HX7 := Lib.hid hx7
      have HZ7 : Hid (c7.size = 3) := Lib.hid (by rw [hz7, List.size_toArray, HUE.out])
      have HN7 : Hid (c7.all (·.oneCell') = true) := Lib.hid (ho7 (by
        rw [HU.out]
        exact all_oneCell_toArray (ces_one _ _ (elem_ats HATS.out (j * 3) 3))))
      have HSC : Hid ((Tryd.prog.info? 88).map (·.size) = some c7.size) := Lib.hid (by rw [HZ7.out]; exact sz_Edge)
      have hba : Below w7.heap.size w7 (w7.alloc (.cells c7 88)) := (Below.refl _ _).alloc (Nat.le_refl _) _
      have HOA := Lib.hid (HO7.out.trans (Oth.below (X := (· = wb)) hba))
      have HSA7 := Lib.hid (HS7.out.keep hba)
      obtain ⟨ys, hys⟩ := own_oth HW7.out (Oth.below (X := fun _ => False) hba) (fun _ _ _ h => h) (by decide)
      have HYS := Lib.hid hys
      have hsa : w2.heap.size ≤ (w7.alloc (.cells c7 88)).heap.size := HOA.out.1
      have hrd : Rd (w7.alloc (.cells c7 88)) (w7.heap.size + 1) 3 (some ⟨w7.heap.size, 0, none⟩) 1 c7.toList := ⟨by rw [Array.length_toList, HZ7.out], fun _ => ⟨_, rfl, Nat.lt_succ_self _, fun x u hu => by
        have e1 : (⟨w7.heap.size, 0, none⟩ : Addr).add x = ⟨w7.heap.size, x, none⟩ := by rw [Addr.add_mid, Nat.zero_add]
        rw [e1, cell_of_row _ _ _ _ _ _ (heap_alloc_new w7 _)]
        simpa using hu⟩⟩
      have HRN := Lib.hid hrd
      have HNL : Hid (∀ u ∈ c7.toList, u.oneCell' = true) := Lib.hid (fun u hu => Array.all_eq_true_iff_forall_mem.1 HN7.out u (by simpa using hu))
      have hbb := HBY.out (j + 1) (by omega)
      clear hs7 hch7 hx7 hz7 ho7 hrd hys hba
      go_wp2_with (first | refine wpList_load_row rfl 88 _ rfl wr.heap.size rfl 88 c7 (0, 0) _ HX7.out Tryd.underlying88 rfl HSC.out ?_ | refine wpList_build_one rfl 24 88 _ rfl c7 rfl ie _ Tryd.underlying24 HIE.out HIZ.out (by rw [HIS.out, HZ7.out]) (by rw [HZ7.out]; decide) (by rw [HZ7.out]; decide) ?_ | (at_builtin; refine wpList_append_rd _ rfl _ _ 24 rfl w2.heap.size 88 ie (.agg zs) 3 _ Tryd.underlying24 HIE.out HIZ.out HIS.out HIB.out HZS.out (by decide) _ j ys rfl HYS.out _ 1 1 _ c7.toList rfl HRN.out HNL.out (by simp only [maxLen]; omega) (by omega) hsa ?_))
      intro v' w8 hown8 hgrow8
      have HL8 : Hid (Lst W0 w2 wb 88 3 (s ++ tokI n ++ Ce.txts (es.take ((j + 1) * 3))) v' (j + 1) w8) := Lib.hid ⟨by
        rw [txts_step, ← List.append_assoc]
        exact HSA7.out.grown hgrow8 ⟨ys, HYS.out⟩ (by decide) hwl2 hsz2, oth_grown hgrow8 (fun g hg => by
          rcases HYS.out.2 with ⟨e, _⟩ | ⟨g', cap', cur', e, hb', _⟩
          · rw [e] at hg; cases hg
          · rw [e] at hg
            injection hg with hg
            rw [← hg]
            exact hb') wb HOA.out (Nat.le_refl _), _, hown8⟩
      clear hown8 hgrow8
      go_wp2
      go_roundw
      case rel => exact ⟨j + 1, by omega, by first | rfl | go_num, HL8⟩
      case measure => simp [intOf]; omega
    · obtain rfl : j = n := by omega
      have hj1 : ¬ (j : Int) < (j : Int) := by omega
      have hfz : wr.frozen? ⟨blk, o + i, none⟩ = false := frozen_of_row wr blk _ _ _ HOW.out
      have hcw : wr.cell? ⟨blk, o + i, none⟩ = some (.slice A j cap) := by
        rw [cell_of_row wr blk _ _ _ _ HOW.out]
        exact HC0.out
      have HFIN := Lib.hid (HEND.out w2 wr (.slice A' j c') HDR.out (by
        have h := HLI.out
        rw [List.take_of_length_le (by have h1 := Ce.ats_length _ _ HATS.out; rw [← h1, HXL.out]; exact Nat.le_refl _)] at h
        exact h))
      go_wp2
      go_end0
      exact ⟨rfl, HFIN.out⟩

set_option maxRecDepth 100000 in
set_option maxHeartbeats 8000000 in
theorem commands_w {W0 w0 w : World} {wb blk o i : Nat} {S : List UInt8} {q : List Ty} (E : Env W0) (m ab : Nat) (ps : Array Value) (t : TypeId) (fr : Nat × Nat) (h : Gst W0 wb blk o i S (List.replicate m (.l (Tryd.prog.bytesOf 164) [.b, .l (Tryd.prog.bytesOf 9) [.s]]) ++ q) w0 w) (ha : w.heap[ab]? = some (.cells ps t fr)) (ht : t ≠ 5)
    (hps : ∀ j, j < m → ps[j]? = some (.pointer (some ⟨blk, o + i + j, none⟩))) (hw : ab ≠ wb) (hb : ab ≠ blk) (hm : m ≤ 9223372036854775807) :
    Calls Tryd.prog 62 #[.iface 80 (.pointer (some ⟨wb, 0, none⟩)), .slice (some ⟨ab, 0, none⟩) m m] w fun e w' => e = .returned (.tuple #[]) ∧ Gst W0 wb blk o (i + m) S q w0 w' := by
  have HJ : Hid (∀ w', Gst W0 wb blk o (i + m) S q w w' → Gst W0 wb blk o (i + m) S q w0 w') := Lib.hid (fun w' h' => h.join h' (by omega))
  have HG := Lib.hid h.base
  have HA := Lib.hid ha
  have HPS := Lib.hid hps
  have HT : Hid (∀ c fz, (Obj.cells ps t fr) ≠ .cells c 5 fz) := Lib.hid (fun c fz e => ht (by injection e))
  clear h ha hps ht
  go_enter Tryd.func62, Tryd.ntmps62
  go_wp2_with fail
  go_loopw [8] (fun kv wr => ∃ k : Nat, k ≤ m ∧ kv = .int .i64 k ∧ Hid (Gst W0 wb blk o (i + k) S (List.replicate (m - k) (.l (Tryd.prog.bytesOf 164) [.b, .l (Tryd.prog.bytesOf 9) [.s]]) ++ q) w wr)) (fun kv _ => m - (intOf kv).toNat)
  case atStart => exact ⟨0, Nat.zero_le _, rfl, HG⟩
  case round =>
    clear HG
    obtain ⟨k, hk, rfl, HG⟩ := hrel
    by_cases hkm : k < m
    · have hk1 : (k : Int) < (m : Int) := by omega
      have hk0 : (0 : Int) ≤ (k : Int) := by omega
      have v1 : IntKind.i64.wrap ((k : Int) + 1) = ((k + 1 : Nat) : Int) := by rw [IntKind.wrap_i64]; omega
      have hc : wr.cell? ⟨ab, k, none⟩ = some (.pointer (some ⟨blk, o + i + k, none⟩)) := by
        rw [cell_of_row wr ab k _ _ _ (HG.out.oth.2 _ _ HA.out (fun h => by rcases h with h | h; exact hw h; exact hb h) HT.out)]
        exact HPS.out k hkm
      have HG2 : Hid (Gst W0 wb blk o (i + k) S (.l (Tryd.prog.bytesOf 164) [.b, .l (Tryd.prog.bytesOf 9) [.s]] :: (List.replicate (m - (k + 1)) (.l (Tryd.prog.bytesOf 164) [.b, .l (Tryd.prog.bytesOf 9) [.s]]) ++ q)) w wr) := Lib.hid (by
        have h := HG.out
        rw [show m - k = (m - (k + 1)) + 1 by omega, List.replicate_succ] at h
        exact h)
      go_wp2_with fail
      refine (list_Exec E _ HG2.out (by omega)).mono ?_
      rintro e w2 ⟨rfl, h2⟩
      have H2 := Lib.hid h2
      clear h2 hc
      go_wp2
      go_roundw
      case rel => exact ⟨k + 1, by omega, by first | rfl | go_num, H2⟩
      case measure => simp [intOf]; omega
    · obtain rfl : k = m := by omega
      have hk1 : ¬ (k : Int) < (k : Int) := by omega
      have HF : Hid (Gst W0 wb blk o (i + k) S q w0 wr) := Lib.hid (HJ.out wr (by
        have h := HG.out
        rw [Nat.sub_self] at h
        exact h))
      go_wp2
      go_end0
      exact ⟨rfl, HF.out⟩

end Go.Proofs.YtkgkipohalekmaaDoor
