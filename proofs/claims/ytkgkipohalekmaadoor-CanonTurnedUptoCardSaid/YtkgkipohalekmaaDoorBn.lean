/-
  Lists gone over: the writer's walks.
-/
import Derived.Test.YtkgkipohalekmaaDoorBm
import Derived.Laws.CopyOwn
namespace Go.Proofs.YtkgkipohalekmaaDoor
open Go.RowKit Go.Shelf

theorem w_bad (wb : Nat) (w : World) : Calls Tryd.prog 99 #[.pointer (some ⟨wb, 0, none⟩)] w fun e w' => e = .returned (.bool false) ∧ w = w' := by
  go_enter Tryd.func99, Tryd.ntmps99
  go_wp2
  go_ret
  exact ⟨rfl, rfl⟩

theorem add_block (ad : Addr) (k : Nat) : (ad.add k).block = ad.block := by unfold Addr.add; split <;> rfl

theorem zr_Rel : (Tryd.prog.info? 144).map (fun i => match i.zero with | some (.agg zs) => (zs.size, i.size, i.bytes) | _ => (0, 0, 0)) = some (2, 2, Tryd.prog.bytesOf 144) := by kernel_rfl

theorem sz_Rel : (Tryd.prog.info? 144).map (·.size) = some 2 := by kernel_rfl

set_option maxRecDepth 100000 in
set_option maxHeartbeats 16000000 in
theorem list_Rel {W0 w0 w : World} {wb blk o i : Nat} {S : List UInt8} {q : List Ty} (E : Env W0) (p : Nat) (h : Gst W0 wb blk o i S (.l (Tryd.prog.bytesOf 144) [.i, .s] :: q) w0 w) (hp : p = o + i) :
    Calls Tryd.prog 60 #[.iface 80 (.pointer (some ⟨wb, 0, none⟩)), .pointer (some ⟨blk, p, none⟩), .func (.func 61) #[] #[]] w fun e w' => e = .returned (.tuple #[]) ∧ Gst W0 wb blk o (i + 1) S q w0 w' := by
  subst hp
  have HONE : Hid (∀ xb W S', Gst W0 wb xb 0 0 S' [.i, .s] W W → Calls Tryd.prog 61 #[.iface 80 (.pointer (some ⟨wb, 0, none⟩)), .pointer (some ⟨xb, 0, none⟩)] W fun e w' => e = .returned (.tuple #[]) ∧ Gst W0 wb xb 0 2 S' [] W w') := Lib.hid (fun xb W S' hg => relation_w (q := []) E 0 hg rfl)
  have hq : (([.i, .s]) : List Ty).length = 2 := rfl
  obtain ⟨ie, zs, hie, hiz, his, hib, hzs, hzr⟩ := zero_row zr_Rel (by decide)
  have HZ := Lib.hid hzr
  have HIE := Lib.hid hie
  have HIZ := Lib.hid hiz
  have HIS := Lib.hid his
  have HIB := Lib.hid hib
  have HZS := Lib.hid hzs
  clear hie hiz his hib hzs hzr
  obtain ⟨s, cs, vs, h1, h2, h3, h4, h5, h6, h7⟩ := h
  obtain ⟨n, es, r, rfl⟩ : ∃ n es r, cs = .l n es :: r := by
    match cs, h4 with
    | .l n es :: r, _ => exact ⟨n, es, r, rfl⟩
    | .i _ :: _, h4 => unfold Ce.Oks Ce.Ok at h4; exact h4.1.elim
    | .b _ :: _, h4 => unfold Ce.Oks Ce.Ok at h4; exact h4.1.elim
    | .s _ :: _, h4 => unfold Ce.Oks Ce.Ok at h4; exact h4.1.elim
    | [], h4 => unfold Ce.Oks at h4; exact h4.elim
  unfold Ce.Ats at h3
  obtain ⟨v, us, rfl, hv, h3⟩ := h3
  unfold Ce.Oks at h4
  have hok := h4.1
  unfold Ce.Ok at hok
  unfold Ce.At at hv
  obtain ⟨A, cap, k', xs, rfl, hcap, hrd, hats⟩ := hv
  have hn1 := hok.1.1
  have hlen2 := h6
  simp only [Ce.bulks, Ce.bulk] at hlen2
  have HXL : Hid (xs.length = n * 2) := Lib.hid (by
    have e1 := Ce.ats_length _ _ hats
    have e2 := Ce.oks_length _ _ hok.2
    rw [e1, e2, List.length_flatten]
    simp [hq])
  have HRD : Hid (0 < n → ∃ ad, A = some ad ∧ ad.block < W0.heap.size ∧ ∀ j u, xs[j]? = some u → W0.cell? (ad.add j) = some u) := Lib.hid hrd.2
  have HATS := Lib.hid hats
  have HOKS := Lib.hid hok.2
  have HBY : Hid (∀ j, j ≤ n → j * Tryd.prog.bytesOf 144 ≤ 140737488351232) := Lib.hid (fun j hj => Nat.le_trans (Nat.mul_le_mul_right _ hj) hok.1.2)
  have HEND : Hid (∀ wN w' ov, Below w.heap.size w wN → Lst W0 wN wb 144 2 (s ++ tokI n ++ Ce.txts es) ov n w' → Gst W0 wb blk o (i + 1) S q w0 (w'.setCell ⟨blk, o + i, none⟩ ov)) := Lib.hid (fun wN w' ov hN hL => lst_end h2 h3 h4.1 h4.2 h5 h6 h7 hN hL)
  have HLN : Hid (∀ j, (s ++ tokI n ++ Ce.txts (es.take (j * 2))).length + 23 * Ce.bulks ((es.drop (j * 2)).take 2) ≤ 100000000) := Lib.hid (fun j => by
    have e1 := bulks_step es j 2
    have e2 := Ce.txts_len _ _ (oks_take (j * 2) es hok.2)
    have e3 := tokI_len n (by omega) (by omega)
    rw [List.length_append, List.length_append]
    omega)
  have hl0 : s.length ≤ 100000000 := by omega
  have hc := h2.cell 0 rfl
  have hfz := h2.fz (o + i)
  have hbl := h2.lt
  have hne := h2.ne
  have hge := h2.ge
  have hwl := h1.wu.lt
  have hwg : W0.heap.size ≤ wb := by
    have hw := h1.wu
    unfold Wu Lib.IsBuilderF at hw
    rcases hw with hw | hw <;> exact hw.1
  obtain ⟨cells0, t0, hobj, ht0, _⟩ := h2.obj
  have HT0 := Lib.hid ht0
  have HOB : Hid (w.drew.heap[blk]? = some (.cells cells0 t0 (0, 0))) := Lib.hid hobj
  have HC0 : Hid (cells0[o + i]? = some (.slice A n cap)) := Lib.hid (by rw [← cell_of_row w blk _ _ _ _ hobj]; simpa using hc)
  have HS := Lib.hid (h1.keep (Below.drew (Below.refl _ w)))
  have HDR : Hid (Below w.heap.size w w.drew) := Lib.hid (Below.drew (Below.refl _ w))
  have hbl2 : blk < w.drew.heap.size := hbl
  have hwl2 : wb < w.drew.heap.size := hwl
  have hcd : w.drew.cell? ⟨blk, o + i, none⟩ = some (.slice A n cap) := by simpa using hc
  have HL0 := Lib.hid hq
  have hsz2 : W0.heap.size ≤ w.drew.heap.size := by
    have := h1.hb.size
    exact this
  clear hok hats hrd h1 h2 h3 h4 h5 h6 h7 hlen2 hbl hwl hobj ht0 hc hfz hq
  have q1 := na_len
  have q2 := me_len
  have q3 := me_bad
  go_enter Tryd.func60, Tryd.ntmps60
  go_upto_region 0 with fail
  go_still_tail 8, (by kernel_rfl)
  change wpList _ _ _ _ _ w.drew
  generalize w.drew = w2 at *
  go_wp2_with fail
  refine (w_len W0 w2 wb s n E HS.out (by omega) hl0).mono ?_
  rintro e w3 ⟨rfl, hs3, ho3⟩
  have HLI : Hid (Lst W0 w2 wb 144 2 (s ++ tokI n ++ Ce.txts (es.take (0 * 2))) (.slice none 0 0) 0 w3) := Lib.hid ⟨by rw [Nat.zero_mul, List.take_zero, Ce.txts, List.append_nil]; exact hs3, ho3, [], by simp, .inl ⟨rfl, rfl⟩⟩
  clear hs3 ho3 hcd
  go_wp2_with fail
  go_loopw [7, 8] (fun ov iv wr => ∃ j : Nat, j ≤ n ∧ iv = .int .i64 j ∧ Hid (Lst W0 w2 wb 144 2 (s ++ tokI n ++ Ce.txts (es.take (j * 2))) ov j wr)) (fun _ iv _ => n - (intOf iv).toNat)
  case atStart => exact ⟨0, Nat.zero_le _, rfl, HLI⟩
  case round =>
    clear HLI
    obtain ⟨j, hj, rfl, HLI⟩ := hrel
    obtain ⟨A', c', hov⟩ := HLI.out.slice
    subst hov
    have HOW : Hid (wr.heap[blk]? = some (.cells cells0 t0 (0, 0))) := Lib.hid (HLI.out.2.1.2 _ _ HOB.out hne (fun c fz e => HT0.out (by injection e)))
    have hblr : blk < wr.heap.size := Nat.lt_of_lt_of_le hbl2 HLI.out.2.1.1
    have hwlr : wb < wr.heap.size := Nat.lt_of_lt_of_le hwl2 HLI.out.2.1.1
    have hszr : W0.heap.size ≤ wr.heap.size := Nat.le_trans hsz2 HLI.out.2.1.1
    by_cases hjn : j < n
    · have hj1 : (j : Int) < (n : Int) := by omega
      have hj0 : (0 : Int) ≤ (j : Int) := by omega
      have v1 : IntKind.i64.wrap ((j : Int) + 1) = ((j + 1 : Nat) : Int) := by rw [IntKind.wrap_i64]; omega
      obtain ⟨ad, rfl, hadb, hcell⟩ := HRD.out (by omega)
      have HCL := Lib.hid hcell
      have hue : ((xs.drop (j * 2)).take 2).length = 2 := by
        rw [List.length_take, List.length_drop, HXL.out]
        have : (j + 1) * 2 ≤ n * 2 := Nat.mul_le_mul_right _ hjn
        omega
      obtain ⟨ue, hU⟩ : ∃ ue, ue = (xs.drop (j * 2)).take 2 := ⟨_, rfl⟩
      have HU := Lib.hid hU
      have HUE : Hid (ue.length = 2) := Lib.hid (by rw [hU]; exact hue)
      clear hU hue hcell
      go_wp2_with fail
      refine (w_bad wb wr).mono ?_
      rintro e w' ⟨rfl, rfl⟩
      have hx5 := heap_alloc_new wr (.cells zs 144)
      have hb5 : Below wr.heap.size wr (wr.alloc (.cells zs 144)) := (Below.refl _ _).alloc (Nat.le_refl _) _
      go_upto_region 6 with (refine wpList_alloc_row rfl 144 rfl zs HZ.out ?_)
      generalize wr.alloc (.cells zs 144) = w5 at *
      have HX5 := Lib.hid hx5
      have HB5 := Lib.hid hb5
      have hc0 : w5.cell? ⟨blk, o + i, none⟩ = some (.slice (some ad) n cap) := by
        rw [cell_of_row w5 blk _ _ _ _ ((hb5.block blk hblr).trans HOW.out)]
        exact HC0.out
      clear hx5 hb5
      have hcl : ∀ x u, ue[x]? = some u → w5.cell? ((ad.add (j * 2)).add x) = some u := fun x u hx => by
        rw [HU.out, List.getElem?_take] at hx
        split at hx
        · rw [List.getElem?_drop] at hx
          rw [Go.Deep.add_add]
          have e1 := HCL.out _ _ hx
          rw [← e1]
          exact ((HLI.out.1.hb.trans (HB5.out.mono hszr)).cell (p := ad.add (j * 2 + x)) (by rw [add_block]; exact hadb))
        · cases hx
      have hone : ue.toArray.all (·.oneCell') = true := by
        rw [HU.out]
        exact all_oneCell_toArray (ces_one _ _ (elem_ats HATS.out (j * 2) 2))
      have HCE := Lib.hid hcl
      have HON := Lib.hid hone
      have HSU : Hid ((Tryd.prog.info? 144).map (·.size) = some ue.length) := Lib.hid (by rw [HUE.out]; exact sz_Rel)
      have HSA : Hid ((Tryd.prog.info? 144).map (·.size) = some ue.toArray.size) := Lib.hid (by rw [List.size_toArray, HUE.out]; exact sz_Rel)
      have HZU : Hid (zs.size = ue.toArray.size) := Lib.hid (by rw [HZS.out, List.size_toArray, HUE.out])
      clear hcl hone
      go_upto_region 8 with (first | refine wpList_load_at rfl 144 _ rfl (ad.add (j * 2)) rfl ue _ HCE.out Tryd.underlying144 rfl HSU.out ?_ | refine wpList_store_row rfl 144 _ _ rfl wr.heap.size ue.toArray rfl rfl 144 zs HX5.out HSA.out HZU.out HON.out ?_)
      have hx6 : (w5.setRow wr.heap.size ue.toArray).heap[wr.heap.size]? = some (.cells ue.toArray 144 (0, 0)) := setRow_heap _ _ _ _ _ _ HX5.out
      have hb6 : Below wr.heap.size wr (w5.setRow wr.heap.size ue.toArray) := below_setRow HB5.out (Nat.le_refl _) _
      generalize w5.setRow wr.heap.size ue.toArray = w6 at *
      have HX6 := Lib.hid hx6
      have HB6 := Lib.hid hb6
      have HG6 := Lib.hid (elem_gst (HLI.out.1.keep hb6) hx6 (show wr.heap.size ≠ wb by omega) hszr (by decide) (elem_ats HATS.out (j * 2) 2 |> fun h => by rw [HU.out]; exact h) (by have h := elem_oks n es HOKS.out j hjn; rw [HL0.out] at h; exact h) (HLN.out j))
      clear hx6 hb6 hc0 HCE HON HSU HSA HZU HX5 HB5
      go_wp2_with fail
      refine (HONE.out _ _ _ HG6.out).mono ?_
      rintro e w7 ⟨rfl, hg7⟩
      obtain ⟨hs7, hch7⟩ := hg7.done
      have HS7 := Lib.hid hs7
      obtain ⟨c7, hx7, hz7, _, ho7⟩ := hch7.box _ _ HX6.out (by decide)
      have HOr : Hid (Oth (· = wb) wr w7) := Lib.hid ⟨Nat.le_trans HB6.out.size hch7.oth.1, fun i' o' hi hx ho => by
        have hlt := (Array.getElem?_eq_some_iff.1 hi).1
        exact hch7.oth.2 _ _ ((HB6.out.block i' hlt).trans hi) (fun h => by
          rcases h with h | h
          · exact hx h
          · omega) ho⟩
      have HO7 := Lib.hid (HLI.out.2.1.trans HOr.out)
      have HW7 := Lib.hid (own_oth HLI.out.2.2 HOr.out (fun g hg _ e => by omega) (by decide))
      have hs2r : w2.heap.size ≤ wr.heap.size := HLI.out.2.1.1
      have hsr7 : wr.heap.size ≤ w7.heap.size := HOr.out.1
      have HX7 := Lib.hid hx7
      have HZ7 : Hid (c7.size = 2) := Lib.hid (by rw [hz7, List.size_toArray, HUE.out])
      have HN7 : Hid (c7.all (·.oneCell') = true) := Lib.hid (ho7 (by
        rw [HU.out]
        exact all_oneCell_toArray (ces_one _ _ (elem_ats HATS.out (j * 2) 2))))
      have HSC : Hid ((Tryd.prog.info? 144).map (·.size) = some c7.size) := Lib.hid (by rw [HZ7.out]; exact sz_Rel)
      have hba : Below w7.heap.size w7 (w7.alloc (.cells c7 144)) := (Below.refl _ _).alloc (Nat.le_refl _) _
      have HOA := Lib.hid (HO7.out.trans (Oth.below (X := (· = wb)) hba))
      have HSA7 := Lib.hid (HS7.out.keep hba)
      obtain ⟨ys, hys⟩ := own_oth HW7.out (Oth.below (X := fun _ => False) hba) (fun _ _ _ h => h) (by decide)
      have HYS := Lib.hid hys
      have hsa : w2.heap.size ≤ (w7.alloc (.cells c7 144)).heap.size := HOA.out.1
      have hrd : Rd (w7.alloc (.cells c7 144)) (w7.heap.size + 1) 2 (some ⟨w7.heap.size, 0, none⟩) 1 c7.toList := ⟨by rw [Array.length_toList, HZ7.out], fun _ => ⟨_, rfl, Nat.lt_succ_self _, fun x u hu => by
        have e1 : (⟨w7.heap.size, 0, none⟩ : Addr).add x = ⟨w7.heap.size, x, none⟩ := by rw [Addr.add_mid, Nat.zero_add]
        rw [e1, cell_of_row _ _ _ _ _ _ (heap_alloc_new w7 _)]
        simpa using hu⟩⟩
      have HRN := Lib.hid hrd
      have HNL : Hid (∀ u ∈ c7.toList, u.oneCell' = true) := Lib.hid (fun u hu => Array.all_eq_true_iff_forall_mem.1 HN7.out u (by simpa using hu))
      have hbb := HBY.out (j + 1) (by omega)
      clear hs7 hch7 hx7 hz7 ho7 hrd hys hba
      go_wp2_with (first | refine wpList_load_row rfl 144 _ rfl wr.heap.size rfl 144 c7 (0, 0) _ HX7.out Tryd.underlying144 rfl HSC.out ?_ | refine wpList_build_one rfl 42 144 _ rfl c7 rfl ie _ Tryd.underlying42 HIE.out HIZ.out (by rw [HIS.out, HZ7.out]) (by rw [HZ7.out]; decide) (by rw [HZ7.out]; decide) ?_ | (at_builtin; refine wpList_append_rd _ rfl _ _ 42 rfl w2.heap.size 144 ie (.agg zs) 2 _ Tryd.underlying42 HIE.out HIZ.out HIS.out HIB.out HZS.out (by decide) _ j ys rfl HYS.out _ 1 1 _ c7.toList rfl HRN.out HNL.out (by simp only [maxLen]; omega) (by omega) hsa ?_))
      intro v' w8 hown8 hgrow8
      have HL8 : Hid (Lst W0 w2 wb 144 2 (s ++ tokI n ++ Ce.txts (es.take ((j + 1) * 2))) v' (j + 1) w8) := Lib.hid ⟨by
        rw [txts_step, ← List.append_assoc]
        exact HSA7.out.grown hgrow8 ⟨ys, HYS.out⟩ (by decide) hwl2 hsz2, oth_grown hgrow8 (fun g hg => by
          rcases HYS.out.2 with ⟨e, _⟩ | ⟨g', cap', cur', e, hb', _⟩
          · rw [e] at hg; cases hg
          · rw [e] at hg
            injection hg with hg
            rw [← hg]
            exact hb') wb HOA.out (Nat.le_refl _), _, hown8⟩
      clear hown8 hgrow8
      go_wp2
      go_roundw
      case rel => exact ⟨j + 1, by omega, by first | rfl | go_num, HL8⟩
      case measure => simp [intOf]; omega
    · obtain rfl : j = n := by omega
      have hj1 : ¬ (j : Int) < (j : Int) := by omega
      have hfz : wr.frozen? ⟨blk, o + i, none⟩ = false := frozen_of_row wr blk _ _ _ HOW.out
      have hcw : wr.cell? ⟨blk, o + i, none⟩ = some (.slice A j cap) := by
        rw [cell_of_row wr blk _ _ _ _ HOW.out]
        exact HC0.out
      have HFIN := Lib.hid (HEND.out w2 wr (.slice A' j c') HDR.out (by
        have h := HLI.out
        rw [List.take_of_length_le (by have h1 := Ce.ats_length _ _ HATS.out; rw [← h1, HXL.out]; exact Nat.le_refl _)] at h
        exact h))
      go_wp2
      go_end0
      exact ⟨rfl, HFIN.out⟩

set_option maxRecDepth 100000 in
set_option maxHeartbeats 16000000 in
theorem list_int {W0 w0 w : World} {wb blk o i : Nat} {S : List UInt8} {q : List Ty} (E : Env W0) (p : Nat) (h : Gst W0 wb blk o i S (.l (Tryd.prog.bytesOf 3) [.i] :: q) w0 w) (hp : p = o + i) :
    Calls Tryd.prog 73 #[.iface 80 (.pointer (some ⟨wb, 0, none⟩)), .pointer (some ⟨blk, p, none⟩), .func (.methodOf 93 "Int") #[] #[]] w fun e w' => e = .returned (.tuple #[]) ∧ Gst W0 wb blk o (i + 1) S q w0 w' := by
  subst hp
  have HONE : Hid (∀ xb W S', Gst W0 wb xb 0 0 S' [.i] W W → Calls Tryd.prog 101 #[.pointer (some ⟨wb, 0, none⟩), .pointer (some ⟨xb, 0, none⟩)] W fun e w' => e = .returned (.tuple #[]) ∧ Gst W0 wb xb 0 1 S' [] W w') := Lib.hid (fun xb W S' hg => stp_int (q := []) E 0 hg rfl)
  have hq : (([.i]) : List Ty).length = 1 := rfl
  have hinfo : (Tryd.prog.info? 3).map (fun i => (i.zero, i.size, i.bytes)) = some (some (.int .i64 0), 1, Tryd.prog.bytesOf 3) := by kernel_rfl
  obtain ⟨ie, hie, hiz, his, hib⟩ := info_parts hinfo
  have HIE := Lib.hid hie
  have HIZ := Lib.hid hiz
  have HIS := Lib.hid his
  have HIB := Lib.hid hib
  clear hinfo hie hiz his hib
  obtain ⟨s, cs, vs, h1, h2, h3, h4, h5, h6, h7⟩ := h
  obtain ⟨n, es, r, rfl⟩ : ∃ n es r, cs = .l n es :: r := by
    match cs, h4 with
    | .l n es :: r, _ => exact ⟨n, es, r, rfl⟩
    | .i _ :: _, h4 => unfold Ce.Oks Ce.Ok at h4; exact h4.1.elim
    | .b _ :: _, h4 => unfold Ce.Oks Ce.Ok at h4; exact h4.1.elim
    | .s _ :: _, h4 => unfold Ce.Oks Ce.Ok at h4; exact h4.1.elim
    | [], h4 => unfold Ce.Oks at h4; exact h4.elim
  unfold Ce.Ats at h3
  obtain ⟨v, us, rfl, hv, h3⟩ := h3
  unfold Ce.Oks at h4
  have hok := h4.1
  unfold Ce.Ok at hok
  unfold Ce.At at hv
  obtain ⟨A, cap, k', xs, rfl, hcap, hrd, hats⟩ := hv
  have hn1 := hok.1.1
  have hlen2 := h6
  simp only [Ce.bulks, Ce.bulk] at hlen2
  have HXL : Hid (xs.length = n * 1) := Lib.hid (by
    have e1 := Ce.ats_length _ _ hats
    have e2 := Ce.oks_length _ _ hok.2
    rw [e1, e2, List.length_flatten]
    simp [hq])
  have HRD : Hid (0 < n → ∃ ad, A = some ad ∧ ad.block < W0.heap.size ∧ ∀ j u, xs[j]? = some u → W0.cell? (ad.add j) = some u) := Lib.hid hrd.2
  have HATS := Lib.hid hats
  have HOKS := Lib.hid hok.2
  have HBY : Hid (∀ j, j ≤ n → j * Tryd.prog.bytesOf 3 ≤ 140737488351232) := Lib.hid (fun j hj => Nat.le_trans (Nat.mul_le_mul_right _ hj) hok.1.2)
  have HEND : Hid (∀ wN w' ov, Below w.heap.size w wN → Lst W0 wN wb 3 1 (s ++ tokI n ++ Ce.txts es) ov n w' → Gst W0 wb blk o (i + 1) S q w0 (w'.setCell ⟨blk, o + i, none⟩ ov)) := Lib.hid (fun wN w' ov hN hL => lst_end h2 h3 h4.1 h4.2 h5 h6 h7 hN hL)
  have HLN : Hid (∀ j, (s ++ tokI n ++ Ce.txts (es.take (j * 1))).length + 23 * Ce.bulks ((es.drop (j * 1)).take 1) ≤ 100000000) := Lib.hid (fun j => by
    have e1 := bulks_step es j 1
    have e2 := Ce.txts_len _ _ (oks_take (j * 1) es hok.2)
    have e3 := tokI_len n (by omega) (by omega)
    rw [List.length_append, List.length_append]
    omega)
  have hl0 : s.length ≤ 100000000 := by omega
  have hc := h2.cell 0 rfl
  have hfz := h2.fz (o + i)
  have hbl := h2.lt
  have hne := h2.ne
  have hge := h2.ge
  have hwl := h1.wu.lt
  have hwg : W0.heap.size ≤ wb := by
    have hw := h1.wu
    unfold Wu Lib.IsBuilderF at hw
    rcases hw with hw | hw <;> exact hw.1
  obtain ⟨cells0, t0, hobj, ht0, _⟩ := h2.obj
  have HT0 := Lib.hid ht0
  have HOB : Hid (w.drew.heap[blk]? = some (.cells cells0 t0 (0, 0))) := Lib.hid hobj
  have HC0 : Hid (cells0[o + i]? = some (.slice A n cap)) := Lib.hid (by rw [← cell_of_row w blk _ _ _ _ hobj]; simpa using hc)
  have HS := Lib.hid (h1.keep (Below.drew (Below.refl _ w)))
  have HDR : Hid (Below w.heap.size w w.drew) := Lib.hid (Below.drew (Below.refl _ w))
  have hbl2 : blk < w.drew.heap.size := hbl
  have hwl2 : wb < w.drew.heap.size := hwl
  have hcd : w.drew.cell? ⟨blk, o + i, none⟩ = some (.slice A n cap) := by simpa using hc
  have HL0 := Lib.hid hq
  have hsz2 : W0.heap.size ≤ w.drew.heap.size := by
    have := h1.hb.size
    exact this
  clear hok hats hrd h1 h2 h3 h4 h5 h6 h7 hlen2 hbl hwl hobj ht0 hc hfz hq
  have q1 := na_len
  have q2 := me_len
  have q3 := me_bad
  have q4 := me_int
  go_enter Tryd.func73, Tryd.ntmps73
  go_upto_region 0 with fail
  go_still_tail 8, (by kernel_rfl)
  change wpList _ _ _ _ _ w.drew
  generalize w.drew = w2 at *
  go_wp2_with fail
  refine (w_len W0 w2 wb s n E HS.out (by omega) hl0).mono ?_
  rintro e w3 ⟨rfl, hs3, ho3⟩
  have HLI : Hid (Lst W0 w2 wb 3 1 (s ++ tokI n ++ Ce.txts (es.take (0 * 1))) (.slice none 0 0) 0 w3) := Lib.hid ⟨by rw [Nat.zero_mul, List.take_zero, Ce.txts, List.append_nil]; exact hs3, ho3, [], by simp, .inl ⟨rfl, rfl⟩⟩
  clear hs3 ho3 hcd
  go_wp2_with fail
  go_loopw [7, 8] (fun ov iv wr => ∃ j : Nat, j ≤ n ∧ iv = .int .i64 j ∧ Hid (Lst W0 w2 wb 3 1 (s ++ tokI n ++ Ce.txts (es.take (j * 1))) ov j wr)) (fun _ iv _ => n - (intOf iv).toNat)
  case atStart => exact ⟨0, Nat.zero_le _, rfl, HLI⟩
  case round =>
    clear HLI
    obtain ⟨j, hj, rfl, HLI⟩ := hrel
    obtain ⟨A', c', hov⟩ := HLI.out.slice
    subst hov
    have HOW : Hid (wr.heap[blk]? = some (.cells cells0 t0 (0, 0))) := Lib.hid (HLI.out.2.1.2 _ _ HOB.out hne (fun c fz e => HT0.out (by injection e)))
    have hblr : blk < wr.heap.size := Nat.lt_of_lt_of_le hbl2 HLI.out.2.1.1
    have hwlr : wb < wr.heap.size := Nat.lt_of_lt_of_le hwl2 HLI.out.2.1.1
    have hszr : W0.heap.size ≤ wr.heap.size := Nat.le_trans hsz2 HLI.out.2.1.1
    by_cases hjn : j < n
    · have hj1 : (j : Int) < (n : Int) := by omega
      have hj0 : (0 : Int) ≤ (j : Int) := by omega
      have v1 : IntKind.i64.wrap ((j : Int) + 1) = ((j + 1 : Nat) : Int) := by rw [IntKind.wrap_i64]; omega
      obtain ⟨ad, rfl, hadb, hcell⟩ := HRD.out (by omega)
      have HCL := Lib.hid hcell
      have hue : ((xs.drop (j * 1)).take 1).length = 1 := by
        rw [List.length_take, List.length_drop, HXL.out]
        have : (j + 1) * 1 ≤ n * 1 := Nat.mul_le_mul_right _ hjn
        omega
      obtain ⟨ue, hU⟩ : ∃ ue, ue = (xs.drop (j * 1)).take 1 := ⟨_, rfl⟩
      have HU := Lib.hid hU
      have HUE : Hid (ue.length = 1) := Lib.hid (by rw [hU]; exact hue)
      clear hU hue hcell
      obtain ⟨uv, huv⟩ : ∃ uv, ue = [uv] := List.length_eq_one_iff.1 HUE.out
      have HUV := Lib.hid huv
      have hxj : xs[j]? = some uv := by
        have e1 : ue[0]? = some uv := by rw [huv]; rfl
        rw [HU.out, Nat.mul_one, List.getElem?_take] at e1
        simpa using e1
      have hce : (wr.alloc (.cells #[.int .i64 0] 3)).cell? (ad.add j) = some uv := by
        have e1 := HCL.out _ _ hxj
        rw [← e1]
        exact ((HLI.out.1.hb.trans (((Below.refl _ wr).alloc (Nat.le_refl _) _).mono hszr)).cell (p := ad.add j) (by rw [add_block]; exact hadb))
      have huo : uv.oneCell' = true := ces_one _ _ (elem_ats HATS.out (j * 1) 1) uv (by rw [← HU.out, huv]; exact List.mem_singleton_self _)
      have hat := elem_ats HATS.out (j * 1) 1
      rw [← HU.out, huv] at hat
      have hok := elem_oks n es HOKS.out j hjn
      rw [HL0.out] at hok
      obtain ⟨ee, hee⟩ : ∃ ee, ee = (es.drop (j * 1)).take 1 := ⟨_, rfl⟩
      rw [← hee] at hat hok
      obtain ⟨cv, rfl⟩ : ∃ cv, ee = [cv] := List.length_eq_one_iff.1 (Ce.oks_length _ _ hok)
      have HEE := Lib.hid hee
      have hvv : ∃ z, uv = (.int .i64 z) := by
        unfold Ce.Oks at hok
        unfold Ce.Ats at hat
        obtain ⟨v2, q2, e2, a2, _⟩ := hat
        injection e2 with e2 _
        subst e2
        match cv, hok.1, a2 with
        | .i z, _, a2 =>
          unfold Ce.At at a2
          exact ⟨z, a2⟩
        | .b _, h, _ => unfold Ce.Ok at h; exact h.elim
        | .s _, h, _ => unfold Ce.Ok at h; exact h.elim
        | .l _ _, h, _ => unfold Ce.Ok at h; exact h.elim
      obtain ⟨z, rfl⟩ := hvv
      have HAT := Lib.hid hat
      have HOK := Lib.hid hok
      have hc0 : (wr.alloc (.cells #[.int .i64 0] 3)).cell? ⟨blk, o + i, none⟩ = some (.slice (some ad) n cap) := by
        rw [cell_of_row _ blk _ _ _ _ ((((Below.refl _ wr).alloc (Nat.le_refl _) _).block blk hblr).trans HOW.out)]
        exact HC0.out
      have hx6 := heap_alloc_new wr (.cells #[(.int .i64 z)] 3)
      have hb6 : Below wr.heap.size wr (wr.alloc (.cells #[(.int .i64 z)] 3)) := (Below.refl _ _).alloc (Nat.le_refl _) _
      clear huv hxj hee hat hok
      go_wp2_with fail
      refine (w_bad wb wr).mono ?_
      rintro e w' ⟨rfl, rfl⟩
      go_upto_region 8 with fail
      generalize wr.alloc (.cells #[(.int .i64 z)] 3) = w6 at *
      have HX6 := Lib.hid hx6
      have HB6 := Lib.hid hb6
      have hg6 := elem_gst (HLI.out.1.keep hb6) hx6 (show wr.heap.size ≠ wb by omega) hszr (by decide) HAT.out HOK.out (by have h := HLN.out j; rw [← HEE.out] at h; exact h)
      have HG6 := Lib.hid hg6
      clear hx6 hb6 hc0 hce hg6
      go_wp2_with fail
      refine (HONE.out _ _ _ HG6.out).mono ?_
      rintro e w7 ⟨rfl, hg7⟩
      obtain ⟨hs7, hch7⟩ := hg7.done
      have HS7 := Lib.hid hs7
      obtain ⟨c7, hx7, hz7, _, ho7⟩ := hch7.box _ _ HX6.out (by decide)
      have HOr : Hid (Oth (· = wb) wr w7) := Lib.hid ⟨Nat.le_trans HB6.out.size hch7.oth.1, fun i' o' hi hx ho => by
        have hlt := (Array.getElem?_eq_some_iff.1 hi).1
        exact hch7.oth.2 _ _ ((HB6.out.block i' hlt).trans hi) (fun h => by
          rcases h with h | h
          · exact hx h
          · omega) ho⟩
      have HO7 := Lib.hid (HLI.out.2.1.trans HOr.out)
      have HW7 := Lib.hid (own_oth HLI.out.2.2 HOr.out (fun g hg _ e => by omega) (by decide))
      have hs2r : w2.heap.size ≤ wr.heap.size := HLI.out.2.1.1
      have hsr7 : wr.heap.size ≤ w7.heap.size := HOr.out.1
      have HX7 := Lib.hid hx7
      have HZ7 : Hid (c7.size = 1) := Lib.hid hz7
      obtain ⟨u7, rfl⟩ : ∃ u7, c7 = #[u7] := Array.size_eq_one_iff.1 hz7
      have HN7 : Hid ((#[u7] : Array Value).all (·.oneCell') = true) := Lib.hid (ho7 (by simp [Value.oneCell']))
      have HVC : Hid (u7.cells = #[u7]) := Lib.hid (one_cells (by have h := HN7.out; simpa using h))
      have hcx : w7.cell? ⟨wr.heap.size, 0, none⟩ = some u7 := by rw [cell_of_row _ _ _ _ _ _ HX7.out]; rfl
      have hba : Below w7.heap.size w7 (w7.alloc (.cells (#[u7] : Array Value) 3)) := (Below.refl _ _).alloc (Nat.le_refl _) _
      have HOA := Lib.hid (HO7.out.trans (Oth.below (X := (· = wb)) hba))
      have HSA7 := Lib.hid (HS7.out.keep hba)
      obtain ⟨ys, hys⟩ := own_oth HW7.out (Oth.below (X := fun _ => False) hba) (fun _ _ _ h => h) (by decide)
      have HYS := Lib.hid hys
      have hsa : w2.heap.size ≤ (w7.alloc (.cells (#[u7] : Array Value) 3)).heap.size := HOA.out.1
      have hrd : Rd (w7.alloc (.cells (#[u7] : Array Value) 3)) (w7.heap.size + 1) 1 (some ⟨w7.heap.size, 0, none⟩) 1 (#[u7] : Array Value).toList := ⟨by rw [Array.length_toList, HZ7.out], fun _ => ⟨_, rfl, Nat.lt_succ_self _, fun x u hu => by
        have e1 : (⟨w7.heap.size, 0, none⟩ : Addr).add x = ⟨w7.heap.size, x, none⟩ := by rw [Addr.add_mid, Nat.zero_add]
        rw [e1, cell_of_row _ _ _ _ _ _ (heap_alloc_new w7 _)]
        simpa using hu⟩⟩
      have HRN := Lib.hid hrd
      have HNL : Hid (∀ u ∈ (#[u7] : Array Value).toList, u.oneCell' = true) := Lib.hid (fun u hu => Array.all_eq_true_iff_forall_mem.1 HN7.out u (by simpa using hu))
      have hbb := HBY.out (j + 1) (by omega)
      clear hs7 hch7 hx7 hz7 ho7 hrd hys hba
      go_wp2_with (first | refine wpList_build_val rfl 44 3 _ rfl u7 rfl HVC.out ie _ Tryd.underlying44 HIE.out HIZ.out HIS.out ?_ | (at_builtin; refine wpList_append_rd _ rfl _ _ 44 rfl w2.heap.size 3 ie (.int .i64 0) 1 _ Tryd.underlying44 HIE.out HIZ.out HIS.out HIB.out rfl (by decide) _ j ys rfl HYS.out _ 1 1 _ (#[u7] : Array Value).toList rfl HRN.out HNL.out (by simp only [maxLen]; omega) (by omega) hsa ?_))
      intro v' w8 hown8 hgrow8
      have HL8 : Hid (Lst W0 w2 wb 3 1 (s ++ tokI n ++ Ce.txts (es.take ((j + 1) * 1))) v' (j + 1) w8) := Lib.hid ⟨by
        rw [txts_step, ← List.append_assoc, ← HEE.out]
        exact HSA7.out.grown hgrow8 ⟨ys, HYS.out⟩ (by decide) hwl2 hsz2, oth_grown hgrow8 (fun g hg => by
          rcases HYS.out.2 with ⟨e, _⟩ | ⟨g', cap', cur', e, hb', _⟩
          · rw [e] at hg; cases hg
          · rw [e] at hg
            injection hg with hg
            rw [← hg]
            exact hb') wb HOA.out (Nat.le_refl _), _, hown8⟩
      clear hown8 hgrow8
      go_wp2
      go_roundw
      case rel => exact ⟨j + 1, by omega, by first | rfl | go_num, HL8⟩
      case measure => simp [intOf]; omega
    · obtain rfl : j = n := by omega
      have hj1 : ¬ (j : Int) < (j : Int) := by omega
      have hfz : wr.frozen? ⟨blk, o + i, none⟩ = false := frozen_of_row wr blk _ _ _ HOW.out
      have hcw : wr.cell? ⟨blk, o + i, none⟩ = some (.slice A j cap) := by
        rw [cell_of_row wr blk _ _ _ _ HOW.out]
        exact HC0.out
      have HFIN := Lib.hid (HEND.out w2 wr (.slice A' j c') HDR.out (by
        have h := HLI.out
        rw [List.take_of_length_le (by have h1 := Ce.ats_length _ _ HATS.out; rw [← h1, HXL.out]; exact Nat.le_refl _)] at h
        exact h))
      go_wp2
      go_end0
      exact ⟨rfl, HFIN.out⟩

set_option maxRecDepth 100000 in
set_option maxHeartbeats 16000000 in
theorem list_string {W0 w0 w : World} {wb blk o i : Nat} {S : List UInt8} {q : List Ty} (E : Env W0) (p : Nat) (h : Gst W0 wb blk o i S (.l (Tryd.prog.bytesOf 9) [.s] :: q) w0 w) (hp : p = o + i) :
    Calls Tryd.prog 59 #[.iface 80 (.pointer (some ⟨wb, 0, none⟩)), .pointer (some ⟨blk, p, none⟩), .func (.methodOf 93 "Text") #[] #[]] w fun e w' => e = .returned (.tuple #[]) ∧ Gst W0 wb blk o (i + 1) S q w0 w' := by
  subst hp
  have HONE : Hid (∀ xb W S', Gst W0 wb xb 0 0 S' [.s] W W → Calls Tryd.prog 103 #[.pointer (some ⟨wb, 0, none⟩), .pointer (some ⟨xb, 0, none⟩)] W fun e w' => e = .returned (.tuple #[]) ∧ Gst W0 wb xb 0 1 S' [] W w') := Lib.hid (fun xb W S' hg => stp_text (q := []) E 0 hg rfl)
  have hq : (([.s]) : List Ty).length = 1 := rfl
  have hinfo : (Tryd.prog.info? 9).map (fun i => (i.zero, i.size, i.bytes)) = some (some (.string ⟨#[]⟩), 1, Tryd.prog.bytesOf 9) := by kernel_rfl
  obtain ⟨ie, hie, hiz, his, hib⟩ := info_parts hinfo
  have HIE := Lib.hid hie
  have HIZ := Lib.hid hiz
  have HIS := Lib.hid his
  have HIB := Lib.hid hib
  clear hinfo hie hiz his hib
  obtain ⟨s, cs, vs, h1, h2, h3, h4, h5, h6, h7⟩ := h
  obtain ⟨n, es, r, rfl⟩ : ∃ n es r, cs = .l n es :: r := by
    match cs, h4 with
    | .l n es :: r, _ => exact ⟨n, es, r, rfl⟩
    | .i _ :: _, h4 => unfold Ce.Oks Ce.Ok at h4; exact h4.1.elim
    | .b _ :: _, h4 => unfold Ce.Oks Ce.Ok at h4; exact h4.1.elim
    | .s _ :: _, h4 => unfold Ce.Oks Ce.Ok at h4; exact h4.1.elim
    | [], h4 => unfold Ce.Oks at h4; exact h4.elim
  unfold Ce.Ats at h3
  obtain ⟨v, us, rfl, hv, h3⟩ := h3
  unfold Ce.Oks at h4
  have hok := h4.1
  unfold Ce.Ok at hok
  unfold Ce.At at hv
  obtain ⟨A, cap, k', xs, rfl, hcap, hrd, hats⟩ := hv
  have hn1 := hok.1.1
  have hlen2 := h6
  simp only [Ce.bulks, Ce.bulk] at hlen2
  have HXL : Hid (xs.length = n * 1) := Lib.hid (by
    have e1 := Ce.ats_length _ _ hats
    have e2 := Ce.oks_length _ _ hok.2
    rw [e1, e2, List.length_flatten]
    simp [hq])
  have HRD : Hid (0 < n → ∃ ad, A = some ad ∧ ad.block < W0.heap.size ∧ ∀ j u, xs[j]? = some u → W0.cell? (ad.add j) = some u) := Lib.hid hrd.2
  have HATS := Lib.hid hats
  have HOKS := Lib.hid hok.2
  have HBY : Hid (∀ j, j ≤ n → j * Tryd.prog.bytesOf 9 ≤ 140737488351232) := Lib.hid (fun j hj => Nat.le_trans (Nat.mul_le_mul_right _ hj) hok.1.2)
  have HEND : Hid (∀ wN w' ov, Below w.heap.size w wN → Lst W0 wN wb 9 1 (s ++ tokI n ++ Ce.txts es) ov n w' → Gst W0 wb blk o (i + 1) S q w0 (w'.setCell ⟨blk, o + i, none⟩ ov)) := Lib.hid (fun wN w' ov hN hL => lst_end h2 h3 h4.1 h4.2 h5 h6 h7 hN hL)
  have HLN : Hid (∀ j, (s ++ tokI n ++ Ce.txts (es.take (j * 1))).length + 23 * Ce.bulks ((es.drop (j * 1)).take 1) ≤ 100000000) := Lib.hid (fun j => by
    have e1 := bulks_step es j 1
    have e2 := Ce.txts_len _ _ (oks_take (j * 1) es hok.2)
    have e3 := tokI_len n (by omega) (by omega)
    rw [List.length_append, List.length_append]
    omega)
  have hl0 : s.length ≤ 100000000 := by omega
  have hc := h2.cell 0 rfl
  have hfz := h2.fz (o + i)
  have hbl := h2.lt
  have hne := h2.ne
  have hge := h2.ge
  have hwl := h1.wu.lt
  have hwg : W0.heap.size ≤ wb := by
    have hw := h1.wu
    unfold Wu Lib.IsBuilderF at hw
    rcases hw with hw | hw <;> exact hw.1
  obtain ⟨cells0, t0, hobj, ht0, _⟩ := h2.obj
  have HT0 := Lib.hid ht0
  have HOB : Hid (w.drew.heap[blk]? = some (.cells cells0 t0 (0, 0))) := Lib.hid hobj
  have HC0 : Hid (cells0[o + i]? = some (.slice A n cap)) := Lib.hid (by rw [← cell_of_row w blk _ _ _ _ hobj]; simpa using hc)
  have HS := Lib.hid (h1.keep (Below.drew (Below.refl _ w)))
  have HDR : Hid (Below w.heap.size w w.drew) := Lib.hid (Below.drew (Below.refl _ w))
  have hbl2 : blk < w.drew.heap.size := hbl
  have hwl2 : wb < w.drew.heap.size := hwl
  have hcd : w.drew.cell? ⟨blk, o + i, none⟩ = some (.slice A n cap) := by simpa using hc
  have HL0 := Lib.hid hq
  have hsz2 : W0.heap.size ≤ w.drew.heap.size := by
    have := h1.hb.size
    exact this
  clear hok hats hrd h1 h2 h3 h4 h5 h6 h7 hlen2 hbl hwl hobj ht0 hc hfz hq
  have q1 := na_len
  have q2 := me_len
  have q3 := me_bad
  have q4 := me_text
  go_enter Tryd.func59, Tryd.ntmps59
  go_upto_region 0 with fail
  go_still_tail 8, (by kernel_rfl)
  change wpList _ _ _ _ _ w.drew
  generalize w.drew = w2 at *
  go_wp2_with fail
  refine (w_len W0 w2 wb s n E HS.out (by omega) hl0).mono ?_
  rintro e w3 ⟨rfl, hs3, ho3⟩
  have HLI : Hid (Lst W0 w2 wb 9 1 (s ++ tokI n ++ Ce.txts (es.take (0 * 1))) (.slice none 0 0) 0 w3) := Lib.hid ⟨by rw [Nat.zero_mul, List.take_zero, Ce.txts, List.append_nil]; exact hs3, ho3, [], by simp, .inl ⟨rfl, rfl⟩⟩
  clear hs3 ho3 hcd
  go_wp2_with fail
  go_loopw [7, 8] (fun ov iv wr => ∃ j : Nat, j ≤ n ∧ iv = .int .i64 j ∧ Hid (Lst W0 w2 wb 9 1 (s ++ tokI n ++ Ce.txts (es.take (j * 1))) ov j wr)) (fun _ iv _ => n - (intOf iv).toNat)
  case atStart => exact ⟨0, Nat.zero_le _, rfl, HLI⟩
  case round =>
    clear HLI
    obtain ⟨j, hj, rfl, HLI⟩ := hrel
    obtain ⟨A', c', hov⟩ := HLI.out.slice
    subst hov
    have HOW : Hid (wr.heap[blk]? = some (.cells cells0 t0 (0, 0))) := Lib.hid (HLI.out.2.1.2 _ _ HOB.out hne (fun c fz e => HT0.out (by injection e)))
    have hblr : blk < wr.heap.size := Nat.lt_of_lt_of_le hbl2 HLI.out.2.1.1
    have hwlr : wb < wr.heap.size := Nat.lt_of_lt_of_le hwl2 HLI.out.2.1.1
    have hszr : W0.heap.size ≤ wr.heap.size := Nat.le_trans hsz2 HLI.out.2.1.1
    by_cases hjn : j < n
    · have hj1 : (j : Int) < (n : Int) := by omega
      have hj0 : (0 : Int) ≤ (j : Int) := by omega
      have v1 : IntKind.i64.wrap ((j : Int) + 1) = ((j + 1 : Nat) : Int) := by rw [IntKind.wrap_i64]; omega
      obtain ⟨ad, rfl, hadb, hcell⟩ := HRD.out (by omega)
      have HCL := Lib.hid hcell
      have hue : ((xs.drop (j * 1)).take 1).length = 1 := by
        rw [List.length_take, List.length_drop, HXL.out]
        have : (j + 1) * 1 ≤ n * 1 := Nat.mul_le_mul_right _ hjn
        omega
      obtain ⟨ue, hU⟩ : ∃ ue, ue = (xs.drop (j * 1)).take 1 := ⟨_, rfl⟩
      have HU := Lib.hid hU
      have HUE : Hid (ue.length = 1) := Lib.hid (by rw [hU]; exact hue)
      clear hU hue hcell
      obtain ⟨uv, huv⟩ : ∃ uv, ue = [uv] := List.length_eq_one_iff.1 HUE.out
      have HUV := Lib.hid huv
      have hxj : xs[j]? = some uv := by
        have e1 : ue[0]? = some uv := by rw [huv]; rfl
        rw [HU.out, Nat.mul_one, List.getElem?_take] at e1
        simpa using e1
      have hce : (wr.alloc (.cells #[.string ⟨#[]⟩] 9)).cell? (ad.add j) = some uv := by
        have e1 := HCL.out _ _ hxj
        rw [← e1]
        exact ((HLI.out.1.hb.trans (((Below.refl _ wr).alloc (Nat.le_refl _) _).mono hszr)).cell (p := ad.add j) (by rw [add_block]; exact hadb))
      have huo : uv.oneCell' = true := ces_one _ _ (elem_ats HATS.out (j * 1) 1) uv (by rw [← HU.out, huv]; exact List.mem_singleton_self _)
      have hat := elem_ats HATS.out (j * 1) 1
      rw [← HU.out, huv] at hat
      have hok := elem_oks n es HOKS.out j hjn
      rw [HL0.out] at hok
      obtain ⟨ee, hee⟩ : ∃ ee, ee = (es.drop (j * 1)).take 1 := ⟨_, rfl⟩
      rw [← hee] at hat hok
      obtain ⟨cv, rfl⟩ : ∃ cv, ee = [cv] := List.length_eq_one_iff.1 (Ce.oks_length _ _ hok)
      have HEE := Lib.hid hee
      have hvv : ∃ z, uv = (.string z) := by
        unfold Ce.Oks at hok
        unfold Ce.Ats at hat
        obtain ⟨v2, q2, e2, a2, _⟩ := hat
        injection e2 with e2 _
        subst e2
        match cv, hok.1, a2 with
        | .s z, _, a2 =>
          unfold Ce.At at a2
          exact ⟨z, a2⟩
        | .i _, h, _ => unfold Ce.Ok at h; exact h.elim
        | .b _, h, _ => unfold Ce.Ok at h; exact h.elim
        | .l _ _, h, _ => unfold Ce.Ok at h; exact h.elim
      obtain ⟨z, rfl⟩ := hvv
      have HAT := Lib.hid hat
      have HOK := Lib.hid hok
      have hc0 : (wr.alloc (.cells #[.string ⟨#[]⟩] 9)).cell? ⟨blk, o + i, none⟩ = some (.slice (some ad) n cap) := by
        rw [cell_of_row _ blk _ _ _ _ ((((Below.refl _ wr).alloc (Nat.le_refl _) _).block blk hblr).trans HOW.out)]
        exact HC0.out
      have hx6 := heap_alloc_new wr (.cells #[(.string z)] 9)
      have hb6 : Below wr.heap.size wr (wr.alloc (.cells #[(.string z)] 9)) := (Below.refl _ _).alloc (Nat.le_refl _) _
      clear huv hxj hee hat hok
      go_wp2_with fail
      refine (w_bad wb wr).mono ?_
      rintro e w' ⟨rfl, rfl⟩
      go_upto_region 8 with fail
      generalize wr.alloc (.cells #[(.string z)] 9) = w6 at *
      have HX6 := Lib.hid hx6
      have HB6 := Lib.hid hb6
      have hg6 := elem_gst (HLI.out.1.keep hb6) hx6 (show wr.heap.size ≠ wb by omega) hszr (by decide) HAT.out HOK.out (by have h := HLN.out j; rw [← HEE.out] at h; exact h)
      have HG6 := Lib.hid hg6
      clear hx6 hb6 hc0 hce hg6
      go_wp2_with fail
      refine (HONE.out _ _ _ HG6.out).mono ?_
      rintro e w7 ⟨rfl, hg7⟩
      obtain ⟨hs7, hch7⟩ := hg7.done
      have HS7 := Lib.hid hs7
      obtain ⟨c7, hx7, hz7, _, ho7⟩ := hch7.box _ _ HX6.out (by decide)
      have HOr : Hid (Oth (· = wb) wr w7) := Lib.hid ⟨Nat.le_trans HB6.out.size hch7.oth.1, fun i' o' hi hx ho => by
        have hlt := (Array.getElem?_eq_some_iff.1 hi).1
        exact hch7.oth.2 _ _ ((HB6.out.block i' hlt).trans hi) (fun h => by
          rcases h with h | h
          · exact hx h
          · omega) ho⟩
      have HO7 := Lib.hid (HLI.out.2.1.trans HOr.out)
      have HW7 := Lib.hid (own_oth HLI.out.2.2 HOr.out (fun g hg _ e => by omega) (by decide))
      have hs2r : w2.heap.size ≤ wr.heap.size := HLI.out.2.1.1
      have hsr7 : wr.heap.size ≤ w7.heap.size := HOr.out.1
      have HX7 := Lib.hid hx7
      have HZ7 : Hid (c7.size = 1) := Lib.hid hz7
      obtain ⟨u7, rfl⟩ : ∃ u7, c7 = #[u7] := Array.size_eq_one_iff.1 hz7
      have HN7 : Hid ((#[u7] : Array Value).all (·.oneCell') = true) := Lib.hid (ho7 (by simp [Value.oneCell']))
      have HVC : Hid (u7.cells = #[u7]) := Lib.hid (one_cells (by have h := HN7.out; simpa using h))
      have hcx : w7.cell? ⟨wr.heap.size, 0, none⟩ = some u7 := by rw [cell_of_row _ _ _ _ _ _ HX7.out]; rfl
      have hba : Below w7.heap.size w7 (w7.alloc (.cells (#[u7] : Array Value) 9)) := (Below.refl _ _).alloc (Nat.le_refl _) _
      have HOA := Lib.hid (HO7.out.trans (Oth.below (X := (· = wb)) hba))
      have HSA7 := Lib.hid (HS7.out.keep hba)
      obtain ⟨ys, hys⟩ := own_oth HW7.out (Oth.below (X := fun _ => False) hba) (fun _ _ _ h => h) (by decide)
      have HYS := Lib.hid hys
      have hsa : w2.heap.size ≤ (w7.alloc (.cells (#[u7] : Array Value) 9)).heap.size := HOA.out.1
      have hrd : Rd (w7.alloc (.cells (#[u7] : Array Value) 9)) (w7.heap.size + 1) 1 (some ⟨w7.heap.size, 0, none⟩) 1 (#[u7] : Array Value).toList := ⟨by rw [Array.length_toList, HZ7.out], fun _ => ⟨_, rfl, Nat.lt_succ_self _, fun x u hu => by
        have e1 : (⟨w7.heap.size, 0, none⟩ : Addr).add x = ⟨w7.heap.size, x, none⟩ := by rw [Addr.add_mid, Nat.zero_add]
        rw [e1, cell_of_row _ _ _ _ _ _ (heap_alloc_new w7 _)]
        simpa using hu⟩⟩
      have HRN := Lib.hid hrd
      have HNL : Hid (∀ u ∈ (#[u7] : Array Value).toList, u.oneCell' = true) := Lib.hid (fun u hu => Array.all_eq_true_iff_forall_mem.1 HN7.out u (by simpa using hu))
      have hbb := HBY.out (j + 1) (by omega)
      clear hs7 hch7 hx7 hz7 ho7 hrd hys hba
      go_wp2_with (first | refine wpList_build_val rfl 22 9 _ rfl u7 rfl HVC.out ie _ Tryd.underlying22 HIE.out HIZ.out HIS.out ?_ | (at_builtin; refine wpList_append_rd _ rfl _ _ 22 rfl w2.heap.size 9 ie (.string ⟨#[]⟩) 1 _ Tryd.underlying22 HIE.out HIZ.out HIS.out HIB.out rfl (by decide) _ j ys rfl HYS.out _ 1 1 _ (#[u7] : Array Value).toList rfl HRN.out HNL.out (by simp only [maxLen]; omega) (by omega) hsa ?_))
      intro v' w8 hown8 hgrow8
      have HL8 : Hid (Lst W0 w2 wb 9 1 (s ++ tokI n ++ Ce.txts (es.take ((j + 1) * 1))) v' (j + 1) w8) := Lib.hid ⟨by
        rw [txts_step, ← List.append_assoc, ← HEE.out]
        exact HSA7.out.grown hgrow8 ⟨ys, HYS.out⟩ (by decide) hwl2 hsz2, oth_grown hgrow8 (fun g hg => by
          rcases HYS.out.2 with ⟨e, _⟩ | ⟨g', cap', cur', e, hb', _⟩
          · rw [e] at hg; cases hg
          · rw [e] at hg
            injection hg with hg
            rw [← hg]
            exact hb') wb HOA.out (Nat.le_refl _), _, hown8⟩
      clear hown8 hgrow8
      go_wp2
      go_roundw
      case rel => exact ⟨j + 1, by omega, by first | rfl | go_num, HL8⟩
      case measure => simp [intOf]; omega
    · obtain rfl : j = n := by omega
      have hj1 : ¬ (j : Int) < (j : Int) := by omega
      have hfz : wr.frozen? ⟨blk, o + i, none⟩ = false := frozen_of_row wr blk _ _ _ HOW.out
      have hcw : wr.cell? ⟨blk, o + i, none⟩ = some (.slice A j cap) := by
        rw [cell_of_row wr blk _ _ _ _ HOW.out]
        exact HC0.out
      have HFIN := Lib.hid (HEND.out w2 wr (.slice A' j c') HDR.out (by
        have h := HLI.out
        rw [List.take_of_length_le (by have h1 := Ce.ats_length _ _ HATS.out; rw [← h1, HXL.out]; exact Nat.le_refl _)] at h
        exact h))
      go_wp2
      go_end0
      exact ⟨rfl, HFIN.out⟩

end Go.Proofs.YtkgkipohalekmaaDoor
