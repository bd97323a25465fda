/-
  A machine in short: the program's walk.
-/
import Derived.Test.YtkgkipohalekmaaDoorBc3
namespace Go.Proofs.YtkgkipohalekmaaDoor
open Go.RowKit Go.Shelf
set_option maxRecDepth 100000 in
theorem qc_len : (qCell).length = 62 := rfl
theorem timeT_len (now round : Int) (h1 : -9223372036854775808 ≤ now) (h2 : now ≤ 9223372036854775807) (h3 : -9223372036854775808 ≤ round) (h4 : round ≤ 9223372036854775807) : (timeT now round).length ≤ 60 := by
  have a1 := itoa_len now h1 h2
  have a2 := itoa_len round h3 h4
  unfold timeT
  simp only [List.length_append, List.length_cons, List.length_nil]
  omega
theorem str_len (t : ByteArray) : t.data.toList.length = t.size := by rw [Array.length_toList]; rfl
theorem lineC_len {w : World} {B : Nat} {e : List Ce} {us : List Value} (ho : Ce.Oks e qCell) (ha : Ce.Ats w B e us) : (lineC e).length ≤ 201 * Ce.bulks e := by
  obtain ⟨name, kind, state, att, res, nw, ns, next, vw, vs, H⟩ := line_is ho ha
  have h1 := lineT_len name.data.toList kind state att res nw ns next H.natt H.nnw H.nns H.nnext
  have h2 := H.nm
  have h3 : 62 ≤ Ce.bulks e := by
    have := Ce.bulks_length e
    have h := Ce.oks_length _ _ ho
    rw [qc_len] at h
    omega
  rw [H.line]
  rw [str_len] at h1
  omega
theorem jobT_len {e : List Ce} (ho : Ce.Oks e [.s, .i, .i, .i]) : (jobT e).length ≤ 201 * Ce.bulks e := by
  match e, ho with
  | .s u :: .i t :: .i st :: .i en :: [], _ =>
    have a1 := typeW_len t
    unfold jobT
    simp only [List.getD_cons_zero, List.getD_cons_succ, Ce.num, Ce.str, Ce.bulks, Ce.bulk]
    have := str_len u
    repeat' split
    all_goals (simp only [List.length_append, List.length_cons, List.length_nil]; omega)
theorem askT_len {e : List Ce} (ho : Ce.Oks e [.i, .s, .i]) : (askT e).length ≤ 201 * Ce.bulks e := by
  match e, ho with
  | .i a :: .s u :: .i t :: [], _ =>
    have a1 := typeW_len t
    unfold askT
    simp only [List.getD_cons_zero, List.getD_cons_succ, Ce.num, Ce.str, Ce.bulks, Ce.bulk]
    have := str_len u
    simp only [List.length_append, List.length_cons, List.length_nil]
    omega
theorem flat_app (a b : ByteArray) : (a ++ b).data.toList = a.data.toList ++ b.data.toList := by
  rw [ByteArray.data_append, Array.toList_append]
set_option maxRecDepth 100000 in
set_option maxHeartbeats 16000000 in
theorem canon_any (cs : List Ce) (vs : Array Value) (w : World) (E : Env w) (ha : Ce.Ats w w.heap.size cs vs.toList) (ho : Ce.Oks cs qMach) (hl : Ce.bulks cs ≤ 2097152) :
    Calls Tryd.prog 9 #[.agg vs] w fun e w' => e = .returned (.string ⟨(canonT cs).toArray⟩) ∧ Below w.heap.size w w' := by
  obtain ⟨now, round, n8, n9, n10, e8, e9, e10, v8, v9, v10, H⟩ := mach_is ho ha
  rw [H.text]
  obtain ⟨A8, c8, k8', xs8, hv8, hcap8, hrd8, hat8⟩ : ∃ A c k xs, v8 = .slice A n8 c ∧ n8 ≤ c ∧ Rd w w.heap.size k A n8 xs ∧ Ce.Ats w w.heap.size e8 xs := by have h := H.a8; unfold Ce.At at h; exact h
  obtain ⟨A9, c9, k9', xs9, hv9, hcap9, hrd9, hat9⟩ : ∃ A c k xs, v9 = .slice A n9 c ∧ n9 ≤ c ∧ Rd w w.heap.size k A n9 xs ∧ Ce.Ats w w.heap.size e9 xs := by have h := H.a9; unfold Ce.At at h; exact h
  obtain ⟨A10, c10, k10', xs10, hv10, hcap10, hrd10, hat10⟩ : ∃ A c k xs, v10 = .slice A n10 c ∧ n10 ≤ c ∧ Rd w w.heap.size k A n10 xs ∧ Ce.Ats w w.heap.size e10 xs := by have h := H.a10; unfold Ce.At at h; exact h
  have hok8 := H.k8
  have hok9 := H.k9
  have hok10 := H.k10
  unfold Ce.Ok at hok8 hok9 hok10
  subst hv8 hv9 hv10
  have hn8 := hok8.1.1
  have hn9 := hok9.1.1
  have hn10 := hok10.1.1
  have HBK := Lib.hid H.bulk
  have hb1 : Below w.heap.size w (w.alloc (.cells vs 34)) := (Below.refl _ _).alloc (Nat.le_refl _) _
  have hx1 := heap_alloc_new w (.cells vs 34)
  have hs1 : (w.alloc (.cells vs 34)).heap.size = w.heap.size + 1 := by simp
  have HL := Lib.hid hl
  obtain ⟨ha1, ha2⟩ := H.rnow
  obtain ⟨hr1, hr2⟩ := H.rround
  have HV : Hid (vs[0]? = some (.int .i64 now) ∧ vs[2]? = some (.int .i64 round) ∧ vs[8]? = some (.slice A8 n8 c8) ∧ vs[9]? = some (.slice A9 n9 c9) ∧ vs[10]? = some (.slice A10 n10 c10)) := Lib.hid (by
    refine ⟨?_, ?_, ?_, ?_, ?_⟩ <;> rw [← Array.getElem?_toList]
    · exact H.c0
    · exact H.c2
    · exact H.c8
    · exact H.c9
    · exact H.c10)
  have HRD8 : Hid (0 < n8 → ∃ ad, A8 = some ad ∧ ad.block < w.heap.size ∧ ∀ j u, xs8[j]? = some u → w.cell? (ad.add j) = some u) := Lib.hid hrd8.2
  have HAT8 := Lib.hid hat8
  have HOK8 := Lib.hid hok8.2
  have HXL8 : Hid (xs8.length = n8 * 62) := Lib.hid (by
    have e1 := Ce.ats_length _ _ hat8
    have e2 := Ce.oks_length _ _ hok8.2
    rw [e1, e2, List.length_flatten]
    simp [qc_len])
  have HRD9 : Hid (0 < n9 → ∃ ad, A9 = some ad ∧ ad.block < w.heap.size ∧ ∀ j u, xs9[j]? = some u → w.cell? (ad.add j) = some u) := Lib.hid hrd9.2
  have HAT9 := Lib.hid hat9
  have HOK9 := Lib.hid hok9.2
  have HXL9 : Hid (xs9.length = n9 * 4) := Lib.hid (by
    have e1 := Ce.ats_length _ _ hat9
    have e2 := Ce.oks_length _ _ hok9.2
    rw [e1, e2, List.length_flatten]
    simp [])
  have HRD10 : Hid (0 < n10 → ∃ ad, A10 = some ad ∧ ad.block < w.heap.size ∧ ∀ j u, xs10[j]? = some u → w.cell? (ad.add j) = some u) := Lib.hid hrd10.2
  have HAT10 := Lib.hid hat10
  have HOK10 := Lib.hid hok10.2
  have HXL10 : Hid (xs10.length = n10 * 3) := Lib.hid (by
    have e1 := Ce.ats_length _ _ hat10
    have e2 := Ce.oks_length _ _ hok10.2
    rw [e1, e2, List.length_flatten]
    simp [])
  obtain ⟨ie8, zs8, _, _, _, _, hzs8, hzr8⟩ := zero_row zr_Cell (by decide)
  have HZ8 := Lib.hid hzr8
  have HZS8 := Lib.hid hzs8
  clear hzs8 hzr8
  obtain ⟨ie9, zs9, _, _, _, _, hzs9, hzr9⟩ := zero_row zr_Job (by decide)
  have HZ9 := Lib.hid hzr9
  have HZS9 := Lib.hid hzs9
  clear hzs9 hzr9
  obtain ⟨ie10, zs10, _, _, _, _, hzs10, hzr10⟩ := zero_row zr_Ask (by decide)
  have HZ10 := Lib.hid hzr10
  have HZS10 := Lib.hid hzs10
  clear hzs10 hzr10
  obtain ⟨S8, hS8⟩ : ∃ S, S = timeT now round := ⟨_, rfl⟩
  obtain ⟨S9, hS9⟩ : ∃ S, S = S8 ++ rowsT 62 lineC e8 n8 := ⟨_, rfl⟩
  obtain ⟨S10, hS10⟩ : ∃ S, S = S9 ++ rowsT 4 jobT e9 n9 := ⟨_, rfl⟩
  have HLN8 : Hid (∀ j, j ≤ n8 → (S8 ++ rowsT 62 lineC e8 j).length ≤ 60 + 201 * Ce.bulks e8) := Lib.hid (fun j hj => by
    have h1 := rowsT_len 62 201 lineC e8 n8 (fun i hi => lineC_len (elem_oks (qE := qCell) n8 e8 HOK8.out i hi) (elem_ats HAT8.out (i * 62) 62)) j hj
    have h2 := timeT_len now round ha1 ha2 hr1 hr2
    rw [← hS8] at h2
    have h3 := bulks_take_drop e8 (j * 62)
    rw [List.length_append]
    omega)
  have HLN9 : Hid (∀ j, j ≤ n9 → (S9 ++ rowsT 4 jobT e9 j).length ≤ 60 + 201 * Ce.bulks e8 + 201 * Ce.bulks e9) := Lib.hid (fun j hj => by
    have h0 := HLN8.out n8 (Nat.le_refl _)
    rw [← hS9] at h0
    have h1 := rowsT_len 4 201 jobT e9 n9 (fun i hi => jobT_len (elem_oks (qE := [.s, .i, .i, .i]) n9 e9 HOK9.out i hi)) j hj
    have h3 := bulks_take_drop e9 (j * 4)
    rw [List.length_append]
    omega)
  have HLN10 : Hid (∀ j, j ≤ n10 → (S10 ++ rowsT 3 askT e10 j).length ≤ 60 + 201 * Ce.bulks e8 + 201 * Ce.bulks e9 + 201 * Ce.bulks e10) := Lib.hid (fun j hj => by
    have h0 := HLN9.out n9 (Nat.le_refl _)
    rw [← hS10] at h0
    have h1 := rowsT_len 3 201 askT e10 n10 (fun i hi => askT_len (elem_oks (qE := [.i, .s, .i]) n10 e10 HOK10.out i hi)) j hj
    have h3 := bulks_take_drop e10 (j * 3)
    rw [List.length_append]
    omega)
  rw [← hS8, ← hS9, ← hS10]
  have HS9 := Lib.hid hS9
  have HS10 := Lib.hid hS10
  clear ha ho hl H hok8 hok9 hok10 hrd8 hrd9 hrd10 hat8 hat9 hat10
  obtain ⟨T1, hT1⟩ : ∃ T : ByteArray, T = ⟨(Lib.itoa now).toArray⟩ := ⟨_, rfl⟩
  obtain ⟨T2, hT2⟩ : ∃ T : ByteArray, T = ⟨(Lib.itoa round).toArray⟩ := ⟨_, rfl⟩
  have HI1 : Hid (∀ W, Below w.heap.size w W → Calls Tryd.prog 23 #[.int .i64 now] W fun e w' => e = .returned (.string T1) ∧ Below W.heap.size W w') := Lib.hid (fun W hW => by rw [hT1]; exact itoa_any now w W ha1 ha2 E hW)
  have HI2 : Hid (∀ W, Below w.heap.size w W → Calls Tryd.prog 23 #[.int .i64 round] W fun e w' => e = .returned (.string T2) ∧ Below W.heap.size W w') := Lib.hid (fun W hW => by rw [hT2]; exact itoa_any round w W hr1 hr2 E hW)
  have z1 : T1.size ≤ 21 := by rw [hT1, by_size]; exact itoa_len _ ha1 ha2
  have z2 : T2.size ≤ 21 := by rw [hT2, by_size]; exact itoa_len _ hr1 hr2
  obtain ⟨R, hR⟩ : ∃ R : ByteArray, R = ⟨#[116, 105, 109, 101, 32]⟩ ++ T1 ++ ⟨#[32, 114, 111, 117, 110, 100, 32]⟩ ++ T2 ++ ⟨#[10]⟩ := ⟨_, rfl⟩
  have HR : Hid (R.data.toList = timeT now round) := Lib.hid (by
    rw [hR, hT1, hT2]
    simp only [flat_app]
    unfold timeT
    rfl)
  have hRs : R.size ≤ 60 := by
    rw [hR]
    simp only [ByteArray.size_append]
    have q1 : (⟨#[116, 105, 109, 101, 32]⟩ : ByteArray).size = 5 := rfl
    have q2 : (⟨#[32, 114, 111, 117, 110, 100, 32]⟩ : ByteArray).size = 7 := rfl
    have q3 : (⟨#[10]⟩ : ByteArray).size = 1 := rfl
    omega
  have HRW : Hid (∀ w1 bb W, CT w w1 bb [] W → Calls Tryd.prog 22 #[.pointer (some ⟨bb, 0, none⟩), .string (⟨#[116, 105, 109, 101, 32]⟩ ++ T1 ++ ⟨#[32, 114, 111, 117, 110, 100, 32]⟩ ++ T2 ++ ⟨#[10]⟩)] W fun e w' => e = .returned (.tuple #[.int .i64 R.size, .nilIface]) ∧ CT w w1 bb S8 w') := Lib.hid (fun w1 bb W hW => by
    rw [← hR]
    have h := hW.write R (by simp; omega)
    rw [HR.out, List.nil_append, ← hS8] at h
    exact h)
  have hz1 : ¬ 9223372036854775807 < 5 + T1.size := by omega
  have hz2 : ¬ 9223372036854775807 < 5 + T1.size + 7 := by omega
  have hz3 : ¬ 9223372036854775807 < 5 + T1.size + 7 + T2.size := by omega
  have hz4 : ¬ 9223372036854775807 < 5 + T1.size + 7 + T2.size + 1 := by omega
  have HRS := Lib.hid hRs
  clear hT1 hT2 hR hRs HR hS8 hS9 hS10
  go_enter Tryd.func9, Tryd.ntmps9
  go_upto_region 1 with fail
  generalize w.alloc (.cells vs 34) = w1 at *
  have HX1 := Lib.hid hx1
  have HB1 := Lib.hid hb1
  have hct : CT w (w1.alloc (.cells #[.pointer none, .slice none 0 0] 64)) w1.heap.size [] (w1.alloc (.cells #[.pointer none, .slice none 0 0] 64)) := ⟨bu_fresh w1 w.heap.size hb1.size, hb1.trans (((Below.refl _ _).alloc (Nat.le_refl _) _).mono hb1.size), Oth.refl _ _⟩
  have hx2 : (w1.alloc (.cells #[.pointer none, .slice none 0 0] 64)).heap[w.heap.size]? = some (.cells vs 34 (0, 0)) := by
    rw [← hx1]
    exact ((Below.refl _ w1).alloc (Nat.le_refl _) _).block w.heap.size (by omega)
  have hne : w.heap.size ≠ w1.heap.size := by omega
  clear hx1 hb1 hs1
  go_upto_region 2 with fail
  generalize w1.alloc (.cells #[.pointer none, .slice none 0 0] 64) = w2 at *
  have HX2 := Lib.hid hx2
  generalize w1.heap.size = bb at *
  have HCT := Lib.hid hct
  have c0 : ∀ W, (∃ s, CT w w2 bb s W) → W.cell? ⟨w.heap.size, 0, none⟩ = some (.int .i64 now) := fun W ⟨_, hW⟩ => hW.cell hx2 hne (by decide) _ _ HV.out.1
  have c2 : ∀ W, (∃ s, CT w w2 bb s W) → W.cell? ⟨w.heap.size, 2, none⟩ = some (.int .i64 round) := fun W ⟨_, hW⟩ => hW.cell hx2 hne (by decide) _ _ HV.out.2.1
  have HNE := Lib.hid hne
  have hqd := hct.drew
  clear hx2 HX1 HB1
  go_region_held3 (fun W => ∃ s, CT w w2 bb s W) (first | assumption | exact ⟨_, by assumption⟩ | exact ⟨_, CT.drew (by assumption)⟩) (first | (go_at_call_of 23 now; refine Calls.mono (HI1.out _ ?_) ?_; (focus exact CT.hb (by assumption)); rintro e wa ⟨rfl, hba⟩; have qa := CT.below (by assumption) hba; clear hba) | (go_at_call_of 23 round; refine Calls.mono (HI2.out _ ?_) ?_; (focus exact CT.hb (by assumption)); rintro e wb ⟨rfl, hbb⟩; have qb := CT.below (by assumption) hbb; clear hbb) | (go_at_call 22; refine Calls.mono (HRW.out w2 bb _ (by assumption)) ?_; rintro e wc ⟨rfl, hcz⟩))
  have HC8 := Lib.hid hcz
  have hc8 : wc.cell? ⟨w.heap.size, 8, none⟩ = some (.slice A8 n8 c8) := hcz.cell HX2.out HNE.out (by decide) _ _ HV.out.2.2.1
  clear hcz c0 c2 hz1 hz2 hz3 hz4 HI1 HI2 HRW z1 z2 HCT hne
  go_wp2_with fail
  go_loopw [25] (fun iv wr => ∃ j : Nat, j ≤ n8 ∧ iv = .int .i64 j ∧ Hid (CT w w2 bb (S8 ++ rowsT 62 lineC e8 j) wr)) (fun iv _ => n8 - (intOf iv).toNat)
  case atStart => exact ⟨0, Nat.zero_le _, rfl, Lib.hid (by have h := HC8.out; rw [show rowsT 62 lineC e8 0 = [] from rfl, List.append_nil]; exact h)⟩
  case round =>
    obtain ⟨j, hj, rfl, HCJ⟩ := hrel
    have hbw : Below w.heap.size w wr := HCJ.out.hb
    have hszr : w.heap.size ≤ wr.heap.size := hbw.size
    have HBW := Lib.hid hbw
    clear hbw
    by_cases hjn : j < n8
    · have hj1 : (j : Int) < (n8 : Int) := by omega
      have hj0 : (0 : Int) ≤ (j : Int) := by omega
      have v1 : IntKind.i64.wrap ((j : Int) + 1) = ((j + 1 : Nat) : Int) := by rw [IntKind.wrap_i64]; omega
      obtain ⟨ad, rfl, hadb, hcell⟩ := HRD8.out (by omega)
      have HCL := Lib.hid hcell
      have hue : ((xs8.drop (j * 62)).take 62).length = 62 := by
        rw [List.length_take, List.length_drop, HXL8.out]
        have : (j + 1) * 62 ≤ n8 * 62 := Nat.mul_le_mul_right _ hjn
        omega
      obtain ⟨ue, hU⟩ : ∃ ue, ue = (xs8.drop (j * 62)).take 62 := ⟨_, rfl⟩
      obtain ⟨ec, hEC⟩ : ∃ ec, ec = (e8.drop (j * 62)).take 62 := ⟨_, rfl⟩
      have hoc : Ce.Oks ec qCell := by rw [hEC]; exact elem_oks (qE := qCell) n8 e8 HOK8.out j hjn
      have hac : Ce.Ats w w.heap.size ec ue := by rw [hEC, hU]; exact elem_ats HAT8.out (j * 62) 62
      have HSTEP : Hid (rowsT 62 lineC e8 (j + 1) = rowsT 62 lineC e8 j ++ lineC ec) := Lib.hid (by rw [hEC]; exact rowsT_step _ _ _ _)
      have HEB : Hid (Ce.bulks ec ≤ Ce.bulks e8) := Lib.hid (by rw [hEC]; have := bulks_elem e8 (j * 62) 62; omega)
      have HU := Lib.hid hU
      have HUE : Hid (ue.length = 62) := Lib.hid (by rw [hU]; exact hue)
      have HOC := Lib.hid hoc
      have HAC := Lib.hid hac
      have HLJ := HLN8.out j hj
      clear hU hue hcell hoc hac hEC
      have hcl : ∀ x u, ue[x]? = some u → wr.cell? ((ad.add (j * 62)).add x) = some u := fun x u hx => by
        rw [HU.out, List.getElem?_take] at hx
        split at hx
        · rw [List.getElem?_drop] at hx
          rw [Go.Deep.add_add]
          have e1 := HCL.out _ _ hx
          rw [← e1]
          exact (HBW.out.cell (p := ad.add (j * 62 + x)) (by rw [add_block]; exact hadb))
        · cases hx
      have HCE := Lib.hid hcl
      have HON : Hid (ue.toArray.all (·.oneCell') = true) := Lib.hid (all_oneCell_toArray (ces_one _ _ HAC.out))
      have HSU : Hid ((Tryd.prog.info? 51).map (·.size) = some ue.length) := Lib.hid (by rw [HUE.out]; exact sz_Cell)
      have HSA : Hid ((Tryd.prog.info? 51).map (·.size) = some ue.toArray.size) := Lib.hid (by rw [List.size_toArray, HUE.out]; exact sz_Cell)
      have HZU : Hid (zs8.size = ue.toArray.size) := Lib.hid (by rw [HZS8.out, List.size_toArray, HUE.out])
      have HX5 : Hid ((wr.alloc (.cells zs8 51)).heap[wr.heap.size]? = some (.cells zs8 51 (0, 0))) := Lib.hid (heap_alloc_new wr _)
      have HB5 : Hid (Below wr.heap.size wr (wr.alloc (.cells zs8 51))) := Lib.hid ((Below.refl _ _).alloc (Nat.le_refl _) _)
      clear hcl
      go_upto_region 6 with (first | refine wpList_load_at rfl 51 _ rfl (ad.add (j * 62)) rfl ue _ HCE.out Tryd.underlying51 rfl HSU.out ?_ | refine wpList_alloc_row rfl 51 rfl zs8 HZ8.out ?_ | refine wpList_store_row rfl 51 _ _ rfl wr.heap.size ue.toArray rfl rfl 51 zs8 HX5.out HSA.out HZU.out HON.out ?_)
      have hx6 : ((wr.alloc (.cells zs8 51)).setRow wr.heap.size ue.toArray).heap[wr.heap.size]? = some (.cells ue.toArray 51 (0, 0)) := setRow_heap _ _ _ _ _ _ HX5.out
      have hb6 : Below wr.heap.size wr ((wr.alloc (.cells zs8 51)).setRow wr.heap.size ue.toArray) := below_setRow HB5.out (Nat.le_refl _) _
      generalize (wr.alloc (.cells zs8 51)).setRow wr.heap.size ue.toArray = w6 at *
      have HX6 := Lib.hid hx6
      have HB6 := Lib.hid hb6
      have HC6 := Lib.hid (HCJ.out.below hb6)
      clear hx6 hb6 HCE HON HSU HZU HX5 HB5
      have HLA := Lib.hid (fun W hW => line_any (cs := ec) (vs := ue.toArray) (w := W) E hW (by simpa using HAC.out) HOC.out (by have h1 := HEB.out; have h2 := HBK.out; have h3 := HL.out; omega))
      go_wp2_with (first | refine wpList_load_row rfl 51 _ rfl wr.heap.size rfl 51 ue.toArray (0, 0) _ HX6.out Tryd.underlying51 rfl HSA.out ?_)
      refine (HLA.out w6 HC6.out.hb).mono ?_
      rintro e w7 ⟨rfl, hb7⟩
      have HC7 := Lib.hid (HC6.out.below hb7)
      obtain ⟨TL, hTL⟩ : ∃ T : ByteArray, T = ⟨(lineC ec).toArray⟩ := ⟨_, rfl⟩
      rw [← hTL]
      have HTL : Hid (TL.data.toList = lineC ec) := Lib.hid (by rw [hTL])
      have HTS : Hid (TL.size ≤ 201 * 2097152) := Lib.hid (by
        have h0 := lineC_len HOC.out HAC.out
        have h1 := HEB.out
        have h2 := HBK.out
        have h3 := HL.out
        rw [hTL, by_size]
        omega)
      have HJL : Hid (j ≤ n8) := Lib.hid hj
      clear hTL hb7 HC6
      go_wp2_with fail
      refine (HC7.out.write TL (by have h0 := HTS.out; have h1 := HLJ; have h2 := HBK.out; have h3 := HL.out; omega)).mono ?_
      rintro e w8 ⟨rfl, h8⟩
      have HN : Hid (CT w w2 bb (S8 ++ rowsT 62 lineC e8 (j + 1)) w8) := Lib.hid (by rw [HSTEP.out, ← List.append_assoc, ← HTL.out]; exact h8)
      clear h8
      go_wp2
      go_roundw
      case rel => exact ⟨j + 1, by omega, by first | rfl | go_num, HN⟩
      case measure => simp [intOf]; omega
    · obtain rfl : n8 = j := by omega
      have hj1 : ¬ (n8 : Int) < (n8 : Int) := by omega
      have HC9 : Hid (CT w w2 bb S9 wr) := Lib.hid (by rw [HS9.out]; exact HCJ.out)
      have hc9 : wr.cell? ⟨w.heap.size, 9, none⟩ = some (.slice A9 n9 c9) := HCJ.out.cell HX2.out HNE.out (by decide) _ _ HV.out.2.2.2.1
      clear HCJ HBW hszr hj1
      obtain ⟨wp8, rfl⟩ : ∃ wp : World, wp = wr := ⟨_, rfl⟩
      go_wp2_with fail
      go_loopw [36] (fun iv wr => ∃ j : Nat, j ≤ n9 ∧ iv = .int .i64 j ∧ Hid (CT w w2 bb (S9 ++ rowsT 4 jobT e9 j) wr)) (fun iv _ => n9 - (intOf iv).toNat)
      case atStart => exact ⟨0, Nat.zero_le _, rfl, Lib.hid (by have h := HC9.out; rw [show rowsT 4 jobT e9 0 = [] from rfl, List.append_nil]; exact h)⟩
      case round =>
        obtain ⟨j, hj, rfl, HCJ⟩ := hrel
        have hbw : Below w.heap.size w wr := HCJ.out.hb
        have hszr : w.heap.size ≤ wr.heap.size := hbw.size
        have HBW := Lib.hid hbw
        clear hbw
        by_cases hjn : j < n9
        · have hj1 : (j : Int) < (n9 : Int) := by omega
          have hj0 : (0 : Int) ≤ (j : Int) := by omega
          have v1 : IntKind.i64.wrap ((j : Int) + 1) = ((j + 1 : Nat) : Int) := by rw [IntKind.wrap_i64]; omega
          obtain ⟨ad, rfl, hadb, hcell⟩ := HRD9.out (by omega)
          have HCL := Lib.hid hcell
          have hue : ((xs9.drop (j * 4)).take 4).length = 4 := by
            rw [List.length_take, List.length_drop, HXL9.out]
            have : (j + 1) * 4 ≤ n9 * 4 := Nat.mul_le_mul_right _ hjn
            omega
          obtain ⟨ue, hU⟩ : ∃ ue, ue = (xs9.drop (j * 4)).take 4 := ⟨_, rfl⟩
          obtain ⟨ec, hEC⟩ : ∃ ec, ec = (e9.drop (j * 4)).take 4 := ⟨_, rfl⟩
          have hoc : Ce.Oks ec [.s, .i, .i, .i] := by rw [hEC]; exact elem_oks (qE := [.s, .i, .i, .i]) n9 e9 HOK9.out j hjn
          have hac : Ce.Ats w w.heap.size ec ue := by rw [hEC, hU]; exact elem_ats HAT9.out (j * 4) 4
          have HSTEP : Hid (rowsT 4 jobT e9 (j + 1) = rowsT 4 jobT e9 j ++ jobT ec) := Lib.hid (by rw [hEC]; exact rowsT_step _ _ _ _)
          have HEB : Hid (Ce.bulks ec ≤ Ce.bulks e9) := Lib.hid (by rw [hEC]; have := bulks_elem e9 (j * 4) 4; omega)
          have HU := Lib.hid hU
          have HUE : Hid (ue.length = 4) := Lib.hid (by rw [hU]; exact hue)
          have HOC := Lib.hid hoc
          have HAC := Lib.hid hac
          have HLJ := HLN9.out j hj
          clear hU hue hcell hoc hac hEC
          have hcl : ∀ x u, ue[x]? = some u → wr.cell? ((ad.add (j * 4)).add x) = some u := fun x u hx => by
            rw [HU.out, List.getElem?_take] at hx
            split at hx
            · rw [List.getElem?_drop] at hx
              rw [Go.Deep.add_add]
              have e1 := HCL.out _ _ hx
              rw [← e1]
              exact (HBW.out.cell (p := ad.add (j * 4 + x)) (by rw [add_block]; exact hadb))
            · cases hx
          have HCE := Lib.hid hcl
          have HON : Hid (ue.toArray.all (·.oneCell') = true) := Lib.hid (all_oneCell_toArray (ces_one _ _ HAC.out))
          have HSU : Hid ((Tryd.prog.info? 71).map (·.size) = some ue.length) := Lib.hid (by rw [HUE.out]; exact sz_Job)
          have HSA : Hid ((Tryd.prog.info? 71).map (·.size) = some ue.toArray.size) := Lib.hid (by rw [List.size_toArray, HUE.out]; exact sz_Job)
          have HZU : Hid (zs9.size = ue.toArray.size) := Lib.hid (by rw [HZS9.out, List.size_toArray, HUE.out])
          have HX5 : Hid ((wr.alloc (.cells zs9 71)).heap[wr.heap.size]? = some (.cells zs9 71 (0, 0))) := Lib.hid (heap_alloc_new wr _)
          have HB5 : Hid (Below wr.heap.size wr (wr.alloc (.cells zs9 71))) := Lib.hid ((Below.refl _ _).alloc (Nat.le_refl _) _)
          clear hcl
          go_upto_region 11 with (first | refine wpList_load_at rfl 71 _ rfl (ad.add (j * 4)) rfl ue _ HCE.out Tryd.underlying71 rfl HSU.out ?_ | refine wpList_alloc_row rfl 71 rfl zs9 HZ9.out ?_ | refine wpList_store_row rfl 71 _ _ rfl wr.heap.size ue.toArray rfl rfl 71 zs9 HX5.out HSA.out HZU.out HON.out ?_)
          have hx6 : ((wr.alloc (.cells zs9 71)).setRow wr.heap.size ue.toArray).heap[wr.heap.size]? = some (.cells ue.toArray 71 (0, 0)) := setRow_heap _ _ _ _ _ _ HX5.out
          have hb6 : Below wr.heap.size wr ((wr.alloc (.cells zs9 71)).setRow wr.heap.size ue.toArray) := below_setRow HB5.out (Nat.le_refl _) _
          generalize (wr.alloc (.cells zs9 71)).setRow wr.heap.size ue.toArray = w6 at *
          have HX6 := Lib.hid hx6
          have HB6 := Lib.hid hb6
          have HC6 := Lib.hid (HCJ.out.below hb6)
          clear hx6 hb6 HCE HON HSU HZU HX5 HB5
          replace HOC := HOC.out
          replace HAC := HAC.out
          obtain ⟨un, rr0, uu0, hx0, hx1, HOC, HAC⟩ := cons_s HOC HAC
          obtain ⟨ty, rr1, uu1, rfl, rfl, HOC, HAC⟩ := cons_i HOC HAC
          obtain ⟨st, rr2, uu2, rfl, rfl, HOC, HAC⟩ := cons_i HOC HAC
          obtain ⟨en, rr3, uu3, rfl, rfl, HOC, HAC⟩ := cons_i HOC HAC
          obtain ⟨rfl, rfl⟩ := cons_nil HOC HAC
          subst hx0 hx1
          clear HOC HAC HSA HUE
          obtain ⟨TY, hTY⟩ : ∃ T : ByteArray, T = ⟨(typeW ty).toArray⟩ := ⟨_, rfl⟩
          have HTY : Hid (∀ W, Calls Tryd.prog 25 #[.int .i64 ty] W fun e w' => e = .returned (.string TY) ∧ Below W.heap.size W w') := Lib.hid (fun W => by rw [hTY]; exact type_any ty W)
          have HTD : Hid (TY.data.toList = typeW ty) := Lib.hid (by rw [hTY])
          have htz : TY.size ≤ 7 := by rw [hTY, by_size]; exact typeW_len _
          have hnm : un.size ≤ 2097152 := by have h1 := HEB.out; have h2 := HBK.out; have h3 := HL.out; simp only [Ce.bulks, Ce.bulk] at h1; omega
          clear hTY
          obtain ⟨Sj, hSj⟩ : ∃ S, S = S9 ++ rowsT 4 jobT e9 j := ⟨_, rfl⟩
          have HSN : Hid (S9 ++ rowsT 4 jobT e9 (j + 1) = Sj ++ jobT ([.s un, .i ty, .i st, .i en])) := Lib.hid (by rw [HSTEP.out, ← List.append_assoc, hSj])
          rw [← hSj] at HLJ HC6
          replace HLJ := Lib.hid HLJ
          have HFIN : Hid (∀ W, CT w w6 bb (Sj ++ jobT ([.s un, .i ty, .i st, .i en])) W → Hid (CT w w2 bb (S9 ++ rowsT 4 jobT e9 (j + 1)) W)) := Lib.hid (fun W hW => Lib.hid (by rw [HSN.out]; exact ⟨hW.bu, hW.hb, HC6.out.ot.trans hW.ot⟩))
          have hq : CT w w6 bb Sj w6 := HC6.out.start
          have hqd := hq.drew
          have hlt : bb < wr.heap.size := HCJ.out.bu.lt
          have hneb : wr.heap.size ≠ bb := by omega
          clear hSj hlt
          have d0 : ∀ W, (∃ s, CT w w6 bb s W) → W.cell? ⟨wr.heap.size, 0, none⟩ = some (.string un) := fun W ⟨_, hW⟩ => hW.cell HX6.out hneb (by decide) 0 _ rfl
          have d1 : ∀ W, (∃ s, CT w w6 bb s W) → W.cell? ⟨wr.heap.size, 1, none⟩ = some (.int .i64 ty) := fun W ⟨_, hW⟩ => hW.cell HX6.out hneb (by decide) 1 _ rfl
          have d2 : w6.cell? ⟨wr.heap.size, 2, none⟩ = some (.int .i64 st) := hq.cell HX6.out hneb (by decide) 2 _ rfl
          by_cases g1 : st = 1
          · subst g1
            have HPT : Hid ((⟨#[106, 111, 98, 32]⟩ ++ un ++ ⟨#[32]⟩ ++ TY ++ ⟨#[32]⟩ ++ ⟨#[119, 97, 105, 116, 115]⟩ ++ ⟨#[10]⟩ : ByteArray).data.toList = jobT [.s un, .i ty, .i 1, .i en]) := Lib.hid (by
              simp only [flat_app, HTD.out]
              rfl)
            have HPS : Hid ((⟨#[106, 111, 98, 32]⟩ ++ un ++ ⟨#[32]⟩ ++ TY ++ ⟨#[32]⟩ ++ ⟨#[119, 97, 105, 116, 115]⟩ ++ ⟨#[10]⟩ : ByteArray).size = 4 + un.size + 1 + TY.size + 1 + 5 + 1) := Lib.hid (by simp only [ByteArray.size_append]; rfl)
            have y1 : ¬ 9223372036854775807 < 4 + un.size := by omega
            have y2 : ¬ 9223372036854775807 < 4 + un.size + 1 := by omega
            have y3 : ¬ 9223372036854775807 < 4 + un.size + 1 + TY.size := by omega
            have y4 : ¬ 9223372036854775807 < 4 + un.size + 1 + TY.size + 1 := by omega
            have y5 : ¬ 9223372036854775807 < 4 + un.size + 1 + TY.size + 1 + 5 := by omega
            have y6 : ¬ 9223372036854775807 < 4 + un.size + 1 + TY.size + 1 + 5 + 1 := by omega
            have HRW : Hid (∀ W, CT w w6 bb Sj W → Calls Tryd.prog 22 #[.pointer (some ⟨bb, 0, none⟩), .string (⟨#[106, 111, 98, 32]⟩ ++ un ++ ⟨#[32]⟩ ++ TY ++ ⟨#[32]⟩ ++ ⟨#[119, 97, 105, 116, 115]⟩ ++ ⟨#[10]⟩)] W fun e w' => e = .returned (.tuple #[.int .i64 (⟨#[106, 111, 98, 32]⟩ ++ un ++ ⟨#[32]⟩ ++ TY ++ ⟨#[32]⟩ ++ ⟨#[119, 97, 105, 116, 115]⟩ ++ ⟨#[10]⟩ : ByteArray).size, .nilIface]) ∧ CT w w6 bb (Sj ++ jobT [.s un, .i ty, .i 1, .i en]) w') := Lib.hid (fun W hW => by
              have h := hW.write (⟨#[106, 111, 98, 32]⟩ ++ un ++ ⟨#[32]⟩ ++ TY ++ ⟨#[32]⟩ ++ ⟨#[119, 97, 105, 116, 115]⟩ ++ ⟨#[10]⟩) (by have h1 := HLJ.out; have h2 := HBK.out; have h3 := HL.out; rw [HPS.out]; omega)
              rw [HPT.out] at h
              exact h)
            obtain ⟨nz, hnz⟩ : ∃ nz, nz = (⟨#[106, 111, 98, 32]⟩ ++ un ++ ⟨#[32]⟩ ++ TY ++ ⟨#[32]⟩ ++ ⟨#[119, 97, 105, 116, 115]⟩ ++ ⟨#[10]⟩ : ByteArray).size := ⟨_, rfl⟩
            rw [← hnz] at HRW
            clear hnz HPS HPT
            go_upto_region 16 with fail
            go_region_held3 (fun W => ∃ s, CT w w6 bb s W) (first | assumption | exact ⟨_, by assumption⟩ | exact ⟨_, CT.drew (by assumption)⟩) (first | (go_at_call 25; refine Calls.mono (HTY.out _) ?_; rintro e wa ⟨rfl, hba⟩; have qa := CT.below (by assumption) hba; clear hba) | (go_at_call 22; refine Calls.mono (HRW.out _ (by assumption)) ?_; rintro e wc ⟨rfl, hcz⟩))
            all_goals
              have HN := HFIN.out _ hcz
              clear hcz
              go_wp2
              go_roundw
              case rel => exact ⟨j + 1, by omega, by first | rfl | go_num, HN⟩
              case measure => simp [intOf]; omega
          by_cases g2 : st = 2
          · subst g2
            have HPT : Hid ((⟨#[106, 111, 98, 32]⟩ ++ un ++ ⟨#[32]⟩ ++ TY ++ ⟨#[32]⟩ ++ ⟨#[114, 117, 110, 115]⟩ ++ ⟨#[10]⟩ : ByteArray).data.toList = jobT [.s un, .i ty, .i 2, .i en]) := Lib.hid (by
              simp only [flat_app, HTD.out]
              rfl)
            have HPS : Hid ((⟨#[106, 111, 98, 32]⟩ ++ un ++ ⟨#[32]⟩ ++ TY ++ ⟨#[32]⟩ ++ ⟨#[114, 117, 110, 115]⟩ ++ ⟨#[10]⟩ : ByteArray).size = 4 + un.size + 1 + TY.size + 1 + 4 + 1) := Lib.hid (by simp only [ByteArray.size_append]; rfl)
            have y1 : ¬ 9223372036854775807 < 4 + un.size := by omega
            have y2 : ¬ 9223372036854775807 < 4 + un.size + 1 := by omega
            have y3 : ¬ 9223372036854775807 < 4 + un.size + 1 + TY.size := by omega
            have y4 : ¬ 9223372036854775807 < 4 + un.size + 1 + TY.size + 1 := by omega
            have y5 : ¬ 9223372036854775807 < 4 + un.size + 1 + TY.size + 1 + 4 := by omega
            have y6 : ¬ 9223372036854775807 < 4 + un.size + 1 + TY.size + 1 + 4 + 1 := by omega
            have HRW : Hid (∀ W, CT w w6 bb Sj W → Calls Tryd.prog 22 #[.pointer (some ⟨bb, 0, none⟩), .string (⟨#[106, 111, 98, 32]⟩ ++ un ++ ⟨#[32]⟩ ++ TY ++ ⟨#[32]⟩ ++ ⟨#[114, 117, 110, 115]⟩ ++ ⟨#[10]⟩)] W fun e w' => e = .returned (.tuple #[.int .i64 (⟨#[106, 111, 98, 32]⟩ ++ un ++ ⟨#[32]⟩ ++ TY ++ ⟨#[32]⟩ ++ ⟨#[114, 117, 110, 115]⟩ ++ ⟨#[10]⟩ : ByteArray).size, .nilIface]) ∧ CT w w6 bb (Sj ++ jobT [.s un, .i ty, .i 2, .i en]) w') := Lib.hid (fun W hW => by
              have h := hW.write (⟨#[106, 111, 98, 32]⟩ ++ un ++ ⟨#[32]⟩ ++ TY ++ ⟨#[32]⟩ ++ ⟨#[114, 117, 110, 115]⟩ ++ ⟨#[10]⟩) (by have h1 := HLJ.out; have h2 := HBK.out; have h3 := HL.out; rw [HPS.out]; omega)
              rw [HPT.out] at h
              exact h)
            obtain ⟨nz, hnz⟩ : ∃ nz, nz = (⟨#[106, 111, 98, 32]⟩ ++ un ++ ⟨#[32]⟩ ++ TY ++ ⟨#[32]⟩ ++ ⟨#[114, 117, 110, 115]⟩ ++ ⟨#[10]⟩ : ByteArray).size := ⟨_, rfl⟩
            rw [← hnz] at HRW
            clear hnz HPS HPT
            go_upto_region 16 with fail
            go_region_held3 (fun W => ∃ s, CT w w6 bb s W) (first | assumption | exact ⟨_, by assumption⟩ | exact ⟨_, CT.drew (by assumption)⟩) (first | (go_at_call 25; refine Calls.mono (HTY.out _) ?_; rintro e wa ⟨rfl, hba⟩; have qa := CT.below (by assumption) hba; clear hba) | (go_at_call 22; refine Calls.mono (HRW.out _ (by assumption)) ?_; rintro e wc ⟨rfl, hcz⟩))
            all_goals
              have HN := HFIN.out _ hcz
              clear hcz
              go_wp2
              go_roundw
              case rel => exact ⟨j + 1, by omega, by first | rfl | go_num, HN⟩
              case measure => simp [intOf]; omega
          have HN : Hid (CT w w2 bb (S9 ++ rowsT 4 jobT e9 (j + 1)) w6) := by
            have h : jobT [.s un, .i ty, .i st, .i en] = [] := by
              unfold jobT
              simp [Ce.num, g1, g2]
            have h2 := HFIN.out w6 (by rw [h, List.append_nil]; exact hq)
            exact h2
          have e1 : (st == 1) = false := by simp [g1]
          have e2 : (st == 2) = false := by simp [g2]
          clear g1 g2 d0 d1
          go_wp2
          go_roundw
          case rel => exact ⟨j + 1, by omega, by first | rfl | go_num, HN⟩
          case measure => simp [intOf]; omega
        · obtain rfl : n9 = j := by omega
          have hj1 : ¬ (n9 : Int) < (n9 : Int) := by omega
          have HC10 : Hid (CT w w2 bb S10 wr) := Lib.hid (by rw [HS10.out]; exact HCJ.out)
          have hc10 : wr.cell? ⟨w.heap.size, 10, none⟩ = some (.slice A10 n10 c10) := HCJ.out.cell HX2.out HNE.out (by decide) _ _ HV.out.2.2.2.2
          clear HCJ HBW hszr hj1
          obtain ⟨wp9, rfl⟩ : ∃ wp : World, wp = wr := ⟨_, rfl⟩
          go_wp2_with fail
          go_loopw [63] (fun iv wr => ∃ j : Nat, j ≤ n10 ∧ iv = .int .i64 j ∧ Hid (CT w w2 bb (S10 ++ rowsT 3 askT e10 j) wr)) (fun iv _ => n10 - (intOf iv).toNat)
          case atStart => exact ⟨0, Nat.zero_le _, rfl, Lib.hid (by have h := HC10.out; rw [show rowsT 3 askT e10 0 = [] from rfl, List.append_nil]; exact h)⟩
          case round =>
            obtain ⟨j, hj, rfl, HCJ⟩ := hrel
            have hbw : Below w.heap.size w wr := HCJ.out.hb
            have hszr : w.heap.size ≤ wr.heap.size := hbw.size
            have HBW := Lib.hid hbw
            clear hbw
            by_cases hjn : j < n10
            · have hj1 : (j : Int) < (n10 : Int) := by omega
              have hj0 : (0 : Int) ≤ (j : Int) := by omega
              have v1 : IntKind.i64.wrap ((j : Int) + 1) = ((j + 1 : Nat) : Int) := by rw [IntKind.wrap_i64]; omega
              obtain ⟨ad, rfl, hadb, hcell⟩ := HRD10.out (by omega)
              have HCL := Lib.hid hcell
              have hue : ((xs10.drop (j * 3)).take 3).length = 3 := by
                rw [List.length_take, List.length_drop, HXL10.out]
                have : (j + 1) * 3 ≤ n10 * 3 := Nat.mul_le_mul_right _ hjn
                omega
              obtain ⟨ue, hU⟩ : ∃ ue, ue = (xs10.drop (j * 3)).take 3 := ⟨_, rfl⟩
              obtain ⟨ec, hEC⟩ : ∃ ec, ec = (e10.drop (j * 3)).take 3 := ⟨_, rfl⟩
              have hoc : Ce.Oks ec [.i, .s, .i] := by rw [hEC]; exact elem_oks (qE := [.i, .s, .i]) n10 e10 HOK10.out j hjn
              have hac : Ce.Ats w w.heap.size ec ue := by rw [hEC, hU]; exact elem_ats HAT10.out (j * 3) 3
              have HSTEP : Hid (rowsT 3 askT e10 (j + 1) = rowsT 3 askT e10 j ++ askT ec) := Lib.hid (by rw [hEC]; exact rowsT_step _ _ _ _)
              have HEB : Hid (Ce.bulks ec ≤ Ce.bulks e10) := Lib.hid (by rw [hEC]; have := bulks_elem e10 (j * 3) 3; omega)
              have HU := Lib.hid hU
              have HUE : Hid (ue.length = 3) := Lib.hid (by rw [hU]; exact hue)
              have HOC := Lib.hid hoc
              have HAC := Lib.hid hac
              have HLJ := HLN10.out j hj
              clear hU hue hcell hoc hac hEC
              have hcl : ∀ x u, ue[x]? = some u → wr.cell? ((ad.add (j * 3)).add x) = some u := fun x u hx => by
                rw [HU.out, List.getElem?_take] at hx
                split at hx
                · rw [List.getElem?_drop] at hx
                  rw [Go.Deep.add_add]
                  have e1 := HCL.out _ _ hx
                  rw [← e1]
                  exact (HBW.out.cell (p := ad.add (j * 3 + x)) (by rw [add_block]; exact hadb))
                · cases hx
              have HCE := Lib.hid hcl
              have HON : Hid (ue.toArray.all (·.oneCell') = true) := Lib.hid (all_oneCell_toArray (ces_one _ _ HAC.out))
              have HSU : Hid ((Tryd.prog.info? 73).map (·.size) = some ue.length) := Lib.hid (by rw [HUE.out]; exact sz_Ask)
              have HSA : Hid ((Tryd.prog.info? 73).map (·.size) = some ue.toArray.size) := Lib.hid (by rw [List.size_toArray, HUE.out]; exact sz_Ask)
              have HZU : Hid (zs10.size = ue.toArray.size) := Lib.hid (by rw [HZS10.out, List.size_toArray, HUE.out])
              have HX5 : Hid ((wr.alloc (.cells zs10 73)).heap[wr.heap.size]? = some (.cells zs10 73 (0, 0))) := Lib.hid (heap_alloc_new wr _)
              have HB5 : Hid (Below wr.heap.size wr (wr.alloc (.cells zs10 73))) := Lib.hid ((Below.refl _ _).alloc (Nat.le_refl _) _)
              clear hcl
              go_upto_region 21 with (first | refine wpList_load_at rfl 73 _ rfl (ad.add (j * 3)) rfl ue _ HCE.out Tryd.underlying73 rfl HSU.out ?_ | refine wpList_alloc_row rfl 73 rfl zs10 HZ10.out ?_ | refine wpList_store_row rfl 73 _ _ rfl wr.heap.size ue.toArray rfl rfl 73 zs10 HX5.out HSA.out HZU.out HON.out ?_)
              have hx6 : ((wr.alloc (.cells zs10 73)).setRow wr.heap.size ue.toArray).heap[wr.heap.size]? = some (.cells ue.toArray 73 (0, 0)) := setRow_heap _ _ _ _ _ _ HX5.out
              have hb6 : Below wr.heap.size wr ((wr.alloc (.cells zs10 73)).setRow wr.heap.size ue.toArray) := below_setRow HB5.out (Nat.le_refl _) _
              generalize (wr.alloc (.cells zs10 73)).setRow wr.heap.size ue.toArray = w6 at *
              have HX6 := Lib.hid hx6
              have HB6 := Lib.hid hb6
              have HC6 := Lib.hid (HCJ.out.below hb6)
              clear hx6 hb6 HCE HON HSU HZU HX5 HB5
              replace HOC := HOC.out
              replace HAC := HAC.out
              obtain ⟨at0, rr0, uu0, hx0, hx1, HOC, HAC⟩ := cons_i HOC HAC
              obtain ⟨un, rr1, uu1, rfl, rfl, HOC, HAC⟩ := cons_s HOC HAC
              obtain ⟨ty, rr2, uu2, rfl, rfl, HOC, HAC⟩ := cons_i HOC HAC
              obtain ⟨rfl, rfl⟩ := cons_nil HOC HAC
              subst hx0 hx1
              clear HOC HAC HSA HUE
              obtain ⟨TY, hTY⟩ : ∃ T : ByteArray, T = ⟨(typeW ty).toArray⟩ := ⟨_, rfl⟩
              have HTY : Hid (∀ W, Calls Tryd.prog 25 #[.int .i64 ty] W fun e w' => e = .returned (.string TY) ∧ Below W.heap.size W w') := Lib.hid (fun W => by rw [hTY]; exact type_any ty W)
              have HTD : Hid (TY.data.toList = typeW ty) := Lib.hid (by rw [hTY])
              have htz : TY.size ≤ 7 := by rw [hTY, by_size]; exact typeW_len _
              have hnm : un.size ≤ 2097152 := by have h1 := HEB.out; have h2 := HBK.out; have h3 := HL.out; simp only [Ce.bulks, Ce.bulk] at h1; omega
              clear hTY
              obtain ⟨Sj, hSj⟩ : ∃ S, S = S10 ++ rowsT 3 askT e10 j := ⟨_, rfl⟩
              have HSN : Hid (S10 ++ rowsT 3 askT e10 (j + 1) = Sj ++ askT ([.i at0, .s un, .i ty])) := Lib.hid (by rw [HSTEP.out, ← List.append_assoc, hSj])
              rw [← hSj] at HLJ HC6
              replace HLJ := Lib.hid HLJ
              have HFIN : Hid (∀ W, CT w w6 bb (Sj ++ askT ([.i at0, .s un, .i ty])) W → Hid (CT w w2 bb (S10 ++ rowsT 3 askT e10 (j + 1)) W)) := Lib.hid (fun W hW => Lib.hid (by rw [HSN.out]; exact ⟨hW.bu, hW.hb, HC6.out.ot.trans hW.ot⟩))
              have hq : CT w w6 bb Sj w6 := HC6.out.start
              have hqd := hq.drew
              have hlt : bb < wr.heap.size := HCJ.out.bu.lt
              have hneb : wr.heap.size ≠ bb := by omega
              clear hSj hlt
              have d0 : ∀ W, (∃ s, CT w w6 bb s W) → W.cell? ⟨wr.heap.size, 1, none⟩ = some (.string un) := fun W ⟨_, hW⟩ => hW.cell HX6.out hneb (by decide) 1 _ rfl
              have d1 : ∀ W, (∃ s, CT w w6 bb s W) → W.cell? ⟨wr.heap.size, 2, none⟩ = some (.int .i64 ty) := fun W ⟨_, hW⟩ => hW.cell HX6.out hneb (by decide) 2 _ rfl
              have HPT : Hid ((⟨#[97, 115, 107, 115, 32]⟩ ++ un ++ ⟨#[32]⟩ ++ TY ++ ⟨#[10]⟩ : ByteArray).data.toList = askT [.i at0, .s un, .i ty]) := Lib.hid (by
                simp only [flat_app, HTD.out]
                rfl)
              have HPS : Hid ((⟨#[97, 115, 107, 115, 32]⟩ ++ un ++ ⟨#[32]⟩ ++ TY ++ ⟨#[10]⟩ : ByteArray).size = 5 + un.size + 1 + TY.size + 1) := Lib.hid (by simp only [ByteArray.size_append]; rfl)
              have y1 : ¬ 9223372036854775807 < 5 + un.size := by omega
              have y2 : ¬ 9223372036854775807 < 5 + un.size + 1 := by omega
              have y3 : ¬ 9223372036854775807 < 5 + un.size + 1 + TY.size := by omega
              have y4 : ¬ 9223372036854775807 < 5 + un.size + 1 + TY.size + 1 := by omega
              have HRW : Hid (∀ W, CT w w6 bb Sj W → Calls Tryd.prog 22 #[.pointer (some ⟨bb, 0, none⟩), .string (⟨#[97, 115, 107, 115, 32]⟩ ++ un ++ ⟨#[32]⟩ ++ TY ++ ⟨#[10]⟩)] W fun e w' => e = .returned (.tuple #[.int .i64 (⟨#[97, 115, 107, 115, 32]⟩ ++ un ++ ⟨#[32]⟩ ++ TY ++ ⟨#[10]⟩ : ByteArray).size, .nilIface]) ∧ CT w w6 bb (Sj ++ askT [.i at0, .s un, .i ty]) w') := Lib.hid (fun W hW => by
                have h := hW.write (⟨#[97, 115, 107, 115, 32]⟩ ++ un ++ ⟨#[32]⟩ ++ TY ++ ⟨#[10]⟩) (by have h1 := HLJ.out; have h2 := HBK.out; have h3 := HL.out; rw [HPS.out]; omega)
                rw [HPT.out] at h
                exact h)
              obtain ⟨nz, hnz⟩ : ∃ nz, nz = (⟨#[97, 115, 107, 115, 32]⟩ ++ un ++ ⟨#[32]⟩ ++ TY ++ ⟨#[10]⟩ : ByteArray).size := ⟨_, rfl⟩
              rw [← hnz] at HRW
              clear hnz HPS HPT
              go_upto_region 21 with fail
              go_region_held3 (fun W => ∃ s, CT w w6 bb s W) (first | assumption | exact ⟨_, by assumption⟩ | exact ⟨_, CT.drew (by assumption)⟩) (first | (go_at_call 25; refine Calls.mono (HTY.out _) ?_; rintro e wa ⟨rfl, hba⟩; have qa := CT.below (by assumption) hba; clear hba) | (go_at_call 22; refine Calls.mono (HRW.out _ (by assumption)) ?_; rintro e wc ⟨rfl, hcz⟩))
              all_goals
                have HN := HFIN.out _ hcz
                clear hcz
                go_wp2
                go_roundw
                case rel => exact ⟨j + 1, by omega, by first | rfl | go_num, HN⟩
                case measure => simp [intOf]; omega
            · obtain rfl : n10 = j := by omega
              have hj1 : ¬ (n10 : Int) < (n10 : Int) := by omega
              have HBF := Lib.hid (bu_string w.heap.size bb (S10 ++ rowsT 3 askT e10 n10) wr HCJ.out.bu hszr)
              have HBZ := Lib.hid HCJ.out.hb
              clear HCJ HBW
              go_wp2_with fail
              refine HBF.out.mono ?_
              rintro e wz ⟨rfl, _, hbz, _⟩
              have HBY := Lib.hid (HBZ.out.trans hbz)
              clear hbz
              go_wp2
              go_ret
              exact ⟨rfl, HBY.out⟩

end Go.Proofs.YtkgkipohalekmaaDoor
