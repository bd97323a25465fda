/-
  The reference: two lists of units, of cells compared.
-/
import Derived.Test.YtkgkipohalekmaaDoorBk
namespace Go.Proofs.YtkgkipohalekmaaDoor
open Go.RowKit
theorem wpStill_load_at {P : Program} {ops : Array Oper} {rest : List Oper} {o : Oper} {a : Act} {w : World} {Q : Act → Prop} (hgd : o.guard = none) (ty : TypeId) (x : Operand) (ho : o.op = .load ty x)
    (ad : Addr) (hx : a.eval x = .pointer (some ad)) (cs : List Value) (d : TypeDesc) (hc : ∀ j v, cs[j]? = some v → w.cell? (ad.add j) = some v)
    (hu : P.underlying ty = some d) (hd : d.isRow = true) (hi : (P.info? ty).map (·.size) = some cs.length)
    (h : wpStill P ops w Q rest (a.put o.dst (.agg cs.toArray))) : wpStill P ops w Q (o :: rest) a := by
  refine wpStill_step fun K hK => ?_
  have hw : Region.wanted o (yielded ops a.tmps) = true := by
    unfold Region.wanted
    rw [hgd]
  rw [if_pos hw]
  unfold Oper.still execOp
  simp only [ho, hx, Instr.loadAt, Instr.sureAddr, Sem.run_bind, Sem.run_pure, Result.andThen_ok, run_loadVar_at w ad ty cs d hc hu hd hi]
  exact ⟨rfl, hK _ h⟩

set_option maxRecDepth 100000 in
set_option maxHeartbeats 8000000 in
theorem same_units {W0 w : World} {v v' : Value} {n n' nb : Nat} {es es' : List Ce} (hb0 : Below W0.heap.size W0 w) (ha : (Ce.l n es).At W0 W0.heap.size v) (ha' : (Ce.l n' es').At W0 W0.heap.size v') (hk : (Ce.l n es).Ok (.l nb qUnit)) (hk' : (Ce.l n' es').Ok (.l nb qUnit)) :
    Calls Tryd.prog 16 #[v, v'] w fun e w' => SameP (Ce.l n es = Ce.l n' es') e ∧ Below w.heap.size w w' := by
  obtain ⟨A, cp, k1, xs, rfl, _, hr, hat⟩ : ∃ A cp k1 xs, v = .slice A n cp ∧ n ≤ cp ∧ Rd W0 W0.heap.size k1 A n xs ∧ Ce.Ats W0 W0.heap.size es xs := by unfold Ce.At at ha; exact ha
  obtain ⟨A', cp', k2, ys, rfl, _, hr', hat'⟩ : ∃ A cp k1 xs, v' = .slice A n' cp ∧ n' ≤ cp ∧ Rd W0 W0.heap.size k1 A n' xs ∧ Ce.Ats W0 W0.heap.size es' xs := by unfold Ce.At at ha'; exact ha'
  unfold Ce.Ok at hk hk'
  have hn := hk.1.1
  have hn' := hk'.1.1
  have HOK := Lib.hid hk.2
  have HOK' := Lib.hid hk'.2
  have HAT := Lib.hid hat
  have HAT' := Lib.hid hat'
  have HR := Lib.hid hr.2
  have HR' := Lib.hid hr'.2
  have HB0 := Lib.hid hb0
  have hql : (qUnit : List Ty).length = 35 := rfl
  have HQL := Lib.hid hql
  clear ha ha' hk hk' hr hr' hat hat' hb0 hql
  obtain ⟨PP, hPP⟩ : ∃ PP, PP = (Ce.l n es = Ce.l n' es') := ⟨_, rfl⟩
  rw [← hPP]
  have HY : Hid (Ce.l n es = Ce.l n' es' → PP) := Lib.hid (fun h => by rw [hPP]; exact h)
  have HX : Hid (Ce.l n es ≠ Ce.l n' es' → ¬ PP) := Lib.hid (fun h => by rw [hPP]; exact h)
  clear hPP
  by_cases hnn : n = n'
  · subst hnn
    go_enter Tryd.func16, Tryd.ntmps16
    go_wp2_with fail
    go_loopw [13] (fun kv wr => ∃ k : Nat, k ≤ n ∧ kv = .int .i64 k ∧ Hid (es.take (k * 35) = es'.take (k * 35)) ∧ Hid (Below w.heap.size w wr)) (fun kv _ => n - (intOf kv).toNat)
    case atStart => exact ⟨0, Nat.zero_le _, rfl, Lib.hid (by simp), Lib.hid (Below.refl _ _)⟩
    case round =>
      obtain ⟨k, hkn, rfl, HTK, HBW⟩ := hrel
      by_cases hlt : k < n
      · have x1 : (0 : Int) ≤ (k : Int) := by omega
        have x2 : (k : Int) < (n : Int) := by omega
        have v1 : IntKind.i64.wrap ((k : Int) + 1) = ((k + 1 : Nat) : Int) := by rw [IntKind.wrap_i64]; omega
        obtain ⟨ad, rfl, hadb, hc⟩ := HR.out (by omega)
        obtain ⟨ad', rfl, hadb', hc'⟩ := HR'.out (by omega)
        have HBD := Lib.hid HBW.out.drew
        obtain ⟨ee, hee⟩ : ∃ ee, ee = (es.drop (k * 35)).take 35 := ⟨_, rfl⟩
        obtain ⟨ee', hee'⟩ : ∃ ee, ee = (es'.drop (k * 35)).take 35 := ⟨_, rfl⟩
        have ho : Ce.Oks ee qUnit := by rw [hee, ← HQL.out]; exact elem_oks (qE := qUnit) n es HOK.out k hlt
        have ho' : Ce.Oks ee' qUnit := by rw [hee', ← HQL.out]; exact elem_oks (qE := qUnit) n es' HOK'.out k hlt
        obtain ⟨ue, hue⟩ : ∃ ue, ue = (xs.drop (k * 35)).take 35 := ⟨_, rfl⟩
        obtain ⟨ue', hue'⟩ : ∃ ue, ue = (ys.drop (k * 35)).take 35 := ⟨_, rfl⟩
        have hu := elem_ats HAT.out (k * 35) 35
        have hu' := elem_ats HAT'.out (k * 35) 35
        rw [← hee, ← hue] at hu
        rw [← hee', ← hue'] at hu'
        have HS : Hid (es.take ((k + 1) * 35) = es'.take ((k + 1) * 35) ↔ ee = ee') := Lib.hid (by
          rw [take_step, take_step, HTK.out, ← hee, ← hee', List.append_cancel_left_eq])
        have HNE : Hid ((es.take ((k + 1) * 35) ≠ es'.take ((k + 1) * 35)) → Ce.l n es ≠ Ce.l n es') := Lib.hid (fun h e => h (by injection e with _ e; rw [e]))
        have HS1 : Hid ((Tryd.prog.info? 47).map (·.size) = some ue.length) := Lib.hid (by rw [(Ce.ats_length _ _ hu).trans ((Ce.oks_length _ _ ho).trans HQL.out)]; kernel_rfl)
        have HS2 : Hid ((Tryd.prog.info? 47).map (·.size) = some ue'.length) := Lib.hid (by rw [(Ce.ats_length _ _ hu').trans ((Ce.oks_length _ _ ho').trans HQL.out)]; kernel_rfl)
        have HONE : Hid (∀ W, Below W0.heap.size W0 W → Calls Tryd.prog 29 #[.agg ue.toArray, .agg ue'.toArray] W fun e w' => SameP (ee = ee') e ∧ Below W.heap.size W w') := Lib.hid (fun W hW => same_unit hW hu hu' ho ho')
        have HC1 : Hid (∀ W, Below W0.heap.size W0 W → ∀ j u, ue[j]? = some u → W.cell? ((ad.add (k * 35)).add j) = some u) := Lib.hid (fun W hW j u hj => by
          rw [hue, List.getElem?_take] at hj
          split at hj
          · rw [List.getElem?_drop] at hj
            rw [Go.Deep.add_add]
            exact (hW.cell (p := ad.add (k * 35 + j)) (by rw [add_block]; exact hadb)).trans (hc _ _ hj)
          · cases hj)
        have HC2 : Hid (∀ W, Below W0.heap.size W0 W → ∀ j u, ue'[j]? = some u → W.cell? ((ad'.add (k * 35)).add j) = some u) := Lib.hid (fun W hW j u hj => by
          rw [hue', List.getElem?_take] at hj
          split at hj
          · rw [List.getElem?_drop] at hj
            rw [Go.Deep.add_add]
            exact (hW.cell (p := ad'.add (k * 35 + j)) (by rw [add_block]; exact hadb')).trans (hc' _ _ hj)
          · cases hj)
        clear hc hc' hee hee' ho ho' hu hu' hue hue'
        go_upto_region 6 with fail
        refine wp_region_still_tail 8 (by kernel_rfl) (by kernel_rfl) ?_
        change wpStill _ _ wr.drew (fun a' => wpList _ _ _ _ a' wr.drew) _ _
        generalize wr.drew = w5 at *
        simp only [List.take_succ_cons, List.take_zero, List.drop_succ_cons, List.drop_zero]
        have HB5 := Lib.hid (HB0.out.trans (HBD.out.mono HB0.out.size))
        have HD1 := Lib.hid (HC1.out w5 HB5.out)
        have HD2 := Lib.hid (HC2.out w5 HB5.out)
        iterate 3 still_step
        refine wpStill_load_at rfl 47 _ rfl (ad.add (k * 35)) rfl ue _ HD1.out Tryd.underlying47 rfl HS1.out ?_
        iterate 3 still_step
        refine wpStill_load_at rfl 47 _ rfl (ad'.add (k * 35)) rfl ue' _ HD2.out Tryd.underlying47 rfl HS2.out ?_
        refine wpStill_nil ?_
        go_wp2_with fail
        refine (HONE.out w5 HB5.out).mono ?_
        rintro e w6 ⟨⟨b, rfl, hb⟩, hb6⟩
        have HB6 := Lib.hid (HBD.out.trans (hb6.mono HBD.out.size))
        cases b with
        | true =>
          have HT := Lib.hid (HS.out.2 (hb.1 rfl))
          clear hb hb6
          go_wp2
          go_roundw
          case rel => exact ⟨k + 1, by omega, by first | rfl | go_num, HT, HB6⟩
          case measure => first | (simp [intOf]; done) | (simp [intOf]; omega)
        | false =>
          have HT := Lib.hid (HNE.out (fun h => absurd (hb.2 (HS.out.1 h)) (by decide)))
          clear hb hb6
          go_wp2
          go_ret
          exact ⟨SameP.no (HX.out HT.out), HB6.out⟩
      · obtain rfl : k = n := by omega
        have x1 : ¬ (k : Int) < (k : Int) := by omega
        have HEQ : Hid (Ce.l k es = Ce.l k es') := Lib.hid (by
          have h1 := Ce.oks_length _ _ HOK.out
          have h2 := Ce.oks_length _ _ HOK'.out
          have h3 : (List.replicate k (qUnit : List Ty)).flatten.length = k * 35 := by simp [HQL.out]
          have h4 := HTK.out
          rw [List.take_of_length_le (by omega), List.take_of_length_le (by omega)] at h4
          rw [h4])
        go_wp2
        go_ret
        exact ⟨SameP.yes (HY.out HEQ.out), HBW.out⟩
  · have hz : ((n : Int) != (n' : Int)) = true := by
      rw [bne_iff_ne]
      omega
    have HNE : Hid (Ce.l n es ≠ Ce.l n' es') := Lib.hid (fun e => hnn (by injection e))
    have HBR : Hid (Below w.heap.size w w) := Lib.hid (Below.refl _ _)
    go_enter Tryd.func16, Tryd.ntmps16
    go_wp2
    go_ret
    exact ⟨SameP.no (HX.out HNE.out), HBR.out⟩

set_option maxRecDepth 100000 in
set_option maxHeartbeats 8000000 in
theorem same_cells {W0 w : World} {v v' : Value} {n n' nb : Nat} {es es' : List Ce} (hb0 : Below W0.heap.size W0 w) (ha : (Ce.l n es).At W0 W0.heap.size v) (ha' : (Ce.l n' es').At W0 W0.heap.size v') (hk : (Ce.l n es).Ok (.l nb qCell)) (hk' : (Ce.l n' es').Ok (.l nb qCell)) :
    Calls Tryd.prog 17 #[v, v'] w fun e w' => SameP (Ce.l n es = Ce.l n' es') e ∧ Below w.heap.size w w' := by
  obtain ⟨A, cp, k1, xs, rfl, _, hr, hat⟩ : ∃ A cp k1 xs, v = .slice A n cp ∧ n ≤ cp ∧ Rd W0 W0.heap.size k1 A n xs ∧ Ce.Ats W0 W0.heap.size es xs := by unfold Ce.At at ha; exact ha
  obtain ⟨A', cp', k2, ys, rfl, _, hr', hat'⟩ : ∃ A cp k1 xs, v' = .slice A n' cp ∧ n' ≤ cp ∧ Rd W0 W0.heap.size k1 A n' xs ∧ Ce.Ats W0 W0.heap.size es' xs := by unfold Ce.At at ha'; exact ha'
  unfold Ce.Ok at hk hk'
  have hn := hk.1.1
  have hn' := hk'.1.1
  have HOK := Lib.hid hk.2
  have HOK' := Lib.hid hk'.2
  have HAT := Lib.hid hat
  have HAT' := Lib.hid hat'
  have HR := Lib.hid hr.2
  have HR' := Lib.hid hr'.2
  have HB0 := Lib.hid hb0
  have hql : (qCell : List Ty).length = 62 := rfl
  have HQL := Lib.hid hql
  clear ha ha' hk hk' hr hr' hat hat' hb0 hql
  obtain ⟨PP, hPP⟩ : ∃ PP, PP = (Ce.l n es = Ce.l n' es') := ⟨_, rfl⟩
  rw [← hPP]
  have HY : Hid (Ce.l n es = Ce.l n' es' → PP) := Lib.hid (fun h => by rw [hPP]; exact h)
  have HX : Hid (Ce.l n es ≠ Ce.l n' es' → ¬ PP) := Lib.hid (fun h => by rw [hPP]; exact h)
  clear hPP
  by_cases hnn : n = n'
  · subst hnn
    go_enter Tryd.func17, Tryd.ntmps17
    go_wp2_with fail
    go_loopw [13] (fun kv wr => ∃ k : Nat, k ≤ n ∧ kv = .int .i64 k ∧ Hid (es.take (k * 62) = es'.take (k * 62)) ∧ Hid (Below w.heap.size w wr)) (fun kv _ => n - (intOf kv).toNat)
    case atStart => exact ⟨0, Nat.zero_le _, rfl, Lib.hid (by simp), Lib.hid (Below.refl _ _)⟩
    case round =>
      obtain ⟨k, hkn, rfl, HTK, HBW⟩ := hrel
      by_cases hlt : k < n
      · have x1 : (0 : Int) ≤ (k : Int) := by omega
        have x2 : (k : Int) < (n : Int) := by omega
        have v1 : IntKind.i64.wrap ((k : Int) + 1) = ((k + 1 : Nat) : Int) := by rw [IntKind.wrap_i64]; omega
        obtain ⟨ad, rfl, hadb, hc⟩ := HR.out (by omega)
        obtain ⟨ad', rfl, hadb', hc'⟩ := HR'.out (by omega)
        have HBD := Lib.hid HBW.out.drew
        obtain ⟨ee, hee⟩ : ∃ ee, ee = (es.drop (k * 62)).take 62 := ⟨_, rfl⟩
        obtain ⟨ee', hee'⟩ : ∃ ee, ee = (es'.drop (k * 62)).take 62 := ⟨_, rfl⟩
        have ho : Ce.Oks ee qCell := by rw [hee, ← HQL.out]; exact elem_oks (qE := qCell) n es HOK.out k hlt
        have ho' : Ce.Oks ee' qCell := by rw [hee', ← HQL.out]; exact elem_oks (qE := qCell) n es' HOK'.out k hlt
        obtain ⟨ue, hue⟩ : ∃ ue, ue = (xs.drop (k * 62)).take 62 := ⟨_, rfl⟩
        obtain ⟨ue', hue'⟩ : ∃ ue, ue = (ys.drop (k * 62)).take 62 := ⟨_, rfl⟩
        have hu := elem_ats HAT.out (k * 62) 62
        have hu' := elem_ats HAT'.out (k * 62) 62
        rw [← hee, ← hue] at hu
        rw [← hee', ← hue'] at hu'
        have HS : Hid (es.take ((k + 1) * 62) = es'.take ((k + 1) * 62) ↔ ee = ee') := Lib.hid (by
          rw [take_step, take_step, HTK.out, ← hee, ← hee', List.append_cancel_left_eq])
        have HNE : Hid ((es.take ((k + 1) * 62) ≠ es'.take ((k + 1) * 62)) → Ce.l n es ≠ Ce.l n es') := Lib.hid (fun h e => h (by injection e with _ e; rw [e]))
        have HS1 : Hid ((Tryd.prog.info? 51).map (·.size) = some ue.length) := Lib.hid (by rw [(Ce.ats_length _ _ hu).trans ((Ce.oks_length _ _ ho).trans HQL.out)]; kernel_rfl)
        have HS2 : Hid ((Tryd.prog.info? 51).map (·.size) = some ue'.length) := Lib.hid (by rw [(Ce.ats_length _ _ hu').trans ((Ce.oks_length _ _ ho').trans HQL.out)]; kernel_rfl)
        have HONE : Hid (∀ W, Below W0.heap.size W0 W → Calls Tryd.prog 30 #[.agg ue.toArray, .agg ue'.toArray] W fun e w' => SameP (ee = ee') e ∧ Below W.heap.size W w') := Lib.hid (fun W hW => same_cell hW hu hu' ho ho')
        have HC1 : Hid (∀ W, Below W0.heap.size W0 W → ∀ j u, ue[j]? = some u → W.cell? ((ad.add (k * 62)).add j) = some u) := Lib.hid (fun W hW j u hj => by
          rw [hue, List.getElem?_take] at hj
          split at hj
          · rw [List.getElem?_drop] at hj
            rw [Go.Deep.add_add]
            exact (hW.cell (p := ad.add (k * 62 + j)) (by rw [add_block]; exact hadb)).trans (hc _ _ hj)
          · cases hj)
        have HC2 : Hid (∀ W, Below W0.heap.size W0 W → ∀ j u, ue'[j]? = some u → W.cell? ((ad'.add (k * 62)).add j) = some u) := Lib.hid (fun W hW j u hj => by
          rw [hue', List.getElem?_take] at hj
          split at hj
          · rw [List.getElem?_drop] at hj
            rw [Go.Deep.add_add]
            exact (hW.cell (p := ad'.add (k * 62 + j)) (by rw [add_block]; exact hadb')).trans (hc' _ _ hj)
          · cases hj)
        clear hc hc' hee hee' ho ho' hu hu' hue hue'
        go_upto_region 6 with fail
        refine wp_region_still_tail 8 (by kernel_rfl) (by kernel_rfl) ?_
        change wpStill _ _ wr.drew (fun a' => wpList _ _ _ _ a' wr.drew) _ _
        generalize wr.drew = w5 at *
        simp only [List.take_succ_cons, List.take_zero, List.drop_succ_cons, List.drop_zero]
        have HB5 := Lib.hid (HB0.out.trans (HBD.out.mono HB0.out.size))
        have HD1 := Lib.hid (HC1.out w5 HB5.out)
        have HD2 := Lib.hid (HC2.out w5 HB5.out)
        iterate 3 still_step
        refine wpStill_load_at rfl 51 _ rfl (ad.add (k * 62)) rfl ue _ HD1.out Tryd.underlying51 rfl HS1.out ?_
        iterate 3 still_step
        refine wpStill_load_at rfl 51 _ rfl (ad'.add (k * 62)) rfl ue' _ HD2.out Tryd.underlying51 rfl HS2.out ?_
        refine wpStill_nil ?_
        go_wp2_with fail
        refine (HONE.out w5 HB5.out).mono ?_
        rintro e w6 ⟨⟨b, rfl, hb⟩, hb6⟩
        have HB6 := Lib.hid (HBD.out.trans (hb6.mono HBD.out.size))
        cases b with
        | true =>
          have HT := Lib.hid (HS.out.2 (hb.1 rfl))
          clear hb hb6
          go_wp2
          go_roundw
          case rel => exact ⟨k + 1, by omega, by first | rfl | go_num, HT, HB6⟩
          case measure => first | (simp [intOf]; done) | (simp [intOf]; omega)
        | false =>
          have HT := Lib.hid (HNE.out (fun h => absurd (hb.2 (HS.out.1 h)) (by decide)))
          clear hb hb6
          go_wp2
          go_ret
          exact ⟨SameP.no (HX.out HT.out), HB6.out⟩
      · obtain rfl : k = n := by omega
        have x1 : ¬ (k : Int) < (k : Int) := by omega
        have HEQ : Hid (Ce.l k es = Ce.l k es') := Lib.hid (by
          have h1 := Ce.oks_length _ _ HOK.out
          have h2 := Ce.oks_length _ _ HOK'.out
          have h3 : (List.replicate k (qCell : List Ty)).flatten.length = k * 62 := by simp [HQL.out]
          have h4 := HTK.out
          rw [List.take_of_length_le (by omega), List.take_of_length_le (by omega)] at h4
          rw [h4])
        go_wp2
        go_ret
        exact ⟨SameP.yes (HY.out HEQ.out), HBW.out⟩
  · have hz : ((n : Int) != (n' : Int)) = true := by
      rw [bne_iff_ne]
      omega
    have HNE : Hid (Ce.l n es ≠ Ce.l n' es') := Lib.hid (fun e => hnn (by injection e))
    have HBR : Hid (Below w.heap.size w w) := Lib.hid (Below.refl _ _)
    go_enter Tryd.func17, Tryd.ntmps17
    go_wp2
    go_ret
    exact ⟨SameP.no (HX.out HNE.out), HBR.out⟩

end Go.Proofs.YtkgkipohalekmaaDoor
