/-
  The walk of the reference's words in which variables are their values.
-/
import Derived.Test.YtcefnglmacpehaaEx11
namespace Go.Proofs.Ytcefnglmacpehaa
open Go.RowKit

set_option maxRecDepth 100000 in
set_option maxHeartbeats 8000000 in
theorem rvars_row (A A2 : Option Addr) (n c n2 c2 B : Nat) (ls : List ByteArray) (env : List (ByteArray × ByteArray)) (w : World) (h : Rd w B 1 A n (strCells ls)) (h2 : Rd w B 2 A2 n2 (pairCells env)) (hB : B ≤ w.heap.size)
    (hn : n ≤ 2097152) (hn2 : n2 ≤ 140737488355328) (hwz : ∀ b ∈ ls, b.size ≤ 2097152) (hv : ∀ p ∈ env, p.2.size ≤ 2097152) :
    Calls Try.prog 13 #[.slice A n c, .slice A2 n2 c2] w fun e w' => ∃ (A' : Option Addr) (c' : Nat) (l : List ByteArray), e = .returned (.slice A' l.length c') ∧
      l.map (fun b => b.data.toList) = Sp.varsL (ls.map (fun b => b.data.toList)) (envL env) ∧ Rd w' w'.heap.size 1 A' l.length (strCells l) ∧ Below w.heap.size w w' ∧ l.length ≤ n * 2097152 := by
  obtain ⟨i0, hi, hz0, hz1, hz2⟩ := info_parts str_info
  have hM : ∀ p ∈ envL env, p.2.length ≤ 2097152 := by
    intro p hp
    obtain ⟨q, hq, rfl⟩ := List.mem_map.1 hp
    exact hv q hq
  have HM := Lib.hid hM
  clear hM
  have hln : ls.length = n := by have := h.len; simpa [strCells] using this
  go_enter Try.func13, Try.ntmps13
  go_wp2_with fail
  go_loopw [5, 13] (fun v i wr => ∃ (k : Nat) (L : List ByteArray), k ≤ n ∧ i = .int .i64 k ∧ wr.ownsRow w.heap.size 9 1 v L.length (strCells L) ∧ Below w.heap.size w wr ∧ Hid (VRel ls (envL env) k L)) (fun _ i _ => n - (intOf i).toNat)
  case atStart => exact ⟨0, [], Nat.zero_le _, rfl, ⟨by simp [strCells], .inl ⟨rfl, rfl⟩⟩, Below.refl _ _, Lib.hid (VRel.start _ _)⟩
  case round =>
    obtain ⟨k, L, hk, rfl, hown, hb, HV⟩ := hrel
    have hLk : L.length ≤ k * 2097152 := HV.out.2
    by_cases hlt : k < n
    · obtain ⟨ad, rfl, _, hc⟩ := h.here (by omega)
      have hkl : k < ls.length := by omega
      have HST := Lib.hid (fun l hl => VRel.step (l := l) HV.out hkl HM.out hl)
      have e1 := hc k (.string ls[k]) (by simp [strCells, hkl])
      have hsz : ls[k].size ≤ 2097152 := hwz _ (List.getElem_mem hkl)
      have e2 : wr.cell? (ad.add k) = some (.string ls[k]) := by rw [hb.cell (p := ad.add k) (by rw [Mem.add_block]; omega)]; exact e1
      clear e1
      generalize ls[k] = s at *
      have x1 : (0 : Int) ≤ (k : Int) := by omega
      have x2 : (k : Int) < (n : Int) := by omega
      have hbs := hb.size
      generalize ht : s.extract 1 s.size = t
      have htd : t.data.toList = s.data.toList.drop 1 := by rw [← ht, ext_drop]
      have htl : t.size ≤ 2097152 := by rw [← ht]; simp; omega
      have HTX := Lib.hid ht
      by_cases hV : ∃ h0 : 1 < s.size, (s[0].toNat : Int) = 36 ∧ Sp.varL t.data.toList = true
      · obtain ⟨h0, hV1, hV2⟩ := hV
        have h0i : 1 < (s.size : Int) := by omega
        have h0j : (0 : Int) < (s.size : Int) := by omega
        have h0k : (1 : Int) ≤ (s.size : Int) := by omega
        have hV1b : ((s[0].toNat : Int) == 36) = true := by simpa using hV1
        have HV2 := Lib.hid hV2
        generalize hvl : Sp.valueL (envL env) t.data.toList = vl
        have HVL := Lib.hid hvl
        have hvlen : vl.length ≤ 2097152 := by have := Sp.valueL_len _ _ HM.out t.data.toList; rw [hvl] at this; exact this
        have HO : Hid (Sp.oneL (envL env) s.data.toList = Sp.partsOf vl) := Lib.hid (by
          have hs0 : s[0] = 36 := UInt8.toNat_inj.1 (by simpa using (by omega : s[0].toNat = 36))
          have hd := Sp.drop_cons s 0 (by omega)
          rw [List.drop_zero, hs0] at hd
          rw [hd, ← htd]
          simp only [Sp.oneL]
          rw [if_pos hV2, hvl])
        have hpl := Sp.partsOf_len vl
        clear hV1 hV2 hvl htd ht
        go_wp2_with fail
        rw [HTX.out]
        refine (rvarName_any t _ (by omega)).mono ?_
        rintro e w' ⟨rfl, rfl⟩
        rw [HV2.out]
        go_wp2_with fail
        rw [HTX.out]
        refine (rvalue_any A2 n2 c2 B env t _ (h2.below (hb.mono hB)) hn2).mono ?_
        rintro e w3 ⟨rfl, rfl⟩
        rw [HVL.out]
        go_wp2_with fail
        refine (rblanks_row ⟨vl.toArray⟩ _ (show vl.length ≤ _ by omega)).mono ?_
        rintro e w3 ⟨A3, c3, l3, rfl, hl3, hr3, hb3⟩
        have hl4 : l3.length ≤ vl.length := by
          have := congrArg List.length hl3
          simp at this
          rw [this]; exact hpl
        have hb4 := hb.trans (hb3.mono hbs)
        have hown3 := own_below hown hb3
        go_wp2_with (at_builtin; refine wpList_app _ rfl _ _ 27 rfl w.heap.size 9 i0 (.string ⟨#[]⟩) 1 16 Try.underlying27 hi hz0 hz1 hz2 rfl (by decide) _ L.length (strCells L) rfl hown3 w3.heap.size A3 l3.length c3 (strCells l3) rfl hr3 (strCells_one l3) (by unfold maxLen; omega) (by omega) hb4.size ?_)
        intro v' w4 hown' hgrow hx
        clear hx
        have HOW := Lib.hid hown'
        have HG := Lib.hid hgrow
        clear hown' hgrow
        go_wp2
        go_roundw
        case rel => exact ⟨k + 1, L ++ l3, by omega, by go_num, by have := HOW.out; simpa [strCells] using this, hb4.grown HG.out hb4.size (fun k hk => (hown3.lt k hk).1), Lib.hid (HST.out l3 (by rw [HO.out]; exact hl3))⟩
        case measure => first | (simp [intOf]; done) | (simp [intOf]; omega)
      · have HO : Hid (Sp.oneL (envL env) s.data.toList = [Sp.wordL (envL env) s.data.toList]) := Lib.hid (Sp.oneL_no _ s (by rw [← htd]; exact hV))
        have hcase : (¬ 1 < (s.size : Int)) ∨ (∃ h0 : 1 < s.size, ((s[0].toNat : Int) == 36) = false) ∨ (∃ h0 : 1 < s.size, ((s[0].toNat : Int) == 36) = true ∧ Sp.varL t.data.toList = false) := by
          by_cases g0 : 1 < s.size
          · by_cases g1 : (s[0].toNat : Int) = 36
            · refine .inr (.inr ⟨g0, by simpa using g1, ?_⟩)
              cases q : Sp.varL t.data.toList
              · rfl
              · exact absurd ⟨g0, g1, q⟩ hV
            · exact .inr (.inl ⟨g0, by simpa using g1⟩)
          · exact .inl (by omega)
        clear hV htd ht
        rcases hcase with g1 | ⟨h0, g1⟩ | ⟨h0, g1, g2⟩
        · go_wp2_with fail
          go_loop [8, 9] (fun d j => ∃ (m : Nat) (ob : ByteArray), m ≤ 2 * s.size + 3 ∧ j = .int .i64 m ∧ d = .string ob ∧ Hid (Sp.WRel (envL env) 2097152 s.data.toList (s.data.toList.drop m) ob.data.toList)) (fun _ j => s.size - (intOf j).toNat)
          case atStart => exact ⟨0, ⟨#[]⟩, by omega, rfl, rfl, Lib.hid (Sp.WRel.start _ _ _)⟩
          case round =>
            obtain ⟨m, ob, hm, rfl, rfl, HW⟩ := hrel
            have hac2 : ob.size ≤ 4398046511104 := by
              have q := HW.out.2
              have q2 : s.data.toList.length = s.size := by simp
              have q3 : ob.data.toList.length = ob.size := by simp
              omega
            by_cases hlt2 : m < s.size
            · by_cases hc6 : (s[m].toNat : Int) = 36
              · have hc6b : ((s[m].toNat : Int) != 36) = false := by simpa using hc6
                have hce : s[m] = 36 := UInt8.toNat_inj.1 (by simpa using (by omega : s[m].toNat = 36))
                by_cases hl1 : m + 1 < s.size
                · exact absurd hl1 (by omega)
                · have hl1b : ((m : Int) + 1 == (s.size : Int)) = true := by simp; omega
                  have z0 : (0 : Int) ≤ (m : Int) := by omega
                  have z1 : (0 : Int) ≤ (m : Int) + 1 := by omega
                  have z2 : (m : Int) + 1 ≤ (s.size : Int) := by omega
                  have z3 : (m : Int) ≤ (m : Int) + 1 := by omega
                  have HX := Lib.hid (Sp.ext_one s m hlt2)
                  have HN : Hid (Sp.WRel (envL env) 2097152 s.data.toList (s.data.toList.drop (m + 1)) (ob.data.toList ++ [s[m]])) := Lib.hid (HW.out.plain (by omega) hlt2 (.inr (by omega)))
                  go_wp2
                  go_round
                  case rel => exact ⟨m + 1, _, by omega, by go_num, rfl, Lib.hid (by have hn := HN.out; rw [← HX.out] at hn; simpa using hn)⟩
                  case measure => first | (simp [intOf]; done) | (simp [intOf]; omega)
              · have hc6b : ((s[m].toNat : Int) != 36) = true := by simpa using hc6
                have z0 : (0 : Int) ≤ (m : Int) := by omega
                have z1 : (0 : Int) ≤ (m : Int) + 1 := by omega
                have z2 : (m : Int) + 1 ≤ (s.size : Int) := by omega
                have z3 : (m : Int) ≤ (m : Int) + 1 := by omega
                have HX := Lib.hid (Sp.ext_one s m hlt2)
                have HN : Hid (Sp.WRel (envL env) 2097152 s.data.toList (s.data.toList.drop (m + 1)) (ob.data.toList ++ [s[m]])) := Lib.hid (HW.out.plain (by omega) hlt2 (.inl (fun q => hc6 (by rw [q]; rfl))))
                go_wp2
                go_round
                case rel => exact ⟨m + 1, _, by omega, by go_num, rfl, Lib.hid (by have hn := HN.out; rw [← HX.out] at hn; simpa using hn)⟩
                case measure => first | (simp [intOf]; done) | (simp [intOf]; omega)
            · have HD : Hid (Sp.wordL (envL env) s.data.toList = ob.data.toList) := Lib.hid (by
                have q := HW.out
                rw [List.drop_eq_nil_of_le (by simp; omega)] at q
                exact q.done)
              go_wp2_with (at_builtin; refine wpList_app _ rfl _ _ 27 rfl w.heap.size 9 i0 (.string ⟨#[]⟩) 1 16 Try.underlying27 hi hz0 hz1 hz2 rfl (by decide) _ L.length (strCells L) rfl (World.ownsRow.alloc hown _) (wr.heap.size + 1) (some ⟨wr.heap.size, 0, none⟩) 1 1 [.string ob] rfl (Rd.new _ _ _) (by intro u hu; simp at hu; subst hu; rfl) (by unfold maxLen; omega) (by omega) (by simp; omega) ?_)
              intro v' w4 hown' hgrow hx
              clear hx
              have HOW := Lib.hid hown'
              have HG := Lib.hid hgrow
              clear hown' hgrow
              go_wp2
              go_roundw
              case rel => exact ⟨k + 1, L ++ [ob], by omega, by go_num, by have := HOW.out; simpa [strCells] using this, (hb.alloc hbs _).grown HG.out (by simp; omega) (fun k hk => (hown.lt k hk).1), Lib.hid (HST.out [ob] (by rw [HO.out, HD.out]; rfl))⟩
              case measure => first | (simp [intOf]; done) | (simp [intOf]; omega)
        · have h0i : 1 < (s.size : Int) := by omega
          have h0j : (0 : Int) < (s.size : Int) := by omega
          go_wp2_with fail
          go_loop [8, 9] (fun d j => ∃ (m : Nat) (ob : ByteArray), m ≤ 2 * s.size + 3 ∧ j = .int .i64 m ∧ d = .string ob ∧ Hid (Sp.WRel (envL env) 2097152 s.data.toList (s.data.toList.drop m) ob.data.toList)) (fun _ j => s.size - (intOf j).toNat)
          case atStart => exact ⟨0, ⟨#[]⟩, by omega, rfl, rfl, Lib.hid (Sp.WRel.start _ _ _)⟩
          case round =>
            obtain ⟨m, ob, hm, rfl, rfl, HW⟩ := hrel
            have hac2 : ob.size ≤ 4398046511104 := by
              have q := HW.out.2
              have q2 : s.data.toList.length = s.size := by simp
              have q3 : ob.data.toList.length = ob.size := by simp
              omega
            by_cases hlt2 : m < s.size
            · by_cases hc6 : (s[m].toNat : Int) = 36
              · have hc6b : ((s[m].toNat : Int) != 36) = false := by simpa using hc6
                have hce : s[m] = 36 := UInt8.toNat_inj.1 (by simpa using (by omega : s[m].toNat = 36))
                by_cases hl1 : m + 1 < s.size
                · have hl1b : ((m : Int) + 1 == (s.size : Int)) = false := by simp; omega
                  have hl1i : (m : Int) + 1 < (s.size : Int) := by omega
                  have hl1j : (0 : Int) ≤ (m : Int) + 1 := by omega
                  have hl1k : (m : Int) + 1 ≤ (s.size : Int) := by omega
                  by_cases hd6 : (s[m + 1].toNat : Int) = 36
                  · have hd6b : ((s[m + 1].toNat : Int) == 36) = true := by simpa using hd6
                    have hde : s[m + 1] = 36 := UInt8.toNat_inj.1 (by simpa using (by omega : s[m + 1].toNat = 36))
                    have HN := Lib.hid (HW.out.dd (by omega) hl1 hce hde)
                    clear hc6 hd6 hce hde
                    go_wp2
                    go_round
                    case rel => exact ⟨m + 2, _, by omega, by go_num, rfl, Lib.hid (by have hn := HN.out; simpa using hn)⟩
                    case measure => first | (simp [intOf]; done) | (simp [intOf]; omega)
                  · have hd6b : ((s[m + 1].toNat : Int) == 36) = false := by simpa using hd6
                    have hde : s[m + 1] ≠ 36 := fun q => hd6 (by rw [q]; rfl)
                    generalize hbr : Sp.bracedL (s.data.toList.drop (m + 1)) = br
                    have hbl : br.length ≤ s.size := by have := Sp.bracedL_len (s.data.toList.drop (m + 1)); rw [hbr] at this; simp at this; omega
                    have HT2 : Hid ((s.extract (m + 1) s.size).data.toList = s.data.toList.drop (m + 1)) := Lib.hid (by rw [ext_drop])
                    have HBR := Lib.hid hbr
                    cases br with
                    | nil =>
                      have HN := Lib.hid (HW.out.sole (by omega) hl1 hce hde hbr)
                      clear hc6 hd6 hce hde hbr
                      go_wp2_with fail
                      refine (rbraced_any _ _ (by simp; omega)).mono ?_
                      rintro e w' ⟨rfl, rfl⟩
                      rw [HT2.out, HBR.out]
                      go_wp2
                      go_round
                      case rel => exact ⟨m + 1, _, by omega, by go_num, rfl, Lib.hid (by have hn := HN.out; simpa using hn)⟩
                      case measure => first | (simp [intOf]; done) | (simp [intOf]; omega)
                    | cons b0 br0 =>
                      have HN := Lib.hid (HW.out.braced HM.out hl1 hce hde (by rw [hbr]; simp))
                      generalize hq : b0 :: br0 = br at *
                      have hbe : br.isEmpty = false := by rw [← hq]; rfl
                      generalize hvl : Sp.valueL (envL env) br = vl
                      have hvlen : vl.length ≤ 2097152 := by have := Sp.valueL_len _ _ HM.out br; rw [hvl] at this; exact this
                      have HVL := Lib.hid hvl
                      clear hc6 hd6 hce hde hbr hvl hq
                      go_wp2_with fail
                      refine (rbraced_any _ _ (by simp; omega)).mono ?_
                      rintro e w' ⟨rfl, rfl⟩
                      rw [HT2.out, HBR.out]
                      go_wp2_with fail
                      refine (rvalue_any A2 n2 c2 B env ⟨br.toArray⟩ _ (h2.below (hb.mono hB)) hn2).mono ?_
                      rintro e w3 ⟨rfl, rfl⟩
                      rw [HVL.out]
                      go_wp2_with fail
                      go_round
                      case rel => exact ⟨m + (br.length + 2) + 1, _, by omega, by go_num, rfl, Lib.hid (by have hn := HN.out; rw [HBR.out, HVL.out] at hn; simpa using hn)⟩
                      case measure => first | (simp [intOf]; done) | (simp [intOf]; omega)
                · have hl1b : ((m : Int) + 1 == (s.size : Int)) = true := by simp; omega
                  have z0 : (0 : Int) ≤ (m : Int) := by omega
                  have z1 : (0 : Int) ≤ (m : Int) + 1 := by omega
                  have z2 : (m : Int) + 1 ≤ (s.size : Int) := by omega
                  have z3 : (m : Int) ≤ (m : Int) + 1 := by omega
                  have HX := Lib.hid (Sp.ext_one s m hlt2)
                  have HN : Hid (Sp.WRel (envL env) 2097152 s.data.toList (s.data.toList.drop (m + 1)) (ob.data.toList ++ [s[m]])) := Lib.hid (HW.out.plain (by omega) hlt2 (.inr (by omega)))
                  go_wp2
                  go_round
                  case rel => exact ⟨m + 1, _, by omega, by go_num, rfl, Lib.hid (by have hn := HN.out; rw [← HX.out] at hn; simpa using hn)⟩
                  case measure => first | (simp [intOf]; done) | (simp [intOf]; omega)
              · have hc6b : ((s[m].toNat : Int) != 36) = true := by simpa using hc6
                have z0 : (0 : Int) ≤ (m : Int) := by omega
                have z1 : (0 : Int) ≤ (m : Int) + 1 := by omega
                have z2 : (m : Int) + 1 ≤ (s.size : Int) := by omega
                have z3 : (m : Int) ≤ (m : Int) + 1 := by omega
                have HX := Lib.hid (Sp.ext_one s m hlt2)
                have HN : Hid (Sp.WRel (envL env) 2097152 s.data.toList (s.data.toList.drop (m + 1)) (ob.data.toList ++ [s[m]])) := Lib.hid (HW.out.plain (by omega) hlt2 (.inl (fun q => hc6 (by rw [q]; rfl))))
                go_wp2
                go_round
                case rel => exact ⟨m + 1, _, by omega, by go_num, rfl, Lib.hid (by have hn := HN.out; rw [← HX.out] at hn; simpa using hn)⟩
                case measure => first | (simp [intOf]; done) | (simp [intOf]; omega)
            · have HD : Hid (Sp.wordL (envL env) s.data.toList = ob.data.toList) := Lib.hid (by
                have q := HW.out
                rw [List.drop_eq_nil_of_le (by simp; omega)] at q
                exact q.done)
              go_wp2_with (at_builtin; refine wpList_app _ rfl _ _ 27 rfl w.heap.size 9 i0 (.string ⟨#[]⟩) 1 16 Try.underlying27 hi hz0 hz1 hz2 rfl (by decide) _ L.length (strCells L) rfl (World.ownsRow.alloc hown _) (wr.heap.size + 1) (some ⟨wr.heap.size, 0, none⟩) 1 1 [.string ob] rfl (Rd.new _ _ _) (by intro u hu; simp at hu; subst hu; rfl) (by unfold maxLen; omega) (by omega) (by simp; omega) ?_)
              intro v' w4 hown' hgrow hx
              clear hx
              have HOW := Lib.hid hown'
              have HG := Lib.hid hgrow
              clear hown' hgrow
              go_wp2
              go_roundw
              case rel => exact ⟨k + 1, L ++ [ob], by omega, by go_num, by have := HOW.out; simpa [strCells] using this, (hb.alloc hbs _).grown HG.out (by simp; omega) (fun k hk => (hown.lt k hk).1), Lib.hid (HST.out [ob] (by rw [HO.out, HD.out]; rfl))⟩
              case measure => first | (simp [intOf]; done) | (simp [intOf]; omega)
        · have h0i : 1 < (s.size : Int) := by omega
          have h0j : (0 : Int) < (s.size : Int) := by omega
          have h0k : (1 : Int) ≤ (s.size : Int) := by omega
          have G2 := Lib.hid g2
          clear g2
          go_wp2_with fail
          rw [HTX.out]
          refine (rvarName_any t _ (by omega)).mono ?_
          rintro e w' ⟨rfl, rfl⟩
          rw [G2.out]
          go_wp2_with fail
          go_loop [8, 9] (fun d j => ∃ (m : Nat) (ob : ByteArray), m ≤ 2 * s.size + 3 ∧ j = .int .i64 m ∧ d = .string ob ∧ Hid (Sp.WRel (envL env) 2097152 s.data.toList (s.data.toList.drop m) ob.data.toList)) (fun _ j => s.size - (intOf j).toNat)
          case atStart => exact ⟨0, ⟨#[]⟩, by omega, rfl, rfl, Lib.hid (Sp.WRel.start _ _ _)⟩
          case round =>
            obtain ⟨m, ob, hm, rfl, rfl, HW⟩ := hrel
            have hac2 : ob.size ≤ 4398046511104 := by
              have q := HW.out.2
              have q2 : s.data.toList.length = s.size := by simp
              have q3 : ob.data.toList.length = ob.size := by simp
              omega
            by_cases hlt2 : m < s.size
            · by_cases hc6 : (s[m].toNat : Int) = 36
              · have hc6b : ((s[m].toNat : Int) != 36) = false := by simpa using hc6
                have hce : s[m] = 36 := UInt8.toNat_inj.1 (by simpa using (by omega : s[m].toNat = 36))
                by_cases hl1 : m + 1 < s.size
                · have hl1b : ((m : Int) + 1 == (s.size : Int)) = false := by simp; omega
                  have hl1i : (m : Int) + 1 < (s.size : Int) := by omega
                  have hl1j : (0 : Int) ≤ (m : Int) + 1 := by omega
                  have hl1k : (m : Int) + 1 ≤ (s.size : Int) := by omega
                  by_cases hd6 : (s[m + 1].toNat : Int) = 36
                  · have hd6b : ((s[m + 1].toNat : Int) == 36) = true := by simpa using hd6
                    have hde : s[m + 1] = 36 := UInt8.toNat_inj.1 (by simpa using (by omega : s[m + 1].toNat = 36))
                    have HN := Lib.hid (HW.out.dd (by omega) hl1 hce hde)
                    clear hc6 hd6 hce hde
                    go_wp2
                    go_round
                    case rel => exact ⟨m + 2, _, by omega, by go_num, rfl, Lib.hid (by have hn := HN.out; simpa using hn)⟩
                    case measure => first | (simp [intOf]; done) | (simp [intOf]; omega)
                  · have hd6b : ((s[m + 1].toNat : Int) == 36) = false := by simpa using hd6
                    have hde : s[m + 1] ≠ 36 := fun q => hd6 (by rw [q]; rfl)
                    generalize hbr : Sp.bracedL (s.data.toList.drop (m + 1)) = br
                    have hbl : br.length ≤ s.size := by have := Sp.bracedL_len (s.data.toList.drop (m + 1)); rw [hbr] at this; simp at this; omega
                    have HT2 : Hid ((s.extract (m + 1) s.size).data.toList = s.data.toList.drop (m + 1)) := Lib.hid (by rw [ext_drop])
                    have HBR := Lib.hid hbr
                    cases br with
                    | nil =>
                      have HN := Lib.hid (HW.out.sole (by omega) hl1 hce hde hbr)
                      clear hc6 hd6 hce hde hbr
                      go_wp2_with fail
                      refine (rbraced_any _ _ (by simp; omega)).mono ?_
                      rintro e w' ⟨rfl, rfl⟩
                      rw [HT2.out, HBR.out]
                      go_wp2
                      go_round
                      case rel => exact ⟨m + 1, _, by omega, by go_num, rfl, Lib.hid (by have hn := HN.out; simpa using hn)⟩
                      case measure => first | (simp [intOf]; done) | (simp [intOf]; omega)
                    | cons b0 br0 =>
                      have HN := Lib.hid (HW.out.braced HM.out hl1 hce hde (by rw [hbr]; simp))
                      generalize hq : b0 :: br0 = br at *
                      have hbe : br.isEmpty = false := by rw [← hq]; rfl
                      generalize hvl : Sp.valueL (envL env) br = vl
                      have hvlen : vl.length ≤ 2097152 := by have := Sp.valueL_len _ _ HM.out br; rw [hvl] at this; exact this
                      have HVL := Lib.hid hvl
                      clear hc6 hd6 hce hde hbr hvl hq
                      go_wp2_with fail
                      refine (rbraced_any _ _ (by simp; omega)).mono ?_
                      rintro e w' ⟨rfl, rfl⟩
                      rw [HT2.out, HBR.out]
                      go_wp2_with fail
                      refine (rvalue_any A2 n2 c2 B env ⟨br.toArray⟩ _ (h2.below (hb.mono hB)) hn2).mono ?_
                      rintro e w3 ⟨rfl, rfl⟩
                      rw [HVL.out]
                      go_wp2_with fail
                      go_round
                      case rel => exact ⟨m + (br.length + 2) + 1, _, by omega, by go_num, rfl, Lib.hid (by have hn := HN.out; rw [HBR.out, HVL.out] at hn; simpa using hn)⟩
                      case measure => first | (simp [intOf]; done) | (simp [intOf]; omega)
                · have hl1b : ((m : Int) + 1 == (s.size : Int)) = true := by simp; omega
                  have z0 : (0 : Int) ≤ (m : Int) := by omega
                  have z1 : (0 : Int) ≤ (m : Int) + 1 := by omega
                  have z2 : (m : Int) + 1 ≤ (s.size : Int) := by omega
                  have z3 : (m : Int) ≤ (m : Int) + 1 := by omega
                  have HX := Lib.hid (Sp.ext_one s m hlt2)
                  have HN : Hid (Sp.WRel (envL env) 2097152 s.data.toList (s.data.toList.drop (m + 1)) (ob.data.toList ++ [s[m]])) := Lib.hid (HW.out.plain (by omega) hlt2 (.inr (by omega)))
                  go_wp2
                  go_round
                  case rel => exact ⟨m + 1, _, by omega, by go_num, rfl, Lib.hid (by have hn := HN.out; rw [← HX.out] at hn; simpa using hn)⟩
                  case measure => first | (simp [intOf]; done) | (simp [intOf]; omega)
              · have hc6b : ((s[m].toNat : Int) != 36) = true := by simpa using hc6
                have z0 : (0 : Int) ≤ (m : Int) := by omega
                have z1 : (0 : Int) ≤ (m : Int) + 1 := by omega
                have z2 : (m : Int) + 1 ≤ (s.size : Int) := by omega
                have z3 : (m : Int) ≤ (m : Int) + 1 := by omega
                have HX := Lib.hid (Sp.ext_one s m hlt2)
                have HN : Hid (Sp.WRel (envL env) 2097152 s.data.toList (s.data.toList.drop (m + 1)) (ob.data.toList ++ [s[m]])) := Lib.hid (HW.out.plain (by omega) hlt2 (.inl (fun q => hc6 (by rw [q]; rfl))))
                go_wp2
                go_round
                case rel => exact ⟨m + 1, _, by omega, by go_num, rfl, Lib.hid (by have hn := HN.out; rw [← HX.out] at hn; simpa using hn)⟩
                case measure => first | (simp [intOf]; done) | (simp [intOf]; omega)
            · have HD : Hid (Sp.wordL (envL env) s.data.toList = ob.data.toList) := Lib.hid (by
                have q := HW.out
                rw [List.drop_eq_nil_of_le (by simp; omega)] at q
                exact q.done)
              go_wp2_with (at_builtin; refine wpList_app _ rfl _ _ 27 rfl w.heap.size 9 i0 (.string ⟨#[]⟩) 1 16 Try.underlying27 hi hz0 hz1 hz2 rfl (by decide) _ L.length (strCells L) rfl (World.ownsRow.alloc hown _) (wr.heap.size + 1) (some ⟨wr.heap.size, 0, none⟩) 1 1 [.string ob] rfl (Rd.new _ _ _) (by intro u hu; simp at hu; subst hu; rfl) (by unfold maxLen; omega) (by omega) (by simp; omega) ?_)
              intro v' w4 hown' hgrow hx
              clear hx
              have HOW := Lib.hid hown'
              have HG := Lib.hid hgrow
              clear hown' hgrow
              go_wp2
              go_roundw
              case rel => exact ⟨k + 1, L ++ [ob], by omega, by go_num, by have := HOW.out; simpa [strCells] using this, (hb.alloc hbs _).grown HG.out (by simp; omega) (fun k hk => (hown.lt k hk).1), Lib.hid (HST.out [ob] (by rw [HO.out, HD.out]; rfl))⟩
              case measure => first | (simp [intOf]; done) | (simp [intOf]; omega)
    · have x1 : ¬ (k : Int) < (n : Int) := by omega
      go_wp2
      obtain ⟨A', c', rfl⟩ : ∃ A' c', u5 = .slice A' L.length c' := by
        rcases hown.2 with ⟨rfl, h0⟩ | ⟨g, cap, cur, rfl, _⟩
        · exact ⟨none, 0, by rw [h0]⟩
        · exact ⟨_, _, rfl⟩
      go_ret
      obtain rfl : k = n := by omega
      exact ⟨A', c', L, rfl, by rw [HV.out.1, List.take_of_length_le (by omega)], Rd.of_own hown, hb, hLk⟩

end Go.Proofs.Ytcefnglmacpehaa
