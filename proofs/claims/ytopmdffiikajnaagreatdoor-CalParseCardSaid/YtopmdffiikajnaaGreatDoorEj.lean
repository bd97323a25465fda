/-
  The reference: the calendar that a text says: the walk.
-/
import Derived.Test.YtopmdffiikajnaaGreatDoorFz
namespace Go.Proofs.YtopmdffiikajnaaGreatDoor
open Go.RowKit Go.Shelf

theorem list3 {xs : List ByteArray} (h : xs.length = 3) : ∃ a b c, xs = [a, b, c] := by
  match xs, h with
  | [a, b, c], _ => exact ⟨a, b, c, rfl⟩
theorem list2 {xs : List ByteArray} (h : xs.length = 2) : ∃ a b, xs = [a, b] := by
  match xs, h with
  | [a, b], _ => exact ⟨a, b, rfl⟩
theorem PW.start (w w2 : World) (hb : Below w.heap.size w w2) (h0 : CV w2 w.heap.size nilS (fun _ => nilS)) :
    PW w ((w2.alloc (.cells #[.slice none 0 0, .slice none 0 0, .slice none 0 0, .slice none 0 0, .slice none 0 0, .slice none 0 0, .slice none 0 0] 26)).alloc (.cells #[.string ⟨#[42]⟩, .string ⟨#[42]⟩, .string ⟨#[42]⟩, .string ⟨#[48, 48]⟩, .string ⟨#[48, 48]⟩, .string ⟨#[48, 48]⟩] 9)) w.heap.size w2.heap.size (w2.heap.size + 1) nilS [] (fun i => [(⟨#[42]⟩ : ByteArray), ⟨#[42]⟩, ⟨#[42]⟩, ⟨#[48, 48]⟩, ⟨#[48, 48]⟩, ⟨#[48, 48]⟩][i]?.getD ⟨#[]⟩) ((w2.alloc (.cells #[.slice none 0 0, .slice none 0 0, .slice none 0 0, .slice none 0 0, .slice none 0 0, .slice none 0 0, .slice none 0 0] 26)).alloc (.cells #[.string ⟨#[42]⟩, .string ⟨#[42]⟩, .string ⟨#[42]⟩, .string ⟨#[48, 48]⟩, .string ⟨#[48, 48]⟩, .string ⟨#[48, 48]⟩] 9)) := by
  have hz : w.heap.size < w2.heap.size := h0.lt
  refine ⟨(hb.alloc hb.size _).alloc (by simp; omega) _, ?_, ?_, ?_, Rd.empty, Nat.zero_le _, fun _ _ _ _ => rfl, Nat.le_refl _, fun i hi => ?_⟩
  · exact h0.same ((Below.heap_alloc _ _ _ (by simp; omega)).trans (Below.heap_alloc w2 _ _ hz))
  · exact (CV.new w2).same (Below.heap_alloc _ _ _ (by simp))
  · have := World.alloc_heap_new (w2.alloc (.cells #[.slice none 0 0, .slice none 0 0, .slice none 0 0, .slice none 0 0, .slice none 0 0, .slice none 0 0, .slice none 0 0] 26)) (.cells #[.string ⟨#[42]⟩, .string ⟨#[42]⟩, .string ⟨#[42]⟩, .string ⟨#[48, 48]⟩, .string ⟨#[48, 48]⟩, .string ⟨#[48, 48]⟩] 9)
    rw [World.size_alloc] at this
    exact this
  · have e : i = 0 ∨ i = 1 ∨ i = 2 ∨ i = 3 ∨ i = 4 ∨ i = 5 := by omega
    rcases e with rfl | rfl | rfl | rfl | rfl | rfl <;> decide
set_option maxRecDepth 100000 in
set_option maxHeartbeats 16000000 in
theorem rparse_any (s : ByteArray) (w : World) : Calls Tryz.prog 15 #[.string s] w fun e w' => ParsePost s.data.toList e w' ∧ Below w.heap.size w w' := by
  have hsz := bytes_size s
  have hb0 : Below w.heap.size w (w.alloc (.cells #[.slice none 0 0, .slice none 0 0, .slice none 0 0, .slice none 0 0, .slice none 0 0, .slice none 0 0, .slice none 0 0] 26)) := (Below.refl _ _).alloc (Nat.le_refl _) _
  by_cases h4 : 400 < s.size
  · have x4 : 400 < (s.size : Int) := by omega
    have HNO : Hid (Sp.parseP s.data.toList = none) := Lib.hid (by
      unfold Sp.parseP
      rw [if_pos (by omega)])
    have HB0 := Lib.hid hb0
    clear hsz hb0
    go_enter Tryz.func15, Tryz.ntmps15
    go_wp2
    exact bodyPost_ret (v := .tuple #[.agg #[.slice none 0 0, .slice none 0 0, .slice none 0 0, .slice none 0 0, .slice none 0 0, .slice none 0 0, .slice none 0 0], .bool false]) (by simp [results, Tryz.f15, go_sem]) rfl ⟨.inr ⟨HNO.out, rfl⟩, HB0.out⟩
  · have x4 : ¬ 400 < (s.size : Int) := by omega
    obtain ⟨N, hN⟩ : ∃ N : ByteArray, N.data.toList = Sp.namedL s.data.toList := ⟨Sp.bts _, bts_list _⟩
    have HPAR : Hid (Sp.parseP s.data.toList = Sp.refL s.data.toList) := Lib.hid (by
      unfold Sp.parseP
      rw [if_neg (by omega), Sp.ref_same])
    have hNs : N.size ≤ 418 := by
      have h1 := named_len s.data.toList
      have h2 := bytes_size N
      rw [hN] at h2
      omega
    have HSH := Lib.hid (fun W => rshort_any s N W hN)
    have hcv := CV.new w
    have HN := Lib.hid hN
    clear hN hsz
    go_enter Tryz.func15, Tryz.ntmps15
    go_wp2_with fail
    refine (HSH.out _).mono ?_
    rintro e w' ⟨rfl, rfl⟩
    go_wp2_with fail
    refine (rsplit_any N 32 32 rfl _ (by omega)).mono ?_
    rintro e w2 ⟨⟨A, cp, xs, hxs, rfl, hrd, hxl, hxz⟩, hb2⟩
    have h02 := hcv.same (hb2.block _ hcv.lt)
    have hb2w := hb0.trans (hb2.mono hb0.size)
    have HRW := Lib.hid (fun k hk => Rd.strAt hrd k hk)
    have HXZ := Lib.hid hxz
    have HREF : Hid (Sp.refL s.data.toList = if 3 < xs.length then none else Sp.refFin 0 [] Sp.star3 Sp.nought3 (xs.map tl)) := Lib.hid (by
      rw [Sp.refL_fin, ← HN.out, ← hxs, List.length_map])
    clear hxs hrd hxz hb2 hb0 hcv
    by_cases h3 : 3 < xs.length
    · have x3 : 3 < (xs.length : Int) := by omega
      have HNO : Hid (Sp.parseP s.data.toList = none) := Lib.hid (by rw [HPAR.out, HREF.out, if_pos h3])
      have HB2 := Lib.hid hb2w
      have z0 := h02.cd
      have g0 := h02.fz 0
      have z1 := h02.cell 0 (by decide)
      have g1 := h02.fz 1
      have z2 := h02.cell 1 (by decide)
      have g2 := h02.fz 2
      have z3 := h02.cell 2 (by decide)
      have g3 := h02.fz 3
      have z4 := h02.cell 3 (by decide)
      have g4 := h02.fz 4
      have z5 := h02.cell 4 (by decide)
      have g5 := h02.fz 5
      have z6 := h02.cell 5 (by decide)
      have g6 := h02.fz 6
      simp only [slV, nilS] at z0 z1 z2 z3 z4 z5 z6
      have HCVF := Lib.hid (CV.put h02 nilS nilS nilS nilS nilS nilS nilS)
      have HBF := Lib.hid (below_put7c hb2w (Nat.le_refl _) (.slice none 0 0) (.slice none 0 0) (.slice none 0 0) (.slice none 0 0) (.slice none 0 0) (.slice none 0 0) (.slice none 0 0))
      clear hb2w
      go_wp2
      refine bodyPost_ret (v := .tuple #[.agg #[.slice none 0 0, .slice none 0 0, .slice none 0 0, .slice none 0 0, .slice none 0 0, .slice none 0 0, .slice none 0 0], .bool false]) (rparse_res HCVF.out rfl rfl) rfl ?_
      exact ⟨.inr ⟨HNO.out, rfl⟩, HBF.out⟩
    · have x3 : ¬ 3 < (xs.length : Int) := by omega
      have hpw := PW.start w w2 hb2w h02
      have hlt2 : w.heap.size < w2.heap.size := h02.lt
      have hold : ∀ k, k < w2.heap.size → ((w2.alloc (.cells #[.slice none 0 0, .slice none 0 0, .slice none 0 0, .slice none 0 0, .slice none 0 0, .slice none 0 0, .slice none 0 0] 26)).alloc (.cells #[.string ⟨#[42]⟩, .string ⟨#[42]⟩, .string ⟨#[42]⟩, .string ⟨#[48, 48]⟩, .string ⟨#[48, 48]⟩, .string ⟨#[48, 48]⟩] 9)).heap[k]? = w2.heap[k]? := fun k hk => (Below.heap_alloc _ _ _ (by simp; omega)).trans (Below.heap_alloc w2 _ _ hk)
      have hs3 : w2.heap.size + 1 < ((w2.alloc (.cells #[.slice none 0 0, .slice none 0 0, .slice none 0 0, .slice none 0 0, .slice none 0 0, .slice none 0 0, .slice none 0 0] 26)).alloc (.cells #[.string ⟨#[42]⟩, .string ⟨#[42]⟩, .string ⟨#[42]⟩, .string ⟨#[48, 48]⟩, .string ⟨#[48, 48]⟩, .string ⟨#[48, 48]⟩] 9)).heap.size := by simp
      have HGO0 : Hid (Sp.refL s.data.toList = Sp.refFin 0 [] Sp.star3 Sp.nought3 (xs.map tl)) := Lib.hid (by rw [HREF.out, if_neg h3])
      clear HREF hb2w h02
      go_upto_region 8 with fail
      generalize ((w2.alloc (.cells #[.slice none 0 0, .slice none 0 0, .slice none 0 0, .slice none 0 0, .slice none 0 0, .slice none 0 0, .slice none 0 0] 26)).alloc (.cells #[.string ⟨#[42]⟩, .string ⟨#[42]⟩, .string ⟨#[42]⟩, .string ⟨#[48, 48]⟩, .string ⟨#[48, 48]⟩, .string ⟨#[48, 48]⟩] 9)) = w3 at *
      have HOLD := Lib.hid hold
      have HPW0 := Lib.hid hpw
      clear hold hpw
      obtain ⟨b1, hb1⟩ : ∃ b, b = w2.heap.size := ⟨_, rfl⟩
      rw [← hb1] at hlt2 hs3 HPW0 ⊢
      have HB1E := Lib.hid hb1
      clear hb1
      obtain ⟨bf, hbf⟩ : ∃ b, b = b1 + 1 := ⟨_, rfl⟩
      rw [← hbf] at hs3 HPW0 ⊢
      have h1f : b1 < bf := by omega
      have HBFE := Lib.hid hbf
      clear hbf
      obtain ⟨n, hn⟩ : ∃ n, xs.length = n := ⟨_, rfl⟩
      rw [hn] at hxl h3 x3 ⊢
      have HN2 := Lib.hid hn
      have h0b : w.heap.size ≤ b1 := by omega
      clear hn
      go_wp2_with fail
      go_loopw [7, 29] (fun sv iv wr => ∃ (k st : Nat) (D : SlA) (days : List Int) (fl : Nat → ByteArray), k ≤ n ∧ iv = .int .i64 k ∧ sv = .int .i64 st ∧ st ≤ 3 ∧ Hid (PW w w3 w.heap.size b1 bf D days fl wr) ∧ Hid (Sp.refL s.data.toList = Sp.refFin st days [tl (fl 0), tl (fl 1), tl (fl 2)] [tl (fl 3), tl (fl 4), tl (fl 5)] ((xs.map tl).drop k)) ∧ Hid (st < 3 → fl 3 = ⟨#[48, 48]⟩ ∧ fl 4 = ⟨#[48, 48]⟩ ∧ fl 5 = ⟨#[48, 48]⟩)) (fun _ iv _ => n - (intOf iv).toNat)
      case atStart => exact ⟨0, 0, _, _, _, Nat.zero_le _, rfl, rfl, by decide, HPW0, Lib.hid (by rw [HGO0.out]; rfl), Lib.hid (fun _ => ⟨rfl, rfl, rfl⟩)⟩
      case round =>
        obtain ⟨k, st, D, days, fl, hk, rfl, rfl, hst3, HPW, HGO, HNT⟩ := hrel
        have v1 : IntKind.i64.wrap ((k : Int) + 1) = ((k + 1 : Nat) : Int) := by rw [IntKind.wrap_i64]; omega
        by_cases hlt : k < n
        · have hxk : (k : Int) < (n : Int) := by omega
          have hx0 : (0 : Int) ≤ (k : Int) := by omega
          have hkl : k < xs.length := by rw [HN2.out]; exact hlt
          obtain ⟨ad, rfl, hc⟩ := HRW.out k hkl
          have c1 := hc w2 (Below.refl _ _)
          have hblt := World.block_lt_of_cell? w2 _ c1
          have c0 : wr.cell? (ad.add k) = some (.string xs[k]) := (World.cell?_of_block (w := w2) ((HPW.out.hk _ (by have := HB1E.out; omega) (by have := HB1E.out; omega) (by have := HB1E.out; omega)).trans (HOLD.out _ hblt))).trans c1
          have HDR : Hid ((xs.map tl).drop k = tl xs[k] :: (xs.map tl).drop (k + 1)) := Lib.hid (by
            rw [List.drop_eq_getElem_cons (by rw [List.length_map]; exact hkl), List.getElem_map])
          have hxs1 : xs[k].size ≤ 418 := Nat.le_trans (HXZ.out _ (List.getElem_mem hkl)) hNs
          clear hc c1 hblt
          generalize xs[k] = x at *
          go_wp2_with fail
          refine (rsplit_any x 45 45 rfl wr (by omega)).mono ?_
          rintro e w4 ⟨⟨A1, cp1, xs1, hx1', rfl, hr1, hl1, hz1⟩, hb4⟩
          have HPW4 := Lib.hid (HPW.out.on hb4)
          clear HPW c0 hb4
          go_wp2_with fail
          refine (rsplit_any x 58 58 rfl w4 (by omega)).mono ?_
          rintro e w5 ⟨⟨A2, cp2, xs2, hx2, rfl, hr2, hl2, hz2⟩, hb5⟩
          have HPW5 := Lib.hid (HPW4.out.on hb5)
          replace hr1 := (hr1.below hb5).more hb5.size
          clear HPW4 hb5
          have HR1 := Lib.hid hr1
          have HR2 := Lib.hid hr2
          have HX1 := Lib.hid hx1'
          have HX2 := Lib.hid hx2
          have HZZ1 := Lib.hid hz1
          have HZZ2 := Lib.hid hz2
          clear hr1 hr2 hx1' hx2 hz1 hz2
          go_wp2_with fail
          refine (rdays_any x w5 (by omega)).mono ?_
          rintro e wq ⟨hdp, hb6⟩
          have HPW := Lib.hid (HPW5.out.on hb6)
          have HR1' := Lib.hid ((HR1.out.below hb6).more hb6.size)
          have HR2' := Lib.hid ((HR2.out.below hb6).more hb6.size)
          clear HPW5 hb6 HR1 HR2
          have hxs2 : x.size ≤ 1048576 := by omega
          have h01 : w.heap.size ≠ b1 := by omega
          have hf1 : bf ≠ b1 := by omega
          rcases hdp with ⟨ds, dA, dn, dc, hds, rfl, hrdd, hnd⟩ | ⟨hds, rfl⟩
          · by_cases s1 : st < 1
            · have s1i : (st : Int) < 1 := by omega
              have HPW2 : Hid (PW w w3 w.heap.size b1 bf ⟨dA, dn, dc⟩ ds fl _) := Lib.hid (PW.setd HPW.out h0b (by omega) (by omega) hrdd hnd)
              have HGO2 : Hid (Sp.refL s.data.toList = Sp.refFin 1 ds [tl (fl 0), tl (fl 1), tl (fl 2)] [tl (fl 3), tl (fl 4), tl (fl 5)] ((xs.map tl).drop (k + 1))) := Lib.hid (by
                rw [HGO.out, HDR.out, Sp.refFin_step, show Sp.daysP (tl x) = some ds from hds, if_pos ⟨rfl, by omega⟩]
                rfl)
              have d0 := HPW.out.h1.cd
              have e0 := HPW.out.h1.fz 0
              simp only [slV] at d0
              clear hrdd hds
              go_wp2
              go_roundw
              case rel => exact ⟨k + 1, 1, ⟨dA, dn, dc⟩, ds, fl, by omega, by first | rfl | go_num, by first | rfl | go_num, by omega, HPW2, HGO2, Lib.hid (fun _ => HNT.out (by omega))⟩
              case measure => simp [intOf]; omega
            · have s1i : ¬ (st : Int) < 1 := by omega
              have hx1 := HX1.out
              have hx2 := HX2.out
              have hr1 := HR1'.out
              have hr2 := HR2'.out
              have hz1 := HZZ1.out
              have hz2 := HZZ2.out
              clear hrdd
              by_cases hm1 : xs1.length = 3
              · by_cases s2 : st < 2
                · have s2i : (st : Int) < 2 := by omega
                  obtain ⟨a, b, c, rfl⟩ := list3 hm1
                  have h45 : Sp.splitC 45 (tl x) = [tl a, tl b, tl c] := hx1.symm
                  obtain ⟨ad1, rfl, _, hc1⟩ := hr1.here (by simp)
                  have HSRC : Hid (∀ j v, ([.string a, .string b, .string c] : List Value)[j]? = some v → wq.cell? (ad1.add j) = some v) := Lib.hid (fun j v h => hc1 j v h)
                  have hza := hz1 a (by simp)
                  have hzb := hz1 b (by simp)
                  have hzc := hz1 c (by simp)
                  have HGO2 : Hid (Sp.refL s.data.toList = Sp.refFin 2 days [tl a, tl b, tl c] [tl (fl 3), tl (fl 4), tl (fl 5)] ((xs.map tl).drop (k + 1))) := Lib.hid (by
                    rw [HGO.out, HDR.out, Sp.refFin_step, if_neg (fun h => absurd h.2 (by omega)), h45, if_pos ⟨rfl, by omega⟩])
                  have HPW2 := Lib.hid (PW.setf (g := fun i => [a, b, c, fl 3, fl 4, fl 5][i]?.getD a) HPW.out (by omega) (by omega) (by omega) _ rfl (fun i hi => by
                    have e : i = 0 ∨ i = 1 ∨ i = 2 ∨ i = 3 ∨ i = 4 ∨ i = 5 := by omega
                    rcases e with rfl | rfl | rfl | rfl | rfl | rfl
                    · exact Nat.le_trans hza hxs2
                    · exact Nat.le_trans hzb hxs2
                    · exact Nat.le_trans hzc hxs2
                    · exact HPW.out.hl 3 (by decide)
                    · exact HPW.out.hl 4 (by decide)
                    · exact HPW.out.hl 5 (by decide)))
                  have HNT2 : Hid (2 < 3 → fl 3 = ⟨#[48, 48]⟩ ∧ fl 4 = ⟨#[48, 48]⟩ ∧ fl 5 = ⟨#[48, 48]⟩) := Lib.hid (fun _ => HNT.out (by omega))
                  have q45 : (((3 : Nat) : Int) == 3) = true := rfl
                  clear hm1 h45 hc1 hx1 hr1 hz1
                  go_upto_region 18 with fail
                  go_wp2_with (refine wpList_copy_own rfl _ _ _ _ rfl 9 Tryz.underlying50 (by kernel_rfl) bf 0 6 6 ad1 3 cp1 rfl rfl _ 9 HPW.out.hf [.string a, .string b, .string c] rfl HSRC.out (by show 0 + 3 ≤ 6; decide) (strsC_cells [a, b, c]) ?_)
                  go_wp2
                  go_roundw
                  case rel => exact ⟨k + 1, 2, D, days, fun i => [a, b, c, fl 3, fl 4, fl 5][i]?.getD a, by omega, by first | rfl | go_num, by first | rfl | go_num, by omega, HPW2, HGO2, HNT2⟩
                  case measure => simp [intOf]; omega
                · have s2i : ¬ (st : Int) < 2 := by omega
                  have q1 : ((xs1.length : Int) == 3) = true := by simp; omega
                  by_cases hm2 : xs2.length = 2
                  · by_cases s3 : st < 3
                    · have s3i : (st : Int) < 3 := by omega
                      obtain ⟨a, b, rfl⟩ := list2 hm2
                      have h58 : Sp.splitC 58 (tl x) = [tl a, tl b] := hx2.symm
                      obtain ⟨ad2, rfl, _, hc2⟩ := hr2.here (by simp)
                      have HSRC : Hid (∀ j v, ([.string a, .string b] : List Value)[j]? = some v → wq.cell? (ad2.add j) = some v) := Lib.hid (fun j v h => hc2 j v h)
                      have hza := hz2 a (by simp)
                      have hzb := hz2 b (by simp)
                      have HGO2 : Hid (Sp.refL s.data.toList = Sp.refFin 3 days [tl (fl 0), tl (fl 1), tl (fl 2)] [tl a, tl b, tl (fl 5)] ((xs.map tl).drop (k + 1))) := Lib.hid (by
                        rw [HGO.out, HDR.out, Sp.refFin_step, if_neg (fun h => absurd h.2 (by omega)), if_neg (fun h => absurd h.2 (by omega)), h58, if_pos ⟨.inl rfl, by omega⟩, (HNT.out (by omega)).2.2]
                        rfl)
                      have HPW2 := Lib.hid (PW.setf (g := fun i => [fl 0, fl 1, fl 2, a, b, fl 5][i]?.getD a) HPW.out (by omega) (by omega) (by omega) _ rfl (fun i hi => by
                        have e : i = 0 ∨ i = 1 ∨ i = 2 ∨ i = 3 ∨ i = 4 ∨ i = 5 := by omega
                        rcases e with rfl | rfl | rfl | rfl | rfl | rfl
                        · exact HPW.out.hl 0 (by decide)
                        · exact HPW.out.hl 1 (by decide)
                        · exact HPW.out.hl 2 (by decide)
                        · exact Nat.le_trans hza hxs2
                        · exact Nat.le_trans hzb hxs2
                        · exact HPW.out.hl 5 (by decide)))
                      have HNT2 : Hid (3 < 3 → ([fl 0, fl 1, fl 2, a, b, fl 5][3]?.getD a) = ⟨#[48, 48]⟩ ∧ ([fl 0, fl 1, fl 2, a, b, fl 5][4]?.getD a) = ⟨#[48, 48]⟩ ∧ ([fl 0, fl 1, fl 2, a, b, fl 5][5]?.getD a) = ⟨#[48, 48]⟩) := Lib.hid (fun h => absurd h (by decide))
                      clear hm2 h58 hc2 hx2 hr2 hz2 hx1
                      go_upto_region 21 with fail
                      go_wp2_with (refine wpList_copy_own rfl _ _ _ _ rfl 9 Tryz.underlying50 (by kernel_rfl) bf 3 3 3 ad2 2 cp2 rfl rfl _ 9 HPW.out.hf [.string a, .string b] rfl HSRC.out (by show 3 + 2 ≤ 6; decide) (strsC_cells [a, b]) ?_)
                      go_wp2
                      go_roundw
                      case rel => exact ⟨k + 1, 3, D, days, fun i => [fl 0, fl 1, fl 2, a, b, fl 5][i]?.getD a, by omega, by first | rfl | go_num, by first | rfl | go_num, by omega, HPW2, HGO2, HNT2⟩
                      case measure => simp [intOf]; omega
                    · have s3i : ¬ (st : Int) < 3 := by omega
                      have q2 : ((xs2.length : Int) == 2) = true := by simp; omega
                      have HNO : Hid (Sp.parseP s.data.toList = none) := Lib.hid (by
                        rw [HPAR.out, HGO.out, HDR.out, Sp.refFin_step]
                        rw [if_neg (fun h => absurd h.2 (by omega))]
                        rw [if_neg (fun h => absurd h.2 (by omega))]
                        rw [if_neg (fun h => absurd h.2 (by omega))]
                        try rfl)
                      clear hx1 hx2 hr1 hr2 hz1 hz2 hds
                      try clear hm3
                      try clear hm2
                      try clear hm1
                      go_upto_region 14 with fail
                      have z0 := HPW.out.h0.cd
                      have g0 := HPW.out.h0.fz 0
                      have z1 := HPW.out.h0.cell 0 (by decide)
                      have g1 := HPW.out.h0.fz 1
                      have z2 := HPW.out.h0.cell 1 (by decide)
                      have g2 := HPW.out.h0.fz 2
                      have z3 := HPW.out.h0.cell 2 (by decide)
                      have g3 := HPW.out.h0.fz 3
                      have z4 := HPW.out.h0.cell 3 (by decide)
                      have g4 := HPW.out.h0.fz 4
                      have z5 := HPW.out.h0.cell 4 (by decide)
                      have g5 := HPW.out.h0.fz 5
                      have z6 := HPW.out.h0.cell 5 (by decide)
                      have g6 := HPW.out.h0.fz 6
                      simp only [slV, nilS] at z0 z1 z2 z3 z4 z5 z6
                      have HCVF := Lib.hid (CV.put HPW.out.h0 nilS nilS nilS nilS nilS nilS nilS)
                      have HBF := Lib.hid (below_put7c HPW.out.hb (Nat.le_refl _) (.slice none 0 0) (.slice none 0 0) (.slice none 0 0) (.slice none 0 0) (.slice none 0 0) (.slice none 0 0) (.slice none 0 0))
                      go_wp2
                      refine bodyPost_ret (v := .tuple #[.agg #[.slice none 0 0, .slice none 0 0, .slice none 0 0, .slice none 0 0, .slice none 0 0, .slice none 0 0, .slice none 0 0], .bool false]) (rparse_res HCVF.out rfl rfl) rfl ?_
                      exact ⟨.inr ⟨HNO.out, rfl⟩, HBF.out⟩
                  · have q2 : ((xs2.length : Int) == 2) = false := by simp; omega
                    by_cases hm3 : xs2.length = 3
                    · by_cases s3 : st < 3
                      · have s3i : (st : Int) < 3 := by omega
                        obtain ⟨a, b, c, rfl⟩ := list3 hm3
                        have h58 : Sp.splitC 58 (tl x) = [tl a, tl b, tl c] := hx2.symm
                        obtain ⟨ad2, rfl, _, hc2⟩ := hr2.here (by simp)
                        have HSRC : Hid (∀ j v, ([.string a, .string b, .string c] : List Value)[j]? = some v → wq.cell? (ad2.add j) = some v) := Lib.hid (fun j v h => hc2 j v h)
                        have hza := hz2 a (by simp)
                        have hzb := hz2 b (by simp)
                        have hzc := hz2 c (by simp)
                        have HGO2 : Hid (Sp.refL s.data.toList = Sp.refFin 3 days [tl (fl 0), tl (fl 1), tl (fl 2)] [tl a, tl b, tl c] ((xs.map tl).drop (k + 1))) := Lib.hid (by
                          rw [HGO.out, HDR.out, Sp.refFin_step, if_neg (fun h => absurd h.2 (by omega)), if_neg (fun h => absurd h.2 (by omega)), h58, if_pos ⟨.inr rfl, by omega⟩]
                          rfl)
                        have HPW2 := Lib.hid (PW.setf (g := fun i => [fl 0, fl 1, fl 2, a, b, c][i]?.getD a) HPW.out (by omega) (by omega) (by omega) _ rfl (fun i hi => by
                          have e : i = 0 ∨ i = 1 ∨ i = 2 ∨ i = 3 ∨ i = 4 ∨ i = 5 := by omega
                          rcases e with rfl | rfl | rfl | rfl | rfl | rfl
                          · exact HPW.out.hl 0 (by decide)
                          · exact HPW.out.hl 1 (by decide)
                          · exact HPW.out.hl 2 (by decide)
                          · exact Nat.le_trans hza hxs2
                          · exact Nat.le_trans hzb hxs2
                          · exact Nat.le_trans hzc hxs2))
                        have HNT2 : Hid (3 < 3 → ([fl 0, fl 1, fl 2, a, b, c][3]?.getD a) = ⟨#[48, 48]⟩ ∧ ([fl 0, fl 1, fl 2, a, b, c][4]?.getD a) = ⟨#[48, 48]⟩ ∧ ([fl 0, fl 1, fl 2, a, b, c][5]?.getD a) = ⟨#[48, 48]⟩) := Lib.hid (fun h => absurd h (by decide))
                        clear hm2 hm3 h58 hc2 hx2 hr2 hz2 hx1
                        go_upto_region 21 with fail
                        go_wp2_with (refine wpList_copy_own rfl _ _ _ _ rfl 9 Tryz.underlying50 (by kernel_rfl) bf 3 3 3 ad2 3 cp2 rfl rfl _ 9 HPW.out.hf [.string a, .string b, .string c] rfl HSRC.out (by show 3 + 3 ≤ 6; decide) (strsC_cells [a, b, c]) ?_)
                        go_wp2
                        go_roundw
                        case rel => exact ⟨k + 1, 3, D, days, fun i => [fl 0, fl 1, fl 2, a, b, c][i]?.getD a, by omega, by first | rfl | go_num, by first | rfl | go_num, by omega, HPW2, HGO2, HNT2⟩
                        case measure => simp [intOf]; omega
                      · have s3i : ¬ (st : Int) < 3 := by omega
                        have q3 : ((xs2.length : Int) == 3) = true := by simp; omega
                        have HNO : Hid (Sp.parseP s.data.toList = none) := Lib.hid (by
                          rw [HPAR.out, HGO.out, HDR.out, Sp.refFin_step]
                          rw [if_neg (fun h => absurd h.2 (by omega))]
                          rw [if_neg (fun h => absurd h.2 (by omega))]
                          rw [if_neg (fun h => absurd h.2 (by omega))]
                          try rfl)
                        clear hx1 hx2 hr1 hr2 hz1 hz2 hds
                        try clear hm3
                        try clear hm2
                        try clear hm1
                        go_upto_region 14 with fail
                        have z0 := HPW.out.h0.cd
                        have g0 := HPW.out.h0.fz 0
                        have z1 := HPW.out.h0.cell 0 (by decide)
                        have g1 := HPW.out.h0.fz 1
                        have z2 := HPW.out.h0.cell 1 (by decide)
                        have g2 := HPW.out.h0.fz 2
                        have z3 := HPW.out.h0.cell 2 (by decide)
                        have g3 := HPW.out.h0.fz 3
                        have z4 := HPW.out.h0.cell 3 (by decide)
                        have g4 := HPW.out.h0.fz 4
                        have z5 := HPW.out.h0.cell 4 (by decide)
                        have g5 := HPW.out.h0.fz 5
                        have z6 := HPW.out.h0.cell 5 (by decide)
                        have g6 := HPW.out.h0.fz 6
                        simp only [slV, nilS] at z0 z1 z2 z3 z4 z5 z6
                        have HCVF := Lib.hid (CV.put HPW.out.h0 nilS nilS nilS nilS nilS nilS nilS)
                        have HBF := Lib.hid (below_put7c HPW.out.hb (Nat.le_refl _) (.slice none 0 0) (.slice none 0 0) (.slice none 0 0) (.slice none 0 0) (.slice none 0 0) (.slice none 0 0) (.slice none 0 0))
                        go_wp2
                        refine bodyPost_ret (v := .tuple #[.agg #[.slice none 0 0, .slice none 0 0, .slice none 0 0, .slice none 0 0, .slice none 0 0, .slice none 0 0, .slice none 0 0], .bool false]) (rparse_res HCVF.out rfl rfl) rfl ?_
                        exact ⟨.inr ⟨HNO.out, rfl⟩, HBF.out⟩
                    · have q3 : ((xs2.length : Int) == 3) = false := by simp; omega
                      have HNO : Hid (Sp.parseP s.data.toList = none) := Lib.hid (by
                        rw [HPAR.out, HGO.out, HDR.out, Sp.refFin_step]
                        rw [if_neg (fun h => absurd h.2 (by omega))]
                        rw [if_neg (fun h => absurd h.2 (by omega))]
                        rw [if_neg (fun h => h.1.elim (fun (h1 : (Sp.splitC 58 x.data.toList).length = 2) => hm2 (by rw [← hx2, List.length_map] at h1; exact h1)) (fun (h1 : (Sp.splitC 58 x.data.toList).length = 3) => hm3 (by rw [← hx2, List.length_map] at h1; exact h1)))]
                        try rfl)
                      clear hx1 hx2 hr1 hr2 hz1 hz2 hds
                      try clear hm3
                      try clear hm2
                      try clear hm1
                      go_upto_region 14 with fail
                      have z0 := HPW.out.h0.cd
                      have g0 := HPW.out.h0.fz 0
                      have z1 := HPW.out.h0.cell 0 (by decide)
                      have g1 := HPW.out.h0.fz 1
                      have z2 := HPW.out.h0.cell 1 (by decide)
                      have g2 := HPW.out.h0.fz 2
                      have z3 := HPW.out.h0.cell 2 (by decide)
                      have g3 := HPW.out.h0.fz 3
                      have z4 := HPW.out.h0.cell 3 (by decide)
                      have g4 := HPW.out.h0.fz 4
                      have z5 := HPW.out.h0.cell 4 (by decide)
                      have g5 := HPW.out.h0.fz 5
                      have z6 := HPW.out.h0.cell 5 (by decide)
                      have g6 := HPW.out.h0.fz 6
                      simp only [slV, nilS] at z0 z1 z2 z3 z4 z5 z6
                      have HCVF := Lib.hid (CV.put HPW.out.h0 nilS nilS nilS nilS nilS nilS nilS)
                      have HBF := Lib.hid (below_put7c HPW.out.hb (Nat.le_refl _) (.slice none 0 0) (.slice none 0 0) (.slice none 0 0) (.slice none 0 0) (.slice none 0 0) (.slice none 0 0) (.slice none 0 0))
                      go_wp2
                      refine bodyPost_ret (v := .tuple #[.agg #[.slice none 0 0, .slice none 0 0, .slice none 0 0, .slice none 0 0, .slice none 0 0, .slice none 0 0, .slice none 0 0], .bool false]) (rparse_res HCVF.out rfl rfl) rfl ?_
                      exact ⟨.inr ⟨HNO.out, rfl⟩, HBF.out⟩
              · have q1 : ((xs1.length : Int) == 3) = false := by simp; omega
                by_cases hm2 : xs2.length = 2
                · by_cases s3 : st < 3
                  · have s3i : (st : Int) < 3 := by omega
                    obtain ⟨a, b, rfl⟩ := list2 hm2
                    have h58 : Sp.splitC 58 (tl x) = [tl a, tl b] := hx2.symm
                    obtain ⟨ad2, rfl, _, hc2⟩ := hr2.here (by simp)
                    have HSRC : Hid (∀ j v, ([.string a, .string b] : List Value)[j]? = some v → wq.cell? (ad2.add j) = some v) := Lib.hid (fun j v h => hc2 j v h)
                    have hza := hz2 a (by simp)
                    have hzb := hz2 b (by simp)
                    have HGO2 : Hid (Sp.refL s.data.toList = Sp.refFin 3 days [tl (fl 0), tl (fl 1), tl (fl 2)] [tl a, tl b, tl (fl 5)] ((xs.map tl).drop (k + 1))) := Lib.hid (by
                      rw [HGO.out, HDR.out, Sp.refFin_step, if_neg (fun h => absurd h.2 (by omega)), if_neg (fun h => hm1 (by have h1 : (Sp.splitC 45 x.data.toList).length = 3 := h.1; rw [← hx1, List.length_map] at h1; exact h1)), h58, if_pos ⟨.inl rfl, by omega⟩, (HNT.out (by omega)).2.2]
                      rfl)
                    have HPW2 := Lib.hid (PW.setf (g := fun i => [fl 0, fl 1, fl 2, a, b, fl 5][i]?.getD a) HPW.out (by omega) (by omega) (by omega) _ rfl (fun i hi => by
                      have e : i = 0 ∨ i = 1 ∨ i = 2 ∨ i = 3 ∨ i = 4 ∨ i = 5 := by omega
                      rcases e with rfl | rfl | rfl | rfl | rfl | rfl
                      · exact HPW.out.hl 0 (by decide)
                      · exact HPW.out.hl 1 (by decide)
                      · exact HPW.out.hl 2 (by decide)
                      · exact Nat.le_trans hza hxs2
                      · exact Nat.le_trans hzb hxs2
                      · exact HPW.out.hl 5 (by decide)))
                    have HNT2 : Hid (3 < 3 → ([fl 0, fl 1, fl 2, a, b, fl 5][3]?.getD a) = ⟨#[48, 48]⟩ ∧ ([fl 0, fl 1, fl 2, a, b, fl 5][4]?.getD a) = ⟨#[48, 48]⟩ ∧ ([fl 0, fl 1, fl 2, a, b, fl 5][5]?.getD a) = ⟨#[48, 48]⟩) := Lib.hid (fun h => absurd h (by decide))
                    clear hm2 h58 hc2 hx2 hr2 hz2 hx1
                    go_upto_region 21 with fail
                    go_wp2_with (refine wpList_copy_own rfl _ _ _ _ rfl 9 Tryz.underlying50 (by kernel_rfl) bf 3 3 3 ad2 2 cp2 rfl rfl _ 9 HPW.out.hf [.string a, .string b] rfl HSRC.out (by show 3 + 2 ≤ 6; decide) (strsC_cells [a, b]) ?_)
                    go_wp2
                    go_roundw
                    case rel => exact ⟨k + 1, 3, D, days, fun i => [fl 0, fl 1, fl 2, a, b, fl 5][i]?.getD a, by omega, by first | rfl | go_num, by first | rfl | go_num, by omega, HPW2, HGO2, HNT2⟩
                    case measure => simp [intOf]; omega
                  · have s3i : ¬ (st : Int) < 3 := by omega
                    have q2 : ((xs2.length : Int) == 2) = true := by simp; omega
                    have HNO : Hid (Sp.parseP s.data.toList = none) := Lib.hid (by
                      rw [HPAR.out, HGO.out, HDR.out, Sp.refFin_step]
                      rw [if_neg (fun h => absurd h.2 (by omega))]
                      rw [if_neg (fun h => hm1 (by have h1 : (Sp.splitC 45 x.data.toList).length = 3 := h.1; rw [← hx1, List.length_map] at h1; exact h1))]
                      rw [if_neg (fun h => absurd h.2 (by omega))]
                      try rfl)
                    clear hx1 hx2 hr1 hr2 hz1 hz2 hds
                    try clear hm3
                    try clear hm2
                    try clear hm1
                    go_upto_region 14 with fail
                    have z0 := HPW.out.h0.cd
                    have g0 := HPW.out.h0.fz 0
                    have z1 := HPW.out.h0.cell 0 (by decide)
                    have g1 := HPW.out.h0.fz 1
                    have z2 := HPW.out.h0.cell 1 (by decide)
                    have g2 := HPW.out.h0.fz 2
                    have z3 := HPW.out.h0.cell 2 (by decide)
                    have g3 := HPW.out.h0.fz 3
                    have z4 := HPW.out.h0.cell 3 (by decide)
                    have g4 := HPW.out.h0.fz 4
                    have z5 := HPW.out.h0.cell 4 (by decide)
                    have g5 := HPW.out.h0.fz 5
                    have z6 := HPW.out.h0.cell 5 (by decide)
                    have g6 := HPW.out.h0.fz 6
                    simp only [slV, nilS] at z0 z1 z2 z3 z4 z5 z6
                    have HCVF := Lib.hid (CV.put HPW.out.h0 nilS nilS nilS nilS nilS nilS nilS)
                    have HBF := Lib.hid (below_put7c HPW.out.hb (Nat.le_refl _) (.slice none 0 0) (.slice none 0 0) (.slice none 0 0) (.slice none 0 0) (.slice none 0 0) (.slice none 0 0) (.slice none 0 0))
                    go_wp2
                    refine bodyPost_ret (v := .tuple #[.agg #[.slice none 0 0, .slice none 0 0, .slice none 0 0, .slice none 0 0, .slice none 0 0, .slice none 0 0, .slice none 0 0], .bool false]) (rparse_res HCVF.out rfl rfl) rfl ?_
                    exact ⟨.inr ⟨HNO.out, rfl⟩, HBF.out⟩
                · have q2 : ((xs2.length : Int) == 2) = false := by simp; omega
                  by_cases hm3 : xs2.length = 3
                  · by_cases s3 : st < 3
                    · have s3i : (st : Int) < 3 := by omega
                      obtain ⟨a, b, c, rfl⟩ := list3 hm3
                      have h58 : Sp.splitC 58 (tl x) = [tl a, tl b, tl c] := hx2.symm
                      obtain ⟨ad2, rfl, _, hc2⟩ := hr2.here (by simp)
                      have HSRC : Hid (∀ j v, ([.string a, .string b, .string c] : List Value)[j]? = some v → wq.cell? (ad2.add j) = some v) := Lib.hid (fun j v h => hc2 j v h)
                      have hza := hz2 a (by simp)
                      have hzb := hz2 b (by simp)
                      have hzc := hz2 c (by simp)
                      have HGO2 : Hid (Sp.refL s.data.toList = Sp.refFin 3 days [tl (fl 0), tl (fl 1), tl (fl 2)] [tl a, tl b, tl c] ((xs.map tl).drop (k + 1))) := Lib.hid (by
                        rw [HGO.out, HDR.out, Sp.refFin_step, if_neg (fun h => absurd h.2 (by omega)), if_neg (fun h => hm1 (by have h1 : (Sp.splitC 45 x.data.toList).length = 3 := h.1; rw [← hx1, List.length_map] at h1; exact h1)), h58, if_pos ⟨.inr rfl, by omega⟩]
                        rfl)
                      have HPW2 := Lib.hid (PW.setf (g := fun i => [fl 0, fl 1, fl 2, a, b, c][i]?.getD a) HPW.out (by omega) (by omega) (by omega) _ rfl (fun i hi => by
                        have e : i = 0 ∨ i = 1 ∨ i = 2 ∨ i = 3 ∨ i = 4 ∨ i = 5 := by omega
                        rcases e with rfl | rfl | rfl | rfl | rfl | rfl
                        · exact HPW.out.hl 0 (by decide)
                        · exact HPW.out.hl 1 (by decide)
                        · exact HPW.out.hl 2 (by decide)
                        · exact Nat.le_trans hza hxs2
                        · exact Nat.le_trans hzb hxs2
                        · exact Nat.le_trans hzc hxs2))
                      have HNT2 : Hid (3 < 3 → ([fl 0, fl 1, fl 2, a, b, c][3]?.getD a) = ⟨#[48, 48]⟩ ∧ ([fl 0, fl 1, fl 2, a, b, c][4]?.getD a) = ⟨#[48, 48]⟩ ∧ ([fl 0, fl 1, fl 2, a, b, c][5]?.getD a) = ⟨#[48, 48]⟩) := Lib.hid (fun h => absurd h (by decide))
                      clear hm2 hm3 h58 hc2 hx2 hr2 hz2 hx1
                      go_upto_region 21 with fail
                      go_wp2_with (refine wpList_copy_own rfl _ _ _ _ rfl 9 Tryz.underlying50 (by kernel_rfl) bf 3 3 3 ad2 3 cp2 rfl rfl _ 9 HPW.out.hf [.string a, .string b, .string c] rfl HSRC.out (by show 3 + 3 ≤ 6; decide) (strsC_cells [a, b, c]) ?_)
                      go_wp2
                      go_roundw
                      case rel => exact ⟨k + 1, 3, D, days, fun i => [fl 0, fl 1, fl 2, a, b, c][i]?.getD a, by omega, by first | rfl | go_num, by first | rfl | go_num, by omega, HPW2, HGO2, HNT2⟩
                      case measure => simp [intOf]; omega
                    · have s3i : ¬ (st : Int) < 3 := by omega
                      have q3 : ((xs2.length : Int) == 3) = true := by simp; omega
                      have HNO : Hid (Sp.parseP s.data.toList = none) := Lib.hid (by
                        rw [HPAR.out, HGO.out, HDR.out, Sp.refFin_step]
                        rw [if_neg (fun h => absurd h.2 (by omega))]
                        rw [if_neg (fun h => hm1 (by have h1 : (Sp.splitC 45 x.data.toList).length = 3 := h.1; rw [← hx1, List.length_map] at h1; exact h1))]
                        rw [if_neg (fun h => absurd h.2 (by omega))]
                        try rfl)
                      clear hx1 hx2 hr1 hr2 hz1 hz2 hds
                      try clear hm3
                      try clear hm2
                      try clear hm1
                      go_upto_region 14 with fail
                      have z0 := HPW.out.h0.cd
                      have g0 := HPW.out.h0.fz 0
                      have z1 := HPW.out.h0.cell 0 (by decide)
                      have g1 := HPW.out.h0.fz 1
                      have z2 := HPW.out.h0.cell 1 (by decide)
                      have g2 := HPW.out.h0.fz 2
                      have z3 := HPW.out.h0.cell 2 (by decide)
                      have g3 := HPW.out.h0.fz 3
                      have z4 := HPW.out.h0.cell 3 (by decide)
                      have g4 := HPW.out.h0.fz 4
                      have z5 := HPW.out.h0.cell 4 (by decide)
                      have g5 := HPW.out.h0.fz 5
                      have z6 := HPW.out.h0.cell 5 (by decide)
                      have g6 := HPW.out.h0.fz 6
                      simp only [slV, nilS] at z0 z1 z2 z3 z4 z5 z6
                      have HCVF := Lib.hid (CV.put HPW.out.h0 nilS nilS nilS nilS nilS nilS nilS)
                      have HBF := Lib.hid (below_put7c HPW.out.hb (Nat.le_refl _) (.slice none 0 0) (.slice none 0 0) (.slice none 0 0) (.slice none 0 0) (.slice none 0 0) (.slice none 0 0) (.slice none 0 0))
                      go_wp2
                      refine bodyPost_ret (v := .tuple #[.agg #[.slice none 0 0, .slice none 0 0, .slice none 0 0, .slice none 0 0, .slice none 0 0, .slice none 0 0, .slice none 0 0], .bool false]) (rparse_res HCVF.out rfl rfl) rfl ?_
                      exact ⟨.inr ⟨HNO.out, rfl⟩, HBF.out⟩
                  · have q3 : ((xs2.length : Int) == 3) = false := by simp; omega
                    have HNO : Hid (Sp.parseP s.data.toList = none) := Lib.hid (by
                      rw [HPAR.out, HGO.out, HDR.out, Sp.refFin_step]
                      rw [if_neg (fun h => absurd h.2 (by omega))]
                      rw [if_neg (fun h => hm1 (by have h1 : (Sp.splitC 45 x.data.toList).length = 3 := h.1; rw [← hx1, List.length_map] at h1; exact h1))]
                      rw [if_neg (fun h => h.1.elim (fun (h1 : (Sp.splitC 58 x.data.toList).length = 2) => hm2 (by rw [← hx2, List.length_map] at h1; exact h1)) (fun (h1 : (Sp.splitC 58 x.data.toList).length = 3) => hm3 (by rw [← hx2, List.length_map] at h1; exact h1)))]
                      try rfl)
                    clear hx1 hx2 hr1 hr2 hz1 hz2 hds
                    try clear hm3
                    try clear hm2
                    try clear hm1
                    go_upto_region 14 with fail
                    have z0 := HPW.out.h0.cd
                    have g0 := HPW.out.h0.fz 0
                    have z1 := HPW.out.h0.cell 0 (by decide)
                    have g1 := HPW.out.h0.fz 1
                    have z2 := HPW.out.h0.cell 1 (by decide)
                    have g2 := HPW.out.h0.fz 2
                    have z3 := HPW.out.h0.cell 2 (by decide)
                    have g3 := HPW.out.h0.fz 3
                    have z4 := HPW.out.h0.cell 3 (by decide)
                    have g4 := HPW.out.h0.fz 4
                    have z5 := HPW.out.h0.cell 4 (by decide)
                    have g5 := HPW.out.h0.fz 5
                    have z6 := HPW.out.h0.cell 5 (by decide)
                    have g6 := HPW.out.h0.fz 6
                    simp only [slV, nilS] at z0 z1 z2 z3 z4 z5 z6
                    have HCVF := Lib.hid (CV.put HPW.out.h0 nilS nilS nilS nilS nilS nilS nilS)
                    have HBF := Lib.hid (below_put7c HPW.out.hb (Nat.le_refl _) (.slice none 0 0) (.slice none 0 0) (.slice none 0 0) (.slice none 0 0) (.slice none 0 0) (.slice none 0 0) (.slice none 0 0))
                    go_wp2
                    refine bodyPost_ret (v := .tuple #[.agg #[.slice none 0 0, .slice none 0 0, .slice none 0 0, .slice none 0 0, .slice none 0 0, .slice none 0 0, .slice none 0 0], .bool false]) (rparse_res HCVF.out rfl rfl) rfl ?_
                    exact ⟨.inr ⟨HNO.out, rfl⟩, HBF.out⟩
          · have hx1 := HX1.out
            have hx2 := HX2.out
            have hr1 := HR1'.out
            have hr2 := HR2'.out
            have hz1 := HZZ1.out
            have hz2 := HZZ2.out
            by_cases hm1 : xs1.length = 3
            · by_cases s2 : st < 2
              · have s2i : (st : Int) < 2 := by omega
                obtain ⟨a, b, c, rfl⟩ := list3 hm1
                have h45 : Sp.splitC 45 (tl x) = [tl a, tl b, tl c] := hx1.symm
                obtain ⟨ad1, rfl, _, hc1⟩ := hr1.here (by simp)
                have HSRC : Hid (∀ j v, ([.string a, .string b, .string c] : List Value)[j]? = some v → wq.cell? (ad1.add j) = some v) := Lib.hid (fun j v h => hc1 j v h)
                have hza := hz1 a (by simp)
                have hzb := hz1 b (by simp)
                have hzc := hz1 c (by simp)
                have HGO2 : Hid (Sp.refL s.data.toList = Sp.refFin 2 days [tl a, tl b, tl c] [tl (fl 3), tl (fl 4), tl (fl 5)] ((xs.map tl).drop (k + 1))) := Lib.hid (by
                  rw [HGO.out, HDR.out, Sp.refFin_step, if_neg (fun h => by rw [show Sp.daysP (tl x) = none from hds] at h; cases h.1), h45, if_pos ⟨rfl, by omega⟩])
                have HPW2 := Lib.hid (PW.setf (g := fun i => [a, b, c, fl 3, fl 4, fl 5][i]?.getD a) HPW.out (by omega) (by omega) (by omega) _ rfl (fun i hi => by
                  have e : i = 0 ∨ i = 1 ∨ i = 2 ∨ i = 3 ∨ i = 4 ∨ i = 5 := by omega
                  rcases e with rfl | rfl | rfl | rfl | rfl | rfl
                  · exact Nat.le_trans hza hxs2
                  · exact Nat.le_trans hzb hxs2
                  · exact Nat.le_trans hzc hxs2
                  · exact HPW.out.hl 3 (by decide)
                  · exact HPW.out.hl 4 (by decide)
                  · exact HPW.out.hl 5 (by decide)))
                have HNT2 : Hid (2 < 3 → fl 3 = ⟨#[48, 48]⟩ ∧ fl 4 = ⟨#[48, 48]⟩ ∧ fl 5 = ⟨#[48, 48]⟩) := Lib.hid (fun _ => HNT.out (by omega))
                have q45 : (((3 : Nat) : Int) == 3) = true := rfl
                clear hm1 h45 hc1 hx1 hr1 hz1
                go_upto_region 18 with fail
                go_wp2_with (refine wpList_copy_own rfl _ _ _ _ rfl 9 Tryz.underlying50 (by kernel_rfl) bf 0 6 6 ad1 3 cp1 rfl rfl _ 9 HPW.out.hf [.string a, .string b, .string c] rfl HSRC.out (by show 0 + 3 ≤ 6; decide) (strsC_cells [a, b, c]) ?_)
                go_wp2
                go_roundw
                case rel => exact ⟨k + 1, 2, D, days, fun i => [a, b, c, fl 3, fl 4, fl 5][i]?.getD a, by omega, by first | rfl | go_num, by first | rfl | go_num, by omega, HPW2, HGO2, HNT2⟩
                case measure => simp [intOf]; omega
              · have s2i : ¬ (st : Int) < 2 := by omega
                have q1 : ((xs1.length : Int) == 3) = true := by simp; omega
                by_cases hm2 : xs2.length = 2
                · by_cases s3 : st < 3
                  · have s3i : (st : Int) < 3 := by omega
                    obtain ⟨a, b, rfl⟩ := list2 hm2
                    have h58 : Sp.splitC 58 (tl x) = [tl a, tl b] := hx2.symm
                    obtain ⟨ad2, rfl, _, hc2⟩ := hr2.here (by simp)
                    have HSRC : Hid (∀ j v, ([.string a, .string b] : List Value)[j]? = some v → wq.cell? (ad2.add j) = some v) := Lib.hid (fun j v h => hc2 j v h)
                    have hza := hz2 a (by simp)
                    have hzb := hz2 b (by simp)
                    have HGO2 : Hid (Sp.refL s.data.toList = Sp.refFin 3 days [tl (fl 0), tl (fl 1), tl (fl 2)] [tl a, tl b, tl (fl 5)] ((xs.map tl).drop (k + 1))) := Lib.hid (by
                      rw [HGO.out, HDR.out, Sp.refFin_step, if_neg (fun h => by rw [show Sp.daysP (tl x) = none from hds] at h; cases h.1), if_neg (fun h => absurd h.2 (by omega)), h58, if_pos ⟨.inl rfl, by omega⟩, (HNT.out (by omega)).2.2]
                      rfl)
                    have HPW2 := Lib.hid (PW.setf (g := fun i => [fl 0, fl 1, fl 2, a, b, fl 5][i]?.getD a) HPW.out (by omega) (by omega) (by omega) _ rfl (fun i hi => by
                      have e : i = 0 ∨ i = 1 ∨ i = 2 ∨ i = 3 ∨ i = 4 ∨ i = 5 := by omega
                      rcases e with rfl | rfl | rfl | rfl | rfl | rfl
                      · exact HPW.out.hl 0 (by decide)
                      · exact HPW.out.hl 1 (by decide)
                      · exact HPW.out.hl 2 (by decide)
                      · exact Nat.le_trans hza hxs2
                      · exact Nat.le_trans hzb hxs2
                      · exact HPW.out.hl 5 (by decide)))
                    have HNT2 : Hid (3 < 3 → ([fl 0, fl 1, fl 2, a, b, fl 5][3]?.getD a) = ⟨#[48, 48]⟩ ∧ ([fl 0, fl 1, fl 2, a, b, fl 5][4]?.getD a) = ⟨#[48, 48]⟩ ∧ ([fl 0, fl 1, fl 2, a, b, fl 5][5]?.getD a) = ⟨#[48, 48]⟩) := Lib.hid (fun h => absurd h (by decide))
                    clear hm2 h58 hc2 hx2 hr2 hz2 hx1
                    go_upto_region 21 with fail
                    go_wp2_with (refine wpList_copy_own rfl _ _ _ _ rfl 9 Tryz.underlying50 (by kernel_rfl) bf 3 3 3 ad2 2 cp2 rfl rfl _ 9 HPW.out.hf [.string a, .string b] rfl HSRC.out (by show 3 + 2 ≤ 6; decide) (strsC_cells [a, b]) ?_)
                    go_wp2
                    go_roundw
                    case rel => exact ⟨k + 1, 3, D, days, fun i => [fl 0, fl 1, fl 2, a, b, fl 5][i]?.getD a, by omega, by first | rfl | go_num, by first | rfl | go_num, by omega, HPW2, HGO2, HNT2⟩
                    case measure => simp [intOf]; omega
                  · have s3i : ¬ (st : Int) < 3 := by omega
                    have q2 : ((xs2.length : Int) == 2) = true := by simp; omega
                    have HNO : Hid (Sp.parseP s.data.toList = none) := Lib.hid (by
                      rw [HPAR.out, HGO.out, HDR.out, Sp.refFin_step]
                      rw [if_neg (fun h => by rw [show Sp.daysP (tl x) = none from hds] at h; cases h.1)]
                      rw [if_neg (fun h => absurd h.2 (by omega))]
                      rw [if_neg (fun h => absurd h.2 (by omega))]
                      try rfl)
                    clear hx1 hx2 hr1 hr2 hz1 hz2 hds
                    try clear hm3
                    try clear hm2
                    try clear hm1
                    go_upto_region 14 with fail
                    have z0 := HPW.out.h0.cd
                    have g0 := HPW.out.h0.fz 0
                    have z1 := HPW.out.h0.cell 0 (by decide)
                    have g1 := HPW.out.h0.fz 1
                    have z2 := HPW.out.h0.cell 1 (by decide)
                    have g2 := HPW.out.h0.fz 2
                    have z3 := HPW.out.h0.cell 2 (by decide)
                    have g3 := HPW.out.h0.fz 3
                    have z4 := HPW.out.h0.cell 3 (by decide)
                    have g4 := HPW.out.h0.fz 4
                    have z5 := HPW.out.h0.cell 4 (by decide)
                    have g5 := HPW.out.h0.fz 5
                    have z6 := HPW.out.h0.cell 5 (by decide)
                    have g6 := HPW.out.h0.fz 6
                    simp only [slV, nilS] at z0 z1 z2 z3 z4 z5 z6
                    have HCVF := Lib.hid (CV.put HPW.out.h0 nilS nilS nilS nilS nilS nilS nilS)
                    have HBF := Lib.hid (below_put7c HPW.out.hb (Nat.le_refl _) (.slice none 0 0) (.slice none 0 0) (.slice none 0 0) (.slice none 0 0) (.slice none 0 0) (.slice none 0 0) (.slice none 0 0))
                    go_wp2
                    refine bodyPost_ret (v := .tuple #[.agg #[.slice none 0 0, .slice none 0 0, .slice none 0 0, .slice none 0 0, .slice none 0 0, .slice none 0 0, .slice none 0 0], .bool false]) (rparse_res HCVF.out rfl rfl) rfl ?_
                    exact ⟨.inr ⟨HNO.out, rfl⟩, HBF.out⟩
                · have q2 : ((xs2.length : Int) == 2) = false := by simp; omega
                  by_cases hm3 : xs2.length = 3
                  · by_cases s3 : st < 3
                    · have s3i : (st : Int) < 3 := by omega
                      obtain ⟨a, b, c, rfl⟩ := list3 hm3
                      have h58 : Sp.splitC 58 (tl x) = [tl a, tl b, tl c] := hx2.symm
                      obtain ⟨ad2, rfl, _, hc2⟩ := hr2.here (by simp)
                      have HSRC : Hid (∀ j v, ([.string a, .string b, .string c] : List Value)[j]? = some v → wq.cell? (ad2.add j) = some v) := Lib.hid (fun j v h => hc2 j v h)
                      have hza := hz2 a (by simp)
                      have hzb := hz2 b (by simp)
                      have hzc := hz2 c (by simp)
                      have HGO2 : Hid (Sp.refL s.data.toList = Sp.refFin 3 days [tl (fl 0), tl (fl 1), tl (fl 2)] [tl a, tl b, tl c] ((xs.map tl).drop (k + 1))) := Lib.hid (by
                        rw [HGO.out, HDR.out, Sp.refFin_step, if_neg (fun h => by rw [show Sp.daysP (tl x) = none from hds] at h; cases h.1), if_neg (fun h => absurd h.2 (by omega)), h58, if_pos ⟨.inr rfl, by omega⟩]
                        rfl)
                      have HPW2 := Lib.hid (PW.setf (g := fun i => [fl 0, fl 1, fl 2, a, b, c][i]?.getD a) HPW.out (by omega) (by omega) (by omega) _ rfl (fun i hi => by
                        have e : i = 0 ∨ i = 1 ∨ i = 2 ∨ i = 3 ∨ i = 4 ∨ i = 5 := by omega
                        rcases e with rfl | rfl | rfl | rfl | rfl | rfl
                        · exact HPW.out.hl 0 (by decide)
                        · exact HPW.out.hl 1 (by decide)
                        · exact HPW.out.hl 2 (by decide)
                        · exact Nat.le_trans hza hxs2
                        · exact Nat.le_trans hzb hxs2
                        · exact Nat.le_trans hzc hxs2))
                      have HNT2 : Hid (3 < 3 → ([fl 0, fl 1, fl 2, a, b, c][3]?.getD a) = ⟨#[48, 48]⟩ ∧ ([fl 0, fl 1, fl 2, a, b, c][4]?.getD a) = ⟨#[48, 48]⟩ ∧ ([fl 0, fl 1, fl 2, a, b, c][5]?.getD a) = ⟨#[48, 48]⟩) := Lib.hid (fun h => absurd h (by decide))
                      clear hm2 hm3 h58 hc2 hx2 hr2 hz2 hx1
                      go_upto_region 21 with fail
                      go_wp2_with (refine wpList_copy_own rfl _ _ _ _ rfl 9 Tryz.underlying50 (by kernel_rfl) bf 3 3 3 ad2 3 cp2 rfl rfl _ 9 HPW.out.hf [.string a, .string b, .string c] rfl HSRC.out (by show 3 + 3 ≤ 6; decide) (strsC_cells [a, b, c]) ?_)
                      go_wp2
                      go_roundw
                      case rel => exact ⟨k + 1, 3, D, days, fun i => [fl 0, fl 1, fl 2, a, b, c][i]?.getD a, by omega, by first | rfl | go_num, by first | rfl | go_num, by omega, HPW2, HGO2, HNT2⟩
                      case measure => simp [intOf]; omega
                    · have s3i : ¬ (st : Int) < 3 := by omega
                      have q3 : ((xs2.length : Int) == 3) = true := by simp; omega
                      have HNO : Hid (Sp.parseP s.data.toList = none) := Lib.hid (by
                        rw [HPAR.out, HGO.out, HDR.out, Sp.refFin_step]
                        rw [if_neg (fun h => by rw [show Sp.daysP (tl x) = none from hds] at h; cases h.1)]
                        rw [if_neg (fun h => absurd h.2 (by omega))]
                        rw [if_neg (fun h => absurd h.2 (by omega))]
                        try rfl)
                      clear hx1 hx2 hr1 hr2 hz1 hz2 hds
                      try clear hm3
                      try clear hm2
                      try clear hm1
                      go_upto_region 14 with fail
                      have z0 := HPW.out.h0.cd
                      have g0 := HPW.out.h0.fz 0
                      have z1 := HPW.out.h0.cell 0 (by decide)
                      have g1 := HPW.out.h0.fz 1
                      have z2 := HPW.out.h0.cell 1 (by decide)
                      have g2 := HPW.out.h0.fz 2
                      have z3 := HPW.out.h0.cell 2 (by decide)
                      have g3 := HPW.out.h0.fz 3
                      have z4 := HPW.out.h0.cell 3 (by decide)
                      have g4 := HPW.out.h0.fz 4
                      have z5 := HPW.out.h0.cell 4 (by decide)
                      have g5 := HPW.out.h0.fz 5
                      have z6 := HPW.out.h0.cell 5 (by decide)
                      have g6 := HPW.out.h0.fz 6
                      simp only [slV, nilS] at z0 z1 z2 z3 z4 z5 z6
                      have HCVF := Lib.hid (CV.put HPW.out.h0 nilS nilS nilS nilS nilS nilS nilS)
                      have HBF := Lib.hid (below_put7c HPW.out.hb (Nat.le_refl _) (.slice none 0 0) (.slice none 0 0) (.slice none 0 0) (.slice none 0 0) (.slice none 0 0) (.slice none 0 0) (.slice none 0 0))
                      go_wp2
                      refine bodyPost_ret (v := .tuple #[.agg #[.slice none 0 0, .slice none 0 0, .slice none 0 0, .slice none 0 0, .slice none 0 0, .slice none 0 0, .slice none 0 0], .bool false]) (rparse_res HCVF.out rfl rfl) rfl ?_
                      exact ⟨.inr ⟨HNO.out, rfl⟩, HBF.out⟩
                  · have q3 : ((xs2.length : Int) == 3) = false := by simp; omega
                    have HNO : Hid (Sp.parseP s.data.toList = none) := Lib.hid (by
                      rw [HPAR.out, HGO.out, HDR.out, Sp.refFin_step]
                      rw [if_neg (fun h => by rw [show Sp.daysP (tl x) = none from hds] at h; cases h.1)]
                      rw [if_neg (fun h => absurd h.2 (by omega))]
                      rw [if_neg (fun h => h.1.elim (fun (h1 : (Sp.splitC 58 x.data.toList).length = 2) => hm2 (by rw [← hx2, List.length_map] at h1; exact h1)) (fun (h1 : (Sp.splitC 58 x.data.toList).length = 3) => hm3 (by rw [← hx2, List.length_map] at h1; exact h1)))]
                      try rfl)
                    clear hx1 hx2 hr1 hr2 hz1 hz2 hds
                    try clear hm3
                    try clear hm2
                    try clear hm1
                    go_upto_region 14 with fail
                    have z0 := HPW.out.h0.cd
                    have g0 := HPW.out.h0.fz 0
                    have z1 := HPW.out.h0.cell 0 (by decide)
                    have g1 := HPW.out.h0.fz 1
                    have z2 := HPW.out.h0.cell 1 (by decide)
                    have g2 := HPW.out.h0.fz 2
                    have z3 := HPW.out.h0.cell 2 (by decide)
                    have g3 := HPW.out.h0.fz 3
                    have z4 := HPW.out.h0.cell 3 (by decide)
                    have g4 := HPW.out.h0.fz 4
                    have z5 := HPW.out.h0.cell 4 (by decide)
                    have g5 := HPW.out.h0.fz 5
                    have z6 := HPW.out.h0.cell 5 (by decide)
                    have g6 := HPW.out.h0.fz 6
                    simp only [slV, nilS] at z0 z1 z2 z3 z4 z5 z6
                    have HCVF := Lib.hid (CV.put HPW.out.h0 nilS nilS nilS nilS nilS nilS nilS)
                    have HBF := Lib.hid (below_put7c HPW.out.hb (Nat.le_refl _) (.slice none 0 0) (.slice none 0 0) (.slice none 0 0) (.slice none 0 0) (.slice none 0 0) (.slice none 0 0) (.slice none 0 0))
                    go_wp2
                    refine bodyPost_ret (v := .tuple #[.agg #[.slice none 0 0, .slice none 0 0, .slice none 0 0, .slice none 0 0, .slice none 0 0, .slice none 0 0, .slice none 0 0], .bool false]) (rparse_res HCVF.out rfl rfl) rfl ?_
                    exact ⟨.inr ⟨HNO.out, rfl⟩, HBF.out⟩
            · have q1 : ((xs1.length : Int) == 3) = false := by simp; omega
              by_cases hm2 : xs2.length = 2
              · by_cases s3 : st < 3
                · have s3i : (st : Int) < 3 := by omega
                  obtain ⟨a, b, rfl⟩ := list2 hm2
                  have h58 : Sp.splitC 58 (tl x) = [tl a, tl b] := hx2.symm
                  obtain ⟨ad2, rfl, _, hc2⟩ := hr2.here (by simp)
                  have HSRC : Hid (∀ j v, ([.string a, .string b] : List Value)[j]? = some v → wq.cell? (ad2.add j) = some v) := Lib.hid (fun j v h => hc2 j v h)
                  have hza := hz2 a (by simp)
                  have hzb := hz2 b (by simp)
                  have HGO2 : Hid (Sp.refL s.data.toList = Sp.refFin 3 days [tl (fl 0), tl (fl 1), tl (fl 2)] [tl a, tl b, tl (fl 5)] ((xs.map tl).drop (k + 1))) := Lib.hid (by
                    rw [HGO.out, HDR.out, Sp.refFin_step, if_neg (fun h => by rw [show Sp.daysP (tl x) = none from hds] at h; cases h.1), if_neg (fun h => hm1 (by have h1 : (Sp.splitC 45 x.data.toList).length = 3 := h.1; rw [← hx1, List.length_map] at h1; exact h1)), h58, if_pos ⟨.inl rfl, by omega⟩, (HNT.out (by omega)).2.2]
                    rfl)
                  have HPW2 := Lib.hid (PW.setf (g := fun i => [fl 0, fl 1, fl 2, a, b, fl 5][i]?.getD a) HPW.out (by omega) (by omega) (by omega) _ rfl (fun i hi => by
                    have e : i = 0 ∨ i = 1 ∨ i = 2 ∨ i = 3 ∨ i = 4 ∨ i = 5 := by omega
                    rcases e with rfl | rfl | rfl | rfl | rfl | rfl
                    · exact HPW.out.hl 0 (by decide)
                    · exact HPW.out.hl 1 (by decide)
                    · exact HPW.out.hl 2 (by decide)
                    · exact Nat.le_trans hza hxs2
                    · exact Nat.le_trans hzb hxs2
                    · exact HPW.out.hl 5 (by decide)))
                  have HNT2 : Hid (3 < 3 → ([fl 0, fl 1, fl 2, a, b, fl 5][3]?.getD a) = ⟨#[48, 48]⟩ ∧ ([fl 0, fl 1, fl 2, a, b, fl 5][4]?.getD a) = ⟨#[48, 48]⟩ ∧ ([fl 0, fl 1, fl 2, a, b, fl 5][5]?.getD a) = ⟨#[48, 48]⟩) := Lib.hid (fun h => absurd h (by decide))
                  clear hm2 h58 hc2 hx2 hr2 hz2 hx1
                  go_upto_region 21 with fail
                  go_wp2_with (refine wpList_copy_own rfl _ _ _ _ rfl 9 Tryz.underlying50 (by kernel_rfl) bf 3 3 3 ad2 2 cp2 rfl rfl _ 9 HPW.out.hf [.string a, .string b] rfl HSRC.out (by show 3 + 2 ≤ 6; decide) (strsC_cells [a, b]) ?_)
                  go_wp2
                  go_roundw
                  case rel => exact ⟨k + 1, 3, D, days, fun i => [fl 0, fl 1, fl 2, a, b, fl 5][i]?.getD a, by omega, by first | rfl | go_num, by first | rfl | go_num, by omega, HPW2, HGO2, HNT2⟩
                  case measure => simp [intOf]; omega
                · have s3i : ¬ (st : Int) < 3 := by omega
                  have q2 : ((xs2.length : Int) == 2) = true := by simp; omega
                  have HNO : Hid (Sp.parseP s.data.toList = none) := Lib.hid (by
                    rw [HPAR.out, HGO.out, HDR.out, Sp.refFin_step]
                    rw [if_neg (fun h => by rw [show Sp.daysP (tl x) = none from hds] at h; cases h.1)]
                    rw [if_neg (fun h => hm1 (by have h1 : (Sp.splitC 45 x.data.toList).length = 3 := h.1; rw [← hx1, List.length_map] at h1; exact h1))]
                    rw [if_neg (fun h => absurd h.2 (by omega))]
                    try rfl)
                  clear hx1 hx2 hr1 hr2 hz1 hz2 hds
                  try clear hm3
                  try clear hm2
                  try clear hm1
                  go_upto_region 14 with fail
                  have z0 := HPW.out.h0.cd
                  have g0 := HPW.out.h0.fz 0
                  have z1 := HPW.out.h0.cell 0 (by decide)
                  have g1 := HPW.out.h0.fz 1
                  have z2 := HPW.out.h0.cell 1 (by decide)
                  have g2 := HPW.out.h0.fz 2
                  have z3 := HPW.out.h0.cell 2 (by decide)
                  have g3 := HPW.out.h0.fz 3
                  have z4 := HPW.out.h0.cell 3 (by decide)
                  have g4 := HPW.out.h0.fz 4
                  have z5 := HPW.out.h0.cell 4 (by decide)
                  have g5 := HPW.out.h0.fz 5
                  have z6 := HPW.out.h0.cell 5 (by decide)
                  have g6 := HPW.out.h0.fz 6
                  simp only [slV, nilS] at z0 z1 z2 z3 z4 z5 z6
                  have HCVF := Lib.hid (CV.put HPW.out.h0 nilS nilS nilS nilS nilS nilS nilS)
                  have HBF := Lib.hid (below_put7c HPW.out.hb (Nat.le_refl _) (.slice none 0 0) (.slice none 0 0) (.slice none 0 0) (.slice none 0 0) (.slice none 0 0) (.slice none 0 0) (.slice none 0 0))
                  go_wp2
                  refine bodyPost_ret (v := .tuple #[.agg #[.slice none 0 0, .slice none 0 0, .slice none 0 0, .slice none 0 0, .slice none 0 0, .slice none 0 0, .slice none 0 0], .bool false]) (rparse_res HCVF.out rfl rfl) rfl ?_
                  exact ⟨.inr ⟨HNO.out, rfl⟩, HBF.out⟩
              · have q2 : ((xs2.length : Int) == 2) = false := by simp; omega
                by_cases hm3 : xs2.length = 3
                · by_cases s3 : st < 3
                  · have s3i : (st : Int) < 3 := by omega
                    obtain ⟨a, b, c, rfl⟩ := list3 hm3
                    have h58 : Sp.splitC 58 (tl x) = [tl a, tl b, tl c] := hx2.symm
                    obtain ⟨ad2, rfl, _, hc2⟩ := hr2.here (by simp)
                    have HSRC : Hid (∀ j v, ([.string a, .string b, .string c] : List Value)[j]? = some v → wq.cell? (ad2.add j) = some v) := Lib.hid (fun j v h => hc2 j v h)
                    have hza := hz2 a (by simp)
                    have hzb := hz2 b (by simp)
                    have hzc := hz2 c (by simp)
                    have HGO2 : Hid (Sp.refL s.data.toList = Sp.refFin 3 days [tl (fl 0), tl (fl 1), tl (fl 2)] [tl a, tl b, tl c] ((xs.map tl).drop (k + 1))) := Lib.hid (by
                      rw [HGO.out, HDR.out, Sp.refFin_step, if_neg (fun h => by rw [show Sp.daysP (tl x) = none from hds] at h; cases h.1), if_neg (fun h => hm1 (by have h1 : (Sp.splitC 45 x.data.toList).length = 3 := h.1; rw [← hx1, List.length_map] at h1; exact h1)), h58, if_pos ⟨.inr rfl, by omega⟩]
                      rfl)
                    have HPW2 := Lib.hid (PW.setf (g := fun i => [fl 0, fl 1, fl 2, a, b, c][i]?.getD a) HPW.out (by omega) (by omega) (by omega) _ rfl (fun i hi => by
                      have e : i = 0 ∨ i = 1 ∨ i = 2 ∨ i = 3 ∨ i = 4 ∨ i = 5 := by omega
                      rcases e with rfl | rfl | rfl | rfl | rfl | rfl
                      · exact HPW.out.hl 0 (by decide)
                      · exact HPW.out.hl 1 (by decide)
                      · exact HPW.out.hl 2 (by decide)
                      · exact Nat.le_trans hza hxs2
                      · exact Nat.le_trans hzb hxs2
                      · exact Nat.le_trans hzc hxs2))
                    have HNT2 : Hid (3 < 3 → ([fl 0, fl 1, fl 2, a, b, c][3]?.getD a) = ⟨#[48, 48]⟩ ∧ ([fl 0, fl 1, fl 2, a, b, c][4]?.getD a) = ⟨#[48, 48]⟩ ∧ ([fl 0, fl 1, fl 2, a, b, c][5]?.getD a) = ⟨#[48, 48]⟩) := Lib.hid (fun h => absurd h (by decide))
                    clear hm2 hm3 h58 hc2 hx2 hr2 hz2 hx1
                    go_upto_region 21 with fail
                    go_wp2_with (refine wpList_copy_own rfl _ _ _ _ rfl 9 Tryz.underlying50 (by kernel_rfl) bf 3 3 3 ad2 3 cp2 rfl rfl _ 9 HPW.out.hf [.string a, .string b, .string c] rfl HSRC.out (by show 3 + 3 ≤ 6; decide) (strsC_cells [a, b, c]) ?_)
                    go_wp2
                    go_roundw
                    case rel => exact ⟨k + 1, 3, D, days, fun i => [fl 0, fl 1, fl 2, a, b, c][i]?.getD a, by omega, by first | rfl | go_num, by first | rfl | go_num, by omega, HPW2, HGO2, HNT2⟩
                    case measure => simp [intOf]; omega
                  · have s3i : ¬ (st : Int) < 3 := by omega
                    have q3 : ((xs2.length : Int) == 3) = true := by simp; omega
                    have HNO : Hid (Sp.parseP s.data.toList = none) := Lib.hid (by
                      rw [HPAR.out, HGO.out, HDR.out, Sp.refFin_step]
                      rw [if_neg (fun h => by rw [show Sp.daysP (tl x) = none from hds] at h; cases h.1)]
                      rw [if_neg (fun h => hm1 (by have h1 : (Sp.splitC 45 x.data.toList).length = 3 := h.1; rw [← hx1, List.length_map] at h1; exact h1))]
                      rw [if_neg (fun h => absurd h.2 (by omega))]
                      try rfl)
                    clear hx1 hx2 hr1 hr2 hz1 hz2 hds
                    try clear hm3
                    try clear hm2
                    try clear hm1
                    go_upto_region 14 with fail
                    have z0 := HPW.out.h0.cd
                    have g0 := HPW.out.h0.fz 0
                    have z1 := HPW.out.h0.cell 0 (by decide)
                    have g1 := HPW.out.h0.fz 1
                    have z2 := HPW.out.h0.cell 1 (by decide)
                    have g2 := HPW.out.h0.fz 2
                    have z3 := HPW.out.h0.cell 2 (by decide)
                    have g3 := HPW.out.h0.fz 3
                    have z4 := HPW.out.h0.cell 3 (by decide)
                    have g4 := HPW.out.h0.fz 4
                    have z5 := HPW.out.h0.cell 4 (by decide)
                    have g5 := HPW.out.h0.fz 5
                    have z6 := HPW.out.h0.cell 5 (by decide)
                    have g6 := HPW.out.h0.fz 6
                    simp only [slV, nilS] at z0 z1 z2 z3 z4 z5 z6
                    have HCVF := Lib.hid (CV.put HPW.out.h0 nilS nilS nilS nilS nilS nilS nilS)
                    have HBF := Lib.hid (below_put7c HPW.out.hb (Nat.le_refl _) (.slice none 0 0) (.slice none 0 0) (.slice none 0 0) (.slice none 0 0) (.slice none 0 0) (.slice none 0 0) (.slice none 0 0))
                    go_wp2
                    refine bodyPost_ret (v := .tuple #[.agg #[.slice none 0 0, .slice none 0 0, .slice none 0 0, .slice none 0 0, .slice none 0 0, .slice none 0 0, .slice none 0 0], .bool false]) (rparse_res HCVF.out rfl rfl) rfl ?_
                    exact ⟨.inr ⟨HNO.out, rfl⟩, HBF.out⟩
                · have q3 : ((xs2.length : Int) == 3) = false := by simp; omega
                  have HNO : Hid (Sp.parseP s.data.toList = none) := Lib.hid (by
                    rw [HPAR.out, HGO.out, HDR.out, Sp.refFin_step]
                    rw [if_neg (fun h => by rw [show Sp.daysP (tl x) = none from hds] at h; cases h.1)]
                    rw [if_neg (fun h => hm1 (by have h1 : (Sp.splitC 45 x.data.toList).length = 3 := h.1; rw [← hx1, List.length_map] at h1; exact h1))]
                    rw [if_neg (fun h => h.1.elim (fun (h1 : (Sp.splitC 58 x.data.toList).length = 2) => hm2 (by rw [← hx2, List.length_map] at h1; exact h1)) (fun (h1 : (Sp.splitC 58 x.data.toList).length = 3) => hm3 (by rw [← hx2, List.length_map] at h1; exact h1)))]
                    try rfl)
                  clear hx1 hx2 hr1 hr2 hz1 hz2 hds
                  try clear hm3
                  try clear hm2
                  try clear hm1
                  go_upto_region 14 with fail
                  have z0 := HPW.out.h0.cd
                  have g0 := HPW.out.h0.fz 0
                  have z1 := HPW.out.h0.cell 0 (by decide)
                  have g1 := HPW.out.h0.fz 1
                  have z2 := HPW.out.h0.cell 1 (by decide)
                  have g2 := HPW.out.h0.fz 2
                  have z3 := HPW.out.h0.cell 2 (by decide)
                  have g3 := HPW.out.h0.fz 3
                  have z4 := HPW.out.h0.cell 3 (by decide)
                  have g4 := HPW.out.h0.fz 4
                  have z5 := HPW.out.h0.cell 4 (by decide)
                  have g5 := HPW.out.h0.fz 5
                  have z6 := HPW.out.h0.cell 5 (by decide)
                  have g6 := HPW.out.h0.fz 6
                  simp only [slV, nilS] at z0 z1 z2 z3 z4 z5 z6
                  have HCVF := Lib.hid (CV.put HPW.out.h0 nilS nilS nilS nilS nilS nilS nilS)
                  have HBF := Lib.hid (below_put7c HPW.out.hb (Nat.le_refl _) (.slice none 0 0) (.slice none 0 0) (.slice none 0 0) (.slice none 0 0) (.slice none 0 0) (.slice none 0 0) (.slice none 0 0))
                  go_wp2
                  refine bodyPost_ret (v := .tuple #[.agg #[.slice none 0 0, .slice none 0 0, .slice none 0 0, .slice none 0 0, .slice none 0 0, .slice none 0 0, .slice none 0 0], .bool false]) (rparse_res HCVF.out rfl rfl) rfl ?_
                  exact ⟨.inr ⟨HNO.out, rfl⟩, HBF.out⟩
        · obtain rfl : k = n := by omega
          have HFIN : Hid (Sp.parseP s.data.toList = Sp.fillP days [tl (fl 0), tl (fl 1), tl (fl 2)] [tl (fl 3), tl (fl 4), tl (fl 5)]) := Lib.hid (by
            rw [HPAR.out, HGO.out, List.drop_of_length_le (by rw [List.length_map, HN2.out]; omega), Sp.refFin_nil])
          clear HGO HNT
          have h01 : w.heap.size ≠ b1 := by omega
          go_upto_region 24 with fail
          refine wp_region_inv (by kernel_rfl) (PEJ w wr (.slice (some ⟨bf, 0, none⟩) 6 6) w.heap.size b1 bf D days fl) (by kernel_rfl) (by kernel_rfl) (fun x => ⟨fun _ => ⟨(Below.refl _ _).drew, fun _ _ h => (by cases h)⟩, fun h => (by cases h)⟩) ?_ ?_
          · refine And.intro ?_ (And.intro ?_ (And.intro ?_ (And.intro ?_ (And.intro ?_ (And.intro ?_ (And.intro ?_ (And.intro ?_ (And.intro ?_ (And.intro ?_ (And.intro ?_ (And.intro ?_ (And.intro ?_ (And.intro ?_ (And.intro ?_ (And.intro ?_ (And.intro ?_ (And.intro ?_ (And.intro ?_ (And.intro ?_ (And.intro ?_ (And.intro ?_ (And.intro ?_ (And.intro ?_ (And.intro ?_ (And.intro ?_ (And.intro ?_ (And.intro ?_ (And.intro ?_ (And.intro ?_ (And.intro ?_ (And.intro ?_ (And.intro ?_ (And.intro ?_ (And.intro ?_ (And.intro ?_ trivial)))))))))))))))))))))))))))))))))))
            · refine stepO_plain rfl (fun DD x W hJ hp hn hcl K hK => ?_)
              have hD : DD 25 = false := by
                cases h : DD 25 with
                | false => rfl
                | true => exact absurd (hcl 24 _ rfl (hcl 25 _ rfl h 24 (of_decide_eq_true (by kernel_rfl))) 0 (of_decide_eq_true (by kernel_rfl))) (by rw [hn]; decide)
              have hE := hJ.1 hD
              have hK := hK.out
              simp only [fillO, Act.put, List.setIfInBounds_toArray, List.set_cons_zero, List.set_cons_succ, Nat.reduceAdd] at hK ⊢
              refine Wrap.mk ?_
              go_simp
              refine hK _ _ ?_
              exact ⟨fun _ => hE.upd (Below.refl _ _) 0 _ (by simp [goodV]), fun h => absurd (hD.symm.trans h) (by decide)⟩
            · refine stepO_plain rfl (fun DD x W hJ hp hn hcl K hK => ?_)
              have hD : DD 25 = false := by
                cases h : DD 25 with
                | false => rfl
                | true => exact absurd (hcl 24 _ rfl (hcl 25 _ rfl h 24 (of_decide_eq_true (by kernel_rfl))) 1 (of_decide_eq_true (by kernel_rfl))) (by rw [hn]; decide)
              have hE := hJ.1 hD
              have hK := hK.out
              have d0 : DD 0 = true := hp 0 (of_decide_eq_true (by kernel_rfl))
              have g1 := hE.hv 0 (by decide) d0
              have e1 : x 0 = .slice (some ⟨bf, 0, none⟩) 6 6 := by simpa [goodV] using g1
              simp only [fillO, Act.put, List.setIfInBounds_toArray, List.set_cons_zero, List.set_cons_succ, Nat.reduceAdd] at hK ⊢
              simp only [e1] at hK ⊢
              clear g1 e1
              refine Wrap.mk ?_
              go_simp
              refine hK _ _ ?_
              exact ⟨fun _ => hE.upd (Below.refl _ _) 1 _ (by simp [goodV]), fun h => absurd (hD.symm.trans h) (by decide)⟩
            · refine stepO_plain rfl (fun DD x W hJ hp hn hcl K hK => ?_)
              have hD : DD 25 = false := by
                cases h : DD 25 with
                | false => rfl
                | true => exact absurd (hcl 24 _ rfl (hcl 25 _ rfl h 24 (of_decide_eq_true (by kernel_rfl))) 2 (of_decide_eq_true (by kernel_rfl))) (by rw [hn]; decide)
              have hE := hJ.1 hD
              have hK := hK.out
              have d1 : DD 1 = true := hp 1 (of_decide_eq_true (by kernel_rfl))
              have g1 := hE.hv 1 (by decide) d1
              have e1 : x 1 = .pointer (some ⟨bf, 0, none⟩) := by simpa [goodV] using g1
              have c1 := (HPW.out.on hE.hb).hf.cell 0 (by decide)
              simp only [fillO, Act.put, List.setIfInBounds_toArray, List.set_cons_zero, List.set_cons_succ, Nat.reduceAdd] at hK ⊢
              simp only [e1] at hK ⊢
              clear g1 e1
              refine Wrap.mk ?_
              go_simp
              refine hK _ _ ?_
              exact ⟨fun _ => hE.upd (Below.refl _ _) 2 _ (by simp [goodV]), fun h => absurd (hD.symm.trans h) (by decide)⟩
            · refine stepO_plain rfl (fun DD x W hJ hp hn hcl K hK => ?_)
              have hD : DD 25 = false := by
                cases h : DD 25 with
                | false => rfl
                | true => exact absurd (hcl 25 _ rfl h 3 (of_decide_eq_true (by kernel_rfl))) (by rw [hn]; decide)
              have hE := hJ.1 hD
              have hK := hK.out
              have d2 : DD 2 = true := hp 2 (of_decide_eq_true (by kernel_rfl))
              have g1 := hE.hv 2 (by decide) d2
              have e1 : x 2 = .string (fl 0) := by simpa [goodV] using g1
              simp only [fillO, Act.put, List.setIfInBounds_toArray, List.set_cons_zero, List.set_cons_succ, Nat.reduceAdd] at hK ⊢
              simp only [e1] at hK ⊢
              clear g1 e1
              refine Wrap.mk ?_
              go_simp
              refine (rparts_v (fl 0) W (HPW.out.hl 0 (by decide))).mono ?_
              rintro e W' ⟨⟨v, rfl, hpv⟩, hb⟩
              go_wp2_with fail
              exact ⟨fun _ => hE.upd hb 3 _ (by have hq : PartV (tl (fl 0)) v W' := hpv; simpa [goodV] using hq), fun h => absurd (hD.symm.trans h) (by decide)⟩
            · refine stepO_plain rfl (fun DD x W hJ hp hn hcl K hK => ?_)
              have hD : DD 25 = false := by
                cases h : DD 25 with
                | false => rfl
                | true => exact absurd (hcl 5 _ rfl (hcl 6 _ rfl (hcl 7 _ rfl (hcl 11 _ rfl (hcl 15 _ rfl (hcl 19 _ rfl (hcl 23 _ rfl (hcl 25 _ rfl h 23 (of_decide_eq_true (by kernel_rfl))) 19 (of_decide_eq_true (by kernel_rfl))) 15 (of_decide_eq_true (by kernel_rfl))) 11 (of_decide_eq_true (by kernel_rfl))) 7 (of_decide_eq_true (by kernel_rfl))) 6 (of_decide_eq_true (by kernel_rfl))) 5 (of_decide_eq_true (by kernel_rfl))) 4 (of_decide_eq_true (by kernel_rfl))) (by rw [hn]; decide)
              have hE := hJ.1 hD
              have hK := hK.out
              simp only [fillO, Act.put, List.setIfInBounds_toArray, List.set_cons_zero, List.set_cons_succ, Nat.reduceAdd] at hK ⊢
              refine Wrap.mk ?_
              go_simp
              refine hK _ _ ?_
              exact ⟨fun _ => hE.upd (Below.refl _ _) 4 _ (by simp [goodV]), fun h => absurd (hD.symm.trans h) (by decide)⟩
            · refine stepO_plain rfl (fun DD x W hJ hp hn hcl K hK => ?_)
              have hD : DD 25 = false := by
                cases h : DD 25 with
                | false => rfl
                | true => exact absurd (hcl 6 _ rfl (hcl 7 _ rfl (hcl 11 _ rfl (hcl 15 _ rfl (hcl 19 _ rfl (hcl 23 _ rfl (hcl 25 _ rfl h 23 (of_decide_eq_true (by kernel_rfl))) 19 (of_decide_eq_true (by kernel_rfl))) 15 (of_decide_eq_true (by kernel_rfl))) 11 (of_decide_eq_true (by kernel_rfl))) 7 (of_decide_eq_true (by kernel_rfl))) 6 (of_decide_eq_true (by kernel_rfl))) 5 (of_decide_eq_true (by kernel_rfl))) (by rw [hn]; decide)
              have hE := hJ.1 hD
              have hK := hK.out
              have d4 : DD 4 = true := hp 4 (of_decide_eq_true (by kernel_rfl))
              have g1 := hE.hv 4 (by decide) d4
              have e1 : x 4 = .slice (some ⟨bf, 0, none⟩) 6 6 := by simpa [goodV] using g1
              simp only [fillO, Act.put, List.setIfInBounds_toArray, List.set_cons_zero, List.set_cons_succ, Nat.reduceAdd] at hK ⊢
              simp only [e1] at hK ⊢
              clear g1 e1
              refine Wrap.mk ?_
              go_simp
              refine hK _ _ ?_
              exact ⟨fun _ => hE.upd (Below.refl _ _) 5 _ (by simp [goodV]), fun h => absurd (hD.symm.trans h) (by decide)⟩
            · refine stepO_plain rfl (fun DD x W hJ hp hn hcl K hK => ?_)
              have hD : DD 25 = false := by
                cases h : DD 25 with
                | false => rfl
                | true => exact absurd (hcl 7 _ rfl (hcl 11 _ rfl (hcl 15 _ rfl (hcl 19 _ rfl (hcl 23 _ rfl (hcl 25 _ rfl h 23 (of_decide_eq_true (by kernel_rfl))) 19 (of_decide_eq_true (by kernel_rfl))) 15 (of_decide_eq_true (by kernel_rfl))) 11 (of_decide_eq_true (by kernel_rfl))) 7 (of_decide_eq_true (by kernel_rfl))) 6 (of_decide_eq_true (by kernel_rfl))) (by rw [hn]; decide)
              have hE := hJ.1 hD
              have hK := hK.out
              have d5 : DD 5 = true := hp 5 (of_decide_eq_true (by kernel_rfl))
              have g1 := hE.hv 5 (by decide) d5
              have e1 : x 5 = .pointer (some ⟨bf, 1, none⟩) := by simpa [goodV] using g1
              have c1 := (HPW.out.on hE.hb).hf.cell 1 (by decide)
              simp only [fillO, Act.put, List.setIfInBounds_toArray, List.set_cons_zero, List.set_cons_succ, Nat.reduceAdd] at hK ⊢
              simp only [e1] at hK ⊢
              clear g1 e1
              refine Wrap.mk ?_
              go_simp
              refine hK _ _ ?_
              exact ⟨fun _ => hE.upd (Below.refl _ _) 6 _ (by simp [goodV]), fun h => absurd (hD.symm.trans h) (by decide)⟩
            · refine stepO_plain rfl (fun DD x W hJ hp hn hcl K hK => ?_)
              have hD : DD 25 = false := by
                cases h : DD 25 with
                | false => rfl
                | true => exact absurd (hcl 11 _ rfl (hcl 15 _ rfl (hcl 19 _ rfl (hcl 23 _ rfl (hcl 25 _ rfl h 23 (of_decide_eq_true (by kernel_rfl))) 19 (of_decide_eq_true (by kernel_rfl))) 15 (of_decide_eq_true (by kernel_rfl))) 11 (of_decide_eq_true (by kernel_rfl))) 7 (of_decide_eq_true (by kernel_rfl))) (by rw [hn]; decide)
              have hE := hJ.1 hD
              have hK := hK.out
              have d6 : DD 6 = true := hp 6 (of_decide_eq_true (by kernel_rfl))
              have g1 := hE.hv 6 (by decide) d6
              have e1 : x 6 = .string (fl 1) := by simpa [goodV] using g1
              simp only [fillO, Act.put, List.setIfInBounds_toArray, List.set_cons_zero, List.set_cons_succ, Nat.reduceAdd] at hK ⊢
              simp only [e1] at hK ⊢
              clear g1 e1
              refine Wrap.mk ?_
              go_simp
              refine (rparts_v (fl 1) W (HPW.out.hl 1 (by decide))).mono ?_
              rintro e W' ⟨⟨v, rfl, hpv⟩, hb⟩
              go_wp2_with fail
              exact ⟨fun _ => hE.upd hb 7 _ (by have hq : PartV (tl (fl 1)) v W' := hpv; simpa [goodV] using hq), fun h => absurd (hD.symm.trans h) (by decide)⟩
            · refine stepO_plain rfl (fun DD x W hJ hp hn hcl K hK => ?_)
              have hD : DD 25 = false := by
                cases h : DD 25 with
                | false => rfl
                | true => exact absurd (hcl 9 _ rfl (hcl 10 _ rfl (hcl 11 _ rfl (hcl 15 _ rfl (hcl 19 _ rfl (hcl 23 _ rfl (hcl 25 _ rfl h 23 (of_decide_eq_true (by kernel_rfl))) 19 (of_decide_eq_true (by kernel_rfl))) 15 (of_decide_eq_true (by kernel_rfl))) 11 (of_decide_eq_true (by kernel_rfl))) 10 (of_decide_eq_true (by kernel_rfl))) 9 (of_decide_eq_true (by kernel_rfl))) 8 (of_decide_eq_true (by kernel_rfl))) (by rw [hn]; decide)
              have hE := hJ.1 hD
              have hK := hK.out
              simp only [fillO, Act.put, List.setIfInBounds_toArray, List.set_cons_zero, List.set_cons_succ, Nat.reduceAdd] at hK ⊢
              refine Wrap.mk ?_
              go_simp
              refine hK _ _ ?_
              exact ⟨fun _ => hE.upd (Below.refl _ _) 8 _ (by simp [goodV]), fun h => absurd (hD.symm.trans h) (by decide)⟩
            · refine stepO_plain rfl (fun DD x W hJ hp hn hcl K hK => ?_)
              have hD : DD 25 = false := by
                cases h : DD 25 with
                | false => rfl
                | true => exact absurd (hcl 10 _ rfl (hcl 11 _ rfl (hcl 15 _ rfl (hcl 19 _ rfl (hcl 23 _ rfl (hcl 25 _ rfl h 23 (of_decide_eq_true (by kernel_rfl))) 19 (of_decide_eq_true (by kernel_rfl))) 15 (of_decide_eq_true (by kernel_rfl))) 11 (of_decide_eq_true (by kernel_rfl))) 10 (of_decide_eq_true (by kernel_rfl))) 9 (of_decide_eq_true (by kernel_rfl))) (by rw [hn]; decide)
              have hE := hJ.1 hD
              have hK := hK.out
              have d8 : DD 8 = true := hp 8 (of_decide_eq_true (by kernel_rfl))
              have g1 := hE.hv 8 (by decide) d8
              have e1 : x 8 = .slice (some ⟨bf, 0, none⟩) 6 6 := by simpa [goodV] using g1
              simp only [fillO, Act.put, List.setIfInBounds_toArray, List.set_cons_zero, List.set_cons_succ, Nat.reduceAdd] at hK ⊢
              simp only [e1] at hK ⊢
              clear g1 e1
              refine Wrap.mk ?_
              go_simp
              refine hK _ _ ?_
              exact ⟨fun _ => hE.upd (Below.refl _ _) 9 _ (by simp [goodV]), fun h => absurd (hD.symm.trans h) (by decide)⟩
            · refine stepO_plain rfl (fun DD x W hJ hp hn hcl K hK => ?_)
              have hD : DD 25 = false := by
                cases h : DD 25 with
                | false => rfl
                | true => exact absurd (hcl 11 _ rfl (hcl 15 _ rfl (hcl 19 _ rfl (hcl 23 _ rfl (hcl 25 _ rfl h 23 (of_decide_eq_true (by kernel_rfl))) 19 (of_decide_eq_true (by kernel_rfl))) 15 (of_decide_eq_true (by kernel_rfl))) 11 (of_decide_eq_true (by kernel_rfl))) 10 (of_decide_eq_true (by kernel_rfl))) (by rw [hn]; decide)
              have hE := hJ.1 hD
              have hK := hK.out
              have d9 : DD 9 = true := hp 9 (of_decide_eq_true (by kernel_rfl))
              have g1 := hE.hv 9 (by decide) d9
              have e1 : x 9 = .pointer (some ⟨bf, 2, none⟩) := by simpa [goodV] using g1
              have c1 := (HPW.out.on hE.hb).hf.cell 2 (by decide)
              simp only [fillO, Act.put, List.setIfInBounds_toArray, List.set_cons_zero, List.set_cons_succ, Nat.reduceAdd] at hK ⊢
              simp only [e1] at hK ⊢
              clear g1 e1
              refine Wrap.mk ?_
              go_simp
              refine hK _ _ ?_
              exact ⟨fun _ => hE.upd (Below.refl _ _) 10 _ (by simp [goodV]), fun h => absurd (hD.symm.trans h) (by decide)⟩
            · refine stepO_plain rfl (fun DD x W hJ hp hn hcl K hK => ?_)
              have hD : DD 25 = false := by
                cases h : DD 25 with
                | false => rfl
                | true => exact absurd (hcl 15 _ rfl (hcl 19 _ rfl (hcl 23 _ rfl (hcl 25 _ rfl h 23 (of_decide_eq_true (by kernel_rfl))) 19 (of_decide_eq_true (by kernel_rfl))) 15 (of_decide_eq_true (by kernel_rfl))) 11 (of_decide_eq_true (by kernel_rfl))) (by rw [hn]; decide)
              have hE := hJ.1 hD
              have hK := hK.out
              have d10 : DD 10 = true := hp 10 (of_decide_eq_true (by kernel_rfl))
              have g1 := hE.hv 10 (by decide) d10
              have e1 : x 10 = .string (fl 2) := by simpa [goodV] using g1
              simp only [fillO, Act.put, List.setIfInBounds_toArray, List.set_cons_zero, List.set_cons_succ, Nat.reduceAdd] at hK ⊢
              simp only [e1] at hK ⊢
              clear g1 e1
              refine Wrap.mk ?_
              go_simp
              refine (rparts_v (fl 2) W (HPW.out.hl 2 (by decide))).mono ?_
              rintro e W' ⟨⟨v, rfl, hpv⟩, hb⟩
              go_wp2_with fail
              exact ⟨fun _ => hE.upd hb 11 _ (by have hq : PartV (tl (fl 2)) v W' := hpv; simpa [goodV] using hq), fun h => absurd (hD.symm.trans h) (by decide)⟩
            · refine stepO_plain rfl (fun DD x W hJ hp hn hcl K hK => ?_)
              have hD : DD 25 = false := by
                cases h : DD 25 with
                | false => rfl
                | true => exact absurd (hcl 13 _ rfl (hcl 14 _ rfl (hcl 15 _ rfl (hcl 19 _ rfl (hcl 23 _ rfl (hcl 25 _ rfl h 23 (of_decide_eq_true (by kernel_rfl))) 19 (of_decide_eq_true (by kernel_rfl))) 15 (of_decide_eq_true (by kernel_rfl))) 14 (of_decide_eq_true (by kernel_rfl))) 13 (of_decide_eq_true (by kernel_rfl))) 12 (of_decide_eq_true (by kernel_rfl))) (by rw [hn]; decide)
              have hE := hJ.1 hD
              have hK := hK.out
              simp only [fillO, Act.put, List.setIfInBounds_toArray, List.set_cons_zero, List.set_cons_succ, Nat.reduceAdd] at hK ⊢
              refine Wrap.mk ?_
              go_simp
              refine hK _ _ ?_
              exact ⟨fun _ => hE.upd (Below.refl _ _) 12 _ (by simp [goodV]), fun h => absurd (hD.symm.trans h) (by decide)⟩
            · refine stepO_plain rfl (fun DD x W hJ hp hn hcl K hK => ?_)
              have hD : DD 25 = false := by
                cases h : DD 25 with
                | false => rfl
                | true => exact absurd (hcl 14 _ rfl (hcl 15 _ rfl (hcl 19 _ rfl (hcl 23 _ rfl (hcl 25 _ rfl h 23 (of_decide_eq_true (by kernel_rfl))) 19 (of_decide_eq_true (by kernel_rfl))) 15 (of_decide_eq_true (by kernel_rfl))) 14 (of_decide_eq_true (by kernel_rfl))) 13 (of_decide_eq_true (by kernel_rfl))) (by rw [hn]; decide)
              have hE := hJ.1 hD
              have hK := hK.out
              have d12 : DD 12 = true := hp 12 (of_decide_eq_true (by kernel_rfl))
              have g1 := hE.hv 12 (by decide) d12
              have e1 : x 12 = .slice (some ⟨bf, 0, none⟩) 6 6 := by simpa [goodV] using g1
              simp only [fillO, Act.put, List.setIfInBounds_toArray, List.set_cons_zero, List.set_cons_succ, Nat.reduceAdd] at hK ⊢
              simp only [e1] at hK ⊢
              clear g1 e1
              refine Wrap.mk ?_
              go_simp
              refine hK _ _ ?_
              exact ⟨fun _ => hE.upd (Below.refl _ _) 13 _ (by simp [goodV]), fun h => absurd (hD.symm.trans h) (by decide)⟩
            · refine stepO_plain rfl (fun DD x W hJ hp hn hcl K hK => ?_)
              have hD : DD 25 = false := by
                cases h : DD 25 with
                | false => rfl
                | true => exact absurd (hcl 15 _ rfl (hcl 19 _ rfl (hcl 23 _ rfl (hcl 25 _ rfl h 23 (of_decide_eq_true (by kernel_rfl))) 19 (of_decide_eq_true (by kernel_rfl))) 15 (of_decide_eq_true (by kernel_rfl))) 14 (of_decide_eq_true (by kernel_rfl))) (by rw [hn]; decide)
              have hE := hJ.1 hD
              have hK := hK.out
              have d13 : DD 13 = true := hp 13 (of_decide_eq_true (by kernel_rfl))
              have g1 := hE.hv 13 (by decide) d13
              have e1 : x 13 = .pointer (some ⟨bf, 3, none⟩) := by simpa [goodV] using g1
              have c1 := (HPW.out.on hE.hb).hf.cell 3 (by decide)
              simp only [fillO, Act.put, List.setIfInBounds_toArray, List.set_cons_zero, List.set_cons_succ, Nat.reduceAdd] at hK ⊢
              simp only [e1] at hK ⊢
              clear g1 e1
              refine Wrap.mk ?_
              go_simp
              refine hK _ _ ?_
              exact ⟨fun _ => hE.upd (Below.refl _ _) 14 _ (by simp [goodV]), fun h => absurd (hD.symm.trans h) (by decide)⟩
            · refine stepO_plain rfl (fun DD x W hJ hp hn hcl K hK => ?_)
              have hD : DD 25 = false := by
                cases h : DD 25 with
                | false => rfl
                | true => exact absurd (hcl 19 _ rfl (hcl 23 _ rfl (hcl 25 _ rfl h 23 (of_decide_eq_true (by kernel_rfl))) 19 (of_decide_eq_true (by kernel_rfl))) 15 (of_decide_eq_true (by kernel_rfl))) (by rw [hn]; decide)
              have hE := hJ.1 hD
              have hK := hK.out
              have d14 : DD 14 = true := hp 14 (of_decide_eq_true (by kernel_rfl))
              have g1 := hE.hv 14 (by decide) d14
              have e1 : x 14 = .string (fl 3) := by simpa [goodV] using g1
              simp only [fillO, Act.put, List.setIfInBounds_toArray, List.set_cons_zero, List.set_cons_succ, Nat.reduceAdd] at hK ⊢
              simp only [e1] at hK ⊢
              clear g1 e1
              refine Wrap.mk ?_
              go_simp
              refine (rparts_v (fl 3) W (HPW.out.hl 3 (by decide))).mono ?_
              rintro e W' ⟨⟨v, rfl, hpv⟩, hb⟩
              go_wp2_with fail
              exact ⟨fun _ => hE.upd hb 15 _ (by have hq : PartV (tl (fl 3)) v W' := hpv; simpa [goodV] using hq), fun h => absurd (hD.symm.trans h) (by decide)⟩
            · refine stepO_plain rfl (fun DD x W hJ hp hn hcl K hK => ?_)
              have hD : DD 25 = false := by
                cases h : DD 25 with
                | false => rfl
                | true => exact absurd (hcl 17 _ rfl (hcl 18 _ rfl (hcl 19 _ rfl (hcl 23 _ rfl (hcl 25 _ rfl h 23 (of_decide_eq_true (by kernel_rfl))) 19 (of_decide_eq_true (by kernel_rfl))) 18 (of_decide_eq_true (by kernel_rfl))) 17 (of_decide_eq_true (by kernel_rfl))) 16 (of_decide_eq_true (by kernel_rfl))) (by rw [hn]; decide)
              have hE := hJ.1 hD
              have hK := hK.out
              simp only [fillO, Act.put, List.setIfInBounds_toArray, List.set_cons_zero, List.set_cons_succ, Nat.reduceAdd] at hK ⊢
              refine Wrap.mk ?_
              go_simp
              refine hK _ _ ?_
              exact ⟨fun _ => hE.upd (Below.refl _ _) 16 _ (by simp [goodV]), fun h => absurd (hD.symm.trans h) (by decide)⟩
            · refine stepO_plain rfl (fun DD x W hJ hp hn hcl K hK => ?_)
              have hD : DD 25 = false := by
                cases h : DD 25 with
                | false => rfl
                | true => exact absurd (hcl 18 _ rfl (hcl 19 _ rfl (hcl 23 _ rfl (hcl 25 _ rfl h 23 (of_decide_eq_true (by kernel_rfl))) 19 (of_decide_eq_true (by kernel_rfl))) 18 (of_decide_eq_true (by kernel_rfl))) 17 (of_decide_eq_true (by kernel_rfl))) (by rw [hn]; decide)
              have hE := hJ.1 hD
              have hK := hK.out
              have d16 : DD 16 = true := hp 16 (of_decide_eq_true (by kernel_rfl))
              have g1 := hE.hv 16 (by decide) d16
              have e1 : x 16 = .slice (some ⟨bf, 0, none⟩) 6 6 := by simpa [goodV] using g1
              simp only [fillO, Act.put, List.setIfInBounds_toArray, List.set_cons_zero, List.set_cons_succ, Nat.reduceAdd] at hK ⊢
              simp only [e1] at hK ⊢
              clear g1 e1
              refine Wrap.mk ?_
              go_simp
              refine hK _ _ ?_
              exact ⟨fun _ => hE.upd (Below.refl _ _) 17 _ (by simp [goodV]), fun h => absurd (hD.symm.trans h) (by decide)⟩
            · refine stepO_plain rfl (fun DD x W hJ hp hn hcl K hK => ?_)
              have hD : DD 25 = false := by
                cases h : DD 25 with
                | false => rfl
                | true => exact absurd (hcl 19 _ rfl (hcl 23 _ rfl (hcl 25 _ rfl h 23 (of_decide_eq_true (by kernel_rfl))) 19 (of_decide_eq_true (by kernel_rfl))) 18 (of_decide_eq_true (by kernel_rfl))) (by rw [hn]; decide)
              have hE := hJ.1 hD
              have hK := hK.out
              have d17 : DD 17 = true := hp 17 (of_decide_eq_true (by kernel_rfl))
              have g1 := hE.hv 17 (by decide) d17
              have e1 : x 17 = .pointer (some ⟨bf, 4, none⟩) := by simpa [goodV] using g1
              have c1 := (HPW.out.on hE.hb).hf.cell 4 (by decide)
              simp only [fillO, Act.put, List.setIfInBounds_toArray, List.set_cons_zero, List.set_cons_succ, Nat.reduceAdd] at hK ⊢
              simp only [e1] at hK ⊢
              clear g1 e1
              refine Wrap.mk ?_
              go_simp
              refine hK _ _ ?_
              exact ⟨fun _ => hE.upd (Below.refl _ _) 18 _ (by simp [goodV]), fun h => absurd (hD.symm.trans h) (by decide)⟩
            · refine stepO_plain rfl (fun DD x W hJ hp hn hcl K hK => ?_)
              have hD : DD 25 = false := by
                cases h : DD 25 with
                | false => rfl
                | true => exact absurd (hcl 23 _ rfl (hcl 25 _ rfl h 23 (of_decide_eq_true (by kernel_rfl))) 19 (of_decide_eq_true (by kernel_rfl))) (by rw [hn]; decide)
              have hE := hJ.1 hD
              have hK := hK.out
              have d18 : DD 18 = true := hp 18 (of_decide_eq_true (by kernel_rfl))
              have g1 := hE.hv 18 (by decide) d18
              have e1 : x 18 = .string (fl 4) := by simpa [goodV] using g1
              simp only [fillO, Act.put, List.setIfInBounds_toArray, List.set_cons_zero, List.set_cons_succ, Nat.reduceAdd] at hK ⊢
              simp only [e1] at hK ⊢
              clear g1 e1
              refine Wrap.mk ?_
              go_simp
              refine (rparts_v (fl 4) W (HPW.out.hl 4 (by decide))).mono ?_
              rintro e W' ⟨⟨v, rfl, hpv⟩, hb⟩
              go_wp2_with fail
              exact ⟨fun _ => hE.upd hb 19 _ (by have hq : PartV (tl (fl 4)) v W' := hpv; simpa [goodV] using hq), fun h => absurd (hD.symm.trans h) (by decide)⟩
            · refine stepO_plain rfl (fun DD x W hJ hp hn hcl K hK => ?_)
              have hD : DD 25 = false := by
                cases h : DD 25 with
                | false => rfl
                | true => exact absurd (hcl 21 _ rfl (hcl 22 _ rfl (hcl 23 _ rfl (hcl 25 _ rfl h 23 (of_decide_eq_true (by kernel_rfl))) 22 (of_decide_eq_true (by kernel_rfl))) 21 (of_decide_eq_true (by kernel_rfl))) 20 (of_decide_eq_true (by kernel_rfl))) (by rw [hn]; decide)
              have hE := hJ.1 hD
              have hK := hK.out
              simp only [fillO, Act.put, List.setIfInBounds_toArray, List.set_cons_zero, List.set_cons_succ, Nat.reduceAdd] at hK ⊢
              refine Wrap.mk ?_
              go_simp
              refine hK _ _ ?_
              exact ⟨fun _ => hE.upd (Below.refl _ _) 20 _ (by simp [goodV]), fun h => absurd (hD.symm.trans h) (by decide)⟩
            · refine stepO_plain rfl (fun DD x W hJ hp hn hcl K hK => ?_)
              have hD : DD 25 = false := by
                cases h : DD 25 with
                | false => rfl
                | true => exact absurd (hcl 22 _ rfl (hcl 23 _ rfl (hcl 25 _ rfl h 23 (of_decide_eq_true (by kernel_rfl))) 22 (of_decide_eq_true (by kernel_rfl))) 21 (of_decide_eq_true (by kernel_rfl))) (by rw [hn]; decide)
              have hE := hJ.1 hD
              have hK := hK.out
              have d20 : DD 20 = true := hp 20 (of_decide_eq_true (by kernel_rfl))
              have g1 := hE.hv 20 (by decide) d20
              have e1 : x 20 = .slice (some ⟨bf, 0, none⟩) 6 6 := by simpa [goodV] using g1
              simp only [fillO, Act.put, List.setIfInBounds_toArray, List.set_cons_zero, List.set_cons_succ, Nat.reduceAdd] at hK ⊢
              simp only [e1] at hK ⊢
              clear g1 e1
              refine Wrap.mk ?_
              go_simp
              refine hK _ _ ?_
              exact ⟨fun _ => hE.upd (Below.refl _ _) 21 _ (by simp [goodV]), fun h => absurd (hD.symm.trans h) (by decide)⟩
            · refine stepO_plain rfl (fun DD x W hJ hp hn hcl K hK => ?_)
              have hD : DD 25 = false := by
                cases h : DD 25 with
                | false => rfl
                | true => exact absurd (hcl 23 _ rfl (hcl 25 _ rfl h 23 (of_decide_eq_true (by kernel_rfl))) 22 (of_decide_eq_true (by kernel_rfl))) (by rw [hn]; decide)
              have hE := hJ.1 hD
              have hK := hK.out
              have d21 : DD 21 = true := hp 21 (of_decide_eq_true (by kernel_rfl))
              have g1 := hE.hv 21 (by decide) d21
              have e1 : x 21 = .pointer (some ⟨bf, 5, none⟩) := by simpa [goodV] using g1
              have c1 := (HPW.out.on hE.hb).hf.cell 5 (by decide)
              simp only [fillO, Act.put, List.setIfInBounds_toArray, List.set_cons_zero, List.set_cons_succ, Nat.reduceAdd] at hK ⊢
              simp only [e1] at hK ⊢
              clear g1 e1
              refine Wrap.mk ?_
              go_simp
              refine hK _ _ ?_
              exact ⟨fun _ => hE.upd (Below.refl _ _) 22 _ (by simp [goodV]), fun h => absurd (hD.symm.trans h) (by decide)⟩
            · refine stepO_plain rfl (fun DD x W hJ hp hn hcl K hK => ?_)
              have hD : DD 25 = false := by
                cases h : DD 25 with
                | false => rfl
                | true => exact absurd (hcl 25 _ rfl h 23 (of_decide_eq_true (by kernel_rfl))) (by rw [hn]; decide)
              have hE := hJ.1 hD
              have hK := hK.out
              have d22 : DD 22 = true := hp 22 (of_decide_eq_true (by kernel_rfl))
              have g1 := hE.hv 22 (by decide) d22
              have e1 : x 22 = .string (fl 5) := by simpa [goodV] using g1
              simp only [fillO, Act.put, List.setIfInBounds_toArray, List.set_cons_zero, List.set_cons_succ, Nat.reduceAdd] at hK ⊢
              simp only [e1] at hK ⊢
              clear g1 e1
              refine Wrap.mk ?_
              go_simp
              refine (rparts_v (fl 5) W (HPW.out.hl 5 (by decide))).mono ?_
              rintro e W' ⟨⟨v, rfl, hpv⟩, hb⟩
              go_wp2_with fail
              exact ⟨fun _ => hE.upd hb 23 _ (by have hq : PartV (tl (fl 5)) v W' := hpv; simpa [goodV] using hq), fun h => absurd (hD.symm.trans h) (by decide)⟩
            · refine stepO_plain rfl (fun DD x W hJ hp hn hcl K hK => ?_)
              have hD : DD 25 = false := by
                cases h : DD 25 with
                | false => rfl
                | true => exact absurd (hcl 25 _ rfl h 24 (of_decide_eq_true (by kernel_rfl))) (by rw [hn]; decide)
              have hE := hJ.1 hD
              have hK := hK.out
              simp only [fillO, Act.put, List.setIfInBounds_toArray, List.set_cons_zero, List.set_cons_succ, Nat.reduceAdd] at hK ⊢
              refine Wrap.mk ?_
              go_simp
              refine hK _ _ ?_
              exact ⟨fun _ => hE.upd (Below.refl _ _) 24 _ (by simp [goodV]), fun h => absurd (hD.symm.trans h) (by decide)⟩
            · refine stepO_plain rfl (fun DD x W hJ hp hn hcl K hK => ?_)
              have hD : DD 25 = false := hn
              have d24 : DD 24 = true := hp 24 (of_decide_eq_true (by kernel_rfl))
              have d3 : DD 3 = true := hp 3 (of_decide_eq_true (by kernel_rfl))
              have d23 : DD 23 = true := hp 23 (of_decide_eq_true (by kernel_rfl))
              have d0 : DD 0 = true := (hcl 1 _ rfl (hcl 2 _ rfl (hcl 3 _ rfl (hcl 7 _ rfl (hcl 11 _ rfl (hcl 15 _ rfl (hcl 19 _ rfl (hcl 23 _ rfl d23 19 (of_decide_eq_true (by kernel_rfl))) 15 (of_decide_eq_true (by kernel_rfl))) 11 (of_decide_eq_true (by kernel_rfl))) 7 (of_decide_eq_true (by kernel_rfl))) 3 (of_decide_eq_true (by kernel_rfl))) 2 (of_decide_eq_true (by kernel_rfl))) 1 (of_decide_eq_true (by kernel_rfl))) 0 (of_decide_eq_true (by kernel_rfl)))
              have d1 : DD 1 = true := (hcl 2 _ rfl (hcl 3 _ rfl (hcl 7 _ rfl (hcl 11 _ rfl (hcl 15 _ rfl (hcl 19 _ rfl (hcl 23 _ rfl d23 19 (of_decide_eq_true (by kernel_rfl))) 15 (of_decide_eq_true (by kernel_rfl))) 11 (of_decide_eq_true (by kernel_rfl))) 7 (of_decide_eq_true (by kernel_rfl))) 3 (of_decide_eq_true (by kernel_rfl))) 2 (of_decide_eq_true (by kernel_rfl))) 1 (of_decide_eq_true (by kernel_rfl)))
              have d2 : DD 2 = true := (hcl 3 _ rfl (hcl 7 _ rfl (hcl 11 _ rfl (hcl 15 _ rfl (hcl 19 _ rfl (hcl 23 _ rfl d23 19 (of_decide_eq_true (by kernel_rfl))) 15 (of_decide_eq_true (by kernel_rfl))) 11 (of_decide_eq_true (by kernel_rfl))) 7 (of_decide_eq_true (by kernel_rfl))) 3 (of_decide_eq_true (by kernel_rfl))) 2 (of_decide_eq_true (by kernel_rfl)))
              have d4 : DD 4 = true := (hcl 5 _ rfl (hcl 6 _ rfl (hcl 7 _ rfl (hcl 11 _ rfl (hcl 15 _ rfl (hcl 19 _ rfl (hcl 23 _ rfl d23 19 (of_decide_eq_true (by kernel_rfl))) 15 (of_decide_eq_true (by kernel_rfl))) 11 (of_decide_eq_true (by kernel_rfl))) 7 (of_decide_eq_true (by kernel_rfl))) 6 (of_decide_eq_true (by kernel_rfl))) 5 (of_decide_eq_true (by kernel_rfl))) 4 (of_decide_eq_true (by kernel_rfl)))
              have d5 : DD 5 = true := (hcl 6 _ rfl (hcl 7 _ rfl (hcl 11 _ rfl (hcl 15 _ rfl (hcl 19 _ rfl (hcl 23 _ rfl d23 19 (of_decide_eq_true (by kernel_rfl))) 15 (of_decide_eq_true (by kernel_rfl))) 11 (of_decide_eq_true (by kernel_rfl))) 7 (of_decide_eq_true (by kernel_rfl))) 6 (of_decide_eq_true (by kernel_rfl))) 5 (of_decide_eq_true (by kernel_rfl)))
              have d6 : DD 6 = true := (hcl 7 _ rfl (hcl 11 _ rfl (hcl 15 _ rfl (hcl 19 _ rfl (hcl 23 _ rfl d23 19 (of_decide_eq_true (by kernel_rfl))) 15 (of_decide_eq_true (by kernel_rfl))) 11 (of_decide_eq_true (by kernel_rfl))) 7 (of_decide_eq_true (by kernel_rfl))) 6 (of_decide_eq_true (by kernel_rfl)))
              have d7 : DD 7 = true := (hcl 11 _ rfl (hcl 15 _ rfl (hcl 19 _ rfl (hcl 23 _ rfl d23 19 (of_decide_eq_true (by kernel_rfl))) 15 (of_decide_eq_true (by kernel_rfl))) 11 (of_decide_eq_true (by kernel_rfl))) 7 (of_decide_eq_true (by kernel_rfl)))
              have d8 : DD 8 = true := (hcl 9 _ rfl (hcl 10 _ rfl (hcl 11 _ rfl (hcl 15 _ rfl (hcl 19 _ rfl (hcl 23 _ rfl d23 19 (of_decide_eq_true (by kernel_rfl))) 15 (of_decide_eq_true (by kernel_rfl))) 11 (of_decide_eq_true (by kernel_rfl))) 10 (of_decide_eq_true (by kernel_rfl))) 9 (of_decide_eq_true (by kernel_rfl))) 8 (of_decide_eq_true (by kernel_rfl)))
              have d9 : DD 9 = true := (hcl 10 _ rfl (hcl 11 _ rfl (hcl 15 _ rfl (hcl 19 _ rfl (hcl 23 _ rfl d23 19 (of_decide_eq_true (by kernel_rfl))) 15 (of_decide_eq_true (by kernel_rfl))) 11 (of_decide_eq_true (by kernel_rfl))) 10 (of_decide_eq_true (by kernel_rfl))) 9 (of_decide_eq_true (by kernel_rfl)))
              have d10 : DD 10 = true := (hcl 11 _ rfl (hcl 15 _ rfl (hcl 19 _ rfl (hcl 23 _ rfl d23 19 (of_decide_eq_true (by kernel_rfl))) 15 (of_decide_eq_true (by kernel_rfl))) 11 (of_decide_eq_true (by kernel_rfl))) 10 (of_decide_eq_true (by kernel_rfl)))
              have d11 : DD 11 = true := (hcl 15 _ rfl (hcl 19 _ rfl (hcl 23 _ rfl d23 19 (of_decide_eq_true (by kernel_rfl))) 15 (of_decide_eq_true (by kernel_rfl))) 11 (of_decide_eq_true (by kernel_rfl)))
              have d12 : DD 12 = true := (hcl 13 _ rfl (hcl 14 _ rfl (hcl 15 _ rfl (hcl 19 _ rfl (hcl 23 _ rfl d23 19 (of_decide_eq_true (by kernel_rfl))) 15 (of_decide_eq_true (by kernel_rfl))) 14 (of_decide_eq_true (by kernel_rfl))) 13 (of_decide_eq_true (by kernel_rfl))) 12 (of_decide_eq_true (by kernel_rfl)))
              have d13 : DD 13 = true := (hcl 14 _ rfl (hcl 15 _ rfl (hcl 19 _ rfl (hcl 23 _ rfl d23 19 (of_decide_eq_true (by kernel_rfl))) 15 (of_decide_eq_true (by kernel_rfl))) 14 (of_decide_eq_true (by kernel_rfl))) 13 (of_decide_eq_true (by kernel_rfl)))
              have d14 : DD 14 = true := (hcl 15 _ rfl (hcl 19 _ rfl (hcl 23 _ rfl d23 19 (of_decide_eq_true (by kernel_rfl))) 15 (of_decide_eq_true (by kernel_rfl))) 14 (of_decide_eq_true (by kernel_rfl)))
              have d15 : DD 15 = true := (hcl 19 _ rfl (hcl 23 _ rfl d23 19 (of_decide_eq_true (by kernel_rfl))) 15 (of_decide_eq_true (by kernel_rfl)))
              have d16 : DD 16 = true := (hcl 17 _ rfl (hcl 18 _ rfl (hcl 19 _ rfl (hcl 23 _ rfl d23 19 (of_decide_eq_true (by kernel_rfl))) 18 (of_decide_eq_true (by kernel_rfl))) 17 (of_decide_eq_true (by kernel_rfl))) 16 (of_decide_eq_true (by kernel_rfl)))
              have d17 : DD 17 = true := (hcl 18 _ rfl (hcl 19 _ rfl (hcl 23 _ rfl d23 19 (of_decide_eq_true (by kernel_rfl))) 18 (of_decide_eq_true (by kernel_rfl))) 17 (of_decide_eq_true (by kernel_rfl)))
              have d18 : DD 18 = true := (hcl 19 _ rfl (hcl 23 _ rfl d23 19 (of_decide_eq_true (by kernel_rfl))) 18 (of_decide_eq_true (by kernel_rfl)))
              have d19 : DD 19 = true := (hcl 23 _ rfl d23 19 (of_decide_eq_true (by kernel_rfl)))
              have d20 : DD 20 = true := (hcl 21 _ rfl (hcl 22 _ rfl (hcl 23 _ rfl d23 22 (of_decide_eq_true (by kernel_rfl))) 21 (of_decide_eq_true (by kernel_rfl))) 20 (of_decide_eq_true (by kernel_rfl)))
              have d21 : DD 21 = true := (hcl 22 _ rfl (hcl 23 _ rfl d23 22 (of_decide_eq_true (by kernel_rfl))) 21 (of_decide_eq_true (by kernel_rfl)))
              have d22 : DD 22 = true := (hcl 23 _ rfl d23 22 (of_decide_eq_true (by kernel_rfl)))
              have hall : ∀ k, k < 25 → DD k = true := by
                intro k hk
                have e : k = 0 ∨ k = 1 ∨ k = 2 ∨ k = 3 ∨ k = 4 ∨ k = 5 ∨ k = 6 ∨ k = 7 ∨ k = 8 ∨ k = 9 ∨ k = 10 ∨ k = 11 ∨ k = 12 ∨ k = 13 ∨ k = 14 ∨ k = 15 ∨ k = 16 ∨ k = 17 ∨ k = 18 ∨ k = 19 ∨ k = 20 ∨ k = 21 ∨ k = 22 ∨ k = 23 ∨ k = 24 := by omega
                rcases e with rfl | rfl | rfl | rfl | rfl | rfl | rfl | rfl | rfl | rfl | rfl | rfl | rfl | rfl | rfl | rfl | rfl | rfl | rfl | rfl | rfl | rfl | rfl | rfl | rfl
                · exact d0
                · exact d1
                · exact d2
                · exact d3
                · exact d4
                · exact d5
                · exact d6
                · exact d7
                · exact d8
                · exact d9
                · exact d10
                · exact d11
                · exact d12
                · exact d13
                · exact d14
                · exact d15
                · exact d16
                · exact d17
                · exact d18
                · exact d19
                · exact d20
                · exact d21
                · exact d22
                · exact d23
                · exact d24
              have hNN : ∀ i, DD (25 + 2 * i) = true → 6 ≤ i := fun i h => by
                match i, h with
                | 0, h => exact absurd (hD.symm.trans h) (by decide)
                | 1, h => exact absurd (hD.symm.trans (hcl 27 _ rfl h 25 (of_decide_eq_true (by kernel_rfl)))) (by decide)
                | 2, h => exact absurd (hD.symm.trans (hcl 29 _ rfl h 25 (of_decide_eq_true (by kernel_rfl)))) (by decide)
                | 3, h => exact absurd (hD.symm.trans (hcl 31 _ rfl h 25 (of_decide_eq_true (by kernel_rfl)))) (by decide)
                | 4, h => exact absurd (hD.symm.trans (hcl 33 _ rfl h 25 (of_decide_eq_true (by kernel_rfl)))) (by decide)
                | 5, h => exact absurd (hD.symm.trans (hcl 35 _ rfl h 25 (of_decide_eq_true (by kernel_rfl)))) (by decide)
                | n + 6, _ => omega
              have hEE : ∀ i, 0 < i → i < 6 → DD (24 + 2 * i) = false := fun i h1 h2 => by
                cases h : DD (24 + 2 * i) with
                | false => rfl
                | true =>
                  exfalso
                  match i, h1, h2, h with
                  | 1, _, _, h => exact absurd (hD.symm.trans (hcl 26 _ rfl h 25 (of_decide_eq_true (by kernel_rfl)))) (by decide)
                  | 2, _, _, h => exact absurd (hD.symm.trans (hcl 28 _ rfl h 25 (of_decide_eq_true (by kernel_rfl)))) (by decide)
                  | 3, _, _, h => exact absurd (hD.symm.trans (hcl 30 _ rfl h 25 (of_decide_eq_true (by kernel_rfl)))) (by decide)
                  | 4, _, _, h => exact absurd (hD.symm.trans (hcl 32 _ rfl h 25 (of_decide_eq_true (by kernel_rfl)))) (by decide)
                  | 5, _, _, h => exact absurd (hD.symm.trans (hcl 34 _ rfl h 25 (of_decide_eq_true (by kernel_rfl)))) (by decide)
              obtain ⟨a, hA⟩ := PE1.begin HPW.out (hJ.1 hD) hall hNN hEE
              have e1 : x 24 = .pointer (some ⟨b1, 1, none⟩) := by simpa [goodV] using (hJ.1 hD).hv 24 (by decide) d24
              have e2 : x 3 = slV (a 0) := hA.hx 0 (by decide)
              have g0 := hA.h1.fz 1
              have c0 := hA.h1.cell 0 (by decide)
              have hK := hK.out
              clear d0 d1 d2 d3 d4 d5 d6 d7 d8 d9 d10 d11 d12 d13 d14 d15 d16 d17 d18 d19 d20 d21 d22 d23 d24 hall hNN hEE hcl hp
              simp only [fillO, Act.put, List.setIfInBounds_toArray, List.set_cons_zero, List.set_cons_succ, Nat.reduceAdd] at hK ⊢
              simp only [e1, e2] at hK ⊢
              clear e1 e2
              simp only [slV] at hK ⊢
              refine Wrap.mk ?_
              go_simp
              refine hK undef _ ?_
              exact ⟨fun h => absurd (show true = false from h) (by decide), fun _ => ⟨a, PE1.set hA h0b h01 0 (by decide) undef⟩⟩
            · refine stepO_plain rfl (fun DD x W hJ hp hn hcl K hK => ?_)
              have d25 : DD 25 = true := hp 25 (of_decide_eq_true (by kernel_rfl))
              obtain ⟨a, hA⟩ := hJ.2 d25
              have hK := hK.out
              simp only [fillO, Act.put, List.setIfInBounds_toArray, List.set_cons_zero, List.set_cons_succ, Nat.reduceAdd] at hK ⊢
              refine Wrap.mk ?_
              go_simp
              refine hK _ _ ?_
              exact ⟨fun h => absurd (show DD 25 = false from h) (by rw [d25]; decide), fun _ => ⟨a, PE1.ptr hA 1⟩⟩
            · refine stepO_plain rfl (fun DD x W hJ hp hn hcl K hK => ?_)
              have d25 : DD 25 = true := hp 25 (of_decide_eq_true (by kernel_rfl))
              obtain ⟨a, hA⟩ := hJ.2 d25
              have hK := hK.out
              have d1 : DD 26 = true := hp 26 (of_decide_eq_true (by kernel_rfl))
              have e1 : x 26 = .pointer (some ⟨b1, 2, none⟩) := hA.hq 1 (by decide) (by decide) d1
              have e2 : x 7 = slV (a 1) := hA.hx 1 (by decide)
              have g0 := hA.h1.fz 2
              have c0 := hA.h1.cell 1 (by decide)
              simp only [fillO, Act.put, List.setIfInBounds_toArray, List.set_cons_zero, List.set_cons_succ, Nat.reduceAdd] at hK ⊢
              simp only [e1, e2] at hK ⊢
              clear e1 e2 hcl hp
              simp only [slV] at hK ⊢
              refine Wrap.mk ?_
              go_simp
              refine hK undef _ ?_
              exact ⟨fun h => absurd (show DD 25 = false from h) (by rw [d25]; decide), fun _ => ⟨a, PE1.set hA h0b h01 1 (by decide) undef⟩⟩
            · refine stepO_plain rfl (fun DD x W hJ hp hn hcl K hK => ?_)
              have d25 : DD 25 = true := hp 25 (of_decide_eq_true (by kernel_rfl))
              obtain ⟨a, hA⟩ := hJ.2 d25
              have hK := hK.out
              simp only [fillO, Act.put, List.setIfInBounds_toArray, List.set_cons_zero, List.set_cons_succ, Nat.reduceAdd] at hK ⊢
              refine Wrap.mk ?_
              go_simp
              refine hK _ _ ?_
              exact ⟨fun h => absurd (show DD 25 = false from h) (by rw [d25]; decide), fun _ => ⟨a, PE1.ptr hA 2⟩⟩
            · refine stepO_plain rfl (fun DD x W hJ hp hn hcl K hK => ?_)
              have d25 : DD 25 = true := hp 25 (of_decide_eq_true (by kernel_rfl))
              obtain ⟨a, hA⟩ := hJ.2 d25
              have hK := hK.out
              have d1 : DD 28 = true := hp 28 (of_decide_eq_true (by kernel_rfl))
              have e1 : x 28 = .pointer (some ⟨b1, 3, none⟩) := hA.hq 2 (by decide) (by decide) d1
              have e2 : x 11 = slV (a 2) := hA.hx 2 (by decide)
              have g0 := hA.h1.fz 3
              have c0 := hA.h1.cell 2 (by decide)
              simp only [fillO, Act.put, List.setIfInBounds_toArray, List.set_cons_zero, List.set_cons_succ, Nat.reduceAdd] at hK ⊢
              simp only [e1, e2] at hK ⊢
              clear e1 e2 hcl hp
              simp only [slV] at hK ⊢
              refine Wrap.mk ?_
              go_simp
              refine hK undef _ ?_
              exact ⟨fun h => absurd (show DD 25 = false from h) (by rw [d25]; decide), fun _ => ⟨a, PE1.set hA h0b h01 2 (by decide) undef⟩⟩
            · refine stepO_plain rfl (fun DD x W hJ hp hn hcl K hK => ?_)
              have d25 : DD 25 = true := hp 25 (of_decide_eq_true (by kernel_rfl))
              obtain ⟨a, hA⟩ := hJ.2 d25
              have hK := hK.out
              simp only [fillO, Act.put, List.setIfInBounds_toArray, List.set_cons_zero, List.set_cons_succ, Nat.reduceAdd] at hK ⊢
              refine Wrap.mk ?_
              go_simp
              refine hK _ _ ?_
              exact ⟨fun h => absurd (show DD 25 = false from h) (by rw [d25]; decide), fun _ => ⟨a, PE1.ptr hA 3⟩⟩
            · refine stepO_plain rfl (fun DD x W hJ hp hn hcl K hK => ?_)
              have d25 : DD 25 = true := hp 25 (of_decide_eq_true (by kernel_rfl))
              obtain ⟨a, hA⟩ := hJ.2 d25
              have hK := hK.out
              have d1 : DD 30 = true := hp 30 (of_decide_eq_true (by kernel_rfl))
              have e1 : x 30 = .pointer (some ⟨b1, 4, none⟩) := hA.hq 3 (by decide) (by decide) d1
              have e2 : x 15 = slV (a 3) := hA.hx 3 (by decide)
              have g0 := hA.h1.fz 4
              have c0 := hA.h1.cell 3 (by decide)
              simp only [fillO, Act.put, List.setIfInBounds_toArray, List.set_cons_zero, List.set_cons_succ, Nat.reduceAdd] at hK ⊢
              simp only [e1, e2] at hK ⊢
              clear e1 e2 hcl hp
              simp only [slV] at hK ⊢
              refine Wrap.mk ?_
              go_simp
              refine hK undef _ ?_
              exact ⟨fun h => absurd (show DD 25 = false from h) (by rw [d25]; decide), fun _ => ⟨a, PE1.set hA h0b h01 3 (by decide) undef⟩⟩
            · refine stepO_plain rfl (fun DD x W hJ hp hn hcl K hK => ?_)
              have d25 : DD 25 = true := hp 25 (of_decide_eq_true (by kernel_rfl))
              obtain ⟨a, hA⟩ := hJ.2 d25
              have hK := hK.out
              simp only [fillO, Act.put, List.setIfInBounds_toArray, List.set_cons_zero, List.set_cons_succ, Nat.reduceAdd] at hK ⊢
              refine Wrap.mk ?_
              go_simp
              refine hK _ _ ?_
              exact ⟨fun h => absurd (show DD 25 = false from h) (by rw [d25]; decide), fun _ => ⟨a, PE1.ptr hA 4⟩⟩
            · refine stepO_plain rfl (fun DD x W hJ hp hn hcl K hK => ?_)
              have d25 : DD 25 = true := hp 25 (of_decide_eq_true (by kernel_rfl))
              obtain ⟨a, hA⟩ := hJ.2 d25
              have hK := hK.out
              have d1 : DD 32 = true := hp 32 (of_decide_eq_true (by kernel_rfl))
              have e1 : x 32 = .pointer (some ⟨b1, 5, none⟩) := hA.hq 4 (by decide) (by decide) d1
              have e2 : x 19 = slV (a 4) := hA.hx 4 (by decide)
              have g0 := hA.h1.fz 5
              have c0 := hA.h1.cell 4 (by decide)
              simp only [fillO, Act.put, List.setIfInBounds_toArray, List.set_cons_zero, List.set_cons_succ, Nat.reduceAdd] at hK ⊢
              simp only [e1, e2] at hK ⊢
              clear e1 e2 hcl hp
              simp only [slV] at hK ⊢
              refine Wrap.mk ?_
              go_simp
              refine hK undef _ ?_
              exact ⟨fun h => absurd (show DD 25 = false from h) (by rw [d25]; decide), fun _ => ⟨a, PE1.set hA h0b h01 4 (by decide) undef⟩⟩
            · refine stepO_plain rfl (fun DD x W hJ hp hn hcl K hK => ?_)
              have d25 : DD 25 = true := hp 25 (of_decide_eq_true (by kernel_rfl))
              obtain ⟨a, hA⟩ := hJ.2 d25
              have hK := hK.out
              simp only [fillO, Act.put, List.setIfInBounds_toArray, List.set_cons_zero, List.set_cons_succ, Nat.reduceAdd] at hK ⊢
              refine Wrap.mk ?_
              go_simp
              refine hK _ _ ?_
              exact ⟨fun h => absurd (show DD 25 = false from h) (by rw [d25]; decide), fun _ => ⟨a, PE1.ptr hA 5⟩⟩
            · refine stepO_plain rfl (fun DD x W hJ hp hn hcl K hK => ?_)
              have d25 : DD 25 = true := hp 25 (of_decide_eq_true (by kernel_rfl))
              obtain ⟨a, hA⟩ := hJ.2 d25
              have hK := hK.out
              have d1 : DD 34 = true := hp 34 (of_decide_eq_true (by kernel_rfl))
              have e1 : x 34 = .pointer (some ⟨b1, 6, none⟩) := hA.hq 5 (by decide) (by decide) d1
              have e2 : x 23 = slV (a 5) := hA.hx 5 (by decide)
              have g0 := hA.h1.fz 6
              have c0 := hA.h1.cell 5 (by decide)
              simp only [fillO, Act.put, List.setIfInBounds_toArray, List.set_cons_zero, List.set_cons_succ, Nat.reduceAdd] at hK ⊢
              simp only [e1, e2] at hK ⊢
              clear e1 e2 hcl hp
              simp only [slV] at hK ⊢
              refine Wrap.mk ?_
              go_simp
              refine hK undef _ ?_
              exact ⟨fun h => absurd (show DD 25 = false from h) (by rw [d25]; decide), fun _ => ⟨a, PE1.set hA h0b h01 5 (by decide) undef⟩⟩
          · intro x W hJ
            obtain ⟨a, hA⟩ := hJ.2 (by decide)
            obtain ⟨hc1, q, hg, hfill⟩ := PE1.close hA
            have HB := Lib.hid hA.hb
            have HC0 := Lib.hid hA.h0
            clear hJ hA HPW
            simp only [fillO, Act.put, List.setIfInBounds_toArray, List.set_cons_zero, List.set_cons_succ, Nat.reduceAdd]
            generalize x 0 = x0
            generalize x 1 = x1
            generalize x 2 = x2
            generalize x 3 = x3
            generalize x 4 = x4
            generalize x 5 = x5
            generalize x 6 = x6
            generalize x 7 = x7
            generalize x 8 = x8
            generalize x 9 = x9
            generalize x 10 = x10
            generalize x 11 = x11
            generalize x 12 = x12
            generalize x 13 = x13
            generalize x 14 = x14
            generalize x 15 = x15
            generalize x 16 = x16
            generalize x 17 = x17
            generalize x 18 = x18
            generalize x 19 = x19
            generalize x 20 = x20
            generalize x 21 = x21
            generalize x 22 = x22
            generalize x 23 = x23
            generalize x 24 = x24
            generalize x 26 = x26
            generalize x 28 = x28
            generalize x 30 = x30
            generalize x 32 = x32
            generalize x 34 = x34
            try clear x
            have HG := Lib.hid hg
            have HC1 := Lib.hid hc1
            have hm := rmay_any _ W hg
            have HPR : Hid (Sp.parseP s.data.toList = if Sp.mayCal ⟨days, q 0, q 1, q 2, q 3, q 4, q 5⟩ = true then some ⟨days, q 0, q 1, q 2, q 3, q 4, q 5⟩ else none) := Lib.hid (by rw [HFIN.out, hfill])
            clear hg hfill HFIN
            simp only [calV, slV] at hm
            have HM := Lib.hid hm
            generalize Sp.mayCal ⟨days, q 0, q 1, q 2, q 3, q 4, q 5⟩ = M at *
            have y0 := hc1.cd
            have y1 := hc1.cell 0 (by decide)
            have y2 := hc1.cell 1 (by decide)
            have y3 := hc1.cell 2 (by decide)
            have y4 := hc1.cell 3 (by decide)
            have y5 := hc1.cell 4 (by decide)
            have y6 := hc1.cell 5 (by decide)
            simp only [slV] at y0 y1 y2 y3 y4 y5 y6
            clear hc1 hm
            go_wp2_with fail
            refine HM.out.mono ?_
            rintro e W2 ⟨rfl, hb2⟩
            have h0 := HC0.out.under hb2
            have h1 := HC1.out.under hb2
            have HB2 := Lib.hid (HB.out.trans (hb2.mono HB.out.size))
            have HG2 := Lib.hid (HG.out.on hb2)
            clear y0 y1 y2 y3 y4 y5 y6 hb2 HG HC0 HC1 HB HM
            cases M with
            | false =>
              have HNO : Hid (Sp.parseP s.data.toList = none) := Lib.hid HPR.out
              have z0 := h0.cd
              have g0 := h0.fz 0
              have z1 := h0.cell 0 (by decide)
              have g1 := h0.fz 1
              have z2 := h0.cell 1 (by decide)
              have g2 := h0.fz 2
              have z3 := h0.cell 2 (by decide)
              have g3 := h0.fz 3
              have z4 := h0.cell 3 (by decide)
              have g4 := h0.fz 4
              have z5 := h0.cell 4 (by decide)
              have g5 := h0.fz 5
              have z6 := h0.cell 5 (by decide)
              have g6 := h0.fz 6
              simp only [slV, nilS] at z0 z1 z2 z3 z4 z5 z6
              have HCVF := Lib.hid (CV.put h0 nilS nilS nilS nilS nilS nilS nilS)
              have HBF := Lib.hid (below_put7c HB2.out (Nat.le_refl _) (.slice none 0 0) (.slice none 0 0) (.slice none 0 0) (.slice none 0 0) (.slice none 0 0) (.slice none 0 0) (.slice none 0 0))
              clear h0 h1
              go_wp2
              refine bodyPost_ret (v := .tuple #[.agg #[.slice none 0 0, .slice none 0 0, .slice none 0 0, .slice none 0 0, .slice none 0 0, .slice none 0 0, .slice none 0 0], .bool false]) (rparse_res HCVF.out rfl rfl) rfl ?_
              exact ⟨.inr ⟨HNO.out, rfl⟩, HBF.out⟩
            | true =>
              have HYES : Hid (Sp.parseP s.data.toList = some ⟨days, q 0, q 1, q 2, q 3, q 4, q 5⟩) := Lib.hid HPR.out
              have z0 := h0.cd
              have g0 := h0.fz 0
              have z1 := h0.cell 0 (by decide)
              have g1 := h0.fz 1
              have z2 := h0.cell 1 (by decide)
              have g2 := h0.fz 2
              have z3 := h0.cell 2 (by decide)
              have g3 := h0.fz 3
              have z4 := h0.cell 3 (by decide)
              have g4 := h0.fz 4
              have z5 := h0.cell 4 (by decide)
              have g5 := h0.fz 5
              have z6 := h0.cell 5 (by decide)
              have g6 := h0.fz 6
              simp only [slV, nilS] at z0 z1 z2 z3 z4 z5 z6
              have y0 := h1.cd
              have y1 := h1.cell 0 (by decide)
              have y2 := h1.cell 1 (by decide)
              have y3 := h1.cell 2 (by decide)
              have y4 := h1.cell 3 (by decide)
              have y5 := h1.cell 4 (by decide)
              have y6 := h1.cell 5 (by decide)
              simp only [slV] at y0 y1 y2 y3 y4 y5 y6
              have HCVF := Lib.hid (CV.put h0 D (a 0) (a 1) (a 2) (a 3) (a 4) (a 5))
              have HGF := Lib.hid (calGood_put h0 HG2.out (.slice D.A D.n D.c) (.slice (a 0).A (a 0).n (a 0).c) (.slice (a 1).A (a 1).n (a 1).c) (.slice (a 2).A (a 2).n (a 2).c) (.slice (a 3).A (a 3).n (a 3).c) (.slice (a 4).A (a 4).n (a 4).c) (.slice (a 5).A (a 5).n (a 5).c))
              have HBF := Lib.hid (below_put7c HB2.out (Nat.le_refl _) (.slice D.A D.n D.c) (.slice (a 0).A (a 0).n (a 0).c) (.slice (a 1).A (a 1).n (a 1).c) (.slice (a 2).A (a 2).n (a 2).c) (.slice (a 3).A (a 3).n (a 3).c) (.slice (a 4).A (a 4).n (a 4).c) (.slice (a 5).A (a 5).n (a 5).c))
              clear h0 h1
              go_wp2
              refine bodyPost_ret (v := .tuple #[.agg #[.slice D.A D.n D.c, .slice (a 0).A (a 0).n (a 0).c, .slice (a 1).A (a 1).n (a 1).c, .slice (a 2).A (a 2).n (a 2).c, .slice (a 3).A (a 3).n (a 3).c, .slice (a 4).A (a 4).n (a 4).c, .slice (a 5).A (a 5).n (a 5).c], .bool true]) (rparse_res HCVF.out rfl rfl) rfl ?_
              exact ⟨.inl ⟨_, HYES.out, HGF.out, rfl⟩, HBF.out⟩

end Go.Proofs.YtopmdffiikajnaaGreatDoor
