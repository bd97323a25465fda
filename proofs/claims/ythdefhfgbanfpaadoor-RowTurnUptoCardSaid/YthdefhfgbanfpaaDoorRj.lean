/-
  The walk of the law that a row that is written is read as it was.
-/
import Derived.Test.YthdefhfgbanfpaaDoorRi
namespace Go.Proofs.YthdefhfgbanfpaaDoor
open Go.RowKit

theorem bsize' {B : Nat} {w w' : World} (h : Below B w w') (hB : B ≤ w.heap.size) : B ≤ w'.heap.size := Nat.le_trans hB h.size
set_option maxRecDepth 100000 in
set_option maxHeartbeats 16000000 in
theorem turn_any (a b : RowD) (s : ByteArray) (w : World) (hau : a.unit.size ≤ 140737488355328) (hax : a.text.size ≤ 140737488355328) (hbu : b.unit.size ≤ 140737488355328) (hbx : b.text.size ≤ 140737488355328) (hs : s.size ≤ 1048576) (E : Env w) :
    Calls Tryd.prog 3 #[rowV a, rowV b, .string s] w fun e w' => e = .returned (.bool true) ∧ Below w.heap.size w w' := by
  have HMA := Lib.hid (fun w => mayrow_any a w hau hax)
  have HMB := Lib.hid (fun w => mayrow_any b w hbu hbx)
  have HPA := Lib.hid (fun w E => print_any a w hau hax E)
  have HCA := Lib.hid (fun w E => cursor_any a w hau hax E)
  have HCB := Lib.hid (fun w E => cursor_any b w hbu hbx E)
  have HAB := Lib.hid (fun w => less_any a b w)
  have HBA := Lib.hid (fun w => less_any b a w)
  have HPS := Lib.hid (fun w E => parse_any s w hs E)
  have HRA : Hid (mayRowB a = true → ∀ w, Env w → Calls Tryd.prog 7 #[.string (Sp.toB (Sp.printR a))] w fun e w' => e = .returned (rowE (some a)) ∧ Below w.heap.size w w') := Lib.hid fun h w E => by
    have e : Sp.printR a = Sp.textL a := by rw [Sp.printR, if_pos h]
    rw [e, ← Sp.parse_back a h]
    exact parse_any _ w (Sp.text_small a h) E
  have HQA : Hid (mayRowB a = true → ∀ w, Env w → Calls Tryd.prog 9 #[.string (Sp.toB (Sp.cursorR a))] w fun e w' => e = .returned (placeE (some (Sp.atPlace a))) ∧ Below w.heap.size w w') := Lib.hid fun h w E => by
    have e : Sp.cursorR a = Sp.cursL a := by rw [Sp.cursorR, if_pos h]
    rw [e, ← Sp.place_back a h]
    exact place_any _ w (Sp.curs_small a h) E
  have HL1 := Lib.hid (fun w => less_any a ⟨a.time, a.unit, a.n, 0, ⟨#[]⟩⟩ w)
  rw [(Sp.less_atPlace a 0 ⟨#[]⟩).1] at HL1
  have HL2 := Lib.hid (fun w => less_any ⟨a.time, a.unit, a.n, 0, ⟨#[]⟩⟩ a w)
  rw [(Sp.less_atPlace a 0 ⟨#[]⟩).2] at HL2
  have HXL : Hid (mayRowB a = true → mayRowB b = true → ((Sp.toB (Sp.cursorR a)).toList == (Sp.toB (Sp.cursorR b)).toList) = !(lessB a b || lessB b a)) := Lib.hid fun ha hb => by
    rw [Sp.cursorR, Sp.cursorR, if_pos ha, if_pos hb]
    exact Sp.curs_less a b ha hb
  have HR : Hid (∀ r, Sp.parseP s = some r → ∀ w, (Calls Tryd.prog 6 #[rowV r] w fun e w' => e = .returned (.bool true) ∧ Below w.heap.size w w') ∧ (Env w → Calls Tryd.prog 8 #[rowV r] w fun e w' => e = .returned (.string s) ∧ Below w.heap.size w w')) := Lib.hid fun r hr w => by
    obtain ⟨h1, h2⟩ := Sp.parse_spec s r hr
    obtain ⟨p1, p2, p3, p4, p5, p6, p7, p8, p9⟩ := Sp.mayRow_parts r h1
    have zu : r.unit.size ≤ 140737488355328 := by
      rcases p3 with e | ⟨_, h⟩
      · rw [e]; decide
      · have := Sp.mayL_len _ h
        have e : r.unit.data.toList.length = r.unit.size := by simp
        omega
    refine ⟨?_, fun E => ?_⟩
    · have := mayrow_any r w zu (by omega)
      rwa [h1] at this
    · have := print_any r w zu (by omega) E
      rwa [Sp.printR, if_pos h1, h2, Sp.toB_of] at this
  generalize mayRowB a = ma at *
  generalize mayRowB b = mb at *
  generalize Sp.toB (Sp.printR a) = pa at *
  generalize Sp.toB (Sp.cursorR a) = ca at *
  generalize Sp.toB (Sp.cursorR b) = cb at *
  generalize lessB a b = x at *
  generalize lessB b a = y at *
  generalize Sp.parseP s = ps at *
  clear hau hax hbu hbx hs
  obtain ⟨ct, cu, cn, ck, cx⟩ := a
  obtain ⟨bt, bu, bn, bk, bx⟩ := b
  simp only [rowV, rowC, rowE, placeE, Sp.atPlace] at HMA HMB HPA HCA HCB HAB HBA HRA HQA HL1 HL2 ⊢
  have HT := Lib.hid (Two.new w ct cn ck bt bn bk cu cx bu bx)
  have hz : ((w.alloc (.cells #[.int .i64 ct, .string cu, .int .i64 cn, .int .i64 ck, .string cx] 23)).alloc (.cells #[.int .i64 bt, .string bu, .int .i64 bn, .int .i64 bk, .string bx] 23)).heap.size = w.heap.size + 1 + 1 := by simp
  go_enter Tryd.func3, Tryd.ntmps3
  go_wp2_with fail
  generalize ((w.alloc (.cells #[.int .i64 ct, .string cu, .int .i64 cn, .int .i64 ck, .string cx] 23)).alloc (.cells #[.int .i64 bt, .string bu, .int .i64 bn, .int .i64 bk, .string bx] 23)) = w0 at *
  refine (shown_any w0 (E.on HT.out.hb)).mono ?_
  rintro e w1 ⟨rfl, hb1⟩
  have HT1 := Lib.hid (HT.out.on (by omega) hb1)
  have hz1 : w.heap.size + 1 < w1.heap.size := by have := hb1.size; omega
  clear HT hb1 hz
  have hW0 : w.heap.size ≤ w.heap.size := Nat.le_refl _
  have E' : Hid (∀ W, Below w.heap.size w W → Env W) := Lib.hid fun W h => E.on h
  generalize hB0 : w.heap.size = B0 at *
  have hW0 : B0 ≤ w.heap.size := by omega

  cases ma with
  | false =>
    clear HRA HQA HXL HPA HL1 HL2
    have HTv := HT1
    have hzv := hz1
    clear HT1 hz1
    obtain ⟨-, ⟨a0, a1, a2, a3, a4, -, -, -, -, -⟩, ⟨b0, b1, b2, b3, b4, -, -, -, -, -⟩⟩ := HTv.out
    go_wp2_with fail
    refine (HMA.out _).mono ?_
    rintro e w2 ⟨rfl, hb2⟩
    have HTw := Lib.hid (HTv.out.on hzv hb2)
    have hzw : B0 + 1 < w2.heap.size := by have := hb2.size; omega
    clear a0 a1 a2 a3 a4 b0 b1 b2 b3 b4 HTv hzv hb2
    have HTv := HTw
    have hzv := hzw
    clear HTw hzw
    go_upto_region 8 with fail
    have HF : Hid (∀ p : Since w2.heap.size w2, Two w p.w' B0 ⟨ct, cu, cn, ck, cx⟩ ⟨bt, bu, bn, bk, bx⟩) := Lib.hid fun p => HTv.out.on hzv p.hb
    have a0 : ∀ p : Since w2.heap.size w2, p.w'.cell? ⟨B0, 0, none⟩ = some (.int .i64 ct) := fun p => (HF.out p).ra.c0
    have a1 : ∀ p : Since w2.heap.size w2, p.w'.cell? ⟨B0, 1, none⟩ = some (.string cu) := fun p => (HF.out p).ra.c1
    have a2 : ∀ p : Since w2.heap.size w2, p.w'.cell? ⟨B0, 2, none⟩ = some (.int .i64 cn) := fun p => (HF.out p).ra.c2
    have a3 : ∀ p : Since w2.heap.size w2, p.w'.cell? ⟨B0, 3, none⟩ = some (.int .i64 ck) := fun p => (HF.out p).ra.c3
    have a4 : ∀ p : Since w2.heap.size w2, p.w'.cell? ⟨B0, 4, none⟩ = some (.string cx) := fun p => (HF.out p).ra.c4
    have b0 : ∀ p : Since w2.heap.size w2, p.w'.cell? ⟨B0 + 1, 0, none⟩ = some (.int .i64 bt) := fun p => (HF.out p).rb.c0
    have b1 : ∀ p : Since w2.heap.size w2, p.w'.cell? ⟨B0 + 1, 1, none⟩ = some (.string bu) := fun p => (HF.out p).rb.c1
    have b2 : ∀ p : Since w2.heap.size w2, p.w'.cell? ⟨B0 + 1, 2, none⟩ = some (.int .i64 bn) := fun p => (HF.out p).rb.c2
    have b3 : ∀ p : Since w2.heap.size w2, p.w'.cell? ⟨B0 + 1, 3, none⟩ = some (.int .i64 bk) := fun p => (HF.out p).rb.c3
    have b4 : ∀ p : Since w2.heap.size w2, p.w'.cell? ⟨B0 + 1, 4, none⟩ = some (.string bx) := fun p => (HF.out p).rb.c4
    have HE : Hid (∀ p : Since w2.heap.size w2, Env p.w') := Lib.hid fun p => E'.out _ (HF.out p).hb
    refine wp_region_since w2.heap.size (by kernel_rfl) (by kernel_rfl) ?_
    repeat (go_big_quiet_step (first
      | (go_at_call 6; first | with_reducible exact Calls.since_of (Nat.le_refl _) (HMA.out _) | with_reducible exact Calls.since_of (Nat.le_refl _) (HMB.out _))
      | (go_at_call 10; first | with_reducible exact Calls.since_of (Nat.le_refl _) (HCA.out _ (HE.out _)) | with_reducible exact Calls.since_of (Nat.le_refl _) (HCB.out _ (HE.out _)))
      | (go_at_call 11; first | with_reducible exact Calls.since_of (Nat.le_refl _) (HAB.out _) | with_reducible exact Calls.since_of (Nat.le_refl _) (HBA.out _))))
    refine wpQuiet_nil ?_
    intro _ hw'
    obtain ⟨pz, hw''⟩ := hw'
    subst hw''
    have hpz := HF.out pz
    have HX : Hid (Below B0 w pz.w') := Lib.hid hpz.hb
    generalize pz.w' = wq at *
    clear HF a0 a1 a2 a3 a4 b0 b1 b2 b3 b4 HE hpz
    cases ps with
    | none =>
      simp only [rowE, rowV, rowC, zeroR] at HPS
      go_wp2_with fail
      refine (HPS.out _ (E'.out _ HX.out)).mono ?_
      rintro e wr ⟨rfl, hbr⟩
      have HY : Hid (Below B0 w wr) := Lib.hid (HX.out.trans (hbr.mono (bsize' HX.out hW0)))
      clear hbr HX
      go_wp2
      go_ret
      exact ⟨rfl, by rw [hB0]; exact HY.out.alloc (bsize' HY.out hW0) _⟩
    | some r =>
      have HRM := Lib.hid (fun w => (HR.out r rfl w).1)
      have HRP := Lib.hid (fun w => (HR.out r rfl w).2)
      obtain ⟨rt, ru, rn, rk, rx⟩ := r
      simp only [rowE, rowV, rowC] at HPS HRM HRP
      go_wp2_with fail
      refine (HPS.out _ (E'.out _ HX.out)).mono ?_
      rintro e wr ⟨rfl, hbr⟩
      have HY : Hid (Below B0 w wr) := Lib.hid (HX.out.trans (hbr.mono (bsize' HX.out hW0)))
      clear hbr HX
      have HZ := Lib.hid (HY.out.alloc (bsize' HY.out hW0) (.cells #[.int .i64 rt, .string ru, .int .i64 rn, .int .i64 rk, .string rx] 23))
      have HN := Lib.hid (RBox.new wr rt rn rk ru rx)
      have hlt : wr.heap.size < (wr.alloc (.cells #[.int .i64 rt, .string ru, .int .i64 rn, .int .i64 rk, .string rx] 23)).heap.size := by simp
      clear HY
      go_upto_region 11 with fail
      generalize (wr.alloc (.cells #[.int .i64 rt, .string ru, .int .i64 rn, .int .i64 rk, .string rx] 23)) = ws at *
      generalize wr.heap.size = br at *
      obtain ⟨r0, r1, r2, r3, r4, -, -, -, -, -⟩ := HN.out
      go_wp2_with fail
      refine (HRM.out _).mono ?_
      rintro e wt ⟨rfl, hbt⟩
      have HZ2 : Hid (Below B0 w wt) := Lib.hid (HZ.out.trans (hbt.mono (bsize' HZ.out hW0)))
      have HN2 := Lib.hid (HN.out.on hlt hbt)
      clear r0 r1 r2 r3 r4 hbt
      obtain ⟨r0, r1, r2, r3, r4, -, -, -, -, -⟩ := HN2.out
      go_wp2_with fail
      refine (HRP.out _ (E'.out _ HZ2.out)).mono ?_
      rintro e wu ⟨rfl, hbu⟩
      have HZ3 : Hid (Below B0 w wu) := Lib.hid (HZ2.out.trans (hbu.mono (bsize' HZ2.out hW0)))
      clear hbu
      go_wp2
      go_ret
      exact ⟨rfl, by rw [hB0]; exact HZ3.out⟩
  | true =>
    have HRA1 := Lib.hid (HRA.out rfl)
    have HQA1 := Lib.hid (HQA.out rfl)
    have HXL1 := Lib.hid (HXL.out rfl)
    clear HRA HQA HXL
    obtain ⟨-, ⟨a0, a1, a2, a3, a4, -, -, -, -, -⟩, ⟨b0, b1, b2, b3, b4, -, -, -, -, -⟩⟩ := HT1.out
    go_wp2_with fail
    refine (HMA.out _).mono ?_
    rintro e w2 ⟨rfl, hb2⟩
    have HT2 := Lib.hid (HT1.out.on hz1 hb2)
    have hz2 : B0 + 1 < w2.heap.size := by have := hb2.size; omega
    clear a0 a1 a2 a3 a4 b0 b1 b2 b3 b4 HT1 hz1 hb2
    obtain ⟨-, ⟨a0, a1, a2, a3, a4, -, -, -, -, -⟩, ⟨b0, b1, b2, b3, b4, -, -, -, -, -⟩⟩ := HT2.out
    go_wp2_with fail
    refine (HPA.out _ (E'.out _ HT2.out.hb)).mono ?_
    rintro e w3 ⟨rfl, hb3⟩
    have HT3 := Lib.hid (HT2.out.on hz2 hb3)
    have hz3 : B0 + 1 < w3.heap.size := by have := hb3.size; omega
    clear a0 a1 a2 a3 a4 b0 b1 b2 b3 b4 HT2 hz2 hb3
    go_wp2_with fail
    refine (HRA1.out _ (E'.out _ HT3.out.hb)).mono ?_
    rintro e w4 ⟨rfl, hb4⟩
    have HT4 := Lib.hid (HT3.out.on hz3 hb4)
    have hz4 : B0 + 1 < w4.heap.size := by have := hb4.size; omega
    clear HT3 hz3 hb4
    have HX5 := Lib.hid (RBox.new w4 ct cn ck cu cx)
    have hl5 : w4.heap.size < (w4.alloc (.cells #[.int .i64 ct, .string cu, .int .i64 cn, .int .i64 ck, .string cx] 23)).heap.size := by simp
    have HT5 : Hid (Two w (w4.alloc (.cells #[.int .i64 ct, .string cu, .int .i64 cn, .int .i64 ck, .string cx] 23)) B0 ⟨ct, cu, cn, ck, cx⟩ ⟨bt, bu, bn, bk, bx⟩) := Lib.hid (HT4.out.on hz4 ((Below.refl _ _).alloc (Nat.le_refl _) _))
    have hz5 : B0 + 1 < (w4.alloc (.cells #[.int .i64 ct, .string cu, .int .i64 cn, .int .i64 ck, .string cx] 23)).heap.size := by omega
    clear HT4 hz4
    go_upto_region 5 with fail
    generalize (w4.alloc (.cells #[.int .i64 ct, .string cu, .int .i64 cn, .int .i64 ck, .string cx] 23)) = w5 at *
    generalize w4.heap.size = B1 at *
    obtain ⟨-, ⟨a0, a1, a2, a3, a4, -, -, -, -, -⟩, ⟨b0, b1, b2, b3, b4, -, -, -, -, -⟩⟩ := HT5.out
    go_wp2_with fail
    refine (HCA.out _ (E'.out _ HT5.out.hb)).mono ?_
    rintro e w6 ⟨rfl, hb6⟩
    have HT6 := Lib.hid (HT5.out.on hz5 hb6)
    have HX6 := Lib.hid (HX5.out.on hl5 hb6)
    have hz6 : B0 + 1 < w6.heap.size := by have := hb6.size; omega
    have hl6 : B1 < w6.heap.size := by have := hb6.size; omega
    clear a0 a1 a2 a3 a4 b0 b1 b2 b3 b4 HT5 hz5 hb6 HX5 hl5
    go_wp2_with fail
    refine (HQA1.out _ (E'.out _ HT6.out.hb)).mono ?_
    rintro e w7 ⟨rfl, hb7⟩
    have HT7 := Lib.hid (HT6.out.on hz6 hb7)
    have HX7 := Lib.hid (HX6.out.on hl6 hb7)
    have hz7 : B0 + 1 < w7.heap.size := by have := hb7.size; omega
    have hl7 : B1 < w7.heap.size := by have := hb7.size; omega
    clear HT6 hz6 hb7 HX6 hl6
    have HY8 := Lib.hid (RBox.new w7 ct cn 0 cu ⟨#[]⟩)
    have hm8 : w7.heap.size < (w7.alloc (.cells #[.int .i64 ct, .string cu, .int .i64 cn, .int .i64 0, .string ⟨#[]⟩] 23)).heap.size := by simp
    have HT8 : Hid (Two w (w7.alloc (.cells #[.int .i64 ct, .string cu, .int .i64 cn, .int .i64 0, .string ⟨#[]⟩] 23)) B0 ⟨ct, cu, cn, ck, cx⟩ ⟨bt, bu, bn, bk, bx⟩) := Lib.hid (HT7.out.on hz7 ((Below.refl _ _).alloc (Nat.le_refl _) _))
    have HX8 : Hid (RBox (w7.alloc (.cells #[.int .i64 ct, .string cu, .int .i64 cn, .int .i64 0, .string ⟨#[]⟩] 23)) B1 ⟨ct, cu, cn, ck, cx⟩) := Lib.hid (HX7.out.on hl7 ((Below.refl _ _).alloc (Nat.le_refl _) _))
    have hz8 : B0 + 1 < (w7.alloc (.cells #[.int .i64 ct, .string cu, .int .i64 cn, .int .i64 0, .string ⟨#[]⟩] 23)).heap.size := by omega
    have hl8 : B1 < (w7.alloc (.cells #[.int .i64 ct, .string cu, .int .i64 cn, .int .i64 0, .string ⟨#[]⟩] 23)).heap.size := by omega
    clear HT7 hz7 HX7 hl7
    go_upto_region 6 with fail
    generalize (w7.alloc (.cells #[.int .i64 ct, .string cu, .int .i64 cn, .int .i64 0, .string ⟨#[]⟩] 23)) = w8 at *
    generalize w7.heap.size = B2 at *
    obtain ⟨-, ⟨a0, a1, a2, a3, a4, -, -, -, -, -⟩, ⟨b0, b1, b2, b3, b4, -, -, -, -, -⟩⟩ := HT8.out
    obtain ⟨r0, r1, r2, r3, r4, -, -, -, -, -⟩ := HX8.out
    obtain ⟨q0, q1, q2, q3, q4, -, -, -, -, -⟩ := HY8.out
    go_wp2_with fail
    refine (HL1.out _).mono ?_
    rintro e w9 ⟨rfl, hb9⟩
    have HT9 := Lib.hid (HT8.out.on hz8 hb9)
    have HY9 := Lib.hid (HY8.out.on hm8 hb9)
    have hz9 : B0 + 1 < w9.heap.size := by have := hb9.size; omega
    clear a0 a1 a2 a3 a4 b0 b1 b2 b3 b4 r0 r1 r2 r3 r4 q0 q1 q2 q3 q4 HT8 HX8 HY8 hz8 hl8 hm8 hb9
    obtain ⟨-, ⟨a0, a1, a2, a3, a4, -, -, -, -, -⟩, ⟨b0, b1, b2, b3, b4, -, -, -, -, -⟩⟩ := HT9.out
    obtain ⟨q0, q1, q2, q3, q4, -, -, -, -, -⟩ := HY9.out
    go_wp2_with fail
    refine (HL2.out _).mono ?_
    rintro e w10 ⟨rfl, hb10⟩
    have HTv := Lib.hid (HT9.out.on hz9 hb10)
    have hzv : B0 + 1 < w10.heap.size := by have := hb10.size; omega
    clear a0 a1 a2 a3 a4 b0 b1 b2 b3 b4 q0 q1 q2 q3 q4 HT9 HY9 hz9 hb10 HL1 HL2 HRA1 HQA1 HPA
    go_upto_region 8 with fail
    cases mb with
    | false =>
      clear HXL1
      have HF : Hid (∀ p : Since w10.heap.size w10, Two w p.w' B0 ⟨ct, cu, cn, ck, cx⟩ ⟨bt, bu, bn, bk, bx⟩) := Lib.hid fun p => HTv.out.on hzv p.hb
      have a0 : ∀ p : Since w10.heap.size w10, p.w'.cell? ⟨B0, 0, none⟩ = some (.int .i64 ct) := fun p => (HF.out p).ra.c0
      have a1 : ∀ p : Since w10.heap.size w10, p.w'.cell? ⟨B0, 1, none⟩ = some (.string cu) := fun p => (HF.out p).ra.c1
      have a2 : ∀ p : Since w10.heap.size w10, p.w'.cell? ⟨B0, 2, none⟩ = some (.int .i64 cn) := fun p => (HF.out p).ra.c2
      have a3 : ∀ p : Since w10.heap.size w10, p.w'.cell? ⟨B0, 3, none⟩ = some (.int .i64 ck) := fun p => (HF.out p).ra.c3
      have a4 : ∀ p : Since w10.heap.size w10, p.w'.cell? ⟨B0, 4, none⟩ = some (.string cx) := fun p => (HF.out p).ra.c4
      have b0 : ∀ p : Since w10.heap.size w10, p.w'.cell? ⟨B0 + 1, 0, none⟩ = some (.int .i64 bt) := fun p => (HF.out p).rb.c0
      have b1 : ∀ p : Since w10.heap.size w10, p.w'.cell? ⟨B0 + 1, 1, none⟩ = some (.string bu) := fun p => (HF.out p).rb.c1
      have b2 : ∀ p : Since w10.heap.size w10, p.w'.cell? ⟨B0 + 1, 2, none⟩ = some (.int .i64 bn) := fun p => (HF.out p).rb.c2
      have b3 : ∀ p : Since w10.heap.size w10, p.w'.cell? ⟨B0 + 1, 3, none⟩ = some (.int .i64 bk) := fun p => (HF.out p).rb.c3
      have b4 : ∀ p : Since w10.heap.size w10, p.w'.cell? ⟨B0 + 1, 4, none⟩ = some (.string bx) := fun p => (HF.out p).rb.c4
      have HE : Hid (∀ p : Since w10.heap.size w10, Env p.w') := Lib.hid fun p => E'.out _ (HF.out p).hb
      refine wp_region_since w10.heap.size (by kernel_rfl) (by kernel_rfl) ?_
      repeat (go_big_quiet_step (first
        | (go_at_call 6; first | with_reducible exact Calls.since_of (Nat.le_refl _) (HMA.out _) | with_reducible exact Calls.since_of (Nat.le_refl _) (HMB.out _))
        | (go_at_call 10; first | with_reducible exact Calls.since_of (Nat.le_refl _) (HCA.out _ (HE.out _)) | with_reducible exact Calls.since_of (Nat.le_refl _) (HCB.out _ (HE.out _)))
        | (go_at_call 11; first | with_reducible exact Calls.since_of (Nat.le_refl _) (HAB.out _) | with_reducible exact Calls.since_of (Nat.le_refl _) (HBA.out _))))
      refine wpQuiet_nil ?_
      intro _ hw'
      obtain ⟨pz, hw''⟩ := hw'
      subst hw''
      have hpz := HF.out pz
      have HX : Hid (Below B0 w pz.w') := Lib.hid hpz.hb
      generalize pz.w' = wq at *
      clear HF a0 a1 a2 a3 a4 b0 b1 b2 b3 b4 HE hpz
      cases ps with
      | none =>
        simp only [rowE, rowV, rowC, zeroR] at HPS
        go_wp2_with fail
        refine (HPS.out _ (E'.out _ HX.out)).mono ?_
        rintro e wr ⟨rfl, hbr⟩
        have HY : Hid (Below B0 w wr) := Lib.hid (HX.out.trans (hbr.mono (bsize' HX.out hW0)))
        clear hbr HX
        go_wp2
        go_ret
        exact ⟨rfl, by rw [hB0]; exact HY.out.alloc (bsize' HY.out hW0) _⟩
      | some r =>
        have HRM := Lib.hid (fun w => (HR.out r rfl w).1)
        have HRP := Lib.hid (fun w => (HR.out r rfl w).2)
        obtain ⟨rt, ru, rn, rk, rx⟩ := r
        simp only [rowE, rowV, rowC] at HPS HRM HRP
        go_wp2_with fail
        refine (HPS.out _ (E'.out _ HX.out)).mono ?_
        rintro e wr ⟨rfl, hbr⟩
        have HY : Hid (Below B0 w wr) := Lib.hid (HX.out.trans (hbr.mono (bsize' HX.out hW0)))
        clear hbr HX
        have HZ := Lib.hid (HY.out.alloc (bsize' HY.out hW0) (.cells #[.int .i64 rt, .string ru, .int .i64 rn, .int .i64 rk, .string rx] 23))
        have HN := Lib.hid (RBox.new wr rt rn rk ru rx)
        have hlt : wr.heap.size < (wr.alloc (.cells #[.int .i64 rt, .string ru, .int .i64 rn, .int .i64 rk, .string rx] 23)).heap.size := by simp
        clear HY
        go_upto_region 11 with fail
        generalize (wr.alloc (.cells #[.int .i64 rt, .string ru, .int .i64 rn, .int .i64 rk, .string rx] 23)) = ws at *
        generalize wr.heap.size = br at *
        obtain ⟨r0, r1, r2, r3, r4, -, -, -, -, -⟩ := HN.out
        go_wp2_with fail
        refine (HRM.out _).mono ?_
        rintro e wt ⟨rfl, hbt⟩
        have HZ2 : Hid (Below B0 w wt) := Lib.hid (HZ.out.trans (hbt.mono (bsize' HZ.out hW0)))
        have HN2 := Lib.hid (HN.out.on hlt hbt)
        clear r0 r1 r2 r3 r4 hbt
        obtain ⟨r0, r1, r2, r3, r4, -, -, -, -, -⟩ := HN2.out
        go_wp2_with fail
        refine (HRP.out _ (E'.out _ HZ2.out)).mono ?_
        rintro e wu ⟨rfl, hbu⟩
        have HZ3 : Hid (Below B0 w wu) := Lib.hid (HZ2.out.trans (hbu.mono (bsize' HZ2.out hW0)))
        clear hbu
        go_wp2
        go_ret
        exact ⟨rfl, by rw [hB0]; exact HZ3.out⟩
    | true =>
      have hxl := HXL1.out rfl
      clear HXL1
      cases x <;> cases y <;> simp only [Bool.or_false, Bool.or_self, Bool.not_true, Bool.not_false, Bool.or_true] at hxl
      all_goals
        have HF : Hid (∀ p : Since w10.heap.size w10, Two w p.w' B0 ⟨ct, cu, cn, ck, cx⟩ ⟨bt, bu, bn, bk, bx⟩) := Lib.hid fun p => HTv.out.on hzv p.hb
        have a0 : ∀ p : Since w10.heap.size w10, p.w'.cell? ⟨B0, 0, none⟩ = some (.int .i64 ct) := fun p => (HF.out p).ra.c0
        have a1 : ∀ p : Since w10.heap.size w10, p.w'.cell? ⟨B0, 1, none⟩ = some (.string cu) := fun p => (HF.out p).ra.c1
        have a2 : ∀ p : Since w10.heap.size w10, p.w'.cell? ⟨B0, 2, none⟩ = some (.int .i64 cn) := fun p => (HF.out p).ra.c2
        have a3 : ∀ p : Since w10.heap.size w10, p.w'.cell? ⟨B0, 3, none⟩ = some (.int .i64 ck) := fun p => (HF.out p).ra.c3
        have a4 : ∀ p : Since w10.heap.size w10, p.w'.cell? ⟨B0, 4, none⟩ = some (.string cx) := fun p => (HF.out p).ra.c4
        have b0 : ∀ p : Since w10.heap.size w10, p.w'.cell? ⟨B0 + 1, 0, none⟩ = some (.int .i64 bt) := fun p => (HF.out p).rb.c0
        have b1 : ∀ p : Since w10.heap.size w10, p.w'.cell? ⟨B0 + 1, 1, none⟩ = some (.string bu) := fun p => (HF.out p).rb.c1
        have b2 : ∀ p : Since w10.heap.size w10, p.w'.cell? ⟨B0 + 1, 2, none⟩ = some (.int .i64 bn) := fun p => (HF.out p).rb.c2
        have b3 : ∀ p : Since w10.heap.size w10, p.w'.cell? ⟨B0 + 1, 3, none⟩ = some (.int .i64 bk) := fun p => (HF.out p).rb.c3
        have b4 : ∀ p : Since w10.heap.size w10, p.w'.cell? ⟨B0 + 1, 4, none⟩ = some (.string bx) := fun p => (HF.out p).rb.c4
        have HE : Hid (∀ p : Since w10.heap.size w10, Env p.w') := Lib.hid fun p => E'.out _ (HF.out p).hb
        refine wp_region_since w10.heap.size (by kernel_rfl) (by kernel_rfl) ?_
        repeat (go_big_quiet_step (first
          | (go_at_call 6; first | with_reducible exact Calls.since_of (Nat.le_refl _) (HMA.out _) | with_reducible exact Calls.since_of (Nat.le_refl _) (HMB.out _))
          | (go_at_call 10; first | with_reducible exact Calls.since_of (Nat.le_refl _) (HCA.out _ (HE.out _)) | with_reducible exact Calls.since_of (Nat.le_refl _) (HCB.out _ (HE.out _)))
          | (go_at_call 11; first | with_reducible exact Calls.since_of (Nat.le_refl _) (HAB.out _) | with_reducible exact Calls.since_of (Nat.le_refl _) (HBA.out _))))
        refine wpQuiet_nil ?_
        intro _ hw'
        obtain ⟨pz, hw''⟩ := hw'
        subst hw''
        have hpz := HF.out pz
        have HX : Hid (Below B0 w pz.w') := Lib.hid hpz.hb
        generalize pz.w' = wq at *
        clear HF a0 a1 a2 a3 a4 b0 b1 b2 b3 b4 HE hpz
        cases ps with
        | none =>
          simp only [rowE, rowV, rowC, zeroR] at HPS
          go_wp2_with fail
          refine (HPS.out _ (E'.out _ HX.out)).mono ?_
          rintro e wr ⟨rfl, hbr⟩
          have HY : Hid (Below B0 w wr) := Lib.hid (HX.out.trans (hbr.mono (bsize' HX.out hW0)))
          clear hbr HX
          go_wp2
          go_ret
          exact ⟨rfl, by rw [hB0]; exact HY.out.alloc (bsize' HY.out hW0) _⟩
        | some r =>
          have HRM := Lib.hid (fun w => (HR.out r rfl w).1)
          have HRP := Lib.hid (fun w => (HR.out r rfl w).2)
          obtain ⟨rt, ru, rn, rk, rx⟩ := r
          simp only [rowE, rowV, rowC] at HPS HRM HRP
          go_wp2_with fail
          refine (HPS.out _ (E'.out _ HX.out)).mono ?_
          rintro e wr ⟨rfl, hbr⟩
          have HY : Hid (Below B0 w wr) := Lib.hid (HX.out.trans (hbr.mono (bsize' HX.out hW0)))
          clear hbr HX
          have HZ := Lib.hid (HY.out.alloc (bsize' HY.out hW0) (.cells #[.int .i64 rt, .string ru, .int .i64 rn, .int .i64 rk, .string rx] 23))
          have HN := Lib.hid (RBox.new wr rt rn rk ru rx)
          have hlt : wr.heap.size < (wr.alloc (.cells #[.int .i64 rt, .string ru, .int .i64 rn, .int .i64 rk, .string rx] 23)).heap.size := by simp
          clear HY
          go_upto_region 11 with fail
          generalize (wr.alloc (.cells #[.int .i64 rt, .string ru, .int .i64 rn, .int .i64 rk, .string rx] 23)) = ws at *
          generalize wr.heap.size = br at *
          obtain ⟨r0, r1, r2, r3, r4, -, -, -, -, -⟩ := HN.out
          go_wp2_with fail
          refine (HRM.out _).mono ?_
          rintro e wt ⟨rfl, hbt⟩
          have HZ2 : Hid (Below B0 w wt) := Lib.hid (HZ.out.trans (hbt.mono (bsize' HZ.out hW0)))
          have HN2 := Lib.hid (HN.out.on hlt hbt)
          clear r0 r1 r2 r3 r4 hbt
          obtain ⟨r0, r1, r2, r3, r4, -, -, -, -, -⟩ := HN2.out
          go_wp2_with fail
          refine (HRP.out _ (E'.out _ HZ2.out)).mono ?_
          rintro e wu ⟨rfl, hbu⟩
          have HZ3 : Hid (Below B0 w wu) := Lib.hid (HZ2.out.trans (hbu.mono (bsize' HZ2.out hW0)))
          clear hbu
          go_wp2
          go_ret
          exact ⟨rfl, by rw [hB0]; exact HZ3.out⟩

end Go.Proofs.YthdefhfgbanfpaaDoor
