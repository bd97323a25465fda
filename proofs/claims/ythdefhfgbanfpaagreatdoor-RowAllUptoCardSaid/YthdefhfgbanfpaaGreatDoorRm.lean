/-
  The walk of the law about any rows and any text.
-/
import Derived.Test.YthdefhfgbanfpaaGreatDoorRk
namespace Go.Proofs.YthdefhfgbanfpaaGreatDoor
open Go.RowKit

theorem rowE_is (o : Option RowD) : ∃ R ok, rowE o = .tuple #[rowV R, .bool ok] := by
  cases o with
  | none => exact ⟨_, _, rfl⟩
  | some r => exact ⟨_, _, rfl⟩
theorem placeE_is (o : Option RowD) : ∃ R ok, placeE o = .tuple #[rowV R, .bool ok] := by
  cases o with
  | none => exact ⟨_, _, rfl⟩
  | some r => exact ⟨_, _, rfl⟩
theorem bsize' {B : Nat} {w w' : World} (h : Below B w w') (hB : B ≤ w.heap.size) : B ≤ w'.heap.size := Nat.le_trans hB h.size

set_option maxRecDepth 100000 in
set_option maxHeartbeats 16000000 in
theorem rowall_any (a b : RowD) (s : ByteArray) (w : World) (hau : a.unit.size ≤ 140737488355328) (hax : a.text.size ≤ 140737488355328) (_hbu : b.unit.size ≤ 140737488355328) (_hbx : b.text.size ≤ 140737488355328) (hs : s.size ≤ 1048576) (E : Env w) :
    Calls Tryz.prog 3 #[rowV a, rowV b, .string s] w fun e w' => e = .returned (.bool true) ∧ Below w.heap.size w w' := by
  have HM := Lib.hid (fun w => mayrow_any a w hau hax)
  have HM' := Lib.hid (fun w => rmayrow_any a w hau hax)
  have HP := Lib.hid (fun w E => print_any a w hau hax E)
  have HP' := Lib.hid (fun w => rprint_any a w hau hax)
  have HC := Lib.hid (fun w E => cursor_any a w hau hax E)
  have HC' := Lib.hid (fun w => rcursor_any a w hau hax)
  have HL := Lib.hid (fun w => less_any a b w)
  have HL' := Lib.hid (fun w => rless_any a b w)
  have HR := Lib.hid (fun w E => parse_any s w hs E)
  have HR' := Lib.hid (fun w => rparse_any s w (by omega))
  have HQ := Lib.hid (fun w E => place_any s w hs E)
  have HQ' := Lib.hid (fun w => rplace_any s w (by omega))
  obtain ⟨R, ok, hR⟩ := rowE_is (Sp.parseP s)
  obtain ⟨T, is', hT⟩ := placeE_is (Sp.placeP s)
  rw [hR] at HR HR'
  rw [hT] at HQ HQ'
  clear hR hT
  generalize mayRowB a = ma at *
  generalize Sp.toB (Sp.printR a) = pa at *
  generalize Sp.toB (Sp.cursorR a) = ca at *
  generalize lessB a b = x at *
  clear hau hax hs
  obtain ⟨ct, cu, cn, ck, cx⟩ := a
  obtain ⟨bt, bu, bn, bk, bx⟩ := b
  obtain ⟨rt, ru, rn, rk, rx⟩ := R
  obtain ⟨qt, qu, qn, qk, qx⟩ := T
  simp only [rowV, rowC] at HM HM' HP HP' HC HC' HL HL' HR HR' HQ HQ' ⊢
  have hb0 : Below w.heap.size w ((w.alloc (.cells #[.int .i64 ct, .string cu, .int .i64 cn, .int .i64 ck, .string cx] 23)).alloc (.cells #[.int .i64 bt, .string bu, .int .i64 bn, .int .i64 bk, .string bx] 23)) := ((Below.refl _ _).alloc (Nat.le_refl _) _).alloc (by simp) _
  have HXa : Hid (RBox ((w.alloc (.cells #[.int .i64 ct, .string cu, .int .i64 cn, .int .i64 ck, .string cx] 23)).alloc (.cells #[.int .i64 bt, .string bu, .int .i64 bn, .int .i64 bk, .string bx] 23)) w.heap.size ⟨ct, cu, cn, ck, cx⟩) := Lib.hid ((RBox.new w ct cn ck cu cx).on (B := w.heap.size + 1) (by omega) (by
      have := (Below.refl (w.heap.size + 1) (w.alloc (.cells #[.int .i64 ct, .string cu, .int .i64 cn, .int .i64 ck, .string cx] 23))).alloc (by simp) (.cells #[.int .i64 bt, .string bu, .int .i64 bn, .int .i64 bk, .string bx] 23)
      exact this))
  have HXb : Hid (RBox ((w.alloc (.cells #[.int .i64 ct, .string cu, .int .i64 cn, .int .i64 ck, .string cx] 23)).alloc (.cells #[.int .i64 bt, .string bu, .int .i64 bn, .int .i64 bk, .string bx] 23)) (w.heap.size + 1) ⟨bt, bu, bn, bk, bx⟩) := Lib.hid (by
    have := RBox.new (w.alloc (.cells #[.int .i64 ct, .string cu, .int .i64 cn, .int .i64 ck, .string cx] 23)) bt bn bk bu bx
    simpa using this)
  have hz : w.heap.size + 1 < ((w.alloc (.cells #[.int .i64 ct, .string cu, .int .i64 cn, .int .i64 ck, .string cx] 23)).alloc (.cells #[.int .i64 bt, .string bu, .int .i64 bn, .int .i64 bk, .string bx] 23)).heap.size := by simp
  go_enter Tryz.func3, Tryz.ntmps3
  go_wp2_with fail
  generalize ((w.alloc (.cells #[.int .i64 ct, .string cu, .int .i64 cn, .int .i64 ck, .string cx] 23)).alloc (.cells #[.int .i64 bt, .string bu, .int .i64 bn, .int .i64 bk, .string bx] 23)) = w0 at *
  have hW0 : w.heap.size ≤ w.heap.size := Nat.le_refl _
  have E' : Hid (∀ W, Below w.heap.size w W → Env W) := Lib.hid fun W h => E.on h
  refine (shown_any w0 (E'.out _ hb0)).mono ?_
  rintro e w1 ⟨rfl, hq⟩
  have HBw1 : Hid (Below w.heap.size w w1) := Lib.hid (hb0.trans (hq.mono (bsize' hb0 hW0)))
  have HXa1 := Lib.hid (HXa.out.on (by omega) hq)
  have HXb1 := Lib.hid (HXb.out.on hz hq)
  have hz1 : w.heap.size + 1 < w1.heap.size := by have := hq.size; omega
  clear hq hb0 HXa HXb hz
  generalize hB0 : w.heap.size = B0 at *
  clear hW0
  have hW0 : B0 ≤ w.heap.size := by omega
  go_wp2_with fail
  refine (HR.out _ (E'.out _ HBw1.out)).mono ?_
  rintro e v0 ⟨rfl, hq⟩
  have HBv0 : Hid (Below B0 w v0) := Lib.hid (HBw1.out.trans (hq.mono (bsize' HBw1.out hW0)))
  have Xv00 := Lib.hid (HXa1.out.on (by omega) hq)
  have Xv01 := Lib.hid (HXb1.out.on (by omega) hq)
  have hsv0 := hq.size
  clear hq HBw1 HXa1 HXb1 HR
  have HBu0 : Hid (Below B0 w (v0.alloc (.cells #[.int .i64 rt, .string ru, .int .i64 rn, .int .i64 rk, .string rx] 23))) := Lib.hid (HBv0.out.alloc (bsize' HBv0.out hW0) _)
  have hsu0 : v0.heap.size < (v0.alloc (.cells #[.int .i64 rt, .string ru, .int .i64 rn, .int .i64 rk, .string rx] 23)).heap.size := by simp
  have Xu00 : Hid (RBox (v0.alloc (.cells #[.int .i64 rt, .string ru, .int .i64 rn, .int .i64 rk, .string rx] 23)) (B0) ⟨ct, cu, cn, ck, cx⟩) := Lib.hid (Xv00.out.on (B := v0.heap.size) (by omega) ((Below.refl _ _).alloc (Nat.le_refl _) _))
  have Xu01 : Hid (RBox (v0.alloc (.cells #[.int .i64 rt, .string ru, .int .i64 rn, .int .i64 rk, .string rx] 23)) (B0 + 1) ⟨bt, bu, bn, bk, bx⟩) := Lib.hid (Xv01.out.on (B := v0.heap.size) (by omega) ((Below.refl _ _).alloc (Nat.le_refl _) _))
  have Xu02 := Lib.hid (RBox.new v0 rt rn rk ru rx)
  clear HBv0 Xv00 Xv01
  go_upto_region 4 with fail
  generalize (v0.alloc (.cells #[.int .i64 rt, .string ru, .int .i64 rn, .int .i64 rk, .string rx] 23)) = u0 at *
  generalize v0.heap.size = C0 at *
  go_wp2_with fail
  refine (HR'.out _).mono ?_
  rintro e v1 ⟨rfl, hq⟩
  have HBv1 : Hid (Below B0 w v1) := Lib.hid (HBu0.out.trans (hq.mono (bsize' HBu0.out hW0)))
  have Xv10 := Lib.hid (Xu00.out.on (by omega) hq)
  have Xv11 := Lib.hid (Xu01.out.on (by omega) hq)
  have Xv12 := Lib.hid (Xu02.out.on (by omega) hq)
  have hsv1 := hq.size
  clear hq HBu0 Xu00 Xu01 Xu02 HR'
  have HBu1 : Hid (Below B0 w (v1.alloc (.cells #[.int .i64 rt, .string ru, .int .i64 rn, .int .i64 rk, .string rx] 23))) := Lib.hid (HBv1.out.alloc (bsize' HBv1.out hW0) _)
  have hsu1 : v1.heap.size < (v1.alloc (.cells #[.int .i64 rt, .string ru, .int .i64 rn, .int .i64 rk, .string rx] 23)).heap.size := by simp
  have Xu10 : Hid (RBox (v1.alloc (.cells #[.int .i64 rt, .string ru, .int .i64 rn, .int .i64 rk, .string rx] 23)) (B0) ⟨ct, cu, cn, ck, cx⟩) := Lib.hid (Xv10.out.on (B := v1.heap.size) (by omega) ((Below.refl _ _).alloc (Nat.le_refl _) _))
  have Xu11 : Hid (RBox (v1.alloc (.cells #[.int .i64 rt, .string ru, .int .i64 rn, .int .i64 rk, .string rx] 23)) (B0 + 1) ⟨bt, bu, bn, bk, bx⟩) := Lib.hid (Xv11.out.on (B := v1.heap.size) (by omega) ((Below.refl _ _).alloc (Nat.le_refl _) _))
  have Xu12 : Hid (RBox (v1.alloc (.cells #[.int .i64 rt, .string ru, .int .i64 rn, .int .i64 rk, .string rx] 23)) (C0) ⟨rt, ru, rn, rk, rx⟩) := Lib.hid (Xv12.out.on (B := v1.heap.size) (by omega) ((Below.refl _ _).alloc (Nat.le_refl _) _))
  have Xu13 := Lib.hid (RBox.new v1 rt rn rk ru rx)
  clear HBv1 Xv10 Xv11 Xv12
  go_upto_region 5 with fail
  generalize (v1.alloc (.cells #[.int .i64 rt, .string ru, .int .i64 rn, .int .i64 rk, .string rx] 23)) = u1 at *
  generalize v1.heap.size = C1 at *
  go_wp2_with fail
  refine (HQ.out _ (E'.out _ HBu1.out)).mono ?_
  rintro e v2 ⟨rfl, hq⟩
  have HBv2 : Hid (Below B0 w v2) := Lib.hid (HBu1.out.trans (hq.mono (bsize' HBu1.out hW0)))
  have Xv20 := Lib.hid (Xu10.out.on (by omega) hq)
  have Xv21 := Lib.hid (Xu11.out.on (by omega) hq)
  have Xv22 := Lib.hid (Xu12.out.on (by omega) hq)
  have Xv23 := Lib.hid (Xu13.out.on (by omega) hq)
  have hsv2 := hq.size
  clear hq HBu1 Xu10 Xu11 Xu12 Xu13 HQ
  have HBu2 : Hid (Below B0 w (v2.alloc (.cells #[.int .i64 qt, .string qu, .int .i64 qn, .int .i64 qk, .string qx] 23))) := Lib.hid (HBv2.out.alloc (bsize' HBv2.out hW0) _)
  have hsu2 : v2.heap.size < (v2.alloc (.cells #[.int .i64 qt, .string qu, .int .i64 qn, .int .i64 qk, .string qx] 23)).heap.size := by simp
  have Xu20 : Hid (RBox (v2.alloc (.cells #[.int .i64 qt, .string qu, .int .i64 qn, .int .i64 qk, .string qx] 23)) (B0) ⟨ct, cu, cn, ck, cx⟩) := Lib.hid (Xv20.out.on (B := v2.heap.size) (by omega) ((Below.refl _ _).alloc (Nat.le_refl _) _))
  have Xu21 : Hid (RBox (v2.alloc (.cells #[.int .i64 qt, .string qu, .int .i64 qn, .int .i64 qk, .string qx] 23)) (B0 + 1) ⟨bt, bu, bn, bk, bx⟩) := Lib.hid (Xv21.out.on (B := v2.heap.size) (by omega) ((Below.refl _ _).alloc (Nat.le_refl _) _))
  have Xu22 : Hid (RBox (v2.alloc (.cells #[.int .i64 qt, .string qu, .int .i64 qn, .int .i64 qk, .string qx] 23)) (C0) ⟨rt, ru, rn, rk, rx⟩) := Lib.hid (Xv22.out.on (B := v2.heap.size) (by omega) ((Below.refl _ _).alloc (Nat.le_refl _) _))
  have Xu23 : Hid (RBox (v2.alloc (.cells #[.int .i64 qt, .string qu, .int .i64 qn, .int .i64 qk, .string qx] 23)) (C1) ⟨rt, ru, rn, rk, rx⟩) := Lib.hid (Xv23.out.on (B := v2.heap.size) (by omega) ((Below.refl _ _).alloc (Nat.le_refl _) _))
  have Xu24 := Lib.hid (RBox.new v2 qt qn qk qu qx)
  clear HBv2 Xv20 Xv21 Xv22 Xv23
  go_upto_region 6 with fail
  generalize (v2.alloc (.cells #[.int .i64 qt, .string qu, .int .i64 qn, .int .i64 qk, .string qx] 23)) = u2 at *
  generalize v2.heap.size = C2 at *
  go_wp2_with fail
  refine (HQ'.out _).mono ?_
  rintro e v3 ⟨rfl, hq⟩
  have HBv3 : Hid (Below B0 w v3) := Lib.hid (HBu2.out.trans (hq.mono (bsize' HBu2.out hW0)))
  have Xv30 := Lib.hid (Xu20.out.on (by omega) hq)
  have Xv31 := Lib.hid (Xu21.out.on (by omega) hq)
  have Xv32 := Lib.hid (Xu22.out.on (by omega) hq)
  have Xv33 := Lib.hid (Xu23.out.on (by omega) hq)
  have Xv34 := Lib.hid (Xu24.out.on (by omega) hq)
  have hsv3 := hq.size
  clear hq HBu2 Xu20 Xu21 Xu22 Xu23 Xu24 HQ'
  have HBu3 : Hid (Below B0 w (v3.alloc (.cells #[.int .i64 qt, .string qu, .int .i64 qn, .int .i64 qk, .string qx] 23))) := Lib.hid (HBv3.out.alloc (bsize' HBv3.out hW0) _)
  have hsu3 : v3.heap.size < (v3.alloc (.cells #[.int .i64 qt, .string qu, .int .i64 qn, .int .i64 qk, .string qx] 23)).heap.size := by simp
  have Xu30 : Hid (RBox (v3.alloc (.cells #[.int .i64 qt, .string qu, .int .i64 qn, .int .i64 qk, .string qx] 23)) (B0) ⟨ct, cu, cn, ck, cx⟩) := Lib.hid (Xv30.out.on (B := v3.heap.size) (by omega) ((Below.refl _ _).alloc (Nat.le_refl _) _))
  have Xu31 : Hid (RBox (v3.alloc (.cells #[.int .i64 qt, .string qu, .int .i64 qn, .int .i64 qk, .string qx] 23)) (B0 + 1) ⟨bt, bu, bn, bk, bx⟩) := Lib.hid (Xv31.out.on (B := v3.heap.size) (by omega) ((Below.refl _ _).alloc (Nat.le_refl _) _))
  have Xu32 : Hid (RBox (v3.alloc (.cells #[.int .i64 qt, .string qu, .int .i64 qn, .int .i64 qk, .string qx] 23)) (C0) ⟨rt, ru, rn, rk, rx⟩) := Lib.hid (Xv32.out.on (B := v3.heap.size) (by omega) ((Below.refl _ _).alloc (Nat.le_refl _) _))
  have Xu33 : Hid (RBox (v3.alloc (.cells #[.int .i64 qt, .string qu, .int .i64 qn, .int .i64 qk, .string qx] 23)) (C1) ⟨rt, ru, rn, rk, rx⟩) := Lib.hid (Xv33.out.on (B := v3.heap.size) (by omega) ((Below.refl _ _).alloc (Nat.le_refl _) _))
  have Xu34 : Hid (RBox (v3.alloc (.cells #[.int .i64 qt, .string qu, .int .i64 qn, .int .i64 qk, .string qx] 23)) (C2) ⟨qt, qu, qn, qk, qx⟩) := Lib.hid (Xv34.out.on (B := v3.heap.size) (by omega) ((Below.refl _ _).alloc (Nat.le_refl _) _))
  have Xu35 := Lib.hid (RBox.new v3 qt qn qk qu qx)
  clear HBv3 Xv30 Xv31 Xv32 Xv33 Xv34
  go_upto_region 7 with fail
  generalize (v3.alloc (.cells #[.int .i64 qt, .string qu, .int .i64 qn, .int .i64 qk, .string qx] 23)) = u3 at *
  generalize v3.heap.size = C3 at *
  have HF : Hid (∀ p : Since u3.heap.size u3, Below B0 w p.w') := Lib.hid fun p => HBu3.out.trans (p.hb.mono (bsize' HBu3.out hW0))
  have k00 : ∀ p : Since u3.heap.size u3, p.w'.cell? ⟨B0, 0, none⟩ = some (.int .i64 ct) := fun p => (Xu30.out.on (by omega) p.hb).c0
  have k01 : ∀ p : Since u3.heap.size u3, p.w'.cell? ⟨B0, 1, none⟩ = some (.string cu) := fun p => (Xu30.out.on (by omega) p.hb).c1
  have k02 : ∀ p : Since u3.heap.size u3, p.w'.cell? ⟨B0, 2, none⟩ = some (.int .i64 cn) := fun p => (Xu30.out.on (by omega) p.hb).c2
  have k03 : ∀ p : Since u3.heap.size u3, p.w'.cell? ⟨B0, 3, none⟩ = some (.int .i64 ck) := fun p => (Xu30.out.on (by omega) p.hb).c3
  have k04 : ∀ p : Since u3.heap.size u3, p.w'.cell? ⟨B0, 4, none⟩ = some (.string cx) := fun p => (Xu30.out.on (by omega) p.hb).c4
  have k10 : ∀ p : Since u3.heap.size u3, p.w'.cell? ⟨B0 + 1, 0, none⟩ = some (.int .i64 bt) := fun p => (Xu31.out.on (by omega) p.hb).c0
  have k11 : ∀ p : Since u3.heap.size u3, p.w'.cell? ⟨B0 + 1, 1, none⟩ = some (.string bu) := fun p => (Xu31.out.on (by omega) p.hb).c1
  have k12 : ∀ p : Since u3.heap.size u3, p.w'.cell? ⟨B0 + 1, 2, none⟩ = some (.int .i64 bn) := fun p => (Xu31.out.on (by omega) p.hb).c2
  have k13 : ∀ p : Since u3.heap.size u3, p.w'.cell? ⟨B0 + 1, 3, none⟩ = some (.int .i64 bk) := fun p => (Xu31.out.on (by omega) p.hb).c3
  have k14 : ∀ p : Since u3.heap.size u3, p.w'.cell? ⟨B0 + 1, 4, none⟩ = some (.string bx) := fun p => (Xu31.out.on (by omega) p.hb).c4
  have k20 : ∀ p : Since u3.heap.size u3, p.w'.cell? ⟨C0, 0, none⟩ = some (.int .i64 rt) := fun p => (Xu32.out.on (by omega) p.hb).c0
  have k21 : ∀ p : Since u3.heap.size u3, p.w'.cell? ⟨C0, 1, none⟩ = some (.string ru) := fun p => (Xu32.out.on (by omega) p.hb).c1
  have k22 : ∀ p : Since u3.heap.size u3, p.w'.cell? ⟨C0, 2, none⟩ = some (.int .i64 rn) := fun p => (Xu32.out.on (by omega) p.hb).c2
  have k23 : ∀ p : Since u3.heap.size u3, p.w'.cell? ⟨C0, 3, none⟩ = some (.int .i64 rk) := fun p => (Xu32.out.on (by omega) p.hb).c3
  have k24 : ∀ p : Since u3.heap.size u3, p.w'.cell? ⟨C0, 4, none⟩ = some (.string rx) := fun p => (Xu32.out.on (by omega) p.hb).c4
  have k30 : ∀ p : Since u3.heap.size u3, p.w'.cell? ⟨C1, 0, none⟩ = some (.int .i64 rt) := fun p => (Xu33.out.on (by omega) p.hb).c0
  have k31 : ∀ p : Since u3.heap.size u3, p.w'.cell? ⟨C1, 1, none⟩ = some (.string ru) := fun p => (Xu33.out.on (by omega) p.hb).c1
  have k32 : ∀ p : Since u3.heap.size u3, p.w'.cell? ⟨C1, 2, none⟩ = some (.int .i64 rn) := fun p => (Xu33.out.on (by omega) p.hb).c2
  have k33 : ∀ p : Since u3.heap.size u3, p.w'.cell? ⟨C1, 3, none⟩ = some (.int .i64 rk) := fun p => (Xu33.out.on (by omega) p.hb).c3
  have k34 : ∀ p : Since u3.heap.size u3, p.w'.cell? ⟨C1, 4, none⟩ = some (.string rx) := fun p => (Xu33.out.on (by omega) p.hb).c4
  have k40 : ∀ p : Since u3.heap.size u3, p.w'.cell? ⟨C2, 0, none⟩ = some (.int .i64 qt) := fun p => (Xu34.out.on (by omega) p.hb).c0
  have k41 : ∀ p : Since u3.heap.size u3, p.w'.cell? ⟨C2, 1, none⟩ = some (.string qu) := fun p => (Xu34.out.on (by omega) p.hb).c1
  have k42 : ∀ p : Since u3.heap.size u3, p.w'.cell? ⟨C2, 2, none⟩ = some (.int .i64 qn) := fun p => (Xu34.out.on (by omega) p.hb).c2
  have k43 : ∀ p : Since u3.heap.size u3, p.w'.cell? ⟨C2, 3, none⟩ = some (.int .i64 qk) := fun p => (Xu34.out.on (by omega) p.hb).c3
  have k44 : ∀ p : Since u3.heap.size u3, p.w'.cell? ⟨C2, 4, none⟩ = some (.string qx) := fun p => (Xu34.out.on (by omega) p.hb).c4
  have k50 : ∀ p : Since u3.heap.size u3, p.w'.cell? ⟨C3, 0, none⟩ = some (.int .i64 qt) := fun p => (Xu35.out.on (by omega) p.hb).c0
  have k51 : ∀ p : Since u3.heap.size u3, p.w'.cell? ⟨C3, 1, none⟩ = some (.string qu) := fun p => (Xu35.out.on (by omega) p.hb).c1
  have k52 : ∀ p : Since u3.heap.size u3, p.w'.cell? ⟨C3, 2, none⟩ = some (.int .i64 qn) := fun p => (Xu35.out.on (by omega) p.hb).c2
  have k53 : ∀ p : Since u3.heap.size u3, p.w'.cell? ⟨C3, 3, none⟩ = some (.int .i64 qk) := fun p => (Xu35.out.on (by omega) p.hb).c3
  have k54 : ∀ p : Since u3.heap.size u3, p.w'.cell? ⟨C3, 4, none⟩ = some (.string qx) := fun p => (Xu35.out.on (by omega) p.hb).c4
  have HE : Hid (∀ p : Since u3.heap.size u3, Env p.w') := Lib.hid fun p => E'.out _ (HF.out p)
  clear Xu30 Xu31 Xu32 Xu33 Xu34 Xu35 hsv0 hsu0 hsv1 hsu1 hsv2 hsu2 hsv3 hsu3 hz1 HBu3
  refine wp_region_since u3.heap.size (by kernel_rfl) (by kernel_rfl) ?_
  repeat (go_big_quiet_step (first
    | (go_at_call 9; exact Calls.since_of (Nat.le_refl _) (HM.out _))
    | (go_at_call 10; exact Calls.since_of (Nat.le_refl _) (HM'.out _))
    | (go_at_call 11; exact Calls.since_of (Nat.le_refl _) (HL.out _))
    | (go_at_call 12; exact Calls.since_of (Nat.le_refl _) (HL'.out _))
    | (go_at_call 13; exact Calls.since_of (Nat.le_refl _) (HP.out _ (HE.out _)))
    | (go_at_call 14; exact Calls.since_of (Nat.le_refl _) (HP'.out _))
    | (go_at_call 15; exact Calls.since_of (Nat.le_refl _) (HC.out _ (HE.out _)))
    | (go_at_call 16; exact Calls.since_of (Nat.le_refl _) (HC'.out _))))
  refine wpQuiet_nil ?_
  intro _ hw'
  obtain ⟨pz, hw''⟩ := hw'
  subst hw''
  have HX := HF.out pz
  generalize pz.w' = wq at *
  go_wp2
  go_ret
  exact ⟨rfl, by rw [hB0]; exact HX⟩

end Go.Proofs.YthdefhfgbanfpaaGreatDoor
