/-
  The walk that shows that machines in short are no others.
-/
import Derived.Test.YtkgkipohalekmaaDoorHb
namespace Go.Proofs.YtkgkipohalekmaaDoor
open Go.RowKit Go.Shelf
theorem up_text1 : canonT (upMc 1) = [116, 105, 109, 101, 32, 53, 32, 114, 111, 117, 110, 100, 32, 49, 10, 97, 46, 116, 97, 114, 103, 101, 116, 32, 117, 112, 32, 49, 10, 97, 115, 107, 115, 32, 97, 46, 116, 97, 114, 103, 101, 116, 32, 115, 116, 111, 112, 10] := by decide +kernel
theorem up_text12 : canonT (upMc (-12)) = [116, 105, 109, 101, 32, 53, 32, 114, 111, 117, 110, 100, 32, 49, 10, 97, 46, 116, 97, 114, 103, 101, 116, 32, 117, 112, 32, 45, 49, 50, 10, 97, 115, 107, 115, 32, 97, 46, 116, 97, 114, 103, 101, 116, 32, 115, 116, 111, 112, 10] := by decide +kernel
theorem up_bulk1 : Ce.bulks (upMc 1) ≤ 2097152 := by decide +kernel
theorem up_bulk12 : Ce.bulks (upMc (-12)) ≤ 2097152 := by decide +kernel
theorem up_ne : upMc 1 ≠ upMc (-12) := fun h => by
  have h1 := congrArg canonT h
  rw [up_text1, up_text12] at h1
  exact absurd h1 (by decide)
theorem up_ats {W : World} {B : Nat} {b2 b3 b4 : Nat} {att : Int} {t2 t3 t4 : TypeId} {f2 f3 f4 : Nat × Nat} (h2 : W.heap[b2]? = some (.cells upUv t2 f2)) (h3 : W.heap[b3]? = some (.cells (upCv att) t3 f3)) (h4 : W.heap[b4]? = some (.cells upAv t4 f4)) (g2 : b2 < B) (g3 : b3 < B) (g4 : b4 < B) : Ce.Ats W B (upMc att) (upMv b2 b3 b4).toList := by
  have e2 := one_at (W := W) (B := B) (cs := upUc) h2 g2 (by decide)
  have e3 := one_at (W := W) (B := B) (cs := upCc att) h3 g3 rfl
  have e4 := one_at (W := W) (B := B) (cs := upAc) h4 g4 (by decide)
  unfold upMc upMv
  have n0 : ∀ n : Int, (Ce.i n).At W B (.int .i64 n) := fun n => by unfold Ce.At; rfl
  have l0 : (Ce.l 0 []).At W B (.slice none 0 0) := Ce.flat_at (.l 0 []) rfl
  simp only [Ce.Ats]
  exact ⟨_, _, rfl, n0 5, _, _, rfl, n0 0, _, _, rfl, n0 1, _, _, rfl, n0 0, _, _, rfl, l0, _, _, rfl, l0, _, _, rfl, l0, _, _, rfl, e2, _, _, rfl, e3, _, _, rfl, l0, _, _, rfl, e4, _, _, rfl, l0, _, _, rfl, l0, _, _, rfl, l0, _, _, rfl, l0, _, _, rfl, n0 0, rfl⟩
set_option maxRecDepth 100000 in
set_option maxHeartbeats 1000000 in
theorem up_any (w : World) : Calls Tryd.prog 11 #[] w fun e w' => ∃ b2 b3 b4, e = .returned (.agg (upMv b2 b3 b4)) ∧ w'.heap[b2]? = some (.cells upUv 47 (0, 0)) ∧ w'.heap[b3]? = some (.cells (upCv 1) 51 (0, 0)) ∧ w'.heap[b4]? = some (.cells upAv 73 (0, 0)) ∧ Below w.heap.size w w' := by
  have x1 : (w.alloc (.cells zMv 34)).heap[w.heap.size]? = some (.cells zMv 34 (0, 0)) := heap_alloc_new w _
  have hb1 : Below w.heap.size w (w.alloc (.cells zMv 34)) := (Below.refl _ _).alloc (Nat.le_refl _) _
  have hs1 : (w.alloc (.cells zMv 34)).heap.size = w.heap.size + 1 := by simp
  go_enter Tryd.func11, Tryd.ntmps11
  go_upto_region 1 with (refine wpList_alloc_row rfl 34 rfl zMv zr_mach ?_)
  have hlt : w.heap.size < (w.alloc (.cells zMv 34)).heap.size := by omega
  clear hs1
  generalize w.alloc (.cells zMv 34) = w1 at *
  have x2 := heap_alloc_new w1 (.cells zUv 47)
  have hb2 : Below w.heap.size w (w1.alloc (.cells zUv 47)) := hb1.alloc hb1.size _
  have HB1 := Lib.hid hb1
  have HX1 := Lib.hid x1
  clear x1 hb1
  go_upto_region 2 with (first | refine wpList_builtP rfl 47 _ rfl [(0, .string ⟨#[97, 46, 116, 97, 114, 103, 101, 116]⟩), (1, .int .i64 4)] (by with_unfolding_all rfl) _ bt_unit ?_ | refine wpList_alloc_row rfl 47 rfl zUv zr_unit0 ?_ | refine wpList_store_row rfl 47 _ _ rfl _ upUv rfl rfl 47 zUv x2 sy_unit su_unit so_unit ?_)
  have hb3 := below_setRow hb2 HB1.out.size upUv
  have x3 := setRow_heap _ _ _ upUv _ _ x2
  have x1 : (w1.alloc (.cells zUv 47)).heap[w.heap.size]? = some (.cells zMv 34 (0, 0)) := by
    rw [← HX1.out]
    exact ((Below.refl _ w1).alloc (Nat.le_refl _) _).block w.heap.size (by omega)
  have hlw : w1.heap.size < ((w1.alloc (.cells zUv 47)).setRow w1.heap.size upUv).heap.size := (Array.getElem?_eq_some_iff.1 x3).1
  have hnn : w.heap.size ≠ w1.heap.size := by omega
  have y1 := (setRow_other (w1.alloc (.cells zUv 47)) w1.heap.size w.heap.size upUv hnn).trans x1
  generalize (w1.alloc (.cells zUv 47)).setRow w1.heap.size upUv = w2 at *
  have HB3 := Lib.hid hb3
  have HS3 := Lib.hid hb3.size
  clear hb2 hb3 x2 x1
  obtain ⟨ie, zs, hie, hiz, his, _, _, _⟩ := zero_row zr_Unit (by decide)
  obtain ⟨je, ys, hje, hjz, hjs, _, _, _⟩ := zero_row zr_Cell (by decide)
  have HIE := Lib.hid hie
  have HIZ := Lib.hid hiz
  have HIS := Lib.hid (his.trans sz_uU.symm)
  have HJE := Lib.hid hje
  have HJZ := Lib.hid hjz
  have HJS := Lib.hid (hjs.trans sz_uC.symm)
  clear hie hiz his hje hjz hjs
  have x4 : (w2.alloc (.cells upUv 47)).heap[w1.heap.size]? = some (.cells upUv 47 (0, 0)) := (Lib.alloc_old w2 _ _ hlw).trans x3
  obtain ⟨w5, hw5⟩ : ∃ W : World, W = ((w2.alloc (.cells upUv 47)).alloc (.cells (upCv 1) 51)).alloc (.cells #[.int .i64 0, .string ⟨#[97, 46, 116, 97, 114, 103, 101, 116]⟩, .int .i64 2] 73) := ⟨_, rfl⟩
  have hlm : w.heap.size < w2.heap.size := (Array.getElem?_eq_some_iff.1 y1).1
  have y5 : w5.heap[w.heap.size]? = some (.cells zMv 34 (0, 0)) := by
    rw [hw5, Lib.alloc_old _ _ _ (by simp; omega), Lib.alloc_old _ _ _ (by simp; omega), Lib.alloc_old _ _ _ hlm]
    exact y1
  have k2 : w5.heap[w2.heap.size]? = some (.cells upUv 47 (0, 0)) := by
    rw [hw5, Lib.alloc_old _ _ _ (by simp; omega), Lib.alloc_old _ _ _ (by simp)]
    exact heap_alloc_new w2 _
  have k3 : w5.heap[w2.heap.size + 1]? = some (.cells (upCv 1) 51 (0, 0)) := by
    rw [hw5, Lib.alloc_old _ _ _ (by simp)]
    have h := heap_alloc_new (w2.alloc (.cells upUv 47)) (.cells (upCv 1) 51)
    simpa using h
  have k4 : w5.heap[w2.heap.size + 1 + 1]? = some (.cells #[.int .i64 0, .string ⟨#[97, 46, 116, 97, 114, 103, 101, 116]⟩, .int .i64 2] 73 (0, 0)) := by
    rw [hw5]
    have h := heap_alloc_new ((w2.alloc (.cells upUv 47)).alloc (.cells (upCv 1) 51)) (.cells #[.int .i64 0, .string ⟨#[97, 46, 116, 97, 114, 103, 101, 116]⟩, .int .i64 2] 73)
    simpa using h
  have hb5 : Below w.heap.size w w5 := by
    rw [hw5]
    have h1 := HS3.out
    exact ((HB3.out.alloc h1 _).alloc (by simp; omega) _).alloc (by simp; omega) _
  have HK2 := Lib.hid ((setRow_other w5 w.heap.size _ (upMv w2.heap.size (w2.heap.size + 1) (w2.heap.size + 1 + 1)) (by omega)).trans k2)
  have HK3 := Lib.hid ((setRow_other w5 w.heap.size _ (upMv w2.heap.size (w2.heap.size + 1) (w2.heap.size + 1 + 1)) (by omega)).trans k3)
  have HK4 := Lib.hid ((setRow_other w5 w.heap.size _ (upMv w2.heap.size (w2.heap.size + 1) (w2.heap.size + 1 + 1)) (by omega)).trans k4)
  have HK1 := Lib.hid (setRow_heap _ _ _ (upMv w2.heap.size (w2.heap.size + 1) (w2.heap.size + 1 + 1)) _ _ y5)
  have HB5 := Lib.hid (below_setRow hb5 (Nat.le_refl _) (upMv w2.heap.size (w2.heap.size + 1) (w2.heap.size + 1 + 1)))
  rw [hw5] at y5
  have HW5 := Lib.hid hw5
  clear k2 k3 k4 hb5 hw5
  go_wp2_with (first | refine wpList_load_row rfl 47 _ rfl w1.heap.size rfl 47 upUv (0, 0) _ x3 Tryd.underlying47 rfl sy_unit ?_ | refine wpList_load_row rfl 47 _ rfl w1.heap.size rfl 47 upUv (0, 0) _ x4 Tryd.underlying47 rfl sy_unit ?_ | refine wpList_build_one rfl 27 47 _ rfl upUv rfl ie _ Tryd.underlying27 HIE.out HIZ.out HIS.out (by rw [sz_uU]; decide) (by rw [sz_uU]; decide) ?_ | refine wpList_builtP rfl 51 _ rfl [(0, .agg upUv), (1, .int .i64 4), (3, .int .i64 1), (16, .int .i64 1099511627776)] (by with_unfolding_all rfl) _ bt_cell ?_ | refine wpList_build_one rfl 28 51 _ rfl (upCv 1) rfl je _ Tryd.underlying28 HJE.out HJZ.out HJS.out (by rw [sz_uC]; decide) (by rw [sz_uC]; decide) ?_ | refine wpList_store_row rfl 34 _ _ rfl w.heap.size (upMv w2.heap.size (w2.heap.size + 1) (w2.heap.size + 1 + 1)) rfl rfl 34 zMv y5 (sy_mach _ _ _) (su_mach _ _ _) (so_mach _ _ _) ?_)
  (try simp only [Exit.inBlock, Exit.then])
  rw [← HW5.out]
  exact bodyPost_ret (v := .agg (upMv w2.heap.size (w2.heap.size + 1) (w2.heap.size + 1 + 1))) (results_cell_row rfl _ _ w.heap.size 34 _ (0, 0) _ rfl HK1.out Tryd.underlying34 rfl (sy_mach _ _ _)) rfl ⟨_, _, _, rfl, HK2.out, HK3.out, HK4.out, HB5.out⟩
theorem up_set8 (b2 b3 b4 b : Nat) : (upMv b2 b3 b4).setIfInBounds 8 (.slice (some ⟨b, 0, none⟩) 1 1) = upMv b2 b b4 := rfl
theorem up_set37 : (upCv 1).setIfInBounds 37 (.int .i64 (-12)) = upCv (-12) := by kernel_rfl
@[go_sem] theorem up_field7 (b2 b3 b4 : Nat) (w : World) : (Instr.field 34 (.agg (upMv b2 b3 b4)) 7).run Tryd.prog w = .ok (.slice (some ⟨b3, 0, none⟩) 1 1) w := by kernel_rfl
/-- what up lays in memory -/
structure UP (b2 b3 b4 : Nat) (W : World) : Prop where
  h2 : W.heap[b2]? = some (.cells upUv 47 (0, 0))
  h3 : W.heap[b3]? = some (.cells (upCv 1) 51 (0, 0))
  h4 : W.heap[b4]? = some (.cells upAv 73 (0, 0))
theorem blk_lt {W : World} {b : Nat} {o : Obj} (h : W.heap[b]? = some o) : b < W.heap.size := (Array.getElem?_eq_some_iff.1 h).1
theorem UP.below {b2 b3 b4 : Nat} {W W' : World} (h : UP b2 b3 b4 W) (hb : Below W.heap.size W W') : UP b2 b3 b4 W' :=
  ⟨(hb.block _ (blk_lt h.h2)).trans h.h2, (hb.block _ (blk_lt h.h3)).trans h.h3, (hb.block _ (blk_lt h.h4)).trans h.h4⟩
theorem UP.ats {b2 b3 b4 : Nat} {W : World} (h : UP b2 b3 b4 W) : Ce.Ats W W.heap.size (upMc 1) (upMv b2 b3 b4).toList := up_ats h.h2 h.h3 h.h4 (blk_lt h.h2) (blk_lt h.h3) (blk_lt h.h4)
theorem since37_more {w0 w w' : World} (h : Below w0.heap.size w0 w) (h2 : Below w.heap.size w w') : Below w0.heap.size w0 w' := h.trans (h2.mono h.size)
theorem since37_drew {w0 w : World} (h : Below w0.heap.size w0 w) : Below w0.heap.size w0 w.drew := h.trans ((Below.drew (Below.refl _ w)).mono h.size)
set_option maxRecDepth 100000 in
set_option maxHeartbeats 4000000 in
theorem cstate_any (n : Int) (w : World) : Calls Tryd.prog 12 #[.int .i64 n] w fun e w' => e = .returned (.string ⟨(stateW n).toArray⟩) ∧ Below w.heap.size w w' := by
  have HS := Lib.hid (state_any n)
  go_enter Tryd.func12, Tryd.ntmps12
  go_wp2_with fail
  refine (HS.out _).mono ?_
  rintro e w1 ⟨rfl, hb1⟩
  go_wp2
  go_ret
  exact ⟨rfl, hb1⟩
theorem sy_cell : (Tryd.prog.info? 51).map (·.size) = some (upCv 1).size := by kernel_rfl
set_option maxRecDepth 100000 in
set_option maxHeartbeats 4000000 in
theorem shown37 (w : World) (E : Env w) : Calls Tryd.prog 5 #[] w fun e w' => e = .returned (.bool true) ∧ Below w.heap.size w w' := by
  have HUP := Lib.hid up_any
  obtain ⟨je, ys, hje, hjz, hjs, _, _, _⟩ := zero_row zr_Cell (by decide)
  have HJE := Lib.hid hje
  have HJZ := Lib.hid hjz
  have HJS := Lib.hid (hjs.trans sz_uC.symm)
  clear hje hjz hjs
  go_enter Tryd.func5, Tryd.ntmps5
  go_wp2_with fail
  refine (HUP.out w).mono ?_
  rintro e w1 ⟨b2, b3, b4, rfl, h2, h3, h4, hb1⟩
  have x1 := heap_alloc_new w1 (.cells zMv 34)
  go_upto_region 2 with (first | refine wpList_alloc_row rfl 34 rfl zMv zr_mach ?_ | refine wpList_store_row rfl 34 _ _ rfl w1.heap.size (upMv b2 b3 b4) rfl rfl 34 zMv x1 (sy_mach _ _ _) (su_mach _ _ _) (so_mach _ _ _) ?_)
  have x2 := setRow_heap _ _ _ (upMv b2 b3 b4) _ _ x1
  have hb2 := below_setRow (hb1.alloc hb1.size (.cells zMv 34)) hb1.size (upMv b2 b3 b4)
  have hlb2 := (Array.getElem?_eq_some_iff.1 h2).1
  have hlb4 := (Array.getElem?_eq_some_iff.1 h4).1
  have g2 : ((w1.alloc (.cells zMv 34)).setRow w1.heap.size (upMv b2 b3 b4)).heap[b2]? = some (.cells upUv 47 (0, 0)) := by rw [setRow_other _ _ _ _ (by omega), Lib.alloc_old _ _ _ hlb2]; exact h2
  have g4 : ((w1.alloc (.cells zMv 34)).setRow w1.heap.size (upMv b2 b3 b4)).heap[b4]? = some (.cells upAv 73 (0, 0)) := by rw [setRow_other _ _ _ _ (by omega), Lib.alloc_old _ _ _ hlb4]; exact h4
  generalize (w1.alloc (.cells zMv 34)).setRow w1.heap.size (upMv b2 b3 b4) = w2 at *
  have hxb : w1.heap.size < w2.heap.size := (Array.getElem?_eq_some_iff.1 x2).1
  have HBX := Lib.hid hb1.size
  generalize w1.heap.size = bx at *
  have HB2 := Lib.hid hb2
  have HX2 := Lib.hid x2
  have HG2 := Lib.hid g2
  have HG4 := Lib.hid g4
  clear x1 x2 h2 h3 h4 hb1 hb2 g2 g4
  go_wp2_with fail
  refine (HUP.out w2).mono ?_
  rintro e w3 ⟨c2, c3, c4, rfl, _, k3, _, hb3⟩
  have HX3 := Lib.hid ((hb3.block _ hxb).trans HX2.out)
  have HG3 := Lib.hid ((hb3.block _ (by omega)).trans HG2.out)
  have HG5 := Lib.hid ((hb3.block _ (by omega)).trans HG4.out)
  have HB3 := Lib.hid (HB2.out.trans (hb3.mono HB2.out.size))
  have hxb3 : bx < w3.heap.size := Nat.lt_of_lt_of_le hxb hb3.size
  have hcx : w3.cell? ⟨bx, 8, none⟩ = some (.slice (some ⟨b3, 0, none⟩) 1 1) := by rw [cell_of_row _ _ _ _ _ _ HX3.out]; rfl
  have hfx : w3.frozen? ⟨bx, 8, none⟩ = false := frozen_of_row _ _ _ _ _ HX3.out
  clear hb3
  have hax : (w3.alloc (.cells (upCv 1) 51)).cell? ⟨bx, 8, none⟩ = some (.slice (some ⟨b3, 0, none⟩) 1 1) := by rw [cell_of_row _ _ _ _ _ _ ((Lib.alloc_old _ _ _ hxb3).trans HX3.out)]; rfl
  have hay : (w3.alloc (.cells (upCv 1) 51)).frozen? ⟨bx, 8, none⟩ = false := frozen_of_row _ _ _ _ _ ((Lib.alloc_old _ _ _ hxb3).trans HX3.out)
  go_upto_region 3 with (first | refine wpList_load_row rfl 51 _ rfl c3 rfl 51 (upCv 1) (0, 0) _ k3 Tryd.underlying51 rfl sy_cell ?_ | refine wpList_build_one rfl 28 51 _ rfl (upCv 1) rfl je _ Tryd.underlying28 HJE.out HJZ.out HJS.out (by rw [sz_uC]; decide) (by rw [sz_uC]; decide) ?_)
  have hs3 : (w3.setCell ⟨bx, 8, none⟩ (.slice (some ⟨w3.heap.size, 0, none⟩) 1 1)).heap.size = w3.heap.size := by simp
  have hx4 : ((w3.setCell ⟨bx, 8, none⟩ (.slice (some ⟨w3.heap.size, 0, none⟩) 1 1)).alloc (.cells (upCv 1) 51)).heap[bx]? = some (.cells (upMv b2 w3.heap.size b4) 34 (0, 0)) := by
    rw [Lib.alloc_old _ _ _ (by rw [hs3]; exact hxb3)]
    exact heap_setCell_same w3 bx 8 _ _ (.slice (some ⟨w3.heap.size, 0, none⟩) 1 1) HX3.out
  have hc4 : ((w3.setCell ⟨bx, 8, none⟩ (.slice (some ⟨w3.heap.size, 0, none⟩) 1 1)).alloc (.cells (upCv 1) 51)).heap[w3.heap.size]? = some (.cells (upCv 1) 51 (0, 0)) := by
    have h := heap_alloc_new (w3.setCell ⟨bx, 8, none⟩ (.slice (some ⟨w3.heap.size, 0, none⟩) 1 1)) (.cells (upCv 1) 51)
    rw [hs3] at h
    exact h
  have hg4 : ((w3.setCell ⟨bx, 8, none⟩ (.slice (some ⟨w3.heap.size, 0, none⟩) 1 1)).alloc (.cells (upCv 1) 51)).heap[b2]? = some (.cells upUv 47 (0, 0)) := by
    rw [Lib.alloc_old _ _ _ (by rw [hs3]; exact blk_lt HG3.out), heap_setCell_other _ _ _ _ (by show b2 ≠ bx; omega)]
    exact HG3.out
  have hh4 : ((w3.setCell ⟨bx, 8, none⟩ (.slice (some ⟨w3.heap.size, 0, none⟩) 1 1)).alloc (.cells (upCv 1) 51)).heap[b4]? = some (.cells upAv 73 (0, 0)) := by
    rw [Lib.alloc_old _ _ _ (by rw [hs3]; exact blk_lt HG5.out), heap_setCell_other _ _ _ _ (by show b4 ≠ bx; omega)]
    exact HG5.out
  have hb4' : Below w.heap.size w ((w3.setCell ⟨bx, 8, none⟩ (.slice (some ⟨w3.heap.size, 0, none⟩) 1 1)).alloc (.cells (upCv 1) 51)) := (HB3.out.setCell (p := ⟨bx, 8, none⟩) HBX.out _).alloc (by rw [hs3]; exact HB3.out.size) _
  clear hs3
  have hn2 : b2 ≠ w3.heap.size := by have := blk_lt HG3.out; omega
  have hn4 : b4 ≠ w3.heap.size := by have := blk_lt HG5.out; omega
  generalize (w3.setCell ⟨bx, 8, none⟩ (.slice (some ⟨w3.heap.size, 0, none⟩) 1 1)).alloc (.cells (upCv 1) 51) = w4 at *
  have hbc : bx ≠ w3.heap.size := by omega
  have hwc : w.heap.size ≤ w3.heap.size := HB3.out.size
  have HX4 := Lib.hid hx4
  have HC4 := Lib.hid hc4
  have HG6 := Lib.hid hg4
  have HG7 := Lib.hid hh4
  have HB4 := Lib.hid hb4'
  clear hx4 hc4 hg4 hh4 hb4' hax hay hcx hfx k3 HX3 HG3 HG5 HX2 HG2 HG4 HB2 HB3
  generalize w3.heap.size = bc at *
  have d8 : w4.cell? ⟨bx, 8, none⟩ = some (.slice (some ⟨bc, 0, none⟩) 1 1) := by rw [cell_of_row _ _ _ _ _ _ HX4.out]; rfl
  have d37 : w4.cell? ⟨bc, 37, none⟩ = some (.int .i64 1) := by rw [cell_of_row _ _ _ _ _ _ HC4.out]; kernel_rfl
  have f37 : w4.frozen? ⟨bc, 37, none⟩ = false := frozen_of_row _ _ _ _ _ HC4.out
  go_upto_region 4 with fail
  have hx5 : (w4.setCell ⟨bc, 37, none⟩ (.int .i64 (-12))).heap[bx]? = some (.cells (upMv b2 bc b4) 34 (0, 0)) := by
    rw [heap_setCell_other _ _ _ _ (by show bx ≠ bc; exact hbc)]
    exact HX4.out
  have hc5 := heap_setCell_same w4 bc 37 _ _ (.int .i64 (-12)) HC4.out
  rw [up_set37] at hc5
  have hu5 : Ce.Ats (w4.setCell ⟨bc, 37, none⟩ (.int .i64 (-12))) (w4.setCell ⟨bc, 37, none⟩ (.int .i64 (-12))).heap.size (upMc (-12)) (upMv b2 bc b4).toList := by
    have e2 : (w4.setCell ⟨bc, 37, none⟩ (.int .i64 (-12))).heap[b2]? = some (.cells upUv 47 (0, 0)) := by
      rw [heap_setCell_other _ _ _ _ (by show b2 ≠ bc; omega)]
      exact HG6.out
    have e4 : (w4.setCell ⟨bc, 37, none⟩ (.int .i64 (-12))).heap[b4]? = some (.cells upAv 73 (0, 0)) := by
      rw [heap_setCell_other _ _ _ _ (by show b4 ≠ bc; omega)]
      exact HG7.out
    exact up_ats e2 hc5 e4 (blk_lt e2) (blk_lt hc5) (blk_lt e4)
  have hb5 : Below w.heap.size w (w4.setCell ⟨bc, 37, none⟩ (.int .i64 (-12))) := HB4.out.setCell (p := ⟨bc, 37, none⟩) hwc _
  generalize w4.setCell ⟨bc, 37, none⟩ (.int .i64 (-12)) = w5 at *
  have HB5 := Lib.hid hb5
  have HUX := Lib.hid hu5
  obtain ⟨kM, hkM⟩ : ∃ k : Nat, k = 16 := ⟨16, rfl⟩
  have zM : ∀ w, (Go.sizeOf 34).run Tryd.prog w = .ok kM w := by intro w; rw [hkM]; exact Tryd.sizeOf34 w
  obtain ⟨xv, hxv⟩ : ∃ v, v = upMv b2 bc b4 := ⟨_, rfl⟩
  rw [← hxv] at hx5 HUX
  have l1 : ∀ W, Below w5.heap.size w5 W → Sem.run Tryd.prog (loadCellsFrom ⟨bx, 0, none⟩ 0 kM #[]) W = .ok xv W := fun W hW => load_box ((hW.block _ (blk_lt hx5)).trans hx5) (by rw [hkM, hxv]; rfl)
  have HE5 := Lib.hid (E.on hb5)
  obtain ⟨tx1, hx1'⟩ : ∃ t : ByteArray, t = ⟨#[116, 105, 109, 101, 32, 53, 32, 114, 111, 117, 110, 100, 32, 49, 10, 97, 46, 116, 97, 114, 103, 101, 116, 32, 117, 112, 32, 49, 10, 97, 115, 107, 115, 32, 97, 46, 116, 97, 114, 103, 101, 116, 32, 115, 116, 111, 112, 10]⟩ := ⟨_, rfl⟩
  obtain ⟨tx2, hx2'⟩ : ∃ t : ByteArray, t = ⟨#[116, 105, 109, 101, 32, 53, 32, 114, 111, 117, 110, 100, 32, 49, 10, 97, 46, 116, 97, 114, 103, 101, 116, 32, 117, 112, 32, 45, 49, 50, 10, 97, 115, 107, 115, 32, 97, 46, 116, 97, 114, 103, 101, 116, 32, 115, 116, 111, 112, 10]⟩ := ⟨_, rfl⟩
  obtain ⟨tx3, hx3'⟩ : ∃ t : ByteArray, t = ⟨(stateW 8).toArray⟩ := ⟨_, rfl⟩
  obtain ⟨tx4, hx4'⟩ : ∃ t : ByteArray, t = ⟨(stateW 10).toArray⟩ := ⟨_, rfl⟩
  have e1 : (tx1.toList == [116, 105, 109, 101, 32, 53, 32, 114, 111, 117, 110, 100, 32, 49, 10, 97, 46, 116, 97, 114, 103, 101, 116, 32, 117, 112, 32, 49, 10, 97, 115, 107, 115, 32, 97, 46, 116, 97, 114, 103, 101, 116, 32, 115, 116, 111, 112, 10]) = true := by rw [hx1', Lib.toList_data]; decide
  have e2 : (tx2.toList == [116, 105, 109, 101, 32, 53, 32, 114, 111, 117, 110, 100, 32, 49, 10, 97, 46, 116, 97, 114, 103, 101, 116, 32, 117, 112, 32, 45, 49, 50, 10, 97, 115, 107, 115, 32, 97, 46, 116, 97, 114, 103, 101, 116, 32, 115, 116, 111, 112, 10]) = true := by rw [hx2', Lib.toList_data]; decide
  have e3 : (tx3.toList == [112, 97, 117, 115, 101]) = true := by rw [hx3', Lib.toList_data]; decide
  have e4 : tx4.toList.isEmpty = true := by rw [hx4', Lib.toList_data]; decide
  have HUP2 : Hid (∀ W, Calls Tryd.prog 11 #[] W fun e w' => ∃ b2 b3 b4, e = .returned (.agg (upMv b2 b3 b4)) ∧ UP b2 b3 b4 w' ∧ Below W.heap.size W w') := Lib.hid (fun W => (HUP.out W).mono fun e w' ⟨b2, b3, b4, h1, h2, h3, h4, h5⟩ => ⟨b2, b3, b4, h1, ⟨h2, h3, h4⟩, h5⟩)
  have HTU : Hid (∀ b2 b3 b4 W, Below w5.heap.size w5 W → UP b2 b3 b4 W → Calls Tryd.prog 9 #[.agg (upMv b2 b3 b4)] W fun e w' => e = .returned (.string tx1) ∧ Below W.heap.size W w') := Lib.hid (fun b2 b3 b4 W hW hu => by
    have h := canon_any (upMc 1) (upMv b2 b3 b4) W (HE5.out.on hW) hu.ats up_oks1 up_bulk1
    rw [up_text1, ← hx1'] at h
    exact h)
  have HTX : Hid (∀ W, Below w5.heap.size w5 W → Calls Tryd.prog 9 #[.agg xv] W fun e w' => e = .returned (.string tx2) ∧ Below W.heap.size W w') := Lib.hid (fun W hW => by
    have h := canon_any (upMc (-12)) xv W (HE5.out.on hW) (Ce.Ats.grow hW hW.size _ _ HUX.out) up_oks12 up_bulk12
    rw [up_text12, ← hx2'] at h
    exact h)
  have HSU : Hid (∀ b2 b3 b4 c2 c3 c4 W, Below w5.heap.size w5 W → UP b2 b3 b4 W → UP c2 c3 c4 W → Calls Tryd.prog 6 #[.agg (upMv b2 b3 b4), .agg (upMv c2 c3 c4)] W fun e w' => e = .returned (.bool true) ∧ Below W.heap.size W w') := Lib.hid (fun b2 b3 b4 c2 c3 c4 W hW hu hv =>
    (csame_any (HE5.out.on hW) (Below.refl _ _) hu.ats hv.ats up_oks1 up_oks1 up_bulk1 up_bulk1).mono fun e w' ⟨h1, h2⟩ => ⟨by rw [h1.eq, dB_yes rfl], h2⟩)
  have HSX : Hid (∀ b2 b3 b4 W, Below w5.heap.size w5 W → UP b2 b3 b4 W → Calls Tryd.prog 6 #[.agg (upMv b2 b3 b4), .agg xv] W fun e w' => e = .returned (.bool false) ∧ Below W.heap.size W w') := Lib.hid (fun b2 b3 b4 W hW hu =>
    (csame_any (HE5.out.on hW) (Below.refl _ _) hu.ats (Ce.Ats.grow hW hW.size _ _ HUX.out) up_oks1 up_oks12 up_bulk1 up_bulk12).mono fun e w' ⟨h1, h2⟩ => ⟨by rw [h1.eq, dB_no up_ne], h2⟩)
  have HST := Lib.hid (fun W => cstate_any 8 W)
  have HSV := Lib.hid (fun W => cstate_any 10 W)
  rw [← hx3'] at HST
  rw [← hx4'] at HSV
  clear hx1' hx2' hx3' hx4'
  have q0 : Below w5.heap.size w5 w5 := Below.refl _ _
  have q1 := since37_drew q0
  clear hx5 hc5 hu5 hb5 hkM hxv d8 d37 f37 HX4 HC4 HG6 HG7 HB4 hbc hwc hxb hlb2 hlb4 hn2 hn4 HUP E
  go_region_held3 (fun W => Below w5.heap.size w5 W) (first | assumption | exact since37_drew (by assumption)) (first
    | (go_at_call 11; refine Calls.mono (HUP2.out _) ?_; rintro e wa ⟨p2, p3, p4, rfl, ha, hba⟩; have qa := since37_more (by assumption) hba)
    | (go_at_call_of 9 xv; refine Calls.mono (HTX.out _ (by assumption)) ?_; rintro e wb ⟨rfl, hbb⟩; have qb := since37_more (by assumption) hbb)
    | (go_at_call 9; refine Calls.mono (HTU.out _ _ _ _ (by assumption) (by assumption)) ?_; rintro e wb ⟨rfl, hbb⟩; have qb := since37_more (by assumption) hbb)
    | (go_at_call_of 6 xv; refine Calls.mono (HSX.out _ _ _ _ (by assumption) (by assumption)) ?_; rintro e wc ⟨rfl, hbc⟩; have qc := since37_more (by assumption) hbc)
    | (go_at_call 6; refine Calls.mono (HSU.out _ _ _ _ _ _ _ (by assumption) (UP.below (by assumption) (by assumption)) (by assumption)) ?_; rintro e wc ⟨rfl, hbc⟩; have qc := since37_more (by assumption) hbc)
    | (go_at_call_of 12 (Value.int .i64 8); refine Calls.mono (HST.out _) ?_; rintro e wd ⟨rfl, hbd⟩; have qd := since37_more (by assumption) hbd)
    | (go_at_call_of 12 (Value.int .i64 10); refine Calls.mono (HSV.out _) ?_; rintro e wd ⟨rfl, hbd⟩; have qd := since37_more (by assumption) hbd))
  all_goals
    have HZ := Lib.hid (HB5.out.trans (Below.mono (show Below w5.heap.size w5 _ by assumption) HB5.out.size))
    go_wp2
    go_ret
    exact ⟨rfl, HZ.out⟩

end Go.Proofs.YtkgkipohalekmaaDoor
