/-
  A unit gone over: the writer's walk.
-/
import Derived.Test.YtkgkipohalekmaaDoorBq
namespace Go.Proofs.YtkgkipohalekmaaDoor
open Go.RowKit Go.Shelf

noncomputable def qUnit : List Ty := [.s, .i, .s, .b, .l (Tryd.prog.bytesOf 144) [.i, .s], .i, .i, .i, .l (Tryd.prog.bytesOf 164) [.b, .l (Tryd.prog.bytesOf 9) [.s]], .l (Tryd.prog.bytesOf 164) [.b, .l (Tryd.prog.bytesOf 9) [.s]], .l (Tryd.prog.bytesOf 164) [.b, .l (Tryd.prog.bytesOf 9) [.s]], .l (Tryd.prog.bytesOf 164) [.b, .l (Tryd.prog.bytesOf 9) [.s]], .l (Tryd.prog.bytesOf 164) [.b, .l (Tryd.prog.bytesOf 9) [.s]], .b, .i, .i, .i, .i, .l (Tryd.prog.bytesOf 3) [.i], .l (Tryd.prog.bytesOf 153) [.s, .s], .l (Tryd.prog.bytesOf 9) [.s], .l (Tryd.prog.bytesOf 3) [.i], .i, .s, .s, .l (Tryd.prog.bytesOf 3) [.i], .l (Tryd.prog.bytesOf 3) [.i], .l (Tryd.prog.bytesOf 3) [.i], .l (Tryd.prog.bytesOf 9) [.s], .b, .l (Tryd.prog.bytesOf 9) [.s], .l (Tryd.prog.bytesOf 9) [.s], .l (Tryd.prog.bytesOf 9) [.s], .l (Tryd.prog.bytesOf 9) [.s], .s]

set_option maxRecDepth 100000 in
set_option maxHeartbeats 16000000 in
theorem Unit_w {W0 w0 w : World} {wb blk o i : Nat} {S : List UInt8} {q : List Ty} (E : Env W0) (p : Nat) (h : Gst W0 wb blk o i S (qUnit ++ q) w0 w) (hp : p = o + i) :
    Calls Tryd.prog 41 #[.iface 80 (.pointer (some ⟨wb, 0, none⟩)), .pointer (some ⟨blk, p, none⟩)] w fun e w' => e = .returned (.tuple #[]) ∧ Gst W0 wb blk o (i + 35) S q w0 w' := by
  have na1 := na_int
  have na2 := na_bool
  have na3 := na_text
  have me1 := me_int
  have me2 := me_bool
  have me3 := me_text
  subst hp
  unfold qUnit at h
  have HG := Lib.hid h
  clear h
  go_enter Tryd.func41, Tryd.ntmps41
  go_upto_region 0 with fail
  replace HG := Lib.hid (HG.out.keep (Below.drew (Below.refl _ w)))
  go_still_tail 7, (by kernel_rfl)
  change wpList _ _ _ _ _ w.drew
  generalize w.drew = wd at *
  go_wp2_with fail
  refine (stp_text E _ HG.out (by omega)).mono ?_
  rintro e w1 ⟨rfl, hg⟩
  replace HG := Lib.hid hg
  clear hg
  go_upto_region 1 with fail
  replace HG := Lib.hid (HG.out.keep (Below.drew (Below.refl _ w1)))
  go_still_tail 7, (by kernel_rfl)
  change wpList _ _ _ _ _ w1.drew
  generalize w1.drew = w1d at *
  go_wp2_with fail
  refine (stp_int E _ HG.out (by omega)).mono ?_
  rintro e w2 ⟨rfl, hg⟩
  replace HG := Lib.hid hg
  clear hg
  go_upto_region 2 with fail
  replace HG := Lib.hid (HG.out.keep (Below.drew (Below.refl _ w2)))
  go_still_tail 7, (by kernel_rfl)
  change wpList _ _ _ _ _ w2.drew
  generalize w2.drew = w2d at *
  go_wp2_with fail
  refine (stp_text E _ HG.out (by omega)).mono ?_
  rintro e w3 ⟨rfl, hg⟩
  replace HG := Lib.hid hg
  clear hg
  go_upto_region 3 with fail
  replace HG := Lib.hid (HG.out.keep (Below.drew (Below.refl _ w3)))
  go_still_tail 7, (by kernel_rfl)
  change wpList _ _ _ _ _ w3.drew
  generalize w3.drew = w3d at *
  go_wp2_with fail
  refine (stp_bool E _ HG.out (by omega)).mono ?_
  rintro e w4 ⟨rfl, hg⟩
  replace HG := Lib.hid hg
  clear hg
  go_upto_region 4 with fail
  go_wp2_with fail
  refine (list_Rel E _ HG.out (by omega)).mono ?_
  rintro e w5 ⟨rfl, hg⟩
  replace HG := Lib.hid hg
  clear hg
  go_upto_region 5 with fail
  have hb5 : Below w5.heap.size w5 (w5.drew.alloc (.cells #[.pointer (some ⟨blk, o + i + 5, none⟩), .pointer (some ⟨blk, o + i + 6, none⟩), .pointer (some ⟨blk, o + i + 7, none⟩)] 95)) := (Below.drew (Below.refl _ w5)).alloc (Nat.le_refl _) _
  have HC5 := Lib.hid (nums_w E 3 w5.drew.heap.size _ _ _ (HG.out.keep hb5) (heap_alloc_new w5.drew _) (by decide) (fun j hj => by match j, hj with | 0, _ => exact ptr_eq (by omega) | 1, _ => exact ptr_eq (by omega) | 2, _ => exact ptr_eq (by omega)) (by have : wb < w5.drew.heap.size := HG.out.wlt; omega) (by have : blk < w5.drew.heap.size := HG.out.lt; omega) (by decide))
  clear hb5
  go_region_held3 (fun _ => True) (trivial) (first | (go_at_call 34; refine Calls.mono HC5.out ?_; rintro e w6 ⟨rfl, hg⟩))
  replace HG := Lib.hid hg
  clear hg HC5
  go_upto_region 6 with fail
  have hb6 : Below w6.heap.size w6 (w6.drew.alloc (.cells #[.pointer (some ⟨blk, o + i + 8, none⟩), .pointer (some ⟨blk, o + i + 9, none⟩), .pointer (some ⟨blk, o + i + 10, none⟩), .pointer (some ⟨blk, o + i + 11, none⟩), .pointer (some ⟨blk, o + i + 12, none⟩)] 148)) := (Below.drew (Below.refl _ w6)).alloc (Nat.le_refl _) _
  have HC6 := Lib.hid (commands_w E 5 w6.drew.heap.size _ _ _ (HG.out.keep hb6) (heap_alloc_new w6.drew _) (by decide) (fun j hj => by match j, hj with | 0, _ => exact ptr_eq (by omega) | 1, _ => exact ptr_eq (by omega) | 2, _ => exact ptr_eq (by omega) | 3, _ => exact ptr_eq (by omega) | 4, _ => exact ptr_eq (by omega)) (by have : wb < w6.drew.heap.size := HG.out.wlt; omega) (by have : blk < w6.drew.heap.size := HG.out.lt; omega) (by decide))
  clear hb6
  go_region_held3 (fun _ => True) (trivial) (first | (go_at_call 62; refine Calls.mono HC6.out ?_; rintro e w7 ⟨rfl, hg⟩))
  replace HG := Lib.hid hg
  clear hg HC6
  go_upto_region 7 with fail
  replace HG := Lib.hid (HG.out.keep (Below.drew (Below.refl _ w7)))
  go_still_tail 7, (by kernel_rfl)
  change wpList _ _ _ _ _ w7.drew
  generalize w7.drew = w7d at *
  go_wp2_with fail
  refine (stp_bool E _ HG.out (by omega)).mono ?_
  rintro e w8 ⟨rfl, hg⟩
  replace HG := Lib.hid hg
  clear hg
  go_upto_region 8 with fail
  have hb8 : Below w8.heap.size w8 (w8.drew.alloc (.cells #[.pointer (some ⟨blk, o + i + 14, none⟩), .pointer (some ⟨blk, o + i + 15, none⟩), .pointer (some ⟨blk, o + i + 16, none⟩), .pointer (some ⟨blk, o + i + 17, none⟩)] 95)) := (Below.drew (Below.refl _ w8)).alloc (Nat.le_refl _) _
  have HC8 := Lib.hid (nums_w E 4 w8.drew.heap.size _ _ _ (HG.out.keep hb8) (heap_alloc_new w8.drew _) (by decide) (fun j hj => by match j, hj with | 0, _ => exact ptr_eq (by omega) | 1, _ => exact ptr_eq (by omega) | 2, _ => exact ptr_eq (by omega) | 3, _ => exact ptr_eq (by omega)) (by have : wb < w8.drew.heap.size := HG.out.wlt; omega) (by have : blk < w8.drew.heap.size := HG.out.lt; omega) (by decide))
  clear hb8
  go_region_held3 (fun _ => True) (trivial) (first | (go_at_call 34; refine Calls.mono HC8.out ?_; rintro e w9 ⟨rfl, hg⟩))
  replace HG := Lib.hid hg
  clear hg HC8
  go_upto_region 9 with fail
  have hb9 : Below w9.heap.size w9 (w9.alloc (.cells #[.pointer (some ⟨blk, o + i + 18, none⟩)] 150)) := (Below.refl _ _).alloc (Nat.le_refl _) _
  have HC9 := Lib.hid (ints_w E 1 w9.heap.size _ _ _ (HG.out.keep hb9) (heap_alloc_new w9 _) (by decide) (fun j hj => by match j, hj with | 0, _ => exact ptr_eq (by omega)) (by have := HG.out.wlt; omega) (by have := HG.out.lt; omega) (by decide))
  clear hb9
  go_wp2_with fail
  refine HC9.out.mono ?_
  rintro e w10 ⟨rfl, hg⟩
  replace HG := Lib.hid hg
  clear hg HC9
  go_upto_region 10 with fail
  go_wp2_with fail
  refine (list_Pair E _ HG.out (by omega)).mono ?_
  rintro e w11 ⟨rfl, hg⟩
  replace HG := Lib.hid hg
  clear hg
  go_upto_region 11 with fail
  have hb11 : Below w11.heap.size w11 (w11.alloc (.cells #[.pointer (some ⟨blk, o + i + 20, none⟩)] 97)) := (Below.refl _ _).alloc (Nat.le_refl _) _
  have HC11 := Lib.hid (texts_w E 1 w11.heap.size _ _ _ (HG.out.keep hb11) (heap_alloc_new w11 _) (by decide) (fun j hj => by match j, hj with | 0, _ => exact ptr_eq (by omega)) (by have := HG.out.wlt; omega) (by have := HG.out.lt; omega) (by decide))
  clear hb11
  go_wp2_with fail
  refine HC11.out.mono ?_
  rintro e w12 ⟨rfl, hg⟩
  replace HG := Lib.hid hg
  clear hg HC11
  go_upto_region 12 with fail
  have hb12 : Below w12.heap.size w12 (w12.alloc (.cells #[.pointer (some ⟨blk, o + i + 21, none⟩)] 150)) := (Below.refl _ _).alloc (Nat.le_refl _) _
  have HC12 := Lib.hid (ints_w E 1 w12.heap.size _ _ _ (HG.out.keep hb12) (heap_alloc_new w12 _) (by decide) (fun j hj => by match j, hj with | 0, _ => exact ptr_eq (by omega)) (by have := HG.out.wlt; omega) (by have := HG.out.lt; omega) (by decide))
  clear hb12
  go_wp2_with fail
  refine HC12.out.mono ?_
  rintro e w13 ⟨rfl, hg⟩
  replace HG := Lib.hid hg
  clear hg HC12
  go_upto_region 13 with fail
  replace HG := Lib.hid (HG.out.keep (Below.drew (Below.refl _ w13)))
  go_still_tail 7, (by kernel_rfl)
  change wpList _ _ _ _ _ w13.drew
  generalize w13.drew = w13d at *
  go_wp2_with fail
  refine (stp_int E _ HG.out (by omega)).mono ?_
  rintro e w14 ⟨rfl, hg⟩
  replace HG := Lib.hid hg
  clear hg
  go_upto_region 14 with fail
  replace HG := Lib.hid (HG.out.keep (Below.drew (Below.refl _ w14)))
  go_still_tail 7, (by kernel_rfl)
  change wpList _ _ _ _ _ w14.drew
  generalize w14.drew = w14d at *
  go_wp2_with fail
  refine (stp_text E _ HG.out (by omega)).mono ?_
  rintro e w15 ⟨rfl, hg⟩
  replace HG := Lib.hid hg
  clear hg
  go_upto_region 15 with fail
  replace HG := Lib.hid (HG.out.keep (Below.drew (Below.refl _ w15)))
  go_still_tail 7, (by kernel_rfl)
  change wpList _ _ _ _ _ w15.drew
  generalize w15.drew = w15d at *
  go_wp2_with fail
  refine (stp_text E _ HG.out (by omega)).mono ?_
  rintro e w16 ⟨rfl, hg⟩
  replace HG := Lib.hid hg
  clear hg
  go_upto_region 16 with fail
  have hb16 : Below w16.heap.size w16 (w16.drew.alloc (.cells #[.pointer (some ⟨blk, o + i + 25, none⟩), .pointer (some ⟨blk, o + i + 26, none⟩), .pointer (some ⟨blk, o + i + 27, none⟩)] 150)) := (Below.drew (Below.refl _ w16)).alloc (Nat.le_refl _) _
  have HC16 := Lib.hid (ints_w E 3 w16.drew.heap.size _ _ _ (HG.out.keep hb16) (heap_alloc_new w16.drew _) (by decide) (fun j hj => by match j, hj with | 0, _ => exact ptr_eq (by omega) | 1, _ => exact ptr_eq (by omega) | 2, _ => exact ptr_eq (by omega)) (by have : wb < w16.drew.heap.size := HG.out.wlt; omega) (by have : blk < w16.drew.heap.size := HG.out.lt; omega) (by decide))
  clear hb16
  go_region_held3 (fun _ => True) (trivial) (first | (go_at_call 63; refine Calls.mono HC16.out ?_; rintro e w17 ⟨rfl, hg⟩))
  replace HG := Lib.hid hg
  clear hg HC16
  go_upto_region 17 with fail
  have hb17 : Below w17.heap.size w17 (w17.alloc (.cells #[.pointer (some ⟨blk, o + i + 28, none⟩)] 97)) := (Below.refl _ _).alloc (Nat.le_refl _) _
  have HC17 := Lib.hid (texts_w E 1 w17.heap.size _ _ _ (HG.out.keep hb17) (heap_alloc_new w17 _) (by decide) (fun j hj => by match j, hj with | 0, _ => exact ptr_eq (by omega)) (by have := HG.out.wlt; omega) (by have := HG.out.lt; omega) (by decide))
  clear hb17
  go_wp2_with fail
  refine HC17.out.mono ?_
  rintro e w18 ⟨rfl, hg⟩
  replace HG := Lib.hid hg
  clear hg HC17
  go_upto_region 18 with fail
  replace HG := Lib.hid (HG.out.keep (Below.drew (Below.refl _ w18)))
  go_still_tail 7, (by kernel_rfl)
  change wpList _ _ _ _ _ w18.drew
  generalize w18.drew = w18d at *
  go_wp2_with fail
  refine (stp_bool E _ HG.out (by omega)).mono ?_
  rintro e w19 ⟨rfl, hg⟩
  replace HG := Lib.hid hg
  clear hg
  go_upto_region 19 with fail
  have hb19 : Below w19.heap.size w19 (w19.drew.alloc (.cells #[.pointer (some ⟨blk, o + i + 30, none⟩), .pointer (some ⟨blk, o + i + 31, none⟩), .pointer (some ⟨blk, o + i + 32, none⟩), .pointer (some ⟨blk, o + i + 33, none⟩)] 97)) := (Below.drew (Below.refl _ w19)).alloc (Nat.le_refl _) _
  have HC19 := Lib.hid (texts_w E 4 w19.drew.heap.size _ _ _ (HG.out.keep hb19) (heap_alloc_new w19.drew _) (by decide) (fun j hj => by match j, hj with | 0, _ => exact ptr_eq (by omega) | 1, _ => exact ptr_eq (by omega) | 2, _ => exact ptr_eq (by omega) | 3, _ => exact ptr_eq (by omega)) (by have : wb < w19.drew.heap.size := HG.out.wlt; omega) (by have : blk < w19.drew.heap.size := HG.out.lt; omega) (by decide))
  clear hb19
  go_region_held3 (fun _ => True) (trivial) (first | (go_at_call 35; refine Calls.mono HC19.out ?_; rintro e w20 ⟨rfl, hg⟩))
  replace HG := Lib.hid hg
  clear hg HC19
  go_upto_region 20 with fail
  replace HG := Lib.hid (HG.out.keep (Below.drew (Below.refl _ w20)))
  go_still_tail 7, (by kernel_rfl)
  change wpList _ _ _ _ _ w20.drew
  generalize w20.drew = w20d at *
  go_wp2_with fail
  refine (stp_text E _ HG.out (by omega)).mono ?_
  rintro e w21 ⟨rfl, hg⟩
  replace HG := Lib.hid hg
  clear hg
  go_wp2
  go_end0
  exact ⟨rfl, HG.out⟩

end Go.Proofs.YtkgkipohalekmaaDoor
