/-
  Small structs gone over: the writer's walks.
-/
import Derived.Test.YtkgkipohalekmaaDoorBo
namespace Go.Proofs.YtkgkipohalekmaaDoor
open Go.RowKit Go.Shelf

theorem ptr_eq {blk a b : Nat} (h : a = b) : (some (.pointer (some ⟨blk, a, none⟩)) : Option Value) = some (.pointer (some ⟨blk, b, none⟩)) := by rw [h]

set_option maxRecDepth 100000 in
set_option maxHeartbeats 16000000 in
theorem course_w {W0 w0 w : World} {wb blk o i : Nat} {S : List UInt8} {q : List Ty} (E : Env W0) (p : Nat) (h : Gst W0 wb blk o i S ([.i, .i, .i, .i, .i, .b] ++ q) w0 w) (hp : p = o + i) :
    Calls Tryd.prog 66 #[.iface 80 (.pointer (some ⟨wb, 0, none⟩)), .pointer (some ⟨blk, p, none⟩)] w fun e w' => e = .returned (.tuple #[]) ∧ Gst W0 wb blk o (i + 6) S q w0 w' := by
  have na1 := na_int
  have na2 := na_bool
  have na3 := na_text
  have me1 := me_int
  have me2 := me_bool
  have me3 := me_text
  subst hp
  have HG := Lib.hid h
  clear h
  go_enter Tryd.func66, Tryd.ntmps66
  go_upto_region 0 with fail
  have hb0 : Below w.heap.size w (w.drew.alloc (.cells #[.pointer (some ⟨blk, o + i, none⟩), .pointer (some ⟨blk, o + i + 1, none⟩), .pointer (some ⟨blk, o + i + 2, none⟩), .pointer (some ⟨blk, o + i + 3, none⟩), .pointer (some ⟨blk, o + i + 4, none⟩)] 95)) := (Below.drew (Below.refl _ w)).alloc (Nat.le_refl _) _
  have HC0 := Lib.hid (nums_w E 5 w.drew.heap.size _ _ _ (HG.out.keep hb0) (heap_alloc_new w.drew _) (by decide) (fun j hj => by match j, hj with | 0, _ => exact ptr_eq (by omega) | 1, _ => exact ptr_eq (by omega) | 2, _ => exact ptr_eq (by omega) | 3, _ => exact ptr_eq (by omega) | 4, _ => exact ptr_eq (by omega)) (by have : wb < w.drew.heap.size := HG.out.wlt; omega) (by have : blk < w.drew.heap.size := HG.out.lt; omega) (by decide))
  clear hb0
  go_region_held3 (fun _ => True) (trivial) (first | (go_at_call 34; refine Calls.mono HC0.out ?_; rintro e w1 ⟨rfl, hg⟩))
  replace HG := Lib.hid hg
  clear hg HC0
  go_upto_region 1 with fail
  replace HG := Lib.hid (HG.out.keep (Below.drew (Below.refl _ w1)))
  go_still_tail 7, (by kernel_rfl)
  change wpList _ _ _ _ _ w1.drew
  generalize w1.drew = w1d at *
  go_wp2_with fail
  refine (stp_bool E _ HG.out (by omega)).mono ?_
  rintro e w2 ⟨rfl, hg⟩
  replace HG := Lib.hid hg
  clear hg
  go_wp2
  go_end0
  exact ⟨rfl, HG.out⟩

set_option maxRecDepth 100000 in
set_option maxHeartbeats 16000000 in
theorem command_w {W0 w0 w : World} {wb blk o i : Nat} {S : List UInt8} {q : List Ty} (E : Env W0) (p : Nat) (h : Gst W0 wb blk o i S ([.b, .l (Tryd.prog.bytesOf 9) [.s]] ++ q) w0 w) (hp : p = o + i) :
    Calls Tryd.prog 72 #[.iface 80 (.pointer (some ⟨wb, 0, none⟩)), .pointer (some ⟨blk, p, none⟩)] w fun e w' => e = .returned (.tuple #[]) ∧ Gst W0 wb blk o (i + 2) S q w0 w' := by
  have na1 := na_int
  have na2 := na_bool
  have na3 := na_text
  have me1 := me_int
  have me2 := me_bool
  have me3 := me_text
  subst hp
  have HG := Lib.hid h
  clear h
  go_enter Tryd.func72, Tryd.ntmps72
  go_upto_region 0 with fail
  replace HG := Lib.hid (HG.out.keep (Below.drew (Below.refl _ w)))
  go_still_tail 7, (by kernel_rfl)
  change wpList _ _ _ _ _ w.drew
  generalize w.drew = wd at *
  go_wp2_with fail
  refine (stp_bool E _ HG.out (by omega)).mono ?_
  rintro e w1 ⟨rfl, hg⟩
  replace HG := Lib.hid hg
  clear hg
  go_upto_region 1 with fail
  have hb1 : Below w1.heap.size w1 (w1.alloc (.cells #[.pointer (some ⟨blk, o + i + 1, none⟩)] 97)) := (Below.refl _ _).alloc (Nat.le_refl _) _
  have HC1 := Lib.hid (texts_w E 1 w1.heap.size _ _ _ (HG.out.keep hb1) (heap_alloc_new w1 _) (by decide) (fun j hj => by match j, hj with | 0, _ => exact ptr_eq (by omega)) (by have := HG.out.wlt; omega) (by have := HG.out.lt; omega) (by decide))
  clear hb1
  go_wp2_with fail
  refine HC1.out.mono ?_
  rintro e w2 ⟨rfl, hg⟩
  replace HG := Lib.hid hg
  clear hg HC1
  go_wp2
  go_end0
  exact ⟨rfl, HG.out⟩

set_option maxRecDepth 100000 in
set_option maxHeartbeats 16000000 in
theorem pair_w {W0 w0 w : World} {wb blk o i : Nat} {S : List UInt8} {q : List Ty} (E : Env W0) (p : Nat) (h : Gst W0 wb blk o i S ([.s, .s] ++ q) w0 w) (hp : p = o + i) :
    Calls Tryd.prog 65 #[.iface 80 (.pointer (some ⟨wb, 0, none⟩)), .pointer (some ⟨blk, p, none⟩)] w fun e w' => e = .returned (.tuple #[]) ∧ Gst W0 wb blk o (i + 2) S q w0 w' := by
  have na1 := na_int
  have na2 := na_bool
  have na3 := na_text
  have me1 := me_int
  have me2 := me_bool
  have me3 := me_text
  subst hp
  have HG := Lib.hid h
  clear h
  go_enter Tryd.func65, Tryd.ntmps65
  go_upto_region 0 with fail
  replace HG := Lib.hid (HG.out.keep (Below.drew (Below.refl _ w)))
  go_still_tail 7, (by kernel_rfl)
  change wpList _ _ _ _ _ w.drew
  generalize w.drew = wd at *
  go_wp2_with fail
  refine (stp_text E _ HG.out (by omega)).mono ?_
  rintro e w1 ⟨rfl, hg⟩
  replace HG := Lib.hid hg
  clear hg
  go_upto_region 1 with fail
  replace HG := Lib.hid (HG.out.keep (Below.drew (Below.refl _ w1)))
  go_still_tail 7, (by kernel_rfl)
  change wpList _ _ _ _ _ w1.drew
  generalize w1.drew = w1d at *
  go_wp2_with fail
  refine (stp_text E _ HG.out (by omega)).mono ?_
  rintro e w2 ⟨rfl, hg⟩
  replace HG := Lib.hid hg
  clear hg
  go_wp2
  go_end0
  exact ⟨rfl, HG.out⟩

set_option maxRecDepth 100000 in
set_option maxHeartbeats 16000000 in
theorem conn_w {W0 w0 w : World} {wb blk o i : Nat} {S : List UInt8} {q : List Ty} (E : Env W0) (p : Nat) (h : Gst W0 wb blk o i S ([.s, .i, .i, .i, .i] ++ q) w0 w) (hp : p = o + i) :
    Calls Tryd.prog 49 #[.iface 80 (.pointer (some ⟨wb, 0, none⟩)), .pointer (some ⟨blk, p, none⟩)] w fun e w' => e = .returned (.tuple #[]) ∧ Gst W0 wb blk o (i + 5) S q w0 w' := by
  have na1 := na_int
  have na2 := na_bool
  have na3 := na_text
  have me1 := me_int
  have me2 := me_bool
  have me3 := me_text
  subst hp
  have HG := Lib.hid h
  clear h
  go_enter Tryd.func49, Tryd.ntmps49
  go_upto_region 0 with fail
  replace HG := Lib.hid (HG.out.keep (Below.drew (Below.refl _ w)))
  go_still_tail 7, (by kernel_rfl)
  change wpList _ _ _ _ _ w.drew
  generalize w.drew = wd at *
  go_wp2_with fail
  refine (stp_text E _ HG.out (by omega)).mono ?_
  rintro e w1 ⟨rfl, hg⟩
  replace HG := Lib.hid hg
  clear hg
  go_upto_region 1 with fail
  have hb1 : Below w1.heap.size w1 (w1.drew.alloc (.cells #[.pointer (some ⟨blk, o + i + 1, none⟩), .pointer (some ⟨blk, o + i + 2, none⟩), .pointer (some ⟨blk, o + i + 3, none⟩), .pointer (some ⟨blk, o + i + 4, none⟩)] 95)) := (Below.drew (Below.refl _ w1)).alloc (Nat.le_refl _) _
  have HC1 := Lib.hid (nums_w E 4 w1.drew.heap.size _ _ _ (HG.out.keep hb1) (heap_alloc_new w1.drew _) (by decide) (fun j hj => by match j, hj with | 0, _ => exact ptr_eq (by omega) | 1, _ => exact ptr_eq (by omega) | 2, _ => exact ptr_eq (by omega) | 3, _ => exact ptr_eq (by omega)) (by have : wb < w1.drew.heap.size := HG.out.wlt; omega) (by have : blk < w1.drew.heap.size := HG.out.lt; omega) (by decide))
  clear hb1
  go_region_held3 (fun _ => True) (trivial) (first | (go_at_call 34; refine Calls.mono HC1.out ?_; rintro e w2 ⟨rfl, hg⟩))
  replace HG := Lib.hid hg
  clear hg HC1
  go_wp2
  go_end0
  exact ⟨rfl, HG.out⟩

set_option maxRecDepth 100000 in
set_option maxHeartbeats 16000000 in
theorem row_w {W0 w0 w : World} {wb blk o i : Nat} {S : List UInt8} {q : List Ty} (E : Env W0) (p : Nat) (h : Gst W0 wb blk o i S ([.i, .s, .i, .i, .s] ++ q) w0 w) (hp : p = o + i) :
    Calls Tryd.prog 51 #[.iface 80 (.pointer (some ⟨wb, 0, none⟩)), .pointer (some ⟨blk, p, none⟩)] w fun e w' => e = .returned (.tuple #[]) ∧ Gst W0 wb blk o (i + 5) S q w0 w' := by
  have na1 := na_int
  have na2 := na_bool
  have na3 := na_text
  have me1 := me_int
  have me2 := me_bool
  have me3 := me_text
  subst hp
  have HG := Lib.hid h
  clear h
  go_enter Tryd.func51, Tryd.ntmps51
  go_upto_region 0 with fail
  replace HG := Lib.hid (HG.out.keep (Below.drew (Below.refl _ w)))
  go_still_tail 7, (by kernel_rfl)
  change wpList _ _ _ _ _ w.drew
  generalize w.drew = wd at *
  go_wp2_with fail
  refine (stp_int E _ HG.out (by omega)).mono ?_
  rintro e w1 ⟨rfl, hg⟩
  replace HG := Lib.hid hg
  clear hg
  go_upto_region 1 with fail
  replace HG := Lib.hid (HG.out.keep (Below.drew (Below.refl _ w1)))
  go_still_tail 7, (by kernel_rfl)
  change wpList _ _ _ _ _ w1.drew
  generalize w1.drew = w1d at *
  go_wp2_with fail
  refine (stp_text E _ HG.out (by omega)).mono ?_
  rintro e w2 ⟨rfl, hg⟩
  replace HG := Lib.hid hg
  clear hg
  go_upto_region 2 with fail
  have hb2 : Below w2.heap.size w2 (w2.drew.alloc (.cells #[.pointer (some ⟨blk, o + i + 2, none⟩), .pointer (some ⟨blk, o + i + 3, none⟩)] 95)) := (Below.drew (Below.refl _ w2)).alloc (Nat.le_refl _) _
  have HC2 := Lib.hid (nums_w E 2 w2.drew.heap.size _ _ _ (HG.out.keep hb2) (heap_alloc_new w2.drew _) (by decide) (fun j hj => by match j, hj with | 0, _ => exact ptr_eq (by omega) | 1, _ => exact ptr_eq (by omega)) (by have : wb < w2.drew.heap.size := HG.out.wlt; omega) (by have : blk < w2.drew.heap.size := HG.out.lt; omega) (by decide))
  clear hb2
  go_region_held3 (fun _ => True) (trivial) (first | (go_at_call 34; refine Calls.mono HC2.out ?_; rintro e w3 ⟨rfl, hg⟩))
  replace HG := Lib.hid hg
  clear hg HC2
  go_upto_region 3 with fail
  replace HG := Lib.hid (HG.out.keep (Below.drew (Below.refl _ w3)))
  go_still_tail 7, (by kernel_rfl)
  change wpList _ _ _ _ _ w3.drew
  generalize w3.drew = w3d at *
  go_wp2_with fail
  refine (stp_text E _ HG.out (by omega)).mono ?_
  rintro e w4 ⟨rfl, hg⟩
  replace HG := Lib.hid hg
  clear hg
  go_wp2
  go_end0
  exact ⟨rfl, HG.out⟩

set_option maxRecDepth 100000 in
set_option maxHeartbeats 16000000 in
theorem ask_w {W0 w0 w : World} {wb blk o i : Nat} {S : List UInt8} {q : List Ty} (E : Env W0) (p : Nat) (h : Gst W0 wb blk o i S ([.i, .s, .i] ++ q) w0 w) (hp : p = o + i) :
    Calls Tryd.prog 47 #[.iface 80 (.pointer (some ⟨wb, 0, none⟩)), .pointer (some ⟨blk, p, none⟩)] w fun e w' => e = .returned (.tuple #[]) ∧ Gst W0 wb blk o (i + 3) S q w0 w' := by
  have na1 := na_int
  have na2 := na_bool
  have na3 := na_text
  have me1 := me_int
  have me2 := me_bool
  have me3 := me_text
  subst hp
  have HG := Lib.hid h
  clear h
  go_enter Tryd.func47, Tryd.ntmps47
  go_upto_region 0 with fail
  replace HG := Lib.hid (HG.out.keep (Below.drew (Below.refl _ w)))
  go_still_tail 7, (by kernel_rfl)
  change wpList _ _ _ _ _ w.drew
  generalize w.drew = wd at *
  go_wp2_with fail
  refine (stp_int E _ HG.out (by omega)).mono ?_
  rintro e w1 ⟨rfl, hg⟩
  replace HG := Lib.hid hg
  clear hg
  go_upto_region 1 with fail
  replace HG := Lib.hid (HG.out.keep (Below.drew (Below.refl _ w1)))
  go_still_tail 7, (by kernel_rfl)
  change wpList _ _ _ _ _ w1.drew
  generalize w1.drew = w1d at *
  go_wp2_with fail
  refine (stp_text E _ HG.out (by omega)).mono ?_
  rintro e w2 ⟨rfl, hg⟩
  replace HG := Lib.hid hg
  clear hg
  go_upto_region 2 with fail
  replace HG := Lib.hid (HG.out.keep (Below.drew (Below.refl _ w2)))
  go_still_tail 7, (by kernel_rfl)
  change wpList _ _ _ _ _ w2.drew
  generalize w2.drew = w2d at *
  go_wp2_with fail
  refine (stp_int E _ HG.out (by omega)).mono ?_
  rintro e w3 ⟨rfl, hg⟩
  replace HG := Lib.hid hg
  clear hg
  go_wp2
  go_end0
  exact ⟨rfl, HG.out⟩

set_option maxRecDepth 100000 in
set_option maxHeartbeats 16000000 in
theorem job_w {W0 w0 w : World} {wb blk o i : Nat} {S : List UInt8} {q : List Ty} (E : Env W0) (p : Nat) (h : Gst W0 wb blk o i S ([.s, .i, .i, .i] ++ q) w0 w) (hp : p = o + i) :
    Calls Tryd.prog 45 #[.iface 80 (.pointer (some ⟨wb, 0, none⟩)), .pointer (some ⟨blk, p, none⟩)] w fun e w' => e = .returned (.tuple #[]) ∧ Gst W0 wb blk o (i + 4) S q w0 w' := by
  have na1 := na_int
  have na2 := na_bool
  have na3 := na_text
  have me1 := me_int
  have me2 := me_bool
  have me3 := me_text
  subst hp
  have HG := Lib.hid h
  clear h
  go_enter Tryd.func45, Tryd.ntmps45
  go_upto_region 0 with fail
  replace HG := Lib.hid (HG.out.keep (Below.drew (Below.refl _ w)))
  go_still_tail 7, (by kernel_rfl)
  change wpList _ _ _ _ _ w.drew
  generalize w.drew = wd at *
  go_wp2_with fail
  refine (stp_text E _ HG.out (by omega)).mono ?_
  rintro e w1 ⟨rfl, hg⟩
  replace HG := Lib.hid hg
  clear hg
  go_upto_region 1 with fail
  have hb1 : Below w1.heap.size w1 (w1.drew.alloc (.cells #[.pointer (some ⟨blk, o + i + 1, none⟩), .pointer (some ⟨blk, o + i + 2, none⟩), .pointer (some ⟨blk, o + i + 3, none⟩)] 95)) := (Below.drew (Below.refl _ w1)).alloc (Nat.le_refl _) _
  have HC1 := Lib.hid (nums_w E 3 w1.drew.heap.size _ _ _ (HG.out.keep hb1) (heap_alloc_new w1.drew _) (by decide) (fun j hj => by match j, hj with | 0, _ => exact ptr_eq (by omega) | 1, _ => exact ptr_eq (by omega) | 2, _ => exact ptr_eq (by omega)) (by have : wb < w1.drew.heap.size := HG.out.wlt; omega) (by have : blk < w1.drew.heap.size := HG.out.lt; omega) (by decide))
  clear hb1
  go_region_held3 (fun _ => True) (trivial) (first | (go_at_call 34; refine Calls.mono HC1.out ?_; rintro e w2 ⟨rfl, hg⟩))
  replace HG := Lib.hid hg
  clear hg HC1
  go_wp2
  go_end0
  exact ⟨rfl, HG.out⟩

set_option maxRecDepth 100000 in
set_option maxHeartbeats 16000000 in
theorem node_w {W0 w0 w : World} {wb blk o i : Nat} {S : List UInt8} {q : List Ty} (E : Env W0) (p : Nat) (h : Gst W0 wb blk o i S ([.s, .i, .i] ++ q) w0 w) (hp : p = o + i) :
    Calls Tryd.prog 37 #[.iface 80 (.pointer (some ⟨wb, 0, none⟩)), .pointer (some ⟨blk, p, none⟩)] w fun e w' => e = .returned (.tuple #[]) ∧ Gst W0 wb blk o (i + 3) S q w0 w' := by
  have na1 := na_int
  have na2 := na_bool
  have na3 := na_text
  have me1 := me_int
  have me2 := me_bool
  have me3 := me_text
  subst hp
  have HG := Lib.hid h
  clear h
  go_enter Tryd.func37, Tryd.ntmps37
  go_upto_region 0 with fail
  replace HG := Lib.hid (HG.out.keep (Below.drew (Below.refl _ w)))
  go_still_tail 7, (by kernel_rfl)
  change wpList _ _ _ _ _ w.drew
  generalize w.drew = wd at *
  go_wp2_with fail
  refine (stp_text E _ HG.out (by omega)).mono ?_
  rintro e w1 ⟨rfl, hg⟩
  replace HG := Lib.hid hg
  clear hg
  go_upto_region 1 with fail
  have hb1 : Below w1.heap.size w1 (w1.drew.alloc (.cells #[.pointer (some ⟨blk, o + i + 1, none⟩), .pointer (some ⟨blk, o + i + 2, none⟩)] 95)) := (Below.drew (Below.refl _ w1)).alloc (Nat.le_refl _) _
  have HC1 := Lib.hid (nums_w E 2 w1.drew.heap.size _ _ _ (HG.out.keep hb1) (heap_alloc_new w1.drew _) (by decide) (fun j hj => by match j, hj with | 0, _ => exact ptr_eq (by omega) | 1, _ => exact ptr_eq (by omega)) (by have : wb < w1.drew.heap.size := HG.out.wlt; omega) (by have : blk < w1.drew.heap.size := HG.out.lt; omega) (by decide))
  clear hb1
  go_region_held3 (fun _ => True) (trivial) (first | (go_at_call 34; refine Calls.mono HC1.out ?_; rintro e w2 ⟨rfl, hg⟩))
  replace HG := Lib.hid hg
  clear hg HC1
  go_wp2
  go_end0
  exact ⟨rfl, HG.out⟩

set_option maxRecDepth 100000 in
set_option maxHeartbeats 16000000 in
theorem edge_w {W0 w0 w : World} {wb blk o i : Nat} {S : List UInt8} {q : List Ty} (E : Env W0) (p : Nat) (h : Gst W0 wb blk o i S ([.s, .s, .i] ++ q) w0 w) (hp : p = o + i) :
    Calls Tryd.prog 39 #[.iface 80 (.pointer (some ⟨wb, 0, none⟩)), .pointer (some ⟨blk, p, none⟩)] w fun e w' => e = .returned (.tuple #[]) ∧ Gst W0 wb blk o (i + 3) S q w0 w' := by
  have na1 := na_int
  have na2 := na_bool
  have na3 := na_text
  have me1 := me_int
  have me2 := me_bool
  have me3 := me_text
  subst hp
  have HG := Lib.hid h
  clear h
  go_enter Tryd.func39, Tryd.ntmps39
  go_upto_region 0 with fail
  replace HG := Lib.hid (HG.out.keep (Below.drew (Below.refl _ w)))
  go_still_tail 7, (by kernel_rfl)
  change wpList _ _ _ _ _ w.drew
  generalize w.drew = wd at *
  go_wp2_with fail
  refine (stp_text E _ HG.out (by omega)).mono ?_
  rintro e w1 ⟨rfl, hg⟩
  replace HG := Lib.hid hg
  clear hg
  go_upto_region 1 with fail
  replace HG := Lib.hid (HG.out.keep (Below.drew (Below.refl _ w1)))
  go_still_tail 7, (by kernel_rfl)
  change wpList _ _ _ _ _ w1.drew
  generalize w1.drew = w1d at *
  go_wp2_with fail
  refine (stp_text E _ HG.out (by omega)).mono ?_
  rintro e w2 ⟨rfl, hg⟩
  replace HG := Lib.hid hg
  clear hg
  go_upto_region 2 with fail
  replace HG := Lib.hid (HG.out.keep (Below.drew (Below.refl _ w2)))
  go_still_tail 7, (by kernel_rfl)
  change wpList _ _ _ _ _ w2.drew
  generalize w2.drew = w2d at *
  go_wp2_with fail
  refine (stp_int E _ HG.out (by omega)).mono ?_
  rintro e w3 ⟨rfl, hg⟩
  replace HG := Lib.hid hg
  clear hg
  go_wp2
  go_end0
  exact ⟨rfl, HG.out⟩

end Go.Proofs.YtkgkipohalekmaaDoor
