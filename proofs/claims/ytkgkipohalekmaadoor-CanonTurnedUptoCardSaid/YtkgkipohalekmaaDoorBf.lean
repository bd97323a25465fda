/-
  The reference: two units compared.
-/
import Derived.Test.YtkgkipohalekmaaDoorBi
import Derived.Test.YtkgkipohalekmaaDoorBr
import Derived.Deep.Cut
namespace Go.Proofs.YtkgkipohalekmaaDoor
open Go.RowKit
theorem bool_ne2 {a b : Bool} (h : ¬ a = b) : (a = true ∧ b = false) ∨ (a = false ∧ b = true) := by
  cases a <;> cases b <;> simp at h ⊢
/-- the type of each field -/
def uTy : Nat → Option TypeId
  | 0 => some 9
  | 1 => some 3
  | 2 => some 9
  | 3 => some 4
  | 4 => some 42
  | 5 => some 3
  | 6 => some 3
  | 7 => some 3
  | 8 => some 43
  | 9 => some 43
  | 10 => some 43
  | 11 => some 43
  | 12 => some 43
  | 13 => some 4
  | 14 => some 3
  | 15 => some 3
  | 16 => some 3
  | 17 => some 3
  | 18 => some 44
  | 19 => some 45
  | 20 => some 22
  | 21 => some 44
  | 22 => some 3
  | 23 => some 9
  | 24 => some 9
  | 25 => some 44
  | 26 => some 44
  | 27 => some 44
  | 28 => some 22
  | 29 => some 4
  | 30 => some 22
  | 31 => some 22
  | 32 => some 22
  | 33 => some 22
  | 34 => some 9
  | _ => none
/-- who compares it -/
def uFn : Nat → Option Nat
  | 4 => some 55
  | 8 => some 52
  | 9 => some 52
  | 10 => some 52
  | 11 => some 52
  | 12 => some 52
  | 18 => some 53
  | 19 => some 54
  | 20 => some 14
  | 21 => some 53
  | 25 => some 53
  | 26 => some 53
  | 27 => some 53
  | 28 => some 14
  | 30 => some 14
  | 31 => some 14
  | 32 => some 14
  | 33 => some 14
  | _ => none
def uSy (Z : Nat → Bool) : Sy := ⟨fun s f => if s = 47 ∧ (uTy f).isSome = true then some f else none, fun t j => uTy j == some t, fun t j => if uTy j = some t ∧ uFn j = none then some (Z j) else none, fun f t j => if uTy j = some t ∧ uFn j = some f then some (Z j) else none⟩
def uBase (b1 b2 : Nat) : Bool → Nat := fun b => if b then b2 else b1
def uVal (vs vs' : Array Value) : TypeId → Bool → Nat → Value := fun _ b j => ((if b then vs' else vs)[j]?).getD undef
theorem uTy_lt {j : Nat} (h : (uTy j).isSome = true) : j < 35 := by
  by_cases hj : j < 35
  · exact hj
  · exfalso
    obtain ⟨k, rfl⟩ : ∃ k, j = k + 35 := ⟨j - 35, by omega⟩
    cases h
theorem lt35 {j : Nat} (h : j < 35) : j = 0 ∨ j = 1 ∨ j = 2 ∨ j = 3 ∨ j = 4 ∨ j = 5 ∨ j = 6 ∨ j = 7 ∨ j = 8 ∨ j = 9 ∨ j = 10 ∨ j = 11 ∨ j = 12 ∨ j = 13 ∨ j = 14 ∨ j = 15 ∨ j = 16 ∨ j = 17 ∨ j = 18 ∨ j = 19 ∨ j = 20 ∨ j = 21 ∨ j = 22 ∨ j = 23 ∨ j = 24 ∨ j = 25 ∨ j = 26 ∨ j = 27 ∨ j = 28 ∨ j = 29 ∨ j = 30 ∨ j = 31 ∨ j = 32 ∨ j = 33 ∨ j = 34 := by omega
theorem gk3 {i : Nat} {A B D : SV} (h2 : ¬ i = 2) (h3 : ¬ i = 3) (h4 : ¬ i = 4) : Gk [2, 3, 4] [A, B, D] i = .any := by
  have e2 : (i == 2) = false := by simp [h2]
  have e3 : (i == 3) = false := by simp [h3]
  have e4 : (i == 4) = false := by simp [h4]
  simp only [Gk, List.zip_cons_cons, List.lookup_cons, e2, e3, e4]
  rfl
def uZ (l : List Bool) : Nat → Bool := fun j => l.getD j false
set_option maxRecDepth 100000 in
set_option maxHeartbeats 16000000 in
theorem same_unit {W0 w : World} {cs cs' : List Ce} {vs vs' : Array Value} (hb0 : Below W0.heap.size W0 w) (ha : Ce.Ats W0 W0.heap.size cs vs.toList) (ha' : Ce.Ats W0 W0.heap.size cs' vs'.toList) (ho : Ce.Oks cs qUnit) (ho' : Ce.Oks cs' qUnit) :
Calls Tryd.prog 29 #[.agg vs, .agg vs'] w fun e w' => SameP (cs = cs') e ∧ Below w.heap.size w w' := by
  unfold qUnit at ho ho'
  have hx1 := heap_alloc2_old w (.cells vs 47) (.cells vs' 47)
  have hx2 := heap_alloc2_new w (.cells vs 47) (.cells vs' 47)
  have hb2 : Below w.heap.size w ((w.alloc (.cells vs 47)).alloc (.cells vs' 47)) := ((Below.refl _ _).alloc (Nat.le_refl _) _).alloc (by simp) _
  obtain ⟨us, hus⟩ : ∃ us, us = vs.toList := ⟨_, rfl⟩
  obtain ⟨us', hus'⟩ : ∃ us, us = vs'.toList := ⟨_, rfl⟩
  rw [← hus] at ha
  rw [← hus'] at ha'
  obtain ⟨x0, xr0, xu0, rfl, xh0, ho, ha⟩ := cons_s ho ha
  obtain ⟨x1, xr1, xu1, rfl, xh1, ho, ha⟩ := cons_i ho ha
  obtain ⟨x2, xr2, xu2, rfl, xh2, ho, ha⟩ := cons_s ho ha
  obtain ⟨x3, xr3, xu3, rfl, xh3, ho, ha⟩ := cons_b ho ha
  obtain ⟨xn4, xe4, xr4, xv4, xu4, rfl, xh4, xk4, xa4, ho, ha⟩ := cons_l ho ha
  obtain ⟨x5, xr5, xu5, rfl, xh5, ho, ha⟩ := cons_i ho ha
  obtain ⟨x6, xr6, xu6, rfl, xh6, ho, ha⟩ := cons_i ho ha
  obtain ⟨x7, xr7, xu7, rfl, xh7, ho, ha⟩ := cons_i ho ha
  obtain ⟨xn8, xe8, xr8, xv8, xu8, rfl, xh8, xk8, xa8, ho, ha⟩ := cons_l ho ha
  obtain ⟨xn9, xe9, xr9, xv9, xu9, rfl, xh9, xk9, xa9, ho, ha⟩ := cons_l ho ha
  obtain ⟨xn10, xe10, xr10, xv10, xu10, rfl, xh10, xk10, xa10, ho, ha⟩ := cons_l ho ha
  obtain ⟨xn11, xe11, xr11, xv11, xu11, rfl, xh11, xk11, xa11, ho, ha⟩ := cons_l ho ha
  obtain ⟨xn12, xe12, xr12, xv12, xu12, rfl, xh12, xk12, xa12, ho, ha⟩ := cons_l ho ha
  obtain ⟨x13, xr13, xu13, rfl, xh13, ho, ha⟩ := cons_b ho ha
  obtain ⟨x14, xr14, xu14, rfl, xh14, ho, ha⟩ := cons_i ho ha
  obtain ⟨x15, xr15, xu15, rfl, xh15, ho, ha⟩ := cons_i ho ha
  obtain ⟨x16, xr16, xu16, rfl, xh16, ho, ha⟩ := cons_i ho ha
  obtain ⟨x17, xr17, xu17, rfl, xh17, ho, ha⟩ := cons_i ho ha
  obtain ⟨xn18, xe18, xr18, xv18, xu18, rfl, xh18, xk18, xa18, ho, ha⟩ := cons_l ho ha
  obtain ⟨xn19, xe19, xr19, xv19, xu19, rfl, xh19, xk19, xa19, ho, ha⟩ := cons_l ho ha
  obtain ⟨xn20, xe20, xr20, xv20, xu20, rfl, xh20, xk20, xa20, ho, ha⟩ := cons_l ho ha
  obtain ⟨xn21, xe21, xr21, xv21, xu21, rfl, xh21, xk21, xa21, ho, ha⟩ := cons_l ho ha
  obtain ⟨x22, xr22, xu22, rfl, xh22, ho, ha⟩ := cons_i ho ha
  obtain ⟨x23, xr23, xu23, rfl, xh23, ho, ha⟩ := cons_s ho ha
  obtain ⟨x24, xr24, xu24, rfl, xh24, ho, ha⟩ := cons_s ho ha
  obtain ⟨xn25, xe25, xr25, xv25, xu25, rfl, xh25, xk25, xa25, ho, ha⟩ := cons_l ho ha
  obtain ⟨xn26, xe26, xr26, xv26, xu26, rfl, xh26, xk26, xa26, ho, ha⟩ := cons_l ho ha
  obtain ⟨xn27, xe27, xr27, xv27, xu27, rfl, xh27, xk27, xa27, ho, ha⟩ := cons_l ho ha
  obtain ⟨xn28, xe28, xr28, xv28, xu28, rfl, xh28, xk28, xa28, ho, ha⟩ := cons_l ho ha
  obtain ⟨x29, xr29, xu29, rfl, xh29, ho, ha⟩ := cons_b ho ha
  obtain ⟨xn30, xe30, xr30, xv30, xu30, rfl, xh30, xk30, xa30, ho, ha⟩ := cons_l ho ha
  obtain ⟨xn31, xe31, xr31, xv31, xu31, rfl, xh31, xk31, xa31, ho, ha⟩ := cons_l ho ha
  obtain ⟨xn32, xe32, xr32, xv32, xu32, rfl, xh32, xk32, xa32, ho, ha⟩ := cons_l ho ha
  obtain ⟨xn33, xe33, xr33, xv33, xu33, rfl, xh33, xk33, xa33, ho, ha⟩ := cons_l ho ha
  obtain ⟨x34, xr34, xu34, rfl, xh34, ho, ha⟩ := cons_s ho ha
  obtain ⟨rfl, xhz⟩ := cons_nil ho ha
  obtain ⟨y0, yr0, yu0, rfl, yh0, ho', ha'⟩ := cons_s ho' ha'
  obtain ⟨y1, yr1, yu1, rfl, yh1, ho', ha'⟩ := cons_i ho' ha'
  obtain ⟨y2, yr2, yu2, rfl, yh2, ho', ha'⟩ := cons_s ho' ha'
  obtain ⟨y3, yr3, yu3, rfl, yh3, ho', ha'⟩ := cons_b ho' ha'
  obtain ⟨yn4, ye4, yr4, yv4, yu4, rfl, yh4, yk4, ya4, ho', ha'⟩ := cons_l ho' ha'
  obtain ⟨y5, yr5, yu5, rfl, yh5, ho', ha'⟩ := cons_i ho' ha'
  obtain ⟨y6, yr6, yu6, rfl, yh6, ho', ha'⟩ := cons_i ho' ha'
  obtain ⟨y7, yr7, yu7, rfl, yh7, ho', ha'⟩ := cons_i ho' ha'
  obtain ⟨yn8, ye8, yr8, yv8, yu8, rfl, yh8, yk8, ya8, ho', ha'⟩ := cons_l ho' ha'
  obtain ⟨yn9, ye9, yr9, yv9, yu9, rfl, yh9, yk9, ya9, ho', ha'⟩ := cons_l ho' ha'
  obtain ⟨yn10, ye10, yr10, yv10, yu10, rfl, yh10, yk10, ya10, ho', ha'⟩ := cons_l ho' ha'
  obtain ⟨yn11, ye11, yr11, yv11, yu11, rfl, yh11, yk11, ya11, ho', ha'⟩ := cons_l ho' ha'
  obtain ⟨yn12, ye12, yr12, yv12, yu12, rfl, yh12, yk12, ya12, ho', ha'⟩ := cons_l ho' ha'
  obtain ⟨y13, yr13, yu13, rfl, yh13, ho', ha'⟩ := cons_b ho' ha'
  obtain ⟨y14, yr14, yu14, rfl, yh14, ho', ha'⟩ := cons_i ho' ha'
  obtain ⟨y15, yr15, yu15, rfl, yh15, ho', ha'⟩ := cons_i ho' ha'
  obtain ⟨y16, yr16, yu16, rfl, yh16, ho', ha'⟩ := cons_i ho' ha'
  obtain ⟨y17, yr17, yu17, rfl, yh17, ho', ha'⟩ := cons_i ho' ha'
  obtain ⟨yn18, ye18, yr18, yv18, yu18, rfl, yh18, yk18, ya18, ho', ha'⟩ := cons_l ho' ha'
  obtain ⟨yn19, ye19, yr19, yv19, yu19, rfl, yh19, yk19, ya19, ho', ha'⟩ := cons_l ho' ha'
  obtain ⟨yn20, ye20, yr20, yv20, yu20, rfl, yh20, yk20, ya20, ho', ha'⟩ := cons_l ho' ha'
  obtain ⟨yn21, ye21, yr21, yv21, yu21, rfl, yh21, yk21, ya21, ho', ha'⟩ := cons_l ho' ha'
  obtain ⟨y22, yr22, yu22, rfl, yh22, ho', ha'⟩ := cons_i ho' ha'
  obtain ⟨y23, yr23, yu23, rfl, yh23, ho', ha'⟩ := cons_s ho' ha'
  obtain ⟨y24, yr24, yu24, rfl, yh24, ho', ha'⟩ := cons_s ho' ha'
  obtain ⟨yn25, ye25, yr25, yv25, yu25, rfl, yh25, yk25, ya25, ho', ha'⟩ := cons_l ho' ha'
  obtain ⟨yn26, ye26, yr26, yv26, yu26, rfl, yh26, yk26, ya26, ho', ha'⟩ := cons_l ho' ha'
  obtain ⟨yn27, ye27, yr27, yv27, yu27, rfl, yh27, yk27, ya27, ho', ha'⟩ := cons_l ho' ha'
  obtain ⟨yn28, ye28, yr28, yv28, yu28, rfl, yh28, yk28, ya28, ho', ha'⟩ := cons_l ho' ha'
  obtain ⟨y29, yr29, yu29, rfl, yh29, ho', ha'⟩ := cons_b ho' ha'
  obtain ⟨yn30, ye30, yr30, yv30, yu30, rfl, yh30, yk30, ya30, ho', ha'⟩ := cons_l ho' ha'
  obtain ⟨yn31, ye31, yr31, yv31, yu31, rfl, yh31, yk31, ya31, ho', ha'⟩ := cons_l ho' ha'
  obtain ⟨yn32, ye32, yr32, yv32, yu32, rfl, yh32, yk32, ya32, ho', ha'⟩ := cons_l ho' ha'
  obtain ⟨yn33, ye33, yr33, yv33, yu33, rfl, yh33, yk33, ya33, ho', ha'⟩ := cons_l ho' ha'
  obtain ⟨y34, yr34, yu34, rfl, yh34, ho', ha'⟩ := cons_s ho' ha'
  obtain ⟨rfl, yhz⟩ := cons_nil ho' ha'
  have HL1 : Hid (vs.toList = [.string x0, .int .i64 x1, .string x2, .bool x3, xv4, .int .i64 x5, .int .i64 x6, .int .i64 x7, xv8, xv9, xv10, xv11, xv12, .bool x13, .int .i64 x14, .int .i64 x15, .int .i64 x16, .int .i64 x17, xv18, xv19, xv20, xv21, .int .i64 x22, .string x23, .string x24, xv25, xv26, xv27, xv28, .bool x29, xv30, xv31, xv32, xv33, .string x34]) := Lib.hid (by rw [← hus, xh0, xh1, xh2, xh3, xh4, xh5, xh6, xh7, xh8, xh9, xh10, xh11, xh12, xh13, xh14, xh15, xh16, xh17, xh18, xh19, xh20, xh21, xh22, xh23, xh24, xh25, xh26, xh27, xh28, xh29, xh30, xh31, xh32, xh33, xh34, xhz])
  have HL2 : Hid (vs'.toList = [.string y0, .int .i64 y1, .string y2, .bool y3, yv4, .int .i64 y5, .int .i64 y6, .int .i64 y7, yv8, yv9, yv10, yv11, yv12, .bool y13, .int .i64 y14, .int .i64 y15, .int .i64 y16, .int .i64 y17, yv18, yv19, yv20, yv21, .int .i64 y22, .string y23, .string y24, yv25, yv26, yv27, yv28, .bool y29, yv30, yv31, yv32, yv33, .string y34]) := Lib.hid (by rw [← hus', yh0, yh1, yh2, yh3, yh4, yh5, yh6, yh7, yh8, yh9, yh10, yh11, yh12, yh13, yh14, yh15, yh16, yh17, yh18, yh19, yh20, yh21, yh22, yh23, yh24, yh25, yh26, yh27, yh28, yh29, yh30, yh31, yh32, yh33, yh34, yhz])
  clear xh0 yh0 xh1 yh1 xh2 yh2 xh3 yh3 xh4 yh4 xh5 yh5 xh6 yh6 xh7 yh7 xh8 yh8 xh9 yh9 xh10 yh10 xh11 yh11 xh12 yh12 xh13 yh13 xh14 yh14 xh15 yh15 xh16 yh16 xh17 yh17 xh18 yh18 xh19 yh19 xh20 yh20 xh21 yh21 xh22 yh22 xh23 yh23 xh24 yh24 xh25 yh25 xh26 yh26 xh27 yh27 xh28 yh28 xh29 yh29 xh30 yh30 xh31 yh31 xh32 yh32 xh33 yh33 xh34 yh34 xhz yhz hus hus'
  obtain ⟨z4, hz4⟩ : ∃ z, z = dB (Ce.l xn4 xe4 = Ce.l yn4 ye4) := ⟨_, rfl⟩
  have HQ4 : Hid (z4 = true ↔ Ce.l xn4 xe4 = Ce.l yn4 ye4) := Lib.hid (by rw [hz4]; exact dB_iff _)
  have HK4 : Hid (∀ W, Below ((w.alloc (.cells vs 47)).alloc (.cells vs' 47)).heap.size ((w.alloc (.cells vs 47)).alloc (.cells vs' 47)) W → Calls Tryd.prog 55 #[xv4, yv4] W fun e w' => e = .returned (.bool z4) ∧ Below W.heap.size W w') := Lib.hid (fun W hW => (same_Rel (hb0.trans ((hb2.trans (hW.mono hb2.size)).mono hb0.size)) xa4 ya4 xk4 yk4).mono fun e w' ⟨h1, h2⟩ => ⟨by rw [hz4]; exact h1.eq, h2⟩)
  clear hz4 xa4 ya4 xk4 yk4
  obtain ⟨z8, hz8⟩ : ∃ z, z = dB (Ce.l xn8 xe8 = Ce.l yn8 ye8) := ⟨_, rfl⟩
  have HQ8 : Hid (z8 = true ↔ Ce.l xn8 xe8 = Ce.l yn8 ye8) := Lib.hid (by rw [hz8]; exact dB_iff _)
  have HK8 : Hid (∀ W, Below ((w.alloc (.cells vs 47)).alloc (.cells vs' 47)).heap.size ((w.alloc (.cells vs 47)).alloc (.cells vs' 47)) W → Calls Tryd.prog 52 #[xv8, yv8] W fun e w' => e = .returned (.bool z8) ∧ Below W.heap.size W w') := Lib.hid (fun W hW => (same_Execs (hb0.trans ((hb2.trans (hW.mono hb2.size)).mono hb0.size)) xa8 ya8 xk8 yk8).mono fun e w' ⟨h1, h2⟩ => ⟨by rw [hz8]; exact h1.eq, h2⟩)
  clear hz8 xa8 ya8 xk8 yk8
  obtain ⟨z9, hz9⟩ : ∃ z, z = dB (Ce.l xn9 xe9 = Ce.l yn9 ye9) := ⟨_, rfl⟩
  have HQ9 : Hid (z9 = true ↔ Ce.l xn9 xe9 = Ce.l yn9 ye9) := Lib.hid (by rw [hz9]; exact dB_iff _)
  have HK9 : Hid (∀ W, Below ((w.alloc (.cells vs 47)).alloc (.cells vs' 47)).heap.size ((w.alloc (.cells vs 47)).alloc (.cells vs' 47)) W → Calls Tryd.prog 52 #[xv9, yv9] W fun e w' => e = .returned (.bool z9) ∧ Below W.heap.size W w') := Lib.hid (fun W hW => (same_Execs (hb0.trans ((hb2.trans (hW.mono hb2.size)).mono hb0.size)) xa9 ya9 xk9 yk9).mono fun e w' ⟨h1, h2⟩ => ⟨by rw [hz9]; exact h1.eq, h2⟩)
  clear hz9 xa9 ya9 xk9 yk9
  obtain ⟨z10, hz10⟩ : ∃ z, z = dB (Ce.l xn10 xe10 = Ce.l yn10 ye10) := ⟨_, rfl⟩
  have HQ10 : Hid (z10 = true ↔ Ce.l xn10 xe10 = Ce.l yn10 ye10) := Lib.hid (by rw [hz10]; exact dB_iff _)
  have HK10 : Hid (∀ W, Below ((w.alloc (.cells vs 47)).alloc (.cells vs' 47)).heap.size ((w.alloc (.cells vs 47)).alloc (.cells vs' 47)) W → Calls Tryd.prog 52 #[xv10, yv10] W fun e w' => e = .returned (.bool z10) ∧ Below W.heap.size W w') := Lib.hid (fun W hW => (same_Execs (hb0.trans ((hb2.trans (hW.mono hb2.size)).mono hb0.size)) xa10 ya10 xk10 yk10).mono fun e w' ⟨h1, h2⟩ => ⟨by rw [hz10]; exact h1.eq, h2⟩)
  clear hz10 xa10 ya10 xk10 yk10
  obtain ⟨z11, hz11⟩ : ∃ z, z = dB (Ce.l xn11 xe11 = Ce.l yn11 ye11) := ⟨_, rfl⟩
  have HQ11 : Hid (z11 = true ↔ Ce.l xn11 xe11 = Ce.l yn11 ye11) := Lib.hid (by rw [hz11]; exact dB_iff _)
  have HK11 : Hid (∀ W, Below ((w.alloc (.cells vs 47)).alloc (.cells vs' 47)).heap.size ((w.alloc (.cells vs 47)).alloc (.cells vs' 47)) W → Calls Tryd.prog 52 #[xv11, yv11] W fun e w' => e = .returned (.bool z11) ∧ Below W.heap.size W w') := Lib.hid (fun W hW => (same_Execs (hb0.trans ((hb2.trans (hW.mono hb2.size)).mono hb0.size)) xa11 ya11 xk11 yk11).mono fun e w' ⟨h1, h2⟩ => ⟨by rw [hz11]; exact h1.eq, h2⟩)
  clear hz11 xa11 ya11 xk11 yk11
  obtain ⟨z12, hz12⟩ : ∃ z, z = dB (Ce.l xn12 xe12 = Ce.l yn12 ye12) := ⟨_, rfl⟩
  have HQ12 : Hid (z12 = true ↔ Ce.l xn12 xe12 = Ce.l yn12 ye12) := Lib.hid (by rw [hz12]; exact dB_iff _)
  have HK12 : Hid (∀ W, Below ((w.alloc (.cells vs 47)).alloc (.cells vs' 47)).heap.size ((w.alloc (.cells vs 47)).alloc (.cells vs' 47)) W → Calls Tryd.prog 52 #[xv12, yv12] W fun e w' => e = .returned (.bool z12) ∧ Below W.heap.size W w') := Lib.hid (fun W hW => (same_Execs (hb0.trans ((hb2.trans (hW.mono hb2.size)).mono hb0.size)) xa12 ya12 xk12 yk12).mono fun e w' ⟨h1, h2⟩ => ⟨by rw [hz12]; exact h1.eq, h2⟩)
  clear hz12 xa12 ya12 xk12 yk12
  obtain ⟨z18, hz18⟩ : ∃ z, z = dB (Ce.l xn18 xe18 = Ce.l yn18 ye18) := ⟨_, rfl⟩
  have HQ18 : Hid (z18 = true ↔ Ce.l xn18 xe18 = Ce.l yn18 ye18) := Lib.hid (by rw [hz18]; exact dB_iff _)
  have HK18 : Hid (∀ W, Below ((w.alloc (.cells vs 47)).alloc (.cells vs' 47)).heap.size ((w.alloc (.cells vs 47)).alloc (.cells vs' 47)) W → Calls Tryd.prog 53 #[xv18, yv18] W fun e w' => e = .returned (.bool z18) ∧ Below W.heap.size W w') := Lib.hid (fun W hW => (same_Ints10 (hb0.trans ((hb2.trans (hW.mono hb2.size)).mono hb0.size)) xa18 ya18 xk18 yk18).mono fun e w' ⟨h1, h2⟩ => ⟨by rw [hz18]; exact h1.eq, h2⟩)
  clear hz18 xa18 ya18 xk18 yk18
  obtain ⟨z19, hz19⟩ : ∃ z, z = dB (Ce.l xn19 xe19 = Ce.l yn19 ye19) := ⟨_, rfl⟩
  have HQ19 : Hid (z19 = true ↔ Ce.l xn19 xe19 = Ce.l yn19 ye19) := Lib.hid (by rw [hz19]; exact dB_iff _)
  have HK19 : Hid (∀ W, Below ((w.alloc (.cells vs 47)).alloc (.cells vs' 47)).heap.size ((w.alloc (.cells vs 47)).alloc (.cells vs' 47)) W → Calls Tryd.prog 54 #[xv19, yv19] W fun e w' => e = .returned (.bool z19) ∧ Below W.heap.size W w') := Lib.hid (fun W hW => (same_Pair (hb0.trans ((hb2.trans (hW.mono hb2.size)).mono hb0.size)) xa19 ya19 xk19 yk19).mono fun e w' ⟨h1, h2⟩ => ⟨by rw [hz19]; exact h1.eq, h2⟩)
  clear hz19 xa19 ya19 xk19 yk19
  obtain ⟨z20, hz20⟩ : ∃ z, z = dB (Ce.l xn20 xe20 = Ce.l yn20 ye20) := ⟨_, rfl⟩
  have HQ20 : Hid (z20 = true ↔ Ce.l xn20 xe20 = Ce.l yn20 ye20) := Lib.hid (by rw [hz20]; exact dB_iff _)
  have HK20 : Hid (∀ W, Below ((w.alloc (.cells vs 47)).alloc (.cells vs' 47)).heap.size ((w.alloc (.cells vs 47)).alloc (.cells vs' 47)) W → Calls Tryd.prog 14 #[xv20, yv20] W fun e w' => e = .returned (.bool z20) ∧ Below W.heap.size W w') := Lib.hid (fun W hW => (same_Strs (hb0.trans ((hb2.trans (hW.mono hb2.size)).mono hb0.size)) xa20 ya20 xk20 yk20).mono fun e w' ⟨h1, h2⟩ => ⟨by rw [hz20]; exact h1.eq, h2⟩)
  clear hz20 xa20 ya20 xk20 yk20
  obtain ⟨z21, hz21⟩ : ∃ z, z = dB (Ce.l xn21 xe21 = Ce.l yn21 ye21) := ⟨_, rfl⟩
  have HQ21 : Hid (z21 = true ↔ Ce.l xn21 xe21 = Ce.l yn21 ye21) := Lib.hid (by rw [hz21]; exact dB_iff _)
  have HK21 : Hid (∀ W, Below ((w.alloc (.cells vs 47)).alloc (.cells vs' 47)).heap.size ((w.alloc (.cells vs 47)).alloc (.cells vs' 47)) W → Calls Tryd.prog 53 #[xv21, yv21] W fun e w' => e = .returned (.bool z21) ∧ Below W.heap.size W w') := Lib.hid (fun W hW => (same_Ints10 (hb0.trans ((hb2.trans (hW.mono hb2.size)).mono hb0.size)) xa21 ya21 xk21 yk21).mono fun e w' ⟨h1, h2⟩ => ⟨by rw [hz21]; exact h1.eq, h2⟩)
  clear hz21 xa21 ya21 xk21 yk21
  obtain ⟨z25, hz25⟩ : ∃ z, z = dB (Ce.l xn25 xe25 = Ce.l yn25 ye25) := ⟨_, rfl⟩
  have HQ25 : Hid (z25 = true ↔ Ce.l xn25 xe25 = Ce.l yn25 ye25) := Lib.hid (by rw [hz25]; exact dB_iff _)
  have HK25 : Hid (∀ W, Below ((w.alloc (.cells vs 47)).alloc (.cells vs' 47)).heap.size ((w.alloc (.cells vs 47)).alloc (.cells vs' 47)) W → Calls Tryd.prog 53 #[xv25, yv25] W fun e w' => e = .returned (.bool z25) ∧ Below W.heap.size W w') := Lib.hid (fun W hW => (same_Ints10 (hb0.trans ((hb2.trans (hW.mono hb2.size)).mono hb0.size)) xa25 ya25 xk25 yk25).mono fun e w' ⟨h1, h2⟩ => ⟨by rw [hz25]; exact h1.eq, h2⟩)
  clear hz25 xa25 ya25 xk25 yk25
  obtain ⟨z26, hz26⟩ : ∃ z, z = dB (Ce.l xn26 xe26 = Ce.l yn26 ye26) := ⟨_, rfl⟩
  have HQ26 : Hid (z26 = true ↔ Ce.l xn26 xe26 = Ce.l yn26 ye26) := Lib.hid (by rw [hz26]; exact dB_iff _)
  have HK26 : Hid (∀ W, Below ((w.alloc (.cells vs 47)).alloc (.cells vs' 47)).heap.size ((w.alloc (.cells vs 47)).alloc (.cells vs' 47)) W → Calls Tryd.prog 53 #[xv26, yv26] W fun e w' => e = .returned (.bool z26) ∧ Below W.heap.size W w') := Lib.hid (fun W hW => (same_Ints10 (hb0.trans ((hb2.trans (hW.mono hb2.size)).mono hb0.size)) xa26 ya26 xk26 yk26).mono fun e w' ⟨h1, h2⟩ => ⟨by rw [hz26]; exact h1.eq, h2⟩)
  clear hz26 xa26 ya26 xk26 yk26
  obtain ⟨z27, hz27⟩ : ∃ z, z = dB (Ce.l xn27 xe27 = Ce.l yn27 ye27) := ⟨_, rfl⟩
  have HQ27 : Hid (z27 = true ↔ Ce.l xn27 xe27 = Ce.l yn27 ye27) := Lib.hid (by rw [hz27]; exact dB_iff _)
  have HK27 : Hid (∀ W, Below ((w.alloc (.cells vs 47)).alloc (.cells vs' 47)).heap.size ((w.alloc (.cells vs 47)).alloc (.cells vs' 47)) W → Calls Tryd.prog 53 #[xv27, yv27] W fun e w' => e = .returned (.bool z27) ∧ Below W.heap.size W w') := Lib.hid (fun W hW => (same_Ints10 (hb0.trans ((hb2.trans (hW.mono hb2.size)).mono hb0.size)) xa27 ya27 xk27 yk27).mono fun e w' ⟨h1, h2⟩ => ⟨by rw [hz27]; exact h1.eq, h2⟩)
  clear hz27 xa27 ya27 xk27 yk27
  obtain ⟨z28, hz28⟩ : ∃ z, z = dB (Ce.l xn28 xe28 = Ce.l yn28 ye28) := ⟨_, rfl⟩
  have HQ28 : Hid (z28 = true ↔ Ce.l xn28 xe28 = Ce.l yn28 ye28) := Lib.hid (by rw [hz28]; exact dB_iff _)
  have HK28 : Hid (∀ W, Below ((w.alloc (.cells vs 47)).alloc (.cells vs' 47)).heap.size ((w.alloc (.cells vs 47)).alloc (.cells vs' 47)) W → Calls Tryd.prog 14 #[xv28, yv28] W fun e w' => e = .returned (.bool z28) ∧ Below W.heap.size W w') := Lib.hid (fun W hW => (same_Strs (hb0.trans ((hb2.trans (hW.mono hb2.size)).mono hb0.size)) xa28 ya28 xk28 yk28).mono fun e w' ⟨h1, h2⟩ => ⟨by rw [hz28]; exact h1.eq, h2⟩)
  clear hz28 xa28 ya28 xk28 yk28
  obtain ⟨z30, hz30⟩ : ∃ z, z = dB (Ce.l xn30 xe30 = Ce.l yn30 ye30) := ⟨_, rfl⟩
  have HQ30 : Hid (z30 = true ↔ Ce.l xn30 xe30 = Ce.l yn30 ye30) := Lib.hid (by rw [hz30]; exact dB_iff _)
  have HK30 : Hid (∀ W, Below ((w.alloc (.cells vs 47)).alloc (.cells vs' 47)).heap.size ((w.alloc (.cells vs 47)).alloc (.cells vs' 47)) W → Calls Tryd.prog 14 #[xv30, yv30] W fun e w' => e = .returned (.bool z30) ∧ Below W.heap.size W w') := Lib.hid (fun W hW => (same_Strs (hb0.trans ((hb2.trans (hW.mono hb2.size)).mono hb0.size)) xa30 ya30 xk30 yk30).mono fun e w' ⟨h1, h2⟩ => ⟨by rw [hz30]; exact h1.eq, h2⟩)
  clear hz30 xa30 ya30 xk30 yk30
  obtain ⟨z31, hz31⟩ : ∃ z, z = dB (Ce.l xn31 xe31 = Ce.l yn31 ye31) := ⟨_, rfl⟩
  have HQ31 : Hid (z31 = true ↔ Ce.l xn31 xe31 = Ce.l yn31 ye31) := Lib.hid (by rw [hz31]; exact dB_iff _)
  have HK31 : Hid (∀ W, Below ((w.alloc (.cells vs 47)).alloc (.cells vs' 47)).heap.size ((w.alloc (.cells vs 47)).alloc (.cells vs' 47)) W → Calls Tryd.prog 14 #[xv31, yv31] W fun e w' => e = .returned (.bool z31) ∧ Below W.heap.size W w') := Lib.hid (fun W hW => (same_Strs (hb0.trans ((hb2.trans (hW.mono hb2.size)).mono hb0.size)) xa31 ya31 xk31 yk31).mono fun e w' ⟨h1, h2⟩ => ⟨by rw [hz31]; exact h1.eq, h2⟩)
  clear hz31 xa31 ya31 xk31 yk31
  obtain ⟨z32, hz32⟩ : ∃ z, z = dB (Ce.l xn32 xe32 = Ce.l yn32 ye32) := ⟨_, rfl⟩
  have HQ32 : Hid (z32 = true ↔ Ce.l xn32 xe32 = Ce.l yn32 ye32) := Lib.hid (by rw [hz32]; exact dB_iff _)
  have HK32 : Hid (∀ W, Below ((w.alloc (.cells vs 47)).alloc (.cells vs' 47)).heap.size ((w.alloc (.cells vs 47)).alloc (.cells vs' 47)) W → Calls Tryd.prog 14 #[xv32, yv32] W fun e w' => e = .returned (.bool z32) ∧ Below W.heap.size W w') := Lib.hid (fun W hW => (same_Strs (hb0.trans ((hb2.trans (hW.mono hb2.size)).mono hb0.size)) xa32 ya32 xk32 yk32).mono fun e w' ⟨h1, h2⟩ => ⟨by rw [hz32]; exact h1.eq, h2⟩)
  clear hz32 xa32 ya32 xk32 yk32
  obtain ⟨z33, hz33⟩ : ∃ z, z = dB (Ce.l xn33 xe33 = Ce.l yn33 ye33) := ⟨_, rfl⟩
  have HQ33 : Hid (z33 = true ↔ Ce.l xn33 xe33 = Ce.l yn33 ye33) := Lib.hid (by rw [hz33]; exact dB_iff _)
  have HK33 : Hid (∀ W, Below ((w.alloc (.cells vs 47)).alloc (.cells vs' 47)).heap.size ((w.alloc (.cells vs 47)).alloc (.cells vs' 47)) W → Calls Tryd.prog 14 #[xv33, yv33] W fun e w' => e = .returned (.bool z33) ∧ Below W.heap.size W w') := Lib.hid (fun W hW => (same_Strs (hb0.trans ((hb2.trans (hW.mono hb2.size)).mono hb0.size)) xa33 ya33 xk33 yk33).mono fun e w' ⟨h1, h2⟩ => ⟨by rw [hz33]; exact h1.eq, h2⟩)
  clear hz33 xa33 ya33 xk33 yk33
  obtain ⟨PP, hPP⟩ : ∃ PP, PP = ([Ce.s x0, Ce.i x1, Ce.s x2, Ce.b x3, Ce.l xn4 xe4, Ce.i x5, Ce.i x6, Ce.i x7, Ce.l xn8 xe8, Ce.l xn9 xe9, Ce.l xn10 xe10, Ce.l xn11 xe11, Ce.l xn12 xe12, Ce.b x13, Ce.i x14, Ce.i x15, Ce.i x16, Ce.i x17, Ce.l xn18 xe18, Ce.l xn19 xe19, Ce.l xn20 xe20, Ce.l xn21 xe21, Ce.i x22, Ce.s x23, Ce.s x24, Ce.l xn25 xe25, Ce.l xn26 xe26, Ce.l xn27 xe27, Ce.l xn28 xe28, Ce.b x29, Ce.l xn30 xe30, Ce.l xn31 xe31, Ce.l xn32 xe32, Ce.l xn33 xe33, Ce.s x34] = [Ce.s y0, Ce.i y1, Ce.s y2, Ce.b y3, Ce.l yn4 ye4, Ce.i y5, Ce.i y6, Ce.i y7, Ce.l yn8 ye8, Ce.l yn9 ye9, Ce.l yn10 ye10, Ce.l yn11 ye11, Ce.l yn12 ye12, Ce.b y13, Ce.i y14, Ce.i y15, Ce.i y16, Ce.i y17, Ce.l yn18 ye18, Ce.l yn19 ye19, Ce.l yn20 ye20, Ce.l yn21 ye21, Ce.i y22, Ce.s y23, Ce.s y24, Ce.l yn25 ye25, Ce.l yn26 ye26, Ce.l yn27 ye27, Ce.l yn28 ye28, Ce.b y29, Ce.l yn30 ye30, Ce.l yn31 ye31, Ce.l yn32 ye32, Ce.l yn33 ye33, Ce.s y34]) := ⟨_, rfl⟩
  rw [← hPP]
  have HPP : Hid (PP ↔ (x0 = y0 ∧ x1 = y1 ∧ x2 = y2 ∧ x3 = y3 ∧ x5 = y5 ∧ x6 = y6 ∧ x7 = y7 ∧ x13 = y13 ∧ x14 = y14 ∧ x15 = y15 ∧ x16 = y16 ∧ x17 = y17 ∧ x22 = y22 ∧ x23 = y23 ∧ x24 = y24 ∧ x29 = y29 ∧ x34 = y34) ∧ (Ce.l xn8 xe8 = Ce.l yn8 ye8 ∧ Ce.l xn9 xe9 = Ce.l yn9 ye9 ∧ Ce.l xn10 xe10 = Ce.l yn10 ye10 ∧ Ce.l xn11 xe11 = Ce.l yn11 ye11 ∧ Ce.l xn12 xe12 = Ce.l yn12 ye12) ∧ (Ce.l xn18 xe18 = Ce.l yn18 ye18 ∧ Ce.l xn21 xe21 = Ce.l yn21 ye21 ∧ Ce.l xn25 xe25 = Ce.l yn25 ye25 ∧ Ce.l xn26 xe26 = Ce.l yn26 ye26 ∧ Ce.l xn27 xe27 = Ce.l yn27 ye27) ∧ (Ce.l xn20 xe20 = Ce.l yn20 ye20 ∧ Ce.l xn28 xe28 = Ce.l yn28 ye28 ∧ Ce.l xn30 xe30 = Ce.l yn30 ye30 ∧ Ce.l xn31 xe31 = Ce.l yn31 ye31 ∧ Ce.l xn32 xe32 = Ce.l yn32 ye32 ∧ Ce.l xn33 xe33 = Ce.l yn33 ye33) ∧ (Ce.l xn19 xe19 = Ce.l yn19 ye19 ∧ Ce.l xn4 xe4 = Ce.l yn4 ye4)) := Lib.hid (by
rw [hPP]
simp only [List.cons.injEq, Ce.s.injEq, Ce.i.injEq, Ce.b.injEq, and_true]
constructor
· rintro ⟨h0, h1, h2, h3, h4, h5, h6, h7, h8, h9, h10, h11, h12, h13, h14, h15, h16, h17, h18, h19, h20, h21, h22, h23, h24, h25, h26, h27, h28, h29, h30, h31, h32, h33, h34⟩
  exact ⟨⟨h0, h1, h2, h3, h5, h6, h7, h13, h14, h15, h16, h17, h22, h23, h24, h29, h34⟩, ⟨h8, h9, h10, h11, h12⟩, ⟨h18, h21, h25, h26, h27⟩, ⟨h20, h28, h30, h31, h32, h33⟩, ⟨h19, h4⟩⟩
· rintro ⟨⟨h0, h1, h2, h3, h5, h6, h7, h13, h14, h15, h16, h17, h22, h23, h24, h29, h34⟩, ⟨h8, h9, h10, h11, h12⟩, ⟨h18, h21, h25, h26, h27⟩, ⟨h20, h28, h30, h31, h32, h33⟩, ⟨h19, h4⟩⟩
  exact ⟨h0, h1, h2, h3, h4, h5, h6, h7, h8, h9, h10, h11, h12, h13, h14, h15, h16, h17, h18, h19, h20, h21, h22, h23, h24, h25, h26, h27, h28, h29, h30, h31, h32, h33, h34⟩)
  clear hPP
  obtain ⟨z0, hz0⟩ : ∃ z, z = dB (x0 = y0) := ⟨_, rfl⟩
  have HQ0 : Hid (z0 = true ↔ x0 = y0) := Lib.hid (by rw [hz0]; exact dB_iff _)
  clear hz0
  obtain ⟨z1, hz1⟩ : ∃ z, z = dB (x1 = y1) := ⟨_, rfl⟩
  have HQ1 : Hid (z1 = true ↔ x1 = y1) := Lib.hid (by rw [hz1]; exact dB_iff _)
  clear hz1
  obtain ⟨z2, hz2⟩ : ∃ z, z = dB (x2 = y2) := ⟨_, rfl⟩
  have HQ2 : Hid (z2 = true ↔ x2 = y2) := Lib.hid (by rw [hz2]; exact dB_iff _)
  clear hz2
  obtain ⟨z3, hz3⟩ : ∃ z, z = dB (x3 = y3) := ⟨_, rfl⟩
  have HQ3 : Hid (z3 = true ↔ x3 = y3) := Lib.hid (by rw [hz3]; exact dB_iff _)
  clear hz3
  obtain ⟨z5, hz5⟩ : ∃ z, z = dB (x5 = y5) := ⟨_, rfl⟩
  have HQ5 : Hid (z5 = true ↔ x5 = y5) := Lib.hid (by rw [hz5]; exact dB_iff _)
  clear hz5
  obtain ⟨z6, hz6⟩ : ∃ z, z = dB (x6 = y6) := ⟨_, rfl⟩
  have HQ6 : Hid (z6 = true ↔ x6 = y6) := Lib.hid (by rw [hz6]; exact dB_iff _)
  clear hz6
  obtain ⟨z7, hz7⟩ : ∃ z, z = dB (x7 = y7) := ⟨_, rfl⟩
  have HQ7 : Hid (z7 = true ↔ x7 = y7) := Lib.hid (by rw [hz7]; exact dB_iff _)
  clear hz7
  obtain ⟨z13, hz13⟩ : ∃ z, z = dB (x13 = y13) := ⟨_, rfl⟩
  have HQ13 : Hid (z13 = true ↔ x13 = y13) := Lib.hid (by rw [hz13]; exact dB_iff _)
  clear hz13
  obtain ⟨z14, hz14⟩ : ∃ z, z = dB (x14 = y14) := ⟨_, rfl⟩
  have HQ14 : Hid (z14 = true ↔ x14 = y14) := Lib.hid (by rw [hz14]; exact dB_iff _)
  clear hz14
  obtain ⟨z15, hz15⟩ : ∃ z, z = dB (x15 = y15) := ⟨_, rfl⟩
  have HQ15 : Hid (z15 = true ↔ x15 = y15) := Lib.hid (by rw [hz15]; exact dB_iff _)
  clear hz15
  obtain ⟨z16, hz16⟩ : ∃ z, z = dB (x16 = y16) := ⟨_, rfl⟩
  have HQ16 : Hid (z16 = true ↔ x16 = y16) := Lib.hid (by rw [hz16]; exact dB_iff _)
  clear hz16
  obtain ⟨z17, hz17⟩ : ∃ z, z = dB (x17 = y17) := ⟨_, rfl⟩
  have HQ17 : Hid (z17 = true ↔ x17 = y17) := Lib.hid (by rw [hz17]; exact dB_iff _)
  clear hz17
  obtain ⟨z22, hz22⟩ : ∃ z, z = dB (x22 = y22) := ⟨_, rfl⟩
  have HQ22 : Hid (z22 = true ↔ x22 = y22) := Lib.hid (by rw [hz22]; exact dB_iff _)
  clear hz22
  obtain ⟨z23, hz23⟩ : ∃ z, z = dB (x23 = y23) := ⟨_, rfl⟩
  have HQ23 : Hid (z23 = true ↔ x23 = y23) := Lib.hid (by rw [hz23]; exact dB_iff _)
  clear hz23
  obtain ⟨z24, hz24⟩ : ∃ z, z = dB (x24 = y24) := ⟨_, rfl⟩
  have HQ24 : Hid (z24 = true ↔ x24 = y24) := Lib.hid (by rw [hz24]; exact dB_iff _)
  clear hz24
  obtain ⟨z29, hz29⟩ : ∃ z, z = dB (x29 = y29) := ⟨_, rfl⟩
  have HQ29 : Hid (z29 = true ↔ x29 = y29) := Lib.hid (by rw [hz29]; exact dB_iff _)
  clear hz29
  obtain ⟨z34, hz34⟩ : ∃ z, z = dB (x34 = y34) := ⟨_, rfl⟩
  have HQ34 : Hid (z34 = true ↔ x34 = y34) := Lib.hid (by rw [hz34]; exact dB_iff _)
  clear hz34
  have hv1 : ∀ j v, vs.toList[j]? = some v → ∀ t, uVal vs vs' t false j = v := fun j v h t => by
    show (vs[j]?).getD undef = v
    rw [← Array.getElem?_toList, h]
    rfl
  have hv2 : ∀ j v, vs'.toList[j]? = some v → ∀ t, uVal vs vs' t true j = v := fun j v h t => by
    show (vs'[j]?).getD undef = v
    rw [← Array.getElem?_toList, h]
    rfl
  have HO : Hid (Ora Tryd.prog (fun W => Below ((w.alloc (.cells vs 47)).alloc (.cells vs' 47)).heap.size ((w.alloc (.cells vs 47)).alloc (.cells vs' 47)) W) (uBase w.heap.size (w.heap.size + 1)) (uVal vs vs') (uSy (uZ [z0, z1, z2, z3, z4, z5, z6, z7, z8, z9, z10, z11, z12, z13, z14, z15, z16, z17, z18, z19, z20, z21, z22, z23, z24, z25, z26, z27, z28, z29, z30, z31, z32, z33, z34]))) := Lib.hid (by
    refine ⟨fun s f k b off W h => ?_, fun t b j W h hW => ?_, fun t j e x y W h => ?_, fun t j e x y W h => ?_, fun f t j e a o x y W h hW hx hy c hc h1 h2 => ?_⟩
    · simp only [uSy] at h
      split at h
      · rename_i hh
        obtain ⟨rfl, hf⟩ := hh
        injection h with h
        subst h
        have h35 := uTy_lt hf
        rcases lt35 h35 with rfl | rfl | rfl | rfl | rfl | rfl | rfl | rfl | rfl | rfl | rfl | rfl | rfl | rfl | rfl | rfl | rfl | rfl | rfl | rfl | rfl | rfl | rfl | rfl | rfl | rfl | rfl | rfl | rfl | rfl | rfl | rfl | rfl | rfl | rfl <;> exact run_fieldAt_mid W _ off _ _ _ _ Tryd.underlying47 _ rfl rfl 1 (by kernel_rfl) (by decide)
      · cases h
    · simp only [uSy, beq_iff_eq] at h
      have h35 : j < 35 := uTy_lt (by rw [h]; rfl)
      have hc : W.cell? ⟨uBase w.heap.size (w.heap.size + 1) b, j, none⟩ = some (uVal vs vs' t b j) := by
        cases b with
        | false =>
          have hl : j < vs.size := by rw [← Array.length_toList, HL1.out]; exact h35
          show W.cell? ⟨w.heap.size, j, none⟩ = some ((vs[j]?).getD undef)
          rw [cell_of_row W _ j _ _ _ ((hW.block _ (by simp; omega)).trans hx1), Array.getElem?_eq_getElem hl]
          rfl
        | true =>
          have hl : j < vs'.size := by rw [← Array.length_toList, HL2.out]; exact h35
          show W.cell? ⟨w.heap.size + 1, j, none⟩ = some ((vs'[j]?).getD undef)
          rw [cell_of_row W _ j _ _ _ ((hW.block _ (by simp)).trans hx2), Array.getElem?_eq_getElem hl]
          rfl
      rcases lt35 h35 with rfl | rfl | rfl | rfl | rfl | rfl | rfl | rfl | rfl | rfl | rfl | rfl | rfl | rfl | rfl | rfl | rfl | rfl | rfl | rfl | rfl | rfl | rfl | rfl | rfl | rfl | rfl | rfl | rfl | rfl | rfl | rfl | rfl | rfl | rfl <;> (injection h with h; subst h)
      · exact run_loadAt_cell W _ _ _ _ _ Tryd.underlying9 rfl hc
      · exact run_loadAt_cell W _ _ _ _ _ Tryd.underlying3 rfl hc
      · exact run_loadAt_cell W _ _ _ _ _ Tryd.underlying9 rfl hc
      · exact run_loadAt_cell W _ _ _ _ _ Tryd.underlying4 rfl hc
      · exact run_loadAt_cell W _ _ _ _ _ Tryd.underlying42 rfl hc
      · exact run_loadAt_cell W _ _ _ _ _ Tryd.underlying3 rfl hc
      · exact run_loadAt_cell W _ _ _ _ _ Tryd.underlying3 rfl hc
      · exact run_loadAt_cell W _ _ _ _ _ Tryd.underlying3 rfl hc
      · exact run_loadAt_cell W _ _ _ _ _ Tryd.underlying43 rfl hc
      · exact run_loadAt_cell W _ _ _ _ _ Tryd.underlying43 rfl hc
      · exact run_loadAt_cell W _ _ _ _ _ Tryd.underlying43 rfl hc
      · exact run_loadAt_cell W _ _ _ _ _ Tryd.underlying43 rfl hc
      · exact run_loadAt_cell W _ _ _ _ _ Tryd.underlying43 rfl hc
      · exact run_loadAt_cell W _ _ _ _ _ Tryd.underlying4 rfl hc
      · exact run_loadAt_cell W _ _ _ _ _ Tryd.underlying3 rfl hc
      · exact run_loadAt_cell W _ _ _ _ _ Tryd.underlying3 rfl hc
      · exact run_loadAt_cell W _ _ _ _ _ Tryd.underlying3 rfl hc
      · exact run_loadAt_cell W _ _ _ _ _ Tryd.underlying3 rfl hc
      · exact run_loadAt_cell W _ _ _ _ _ Tryd.underlying44 rfl hc
      · exact run_loadAt_cell W _ _ _ _ _ Tryd.underlying45 rfl hc
      · exact run_loadAt_cell W _ _ _ _ _ Tryd.underlying22 rfl hc
      · exact run_loadAt_cell W _ _ _ _ _ Tryd.underlying44 rfl hc
      · exact run_loadAt_cell W _ _ _ _ _ Tryd.underlying3 rfl hc
      · exact run_loadAt_cell W _ _ _ _ _ Tryd.underlying9 rfl hc
      · exact run_loadAt_cell W _ _ _ _ _ Tryd.underlying9 rfl hc
      · exact run_loadAt_cell W _ _ _ _ _ Tryd.underlying44 rfl hc
      · exact run_loadAt_cell W _ _ _ _ _ Tryd.underlying44 rfl hc
      · exact run_loadAt_cell W _ _ _ _ _ Tryd.underlying44 rfl hc
      · exact run_loadAt_cell W _ _ _ _ _ Tryd.underlying22 rfl hc
      · exact run_loadAt_cell W _ _ _ _ _ Tryd.underlying4 rfl hc
      · exact run_loadAt_cell W _ _ _ _ _ Tryd.underlying22 rfl hc
      · exact run_loadAt_cell W _ _ _ _ _ Tryd.underlying22 rfl hc
      · exact run_loadAt_cell W _ _ _ _ _ Tryd.underlying22 rfl hc
      · exact run_loadAt_cell W _ _ _ _ _ Tryd.underlying22 rfl hc
      · exact run_loadAt_cell W _ _ _ _ _ Tryd.underlying9 rfl hc
    · simp only [uSy] at h
      split at h
      · rename_i hh
        obtain ⟨hh, hn⟩ := hh
        injection h with h
        have h35 : j < 35 := uTy_lt (by rw [hh]; rfl)
        rcases lt35 h35 with rfl | rfl | rfl | rfl | rfl | rfl | rfl | rfl | rfl | rfl | rfl | rfl | rfl | rfl | rfl | rfl | rfl | rfl | rfl | rfl | rfl | rfl | rfl | rfl | rfl | rfl | rfl | rfl | rfl | rfl | rfl | rfl | rfl | rfl | rfl <;> first | (cases hn; done) | (injection hh with hh; subst hh)
        · rw [hv1 0 _ (by rw [HL1.out]; rfl), hv2 0 _ (by rw [HL2.out]; rfl)]
          exact eql_str W _ x y _ _ Tryd.underlying9 e (by rw [← h]; exact HQ0.out)
        · rw [hv1 1 _ (by rw [HL1.out]; rfl), hv2 1 _ (by rw [HL2.out]; rfl)]
          exact eql_int W _ x y _ _ Tryd.underlying3 e (by rw [← h]; exact HQ1.out)
        · rw [hv1 2 _ (by rw [HL1.out]; rfl), hv2 2 _ (by rw [HL2.out]; rfl)]
          exact eql_str W _ x y _ _ Tryd.underlying9 e (by rw [← h]; exact HQ2.out)
        · rw [hv1 3 _ (by rw [HL1.out]; rfl), hv2 3 _ (by rw [HL2.out]; rfl)]
          exact eql_bool W _ x y _ _ Tryd.underlying4 e (by rw [← h]; exact HQ3.out)
        · rw [hv1 5 _ (by rw [HL1.out]; rfl), hv2 5 _ (by rw [HL2.out]; rfl)]
          exact eql_int W _ x y _ _ Tryd.underlying3 e (by rw [← h]; exact HQ5.out)
        · rw [hv1 6 _ (by rw [HL1.out]; rfl), hv2 6 _ (by rw [HL2.out]; rfl)]
          exact eql_int W _ x y _ _ Tryd.underlying3 e (by rw [← h]; exact HQ6.out)
        · rw [hv1 7 _ (by rw [HL1.out]; rfl), hv2 7 _ (by rw [HL2.out]; rfl)]
          exact eql_int W _ x y _ _ Tryd.underlying3 e (by rw [← h]; exact HQ7.out)
        · rw [hv1 13 _ (by rw [HL1.out]; rfl), hv2 13 _ (by rw [HL2.out]; rfl)]
          exact eql_bool W _ x y _ _ Tryd.underlying4 e (by rw [← h]; exact HQ13.out)
        · rw [hv1 14 _ (by rw [HL1.out]; rfl), hv2 14 _ (by rw [HL2.out]; rfl)]
          exact eql_int W _ x y _ _ Tryd.underlying3 e (by rw [← h]; exact HQ14.out)
        · rw [hv1 15 _ (by rw [HL1.out]; rfl), hv2 15 _ (by rw [HL2.out]; rfl)]
          exact eql_int W _ x y _ _ Tryd.underlying3 e (by rw [← h]; exact HQ15.out)
        · rw [hv1 16 _ (by rw [HL1.out]; rfl), hv2 16 _ (by rw [HL2.out]; rfl)]
          exact eql_int W _ x y _ _ Tryd.underlying3 e (by rw [← h]; exact HQ16.out)
        · rw [hv1 17 _ (by rw [HL1.out]; rfl), hv2 17 _ (by rw [HL2.out]; rfl)]
          exact eql_int W _ x y _ _ Tryd.underlying3 e (by rw [← h]; exact HQ17.out)
        · rw [hv1 22 _ (by rw [HL1.out]; rfl), hv2 22 _ (by rw [HL2.out]; rfl)]
          exact eql_int W _ x y _ _ Tryd.underlying3 e (by rw [← h]; exact HQ22.out)
        · rw [hv1 23 _ (by rw [HL1.out]; rfl), hv2 23 _ (by rw [HL2.out]; rfl)]
          exact eql_str W _ x y _ _ Tryd.underlying9 e (by rw [← h]; exact HQ23.out)
        · rw [hv1 24 _ (by rw [HL1.out]; rfl), hv2 24 _ (by rw [HL2.out]; rfl)]
          exact eql_str W _ x y _ _ Tryd.underlying9 e (by rw [← h]; exact HQ24.out)
        · rw [hv1 29 _ (by rw [HL1.out]; rfl), hv2 29 _ (by rw [HL2.out]; rfl)]
          exact eql_bool W _ x y _ _ Tryd.underlying4 e (by rw [← h]; exact HQ29.out)
        · rw [hv1 34 _ (by rw [HL1.out]; rfl), hv2 34 _ (by rw [HL2.out]; rfl)]
          exact eql_str W _ x y _ _ Tryd.underlying9 e (by rw [← h]; exact HQ34.out)
      · cases h
    · simp only [uSy] at h
      split at h
      · rename_i hh
        obtain ⟨hh, hn⟩ := hh
        injection h with h
        have h35 : j < 35 := uTy_lt (by rw [hh]; rfl)
        rcases lt35 h35 with rfl | rfl | rfl | rfl | rfl | rfl | rfl | rfl | rfl | rfl | rfl | rfl | rfl | rfl | rfl | rfl | rfl | rfl | rfl | rfl | rfl | rfl | rfl | rfl | rfl | rfl | rfl | rfl | rfl | rfl | rfl | rfl | rfl | rfl | rfl <;> first | (cases hn; done) | (injection hh with hh; subst hh)
        · rw [hv1 0 _ (by rw [HL1.out]; rfl), hv2 0 _ (by rw [HL2.out]; rfl)]
          exact neq_str W _ x y _ _ Tryd.underlying9 e (by rw [← h]; exact HQ0.out)
        · rw [hv1 1 _ (by rw [HL1.out]; rfl), hv2 1 _ (by rw [HL2.out]; rfl)]
          exact neq_int W _ x y _ _ Tryd.underlying3 e (by rw [← h]; exact HQ1.out)
        · rw [hv1 2 _ (by rw [HL1.out]; rfl), hv2 2 _ (by rw [HL2.out]; rfl)]
          exact neq_str W _ x y _ _ Tryd.underlying9 e (by rw [← h]; exact HQ2.out)
        · rw [hv1 3 _ (by rw [HL1.out]; rfl), hv2 3 _ (by rw [HL2.out]; rfl)]
          exact neq_bool W _ x y _ _ Tryd.underlying4 e (by rw [← h]; exact HQ3.out)
        · rw [hv1 5 _ (by rw [HL1.out]; rfl), hv2 5 _ (by rw [HL2.out]; rfl)]
          exact neq_int W _ x y _ _ Tryd.underlying3 e (by rw [← h]; exact HQ5.out)
        · rw [hv1 6 _ (by rw [HL1.out]; rfl), hv2 6 _ (by rw [HL2.out]; rfl)]
          exact neq_int W _ x y _ _ Tryd.underlying3 e (by rw [← h]; exact HQ6.out)
        · rw [hv1 7 _ (by rw [HL1.out]; rfl), hv2 7 _ (by rw [HL2.out]; rfl)]
          exact neq_int W _ x y _ _ Tryd.underlying3 e (by rw [← h]; exact HQ7.out)
        · rw [hv1 13 _ (by rw [HL1.out]; rfl), hv2 13 _ (by rw [HL2.out]; rfl)]
          exact neq_bool W _ x y _ _ Tryd.underlying4 e (by rw [← h]; exact HQ13.out)
        · rw [hv1 14 _ (by rw [HL1.out]; rfl), hv2 14 _ (by rw [HL2.out]; rfl)]
          exact neq_int W _ x y _ _ Tryd.underlying3 e (by rw [← h]; exact HQ14.out)
        · rw [hv1 15 _ (by rw [HL1.out]; rfl), hv2 15 _ (by rw [HL2.out]; rfl)]
          exact neq_int W _ x y _ _ Tryd.underlying3 e (by rw [← h]; exact HQ15.out)
        · rw [hv1 16 _ (by rw [HL1.out]; rfl), hv2 16 _ (by rw [HL2.out]; rfl)]
          exact neq_int W _ x y _ _ Tryd.underlying3 e (by rw [← h]; exact HQ16.out)
        · rw [hv1 17 _ (by rw [HL1.out]; rfl), hv2 17 _ (by rw [HL2.out]; rfl)]
          exact neq_int W _ x y _ _ Tryd.underlying3 e (by rw [← h]; exact HQ17.out)
        · rw [hv1 22 _ (by rw [HL1.out]; rfl), hv2 22 _ (by rw [HL2.out]; rfl)]
          exact neq_int W _ x y _ _ Tryd.underlying3 e (by rw [← h]; exact HQ22.out)
        · rw [hv1 23 _ (by rw [HL1.out]; rfl), hv2 23 _ (by rw [HL2.out]; rfl)]
          exact neq_str W _ x y _ _ Tryd.underlying9 e (by rw [← h]; exact HQ23.out)
        · rw [hv1 24 _ (by rw [HL1.out]; rfl), hv2 24 _ (by rw [HL2.out]; rfl)]
          exact neq_str W _ x y _ _ Tryd.underlying9 e (by rw [← h]; exact HQ24.out)
        · rw [hv1 29 _ (by rw [HL1.out]; rfl), hv2 29 _ (by rw [HL2.out]; rfl)]
          exact neq_bool W _ x y _ _ Tryd.underlying4 e (by rw [← h]; exact HQ29.out)
        · rw [hv1 34 _ (by rw [HL1.out]; rfl), hv2 34 _ (by rw [HL2.out]; rfl)]
          exact neq_str W _ x y _ _ Tryd.underlying9 e (by rw [← h]; exact HQ34.out)
      · cases h
    · simp only [uSy] at h
      split at h
      · rename_i hh
        obtain ⟨hh, hn⟩ := hh
        injection h with h
        have h35 : j < 35 := uTy_lt (by rw [hh]; rfl)
        rcases lt35 h35 with rfl | rfl | rfl | rfl | rfl | rfl | rfl | rfl | rfl | rfl | rfl | rfl | rfl | rfl | rfl | rfl | rfl | rfl | rfl | rfl | rfl | rfl | rfl | rfl | rfl | rfl | rfl | rfl | rfl | rfl | rfl | rfl | rfl | rfl | rfl <;> first | (cases hn; done) | (injection hn with hn; subst hn)
        · refine call_quiet (fun args w => Tryd.call55 args w) hc h1 h2 ?_
          rw [hx, hy, hv1 4 _ (by rw [HL1.out]; rfl), hv2 4 _ (by rw [HL2.out]; rfl), ← h]
          exact (HK4.out W hW).mono fun e w' ⟨he, hb⟩ => ⟨he, hW.trans (hb.mono hW.size)⟩
        · refine call_quiet (fun args w => Tryd.call52 args w) hc h1 h2 ?_
          rw [hx, hy, hv1 8 _ (by rw [HL1.out]; rfl), hv2 8 _ (by rw [HL2.out]; rfl), ← h]
          exact (HK8.out W hW).mono fun e w' ⟨he, hb⟩ => ⟨he, hW.trans (hb.mono hW.size)⟩
        · refine call_quiet (fun args w => Tryd.call52 args w) hc h1 h2 ?_
          rw [hx, hy, hv1 9 _ (by rw [HL1.out]; rfl), hv2 9 _ (by rw [HL2.out]; rfl), ← h]
          exact (HK9.out W hW).mono fun e w' ⟨he, hb⟩ => ⟨he, hW.trans (hb.mono hW.size)⟩
        · refine call_quiet (fun args w => Tryd.call52 args w) hc h1 h2 ?_
          rw [hx, hy, hv1 10 _ (by rw [HL1.out]; rfl), hv2 10 _ (by rw [HL2.out]; rfl), ← h]
          exact (HK10.out W hW).mono fun e w' ⟨he, hb⟩ => ⟨he, hW.trans (hb.mono hW.size)⟩
        · refine call_quiet (fun args w => Tryd.call52 args w) hc h1 h2 ?_
          rw [hx, hy, hv1 11 _ (by rw [HL1.out]; rfl), hv2 11 _ (by rw [HL2.out]; rfl), ← h]
          exact (HK11.out W hW).mono fun e w' ⟨he, hb⟩ => ⟨he, hW.trans (hb.mono hW.size)⟩
        · refine call_quiet (fun args w => Tryd.call52 args w) hc h1 h2 ?_
          rw [hx, hy, hv1 12 _ (by rw [HL1.out]; rfl), hv2 12 _ (by rw [HL2.out]; rfl), ← h]
          exact (HK12.out W hW).mono fun e w' ⟨he, hb⟩ => ⟨he, hW.trans (hb.mono hW.size)⟩
        · refine call_quiet (fun args w => Tryd.call53 args w) hc h1 h2 ?_
          rw [hx, hy, hv1 18 _ (by rw [HL1.out]; rfl), hv2 18 _ (by rw [HL2.out]; rfl), ← h]
          exact (HK18.out W hW).mono fun e w' ⟨he, hb⟩ => ⟨he, hW.trans (hb.mono hW.size)⟩
        · refine call_quiet (fun args w => Tryd.call54 args w) hc h1 h2 ?_
          rw [hx, hy, hv1 19 _ (by rw [HL1.out]; rfl), hv2 19 _ (by rw [HL2.out]; rfl), ← h]
          exact (HK19.out W hW).mono fun e w' ⟨he, hb⟩ => ⟨he, hW.trans (hb.mono hW.size)⟩
        · refine call_quiet (fun args w => Tryd.call14 args w) hc h1 h2 ?_
          rw [hx, hy, hv1 20 _ (by rw [HL1.out]; rfl), hv2 20 _ (by rw [HL2.out]; rfl), ← h]
          exact (HK20.out W hW).mono fun e w' ⟨he, hb⟩ => ⟨he, hW.trans (hb.mono hW.size)⟩
        · refine call_quiet (fun args w => Tryd.call53 args w) hc h1 h2 ?_
          rw [hx, hy, hv1 21 _ (by rw [HL1.out]; rfl), hv2 21 _ (by rw [HL2.out]; rfl), ← h]
          exact (HK21.out W hW).mono fun e w' ⟨he, hb⟩ => ⟨he, hW.trans (hb.mono hW.size)⟩
        · refine call_quiet (fun args w => Tryd.call53 args w) hc h1 h2 ?_
          rw [hx, hy, hv1 25 _ (by rw [HL1.out]; rfl), hv2 25 _ (by rw [HL2.out]; rfl), ← h]
          exact (HK25.out W hW).mono fun e w' ⟨he, hb⟩ => ⟨he, hW.trans (hb.mono hW.size)⟩
        · refine call_quiet (fun args w => Tryd.call53 args w) hc h1 h2 ?_
          rw [hx, hy, hv1 26 _ (by rw [HL1.out]; rfl), hv2 26 _ (by rw [HL2.out]; rfl), ← h]
          exact (HK26.out W hW).mono fun e w' ⟨he, hb⟩ => ⟨he, hW.trans (hb.mono hW.size)⟩
        · refine call_quiet (fun args w => Tryd.call53 args w) hc h1 h2 ?_
          rw [hx, hy, hv1 27 _ (by rw [HL1.out]; rfl), hv2 27 _ (by rw [HL2.out]; rfl), ← h]
          exact (HK27.out W hW).mono fun e w' ⟨he, hb⟩ => ⟨he, hW.trans (hb.mono hW.size)⟩
        · refine call_quiet (fun args w => Tryd.call14 args w) hc h1 h2 ?_
          rw [hx, hy, hv1 28 _ (by rw [HL1.out]; rfl), hv2 28 _ (by rw [HL2.out]; rfl), ← h]
          exact (HK28.out W hW).mono fun e w' ⟨he, hb⟩ => ⟨he, hW.trans (hb.mono hW.size)⟩
        · refine call_quiet (fun args w => Tryd.call14 args w) hc h1 h2 ?_
          rw [hx, hy, hv1 30 _ (by rw [HL1.out]; rfl), hv2 30 _ (by rw [HL2.out]; rfl), ← h]
          exact (HK30.out W hW).mono fun e w' ⟨he, hb⟩ => ⟨he, hW.trans (hb.mono hW.size)⟩
        · refine call_quiet (fun args w => Tryd.call14 args w) hc h1 h2 ?_
          rw [hx, hy, hv1 31 _ (by rw [HL1.out]; rfl), hv2 31 _ (by rw [HL2.out]; rfl), ← h]
          exact (HK31.out W hW).mono fun e w' ⟨he, hb⟩ => ⟨he, hW.trans (hb.mono hW.size)⟩
        · refine call_quiet (fun args w => Tryd.call14 args w) hc h1 h2 ?_
          rw [hx, hy, hv1 32 _ (by rw [HL1.out]; rfl), hv2 32 _ (by rw [HL2.out]; rfl), ← h]
          exact (HK32.out W hW).mono fun e w' ⟨he, hb⟩ => ⟨he, hW.trans (hb.mono hW.size)⟩
        · refine call_quiet (fun args w => Tryd.call14 args w) hc h1 h2 ?_
          rw [hx, hy, hv1 33 _ (by rw [HL1.out]; rfl), hv2 33 _ (by rw [HL2.out]; rfl), ← h]
          exact (HK33.out W hW).mono fun e w' ⟨he, hb⟩ => ⟨he, hW.trans (hb.mono hW.size)⟩
      · cases h)
  clear hv1 hv2 hx1 hx2 ho ho' ha ha' hb0
  go_enter Tryd.func29, Tryd.ntmps29
  go_upto_region 1 with fail
  generalize (w.alloc (.cells vs 47)).alloc (.cells vs' 47) = w2 at *
  refine wp_plain_quiet (C := fun W => Below w2.heap.size w2 W) (Below.refl _ _) (srun_kn (N := 256) (F := Gk [2, 3, 4] [.box false 0, .box true 0, .bl false]) HO.out ?hN [2, 3, 5] [.box false 0, .box true 0, .bl (z0 && (z1 && (z2 && (z3 && (z5 && (z6 && (z7 && (z13 && (z14 && (z15 && (z16 && (z17 && (z22 && (z23 && (z24 && (z29 && z34))))))))))))))))] ?hs ?hf ?_)
  case hN => kernel_rfl
  case hf =>
    refine ⟨by rfl, fun i => ?_⟩
    by_cases h2 : i = 2
    · subst h2; rfl
    · by_cases h3 : i = 3
      · subst h3; rfl
      · by_cases h4 : i = 4
        · subst h4; rfl
        · rw [gk3 h2 h3 h4]
          trivial
  case hs =>
    clear HQ0 HQ1 HQ2 HQ3 HQ4 HQ5 HQ6 HQ7 HQ8 HQ9 HQ10 HQ11 HQ12 HQ13 HQ14 HQ15 HQ16 HQ17 HQ18 HQ19 HQ20 HQ21 HQ22 HQ23 HQ24 HQ25 HQ26 HQ27 HQ28 HQ29 HQ30 HQ31 HQ32 HQ33 HQ34 HK4 HK8 HK9 HK10 HK11 HK12 HK18 HK19 HK20 HK21 HK25 HK26 HK27 HK28 HK30 HK31 HK32 HK33 HO HPP HL1 HL2
    cases z0
    · kernel_rfl
    · cases z1
      · kernel_rfl
      · cases z2
        · kernel_rfl
        · cases z3
          · kernel_rfl
          · cases z5
            · kernel_rfl
            · cases z6
              · kernel_rfl
              · cases z7
                · kernel_rfl
                · cases z13
                  · kernel_rfl
                  · cases z14
                    · kernel_rfl
                    · cases z15
                      · kernel_rfl
                      · cases z16
                        · kernel_rfl
                        · cases z17
                          · kernel_rfl
                          · cases z22
                            · kernel_rfl
                            · cases z23
                              · kernel_rfl
                              · cases z24
                                · kernel_rfl
                                · cases z29
                                  · kernel_rfl
                                  · cases z34
                                    · kernel_rfl
                                    · kernel_rfl
  rintro a1 hd1 hf1 w3 hb3
  have HF1 := Lib.hid hf1
  have HB3 := Lib.hid hb3
  clear hf1 hb3
  simp only at hd1
  generalize hB1 : (z0 && (z1 && (z2 && (z3 && (z5 && (z6 && (z7 && (z13 && (z14 && (z15 && (z16 && (z17 && (z22 && (z23 && (z24 && (z29 && z34)))))))))))))))) = c1 at *
  have HE1 := Lib.hid hB1
  clear hB1
  go_upto_region 2 with fail
  refine wp_plain_quiet (C := fun W => Below w2.heap.size w2 W) HB3.out (srun_kn (N := 256) (F := Gk [2, 3, 5] [.box false 0, .box true 0, .bl c1]) HO.out ?hN [2, 3, 5, 6] [.box false 0, .box true 0, .bl c1, .bl (z8 && (z9 && (z10 && (z11 && z12))))] ?hs HF1.out ?_)
  case hN => kernel_rfl
  case hs =>
    clear HQ0 HQ1 HQ2 HQ3 HQ4 HQ5 HQ6 HQ7 HQ8 HQ9 HQ10 HQ11 HQ12 HQ13 HQ14 HQ15 HQ16 HQ17 HQ18 HQ19 HQ20 HQ21 HQ22 HQ23 HQ24 HQ25 HQ26 HQ27 HQ28 HQ29 HQ30 HQ31 HQ32 HQ33 HQ34 HK4 HK8 HK9 HK10 HK11 HK12 HK18 HK19 HK20 HK21 HK25 HK26 HK27 HK28 HK30 HK31 HK32 HK33 HO HPP HL1 HL2 HE1 HF1
    cases z8
    · kernel_rfl
    · cases z9
      · kernel_rfl
      · cases z10
        · kernel_rfl
        · cases z11
          · kernel_rfl
          · cases z12
            · kernel_rfl
            · kernel_rfl
  rintro a2 hd2 hf2 w4 hb4
  have HF2 := Lib.hid hf2
  have HB4 := Lib.hid hb4
  clear hf2 hb4
  generalize hB2 : (z8 && (z9 && (z10 && (z11 && z12)))) = c2 at *
  have HE2 := Lib.hid hB2
  clear hB2
  go_upto_region 3 with fail
  refine wp_plain_quiet (C := fun W => Below w2.heap.size w2 W) HB4.out (srun_kn (N := 256) (F := Gk [2, 3, 5, 6] [.box false 0, .box true 0, .bl c1, .bl c2]) HO.out ?hN [2, 3, 5, 6, 7] [.box false 0, .box true 0, .bl c1, .bl c2, .bl (z18 && (z21 && (z25 && (z26 && z27))))] ?hs HF2.out ?_)
  case hN => kernel_rfl
  case hs =>
    clear HQ0 HQ1 HQ2 HQ3 HQ4 HQ5 HQ6 HQ7 HQ8 HQ9 HQ10 HQ11 HQ12 HQ13 HQ14 HQ15 HQ16 HQ17 HQ18 HQ19 HQ20 HQ21 HQ22 HQ23 HQ24 HQ25 HQ26 HQ27 HQ28 HQ29 HQ30 HQ31 HQ32 HQ33 HQ34 HK4 HK8 HK9 HK10 HK11 HK12 HK18 HK19 HK20 HK21 HK25 HK26 HK27 HK28 HK30 HK31 HK32 HK33 HO HPP HL1 HL2 HE1 HF1 HE2 HF2
    cases z18
    · kernel_rfl
    · cases z21
      · kernel_rfl
      · cases z25
        · kernel_rfl
        · cases z26
          · kernel_rfl
          · cases z27
            · kernel_rfl
            · kernel_rfl
  rintro a3 hd3 hf3 w5 hb5
  have HF3 := Lib.hid hf3
  have HB5 := Lib.hid hb5
  clear hf3 hb5
  generalize hB3 : (z18 && (z21 && (z25 && (z26 && z27)))) = c3 at *
  have HE3 := Lib.hid hB3
  clear hB3
  go_upto_region 4 with fail
  refine wp_plain_quiet (C := fun W => Below w2.heap.size w2 W) HB5.out (srun_kn (N := 256) (F := Gk [2, 3, 5, 6, 7] [.box false 0, .box true 0, .bl c1, .bl c2, .bl c3]) HO.out ?hN [2, 3, 5, 6, 7, 8] [.box false 0, .box true 0, .bl c1, .bl c2, .bl c3, .bl (z20 && (z28 && (z30 && (z31 && (z32 && z33)))))] ?hs HF3.out ?_)
  case hN => kernel_rfl
  case hs =>
    clear HQ0 HQ1 HQ2 HQ3 HQ4 HQ5 HQ6 HQ7 HQ8 HQ9 HQ10 HQ11 HQ12 HQ13 HQ14 HQ15 HQ16 HQ17 HQ18 HQ19 HQ20 HQ21 HQ22 HQ23 HQ24 HQ25 HQ26 HQ27 HQ28 HQ29 HQ30 HQ31 HQ32 HQ33 HQ34 HK4 HK8 HK9 HK10 HK11 HK12 HK18 HK19 HK20 HK21 HK25 HK26 HK27 HK28 HK30 HK31 HK32 HK33 HO HPP HL1 HL2 HE1 HF1 HE2 HF2 HE3 HF3
    cases z20
    · kernel_rfl
    · cases z28
      · kernel_rfl
      · cases z30
        · kernel_rfl
        · cases z31
          · kernel_rfl
          · cases z32
            · kernel_rfl
            · cases z33
              · kernel_rfl
              · kernel_rfl
  rintro a4 hd4 hf4 w6 hb6
  have HF4 := Lib.hid hf4
  have HB6 := Lib.hid hb6
  clear hf4 hb6
  generalize hB4 : (z20 && (z28 && (z30 && (z31 && (z32 && z33))))) = c4 at *
  have HE4 := Lib.hid hB4
  clear hB4
  go_upto_region 5 with fail
  refine wp_plain_quiet (C := fun W => Below w2.heap.size w2 W) HB6.out (srun_kn (N := 256) (F := Gk [2, 3, 5, 6, 7, 8] [.box false 0, .box true 0, .bl c1, .bl c2, .bl c3, .bl c4]) HO.out ?hN [4] [.bl (c1 && (c2 && (c3 && (c4 && (z19 && z4)))))] ?hs HF4.out ?_)
  case hN => kernel_rfl
  case hs =>
    clear HQ0 HQ1 HQ2 HQ3 HQ4 HQ5 HQ6 HQ7 HQ8 HQ9 HQ10 HQ11 HQ12 HQ13 HQ14 HQ15 HQ16 HQ17 HQ18 HQ19 HQ20 HQ21 HQ22 HQ23 HQ24 HQ25 HQ26 HQ27 HQ28 HQ29 HQ30 HQ31 HQ32 HQ33 HQ34 HK4 HK8 HK9 HK10 HK11 HK12 HK18 HK19 HK20 HK21 HK25 HK26 HK27 HK28 HK30 HK31 HK32 HK33 HO HPP HL1 HL2 HE1 HE2 HE3 HE4 HF1 HF2 HF3 HF4
    cases c1
    · kernel_rfl
    · cases c2
      · kernel_rfl
      · cases c3
        · kernel_rfl
        · cases c4
          · kernel_rfl
          · cases z19
            · kernel_rfl
            · cases z4
              · kernel_rfl
              · kernel_rfl
  rintro a5 hd5 hf5 w7 hb7
  have hv := hf5.2 4
  have hr : a5.tmps.getD 4 undef = .bool (c1 && (c2 && (c3 && (c4 && (z19 && z4))))) := hv
  have HR := Lib.hid hr
  have HB7 := Lib.hid hb7
  clear hf5 hv hb7 hr
  go_wp2_with fail
  refine bodyPost_ret (v := .bool (c1 && (c2 && (c3 && (c4 && (z19 && z4)))))) ?_ (hd5.trans (hd4.trans (hd3.trans (hd2.trans hd1)))) ⟨⟨_, rfl, ?_⟩, hb2.trans (HB7.out.mono hb2.size)⟩
  · have h := HR.out
    simp [results, Tryd.f29]
    rw [← Array.getD_eq_getD_getElem?]
    exact h
  · rw [HPP.out, ← HE1.out, ← HE2.out, ← HE3.out, ← HE4.out]
    simp only [Bool.and_eq_true, HQ0.out, HQ1.out, HQ2.out, HQ3.out, HQ4.out, HQ5.out, HQ6.out, HQ7.out, HQ8.out, HQ9.out, HQ10.out, HQ11.out, HQ12.out, HQ13.out, HQ14.out, HQ15.out, HQ16.out, HQ17.out, HQ18.out, HQ19.out, HQ20.out, HQ21.out, HQ22.out, HQ23.out, HQ24.out, HQ25.out, HQ26.out, HQ27.out, HQ28.out, HQ29.out, HQ30.out, HQ31.out, HQ32.out, HQ33.out, HQ34.out]

end Go.Proofs.YtkgkipohalekmaaDoor
