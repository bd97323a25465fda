/-
  The reference: two machines compared.
-/
import Derived.Test.YtkgkipohalekmaaDoorBk3
import Derived.Test.YtkgkipohalekmaaDoorBy
namespace Go.Proofs.YtkgkipohalekmaaDoor
open Go.RowKit

/-- where a field lies, of which type what lies there is, who compares it -/
def maOff : Nat → Option Nat
  | 0 => some 0
  | 1 => some 1
  | 2 => some 2
  | 3 => some 3
  | 4 => some 4
  | 5 => some 5
  | 6 => some 7
  | 7 => some 8
  | 8 => some 9
  | 9 => some 10
  | 10 => some 11
  | 11 => some 12
  | 12 => some 13
  | 13 => some 14
  | 14 => some 15
  | _ => none
def maTy : Nat → Option TypeId
  | 0 => some 3
  | 1 => some 3
  | 2 => some 3
  | 3 => some 3
  | 4 => some 22
  | 5 => some 26
  | 7 => some 27
  | 8 => some 28
  | 9 => some 29
  | 10 => some 30
  | 11 => some 22
  | 12 => some 22
  | 13 => some 31
  | 14 => some 32
  | 15 => some 3
  | _ => none
def maFn : Nat → Option Nat
  | 4 => some 14
  | 5 => some 15
  | 7 => some 16
  | 8 => some 17
  | 9 => some 18
  | 10 => some 19
  | 11 => some 14
  | 12 => some 14
  | 13 => some 20
  | 14 => some 21
  | _ => none
def maNo : Nat → Nat
  | 0 => 0
  | 1 => 1
  | 2 => 2
  | 3 => 3
  | 4 => 4
  | 5 => 5
  | 7 => 6
  | 8 => 7
  | 9 => 8
  | 10 => 9
  | 11 => 10
  | 12 => 11
  | 13 => 12
  | 14 => 13
  | 15 => 14
  | _ => 0
def maRow : TypeId → Nat := fun t => if t = 26 then 2 else 0
def maSy (Z : List Bool) : Sy := ⟨fun s f => if s = 34 then maOff f else none, fun t j => maTy j == some t, fun t j => if maTy j = some t ∧ maFn j = none then some (Z.getD (maNo j) false) else none, fun f t j => if maTy j = some t ∧ maFn j = some f then some (Z.getD (maNo j) false) else none⟩
def maVal (xs ys : List Value) : TypeId → Bool → Nat → Value := fun t b j => if maRow t = 0 then ((if b then ys else xs)[j]?).getD undef else .agg (((if b then ys else xs).drop j).take (maRow t)).toArray
theorem maTy_lt {j : Nat} (h : (maTy j).isSome = true) : j = 0 ∨ j = 1 ∨ j = 2 ∨ j = 3 ∨ j = 4 ∨ j = 5 ∨ j = 7 ∨ j = 8 ∨ j = 9 ∨ j = 10 ∨ j = 11 ∨ j = 12 ∨ j = 13 ∨ j = 14 ∨ j = 15 := by
  by_cases hj : j < 16
  · have hk : j = 0 ∨ j = 1 ∨ j = 2 ∨ j = 3 ∨ j = 4 ∨ j = 5 ∨ j = 6 ∨ j = 7 ∨ j = 8 ∨ j = 9 ∨ j = 10 ∨ j = 11 ∨ j = 12 ∨ j = 13 ∨ j = 14 ∨ j = 15 := by omega
    rcases hk with rfl | rfl | rfl | rfl | rfl | rfl | rfl | rfl | rfl | rfl | rfl | rfl | rfl | rfl | rfl | rfl <;> first | (cases h; done) | simp
  · exfalso
    obtain ⟨k, rfl⟩ : ∃ k, j = k + 16 := ⟨j - 16, by omega⟩
    cases h
theorem maOff_lt {f k : Nat} (h : maOff f = some k) : f = 0 ∨ f = 1 ∨ f = 2 ∨ f = 3 ∨ f = 4 ∨ f = 5 ∨ f = 6 ∨ f = 7 ∨ f = 8 ∨ f = 9 ∨ f = 10 ∨ f = 11 ∨ f = 12 ∨ f = 13 ∨ f = 14 := by
  by_cases hj : f < 15
  · omega
  · exfalso
    obtain ⟨k, rfl⟩ : ∃ k, f = k + 15 := ⟨f - 15, by omega⟩
    cases h
set_option maxRecDepth 100000 in
set_option maxHeartbeats 16000000 in
theorem same_mach {W0 w : World} {cs cs' : List Ce} {vs vs' : Array Value} (hb0 : Below W0.heap.size W0 w) (ha : Ce.Ats W0 W0.heap.size cs vs.toList) (ha' : Ce.Ats W0 W0.heap.size cs' vs'.toList) (ho : Ce.Oks cs qMach) (ho' : Ce.Oks cs' qMach) :
    Calls Tryd.prog 7 #[.agg vs, .agg vs'] w fun e w' => SameP (cs = cs') e ∧ Below w.heap.size w w' := by
  unfold qMach at ho ho'
  have hx1 := heap_alloc2_old w (.cells vs 34) (.cells vs' 34)
  have hx2 := heap_alloc2_new w (.cells vs 34) (.cells vs' 34)
  have hb2 : Below w.heap.size w ((w.alloc (.cells vs 34)).alloc (.cells vs' 34)) := ((Below.refl _ _).alloc (Nat.le_refl _) _).alloc (by simp) _
  have hsz : ((w.alloc (.cells vs 34)).alloc (.cells vs' 34)).heap.size = w.heap.size + 2 := by simp
  obtain ⟨us, hus⟩ : ∃ us, us = vs.toList := ⟨_, rfl⟩
  obtain ⟨us', hus'⟩ : ∃ us, us = vs'.toList := ⟨_, rfl⟩
  rw [← hus] at ha
  rw [← hus'] at ha'
  obtain ⟨x0, xr0, xu0, rfl, xh0, ho, ha⟩ := cons_i ho ha
  obtain ⟨x1, xr1, xu1, rfl, xh1, ho, ha⟩ := cons_i ho ha
  obtain ⟨x2, xr2, xu2, rfl, xh2, ho, ha⟩ := cons_i ho ha
  obtain ⟨x3, xr3, xu3, rfl, xh3, ho, ha⟩ := cons_i ho ha
  obtain ⟨xn4, xe4, xr4, xv4, xu4, rfl, xh4, xk4, xa4, ho, ha⟩ := cons_l ho ha
  obtain ⟨xn5_0, xe5_0, xr5_0, xv5_0, xu5_0, rfl, xh5_0, xk5_0, xa5_0, ho, ha⟩ := cons_l ho ha
  obtain ⟨xn5_1, xe5_1, xr5_1, xv5_1, xu5_1, rfl, xh5_1, xk5_1, xa5_1, ho, ha⟩ := cons_l ho ha
  obtain ⟨xn6, xe6, xr6, xv6, xu6, rfl, xh6, xk6, xa6, ho, ha⟩ := cons_l ho ha
  obtain ⟨xn7, xe7, xr7, xv7, xu7, rfl, xh7, xk7, xa7, ho, ha⟩ := cons_l ho ha
  obtain ⟨xn8, xe8, xr8, xv8, xu8, rfl, xh8, xk8, xa8, ho, ha⟩ := cons_l ho ha
  obtain ⟨xn9, xe9, xr9, xv9, xu9, rfl, xh9, xk9, xa9, ho, ha⟩ := cons_l ho ha
  obtain ⟨xn10, xe10, xr10, xv10, xu10, rfl, xh10, xk10, xa10, ho, ha⟩ := cons_l ho ha
  obtain ⟨xn11, xe11, xr11, xv11, xu11, rfl, xh11, xk11, xa11, ho, ha⟩ := cons_l ho ha
  obtain ⟨xn12, xe12, xr12, xv12, xu12, rfl, xh12, xk12, xa12, ho, ha⟩ := cons_l ho ha
  obtain ⟨xn13, xe13, xr13, xv13, xu13, rfl, xh13, xk13, xa13, ho, ha⟩ := cons_l ho ha
  obtain ⟨x14, xr14, xu14, rfl, xh14, ho, ha⟩ := cons_i ho ha
  obtain ⟨rfl, xhz⟩ := cons_nil ho ha
  obtain ⟨y0, yr0, yu0, rfl, yh0, ho', ha'⟩ := cons_i ho' ha'
  obtain ⟨y1, yr1, yu1, rfl, yh1, ho', ha'⟩ := cons_i ho' ha'
  obtain ⟨y2, yr2, yu2, rfl, yh2, ho', ha'⟩ := cons_i ho' ha'
  obtain ⟨y3, yr3, yu3, rfl, yh3, ho', ha'⟩ := cons_i ho' ha'
  obtain ⟨yn4, ye4, yr4, yv4, yu4, rfl, yh4, yk4, ya4, ho', ha'⟩ := cons_l ho' ha'
  obtain ⟨yn5_0, ye5_0, yr5_0, yv5_0, yu5_0, rfl, yh5_0, yk5_0, ya5_0, ho', ha'⟩ := cons_l ho' ha'
  obtain ⟨yn5_1, ye5_1, yr5_1, yv5_1, yu5_1, rfl, yh5_1, yk5_1, ya5_1, ho', ha'⟩ := cons_l ho' ha'
  obtain ⟨yn6, ye6, yr6, yv6, yu6, rfl, yh6, yk6, ya6, ho', ha'⟩ := cons_l ho' ha'
  obtain ⟨yn7, ye7, yr7, yv7, yu7, rfl, yh7, yk7, ya7, ho', ha'⟩ := cons_l ho' ha'
  obtain ⟨yn8, ye8, yr8, yv8, yu8, rfl, yh8, yk8, ya8, ho', ha'⟩ := cons_l ho' ha'
  obtain ⟨yn9, ye9, yr9, yv9, yu9, rfl, yh9, yk9, ya9, ho', ha'⟩ := cons_l ho' ha'
  obtain ⟨yn10, ye10, yr10, yv10, yu10, rfl, yh10, yk10, ya10, ho', ha'⟩ := cons_l ho' ha'
  obtain ⟨yn11, ye11, yr11, yv11, yu11, rfl, yh11, yk11, ya11, ho', ha'⟩ := cons_l ho' ha'
  obtain ⟨yn12, ye12, yr12, yv12, yu12, rfl, yh12, yk12, ya12, ho', ha'⟩ := cons_l ho' ha'
  obtain ⟨yn13, ye13, yr13, yv13, yu13, rfl, yh13, yk13, ya13, ho', ha'⟩ := cons_l ho' ha'
  obtain ⟨y14, yr14, yu14, rfl, yh14, ho', ha'⟩ := cons_i ho' ha'
  obtain ⟨rfl, yhz⟩ := cons_nil ho' ha'
  have HL1 : Hid (vs.toList = [] ++ [.int .i64 x0, .int .i64 x1, .int .i64 x2, .int .i64 x3, xv4, xv5_0, xv5_1, xv6, xv7, xv8, xv9, xv10, xv11, xv12, xv13, .int .i64 x14]) := Lib.hid (by rw [← hus, xh0, xh1, xh2, xh3, xh4, xh5_0, xh5_1, xh6, xh7, xh8, xh9, xh10, xh11, xh12, xh13, xh14, xhz]; rfl)
  have HL2 : Hid (vs'.toList = [] ++ [.int .i64 y0, .int .i64 y1, .int .i64 y2, .int .i64 y3, yv4, yv5_0, yv5_1, yv6, yv7, yv8, yv9, yv10, yv11, yv12, yv13, .int .i64 y14]) := Lib.hid (by rw [← hus', yh0, yh1, yh2, yh3, yh4, yh5_0, yh5_1, yh6, yh7, yh8, yh9, yh10, yh11, yh12, yh13, yh14, yhz]; rfl)
  clear xh0 yh0 xh1 yh1 xh2 yh2 xh3 yh3 xh4 yh4 xh5_0 yh5_0 xh5_1 yh5_1 xh6 yh6 xh7 yh7 xh8 yh8 xh9 yh9 xh10 yh10 xh11 yh11 xh12 yh12 xh13 yh13 xh14 yh14 xhz yhz hus hus'
  have hu1 : ([] : List Value).length = 0 := rfl
  have hu2 : ([] : List Value).length = 0 := rfl
  obtain ⟨z0, hz0⟩ : ∃ z, z = dB (x0 = y0) := ⟨_, rfl⟩
  have HQ0 : Hid (z0 = true ↔ x0 = y0) := Lib.hid (by rw [hz0]; exact dB_iff _)
  clear hz0
  obtain ⟨z1, hz1⟩ : ∃ z, z = dB (x1 = y1) := ⟨_, rfl⟩
  have HQ1 : Hid (z1 = true ↔ x1 = y1) := Lib.hid (by rw [hz1]; exact dB_iff _)
  clear hz1
  obtain ⟨z2, hz2⟩ : ∃ z, z = dB (x2 = y2) := ⟨_, rfl⟩
  have HQ2 : Hid (z2 = true ↔ x2 = y2) := Lib.hid (by rw [hz2]; exact dB_iff _)
  clear hz2
  obtain ⟨z3, hz3⟩ : ∃ z, z = dB (x3 = y3) := ⟨_, rfl⟩
  have HQ3 : Hid (z3 = true ↔ x3 = y3) := Lib.hid (by rw [hz3]; exact dB_iff _)
  clear hz3
  obtain ⟨z4, hz4⟩ : ∃ z, z = dB (Ce.l xn4 xe4 = Ce.l yn4 ye4) := ⟨_, rfl⟩
  have HQ4 : Hid (z4 = true ↔ Ce.l xn4 xe4 = Ce.l yn4 ye4) := Lib.hid (by rw [hz4]; exact dB_iff _)
  have HK4 : Hid (∀ W, Below ((w.alloc (.cells vs 34)).alloc (.cells vs' 34)).heap.size ((w.alloc (.cells vs 34)).alloc (.cells vs' 34)) W → Calls Tryd.prog 14 #[xv4, yv4] W fun e w' => e = .returned (.bool z4) ∧ Below W.heap.size W w') := Lib.hid (fun W hW => (same_Strs (hb0.trans ((hb2.trans (hW.mono hb2.size)).mono hb0.size)) xa4 ya4 xk4 yk4).mono fun e w' ⟨h1, h2⟩ => ⟨by rw [hz4]; exact h1.eq, h2⟩)
  clear hz4
  obtain ⟨z5, hz5⟩ : ∃ z, z = dB ([Ce.l xn5_0 xe5_0, Ce.l xn5_1 xe5_1] = [Ce.l yn5_0 ye5_0, Ce.l yn5_1 ye5_1]) := ⟨_, rfl⟩
  have HQ5 : Hid (z5 = true ↔ [Ce.l xn5_0 xe5_0, Ce.l xn5_1 xe5_1] = [Ce.l yn5_0 ye5_0, Ce.l yn5_1 ye5_1]) := Lib.hid (by rw [hz5]; exact dB_iff _)
  have HK5 : Hid (∀ W, Below ((w.alloc (.cells vs 34)).alloc (.cells vs' 34)).heap.size ((w.alloc (.cells vs 34)).alloc (.cells vs' 34)) W → Calls Tryd.prog 15 #[.agg #[xv5_0, xv5_1], .agg #[yv5_0, yv5_1]] W fun e w' => e = .returned (.bool z5) ∧ Below W.heap.size W w') := Lib.hid (fun W hW => (same_graph (hb0.trans ((hb2.trans (hW.mono hb2.size)).mono hb0.size)) xa5_0 ya5_0 xk5_0 yk5_0 xa5_1 ya5_1 xk5_1 yk5_1).mono fun e w' ⟨h1, h2⟩ => ⟨by rw [hz5]; exact h1.eq, h2⟩)
  clear hz5
  obtain ⟨z6, hz6⟩ : ∃ z, z = dB (Ce.l xn6 xe6 = Ce.l yn6 ye6) := ⟨_, rfl⟩
  have HQ6 : Hid (z6 = true ↔ Ce.l xn6 xe6 = Ce.l yn6 ye6) := Lib.hid (by rw [hz6]; exact dB_iff _)
  have HK6 : Hid (∀ W, Below ((w.alloc (.cells vs 34)).alloc (.cells vs' 34)).heap.size ((w.alloc (.cells vs 34)).alloc (.cells vs' 34)) W → Calls Tryd.prog 16 #[xv6, yv6] W fun e w' => e = .returned (.bool z6) ∧ Below W.heap.size W w') := Lib.hid (fun W hW => (same_units (hb0.trans ((hb2.trans (hW.mono hb2.size)).mono hb0.size)) xa6 ya6 xk6 yk6).mono fun e w' ⟨h1, h2⟩ => ⟨by rw [hz6]; exact h1.eq, h2⟩)
  clear hz6
  obtain ⟨z7, hz7⟩ : ∃ z, z = dB (Ce.l xn7 xe7 = Ce.l yn7 ye7) := ⟨_, rfl⟩
  have HQ7 : Hid (z7 = true ↔ Ce.l xn7 xe7 = Ce.l yn7 ye7) := Lib.hid (by rw [hz7]; exact dB_iff _)
  have HK7 : Hid (∀ W, Below ((w.alloc (.cells vs 34)).alloc (.cells vs' 34)).heap.size ((w.alloc (.cells vs 34)).alloc (.cells vs' 34)) W → Calls Tryd.prog 17 #[xv7, yv7] W fun e w' => e = .returned (.bool z7) ∧ Below W.heap.size W w') := Lib.hid (fun W hW => (same_cells (hb0.trans ((hb2.trans (hW.mono hb2.size)).mono hb0.size)) xa7 ya7 xk7 yk7).mono fun e w' ⟨h1, h2⟩ => ⟨by rw [hz7]; exact h1.eq, h2⟩)
  clear hz7
  obtain ⟨z8, hz8⟩ : ∃ z, z = dB (Ce.l xn8 xe8 = Ce.l yn8 ye8) := ⟨_, rfl⟩
  have HQ8 : Hid (z8 = true ↔ Ce.l xn8 xe8 = Ce.l yn8 ye8) := Lib.hid (by rw [hz8]; exact dB_iff _)
  have HK8 : Hid (∀ W, Below ((w.alloc (.cells vs 34)).alloc (.cells vs' 34)).heap.size ((w.alloc (.cells vs 34)).alloc (.cells vs' 34)) W → Calls Tryd.prog 18 #[xv8, yv8] W fun e w' => e = .returned (.bool z8) ∧ Below W.heap.size W w') := Lib.hid (fun W hW => (same_Job (hb0.trans ((hb2.trans (hW.mono hb2.size)).mono hb0.size)) xa8 ya8 xk8 yk8).mono fun e w' ⟨h1, h2⟩ => ⟨by rw [hz8]; exact h1.eq, h2⟩)
  clear hz8
  obtain ⟨z9, hz9⟩ : ∃ z, z = dB (Ce.l xn9 xe9 = Ce.l yn9 ye9) := ⟨_, rfl⟩
  have HQ9 : Hid (z9 = true ↔ Ce.l xn9 xe9 = Ce.l yn9 ye9) := Lib.hid (by rw [hz9]; exact dB_iff _)
  have HK9 : Hid (∀ W, Below ((w.alloc (.cells vs 34)).alloc (.cells vs' 34)).heap.size ((w.alloc (.cells vs 34)).alloc (.cells vs' 34)) W → Calls Tryd.prog 19 #[xv9, yv9] W fun e w' => e = .returned (.bool z9) ∧ Below W.heap.size W w') := Lib.hid (fun W hW => (same_Ask (hb0.trans ((hb2.trans (hW.mono hb2.size)).mono hb0.size)) xa9 ya9 xk9 yk9).mono fun e w' ⟨h1, h2⟩ => ⟨by rw [hz9]; exact h1.eq, h2⟩)
  clear hz9
  obtain ⟨z10, hz10⟩ : ∃ z, z = dB (Ce.l xn10 xe10 = Ce.l yn10 ye10) := ⟨_, rfl⟩
  have HQ10 : Hid (z10 = true ↔ Ce.l xn10 xe10 = Ce.l yn10 ye10) := Lib.hid (by rw [hz10]; exact dB_iff _)
  have HK10 : Hid (∀ W, Below ((w.alloc (.cells vs 34)).alloc (.cells vs' 34)).heap.size ((w.alloc (.cells vs 34)).alloc (.cells vs' 34)) W → Calls Tryd.prog 14 #[xv10, yv10] W fun e w' => e = .returned (.bool z10) ∧ Below W.heap.size W w') := Lib.hid (fun W hW => (same_Strs (hb0.trans ((hb2.trans (hW.mono hb2.size)).mono hb0.size)) xa10 ya10 xk10 yk10).mono fun e w' ⟨h1, h2⟩ => ⟨by rw [hz10]; exact h1.eq, h2⟩)
  clear hz10
  obtain ⟨z11, hz11⟩ : ∃ z, z = dB (Ce.l xn11 xe11 = Ce.l yn11 ye11) := ⟨_, rfl⟩
  have HQ11 : Hid (z11 = true ↔ Ce.l xn11 xe11 = Ce.l yn11 ye11) := Lib.hid (by rw [hz11]; exact dB_iff _)
  have HK11 : Hid (∀ W, Below ((w.alloc (.cells vs 34)).alloc (.cells vs' 34)).heap.size ((w.alloc (.cells vs 34)).alloc (.cells vs' 34)) W → Calls Tryd.prog 14 #[xv11, yv11] W fun e w' => e = .returned (.bool z11) ∧ Below W.heap.size W w') := Lib.hid (fun W hW => (same_Strs (hb0.trans ((hb2.trans (hW.mono hb2.size)).mono hb0.size)) xa11 ya11 xk11 yk11).mono fun e w' ⟨h1, h2⟩ => ⟨by rw [hz11]; exact h1.eq, h2⟩)
  clear hz11
  obtain ⟨z12, hz12⟩ : ∃ z, z = dB (Ce.l xn12 xe12 = Ce.l yn12 ye12) := ⟨_, rfl⟩
  have HQ12 : Hid (z12 = true ↔ Ce.l xn12 xe12 = Ce.l yn12 ye12) := Lib.hid (by rw [hz12]; exact dB_iff _)
  have HK12 : Hid (∀ W, Below ((w.alloc (.cells vs 34)).alloc (.cells vs' 34)).heap.size ((w.alloc (.cells vs 34)).alloc (.cells vs' 34)) W → Calls Tryd.prog 20 #[xv12, yv12] W fun e w' => e = .returned (.bool z12) ∧ Below W.heap.size W w') := Lib.hid (fun W hW => (same_Conn (hb0.trans ((hb2.trans (hW.mono hb2.size)).mono hb0.size)) xa12 ya12 xk12 yk12).mono fun e w' ⟨h1, h2⟩ => ⟨by rw [hz12]; exact h1.eq, h2⟩)
  clear hz12
  obtain ⟨z13, hz13⟩ : ∃ z, z = dB (Ce.l xn13 xe13 = Ce.l yn13 ye13) := ⟨_, rfl⟩
  have HQ13 : Hid (z13 = true ↔ Ce.l xn13 xe13 = Ce.l yn13 ye13) := Lib.hid (by rw [hz13]; exact dB_iff _)
  have HK13 : Hid (∀ W, Below ((w.alloc (.cells vs 34)).alloc (.cells vs' 34)).heap.size ((w.alloc (.cells vs 34)).alloc (.cells vs' 34)) W → Calls Tryd.prog 21 #[xv13, yv13] W fun e w' => e = .returned (.bool z13) ∧ Below W.heap.size W w') := Lib.hid (fun W hW => (same_Row (hb0.trans ((hb2.trans (hW.mono hb2.size)).mono hb0.size)) xa13 ya13 xk13 yk13).mono fun e w' ⟨h1, h2⟩ => ⟨by rw [hz13]; exact h1.eq, h2⟩)
  clear hz13
  obtain ⟨z14, hz14⟩ : ∃ z, z = dB (x14 = y14) := ⟨_, rfl⟩
  have HQ14 : Hid (z14 = true ↔ x14 = y14) := Lib.hid (by rw [hz14]; exact dB_iff _)
  clear hz14
  clear xa4 ya4 xk4 yk4 xa5_0 ya5_0 xk5_0 yk5_0 xa5_1 ya5_1 xk5_1 yk5_1 xa6 ya6 xk6 yk6 xa7 ya7 xk7 yk7 xa8 ya8 xk8 yk8 xa9 ya9 xk9 yk9 xa10 ya10 xk10 yk10 xa11 ya11 xk11 yk11 xa12 ya12 xk12 yk12 xa13 ya13 xk13 yk13
  obtain ⟨PP, hPP⟩ : ∃ PP, PP = ([Ce.i x0, Ce.i x1, Ce.i x2, Ce.i x3, Ce.l xn4 xe4, Ce.l xn5_0 xe5_0, Ce.l xn5_1 xe5_1, Ce.l xn6 xe6, Ce.l xn7 xe7, Ce.l xn8 xe8, Ce.l xn9 xe9, Ce.l xn10 xe10, Ce.l xn11 xe11, Ce.l xn12 xe12, Ce.l xn13 xe13, Ce.i x14] = [Ce.i y0, Ce.i y1, Ce.i y2, Ce.i y3, Ce.l yn4 ye4, Ce.l yn5_0 ye5_0, Ce.l yn5_1 ye5_1, Ce.l yn6 ye6, Ce.l yn7 ye7, Ce.l yn8 ye8, Ce.l yn9 ye9, Ce.l yn10 ye10, Ce.l yn11 ye11, Ce.l yn12 ye12, Ce.l yn13 ye13, Ce.i y14]) := ⟨_, rfl⟩
  rw [← hPP]
  have HPP : Hid (PP ↔ ((x0 = y0) ∧ (x1 = y1) ∧ (x2 = y2) ∧ (x3 = y3) ∧ (x14 = y14) ∧ (Ce.l xn4 xe4 = Ce.l yn4 ye4) ∧ ([Ce.l xn5_0 xe5_0, Ce.l xn5_1 xe5_1] = [Ce.l yn5_0 ye5_0, Ce.l yn5_1 ye5_1])) ∧ ((Ce.l xn6 xe6 = Ce.l yn6 ye6) ∧ (Ce.l xn7 xe7 = Ce.l yn7 ye7) ∧ (Ce.l xn8 xe8 = Ce.l yn8 ye8) ∧ (Ce.l xn9 xe9 = Ce.l yn9 ye9) ∧ (Ce.l xn10 xe10 = Ce.l yn10 ye10) ∧ (Ce.l xn11 xe11 = Ce.l yn11 ye11) ∧ (Ce.l xn12 xe12 = Ce.l yn12 ye12) ∧ (Ce.l xn13 xe13 = Ce.l yn13 ye13))) := Lib.hid (by
    rw [hPP]
    constructor
    · intro h
      simp only [List.cons.injEq, Ce.i.injEq, and_true] at h
      obtain ⟨c0, c1, c2, c3, c4, c5_0, c5_1, c6, c7, c8, c9, c10, c11, c12, c13, c14⟩ := h
      exact ⟨⟨c0, c1, c2, c3, c14, c4, (by rw [c5_0, c5_1])⟩, ⟨c6, c7, c8, c9, c10, c11, c12, c13⟩⟩
    · rintro ⟨⟨c0, c1, c2, c3, c14, c4, e5⟩, ⟨c6, c7, c8, c9, c10, c11, c12, c13⟩⟩
      simp only [List.cons.injEq, Ce.i.injEq, and_true]
      exact ⟨c0, c1, c2, c3, c4, (List.cons.inj e5).1, (List.cons.inj (List.cons.inj e5).2).1, c6, c7, c8, c9, c10, c11, c12, c13, c14⟩)
  clear hPP
  have hrow : ∀ (b : Bool) (j : Nat) W, Below ((w.alloc (.cells vs 34)).alloc (.cells vs' 34)).heap.size ((w.alloc (.cells vs 34)).alloc (.cells vs' 34)) W → W.cell? ⟨uBase w.heap.size (w.heap.size + 1) b, j, none⟩ = (if b then vs'.toList else vs.toList)[j]? := fun b j W hW => by
    cases b with
    | false =>
      show W.cell? ⟨w.heap.size, j, none⟩ = vs.toList[j]?
      rw [cell_of_row W _ j _ _ _ ((hW.block _ (by rw [hsz]; omega)).trans hx1), Array.getElem?_toList]
    | true =>
      show W.cell? ⟨w.heap.size + 1, j, none⟩ = vs'.toList[j]?
      rw [cell_of_row W _ j _ _ _ ((hW.block _ (by rw [hsz]; omega)).trans hx2), Array.getElem?_toList]
  have hlen : ∀ b : Bool, (if b then vs'.toList else vs.toList).length = 16 := fun b => by
    cases b with
    | false => show vs.toList.length = 16; rw [HL1.out, List.length_append, hu1]; rfl
    | true => show vs'.toList.length = 16; rw [HL2.out, List.length_append, hu2]; rfl
  have xV0 : maVal vs.toList vs'.toList 3 false 0 = .int .i64 x0 := by
    show (vs.toList[0 + 0]?).getD undef = _
    rw [HL1.out, get_front hu1]
    rfl
  have yV0 : maVal vs.toList vs'.toList 3 true 0 = .int .i64 y0 := by
    show (vs'.toList[0 + 0]?).getD undef = _
    rw [HL2.out, get_front hu2]
    rfl
  have xV1 : maVal vs.toList vs'.toList 3 false 1 = .int .i64 x1 := by
    show (vs.toList[0 + 1]?).getD undef = _
    rw [HL1.out, get_front hu1]
    rfl
  have yV1 : maVal vs.toList vs'.toList 3 true 1 = .int .i64 y1 := by
    show (vs'.toList[0 + 1]?).getD undef = _
    rw [HL2.out, get_front hu2]
    rfl
  have xV2 : maVal vs.toList vs'.toList 3 false 2 = .int .i64 x2 := by
    show (vs.toList[0 + 2]?).getD undef = _
    rw [HL1.out, get_front hu1]
    rfl
  have yV2 : maVal vs.toList vs'.toList 3 true 2 = .int .i64 y2 := by
    show (vs'.toList[0 + 2]?).getD undef = _
    rw [HL2.out, get_front hu2]
    rfl
  have xV3 : maVal vs.toList vs'.toList 3 false 3 = .int .i64 x3 := by
    show (vs.toList[0 + 3]?).getD undef = _
    rw [HL1.out, get_front hu1]
    rfl
  have yV3 : maVal vs.toList vs'.toList 3 true 3 = .int .i64 y3 := by
    show (vs'.toList[0 + 3]?).getD undef = _
    rw [HL2.out, get_front hu2]
    rfl
  have xV4 : maVal vs.toList vs'.toList 22 false 4 = xv4 := by
    show (vs.toList[0 + 4]?).getD undef = _
    rw [HL1.out, get_front hu1]
    rfl
  have yV4 : maVal vs.toList vs'.toList 22 true 4 = yv4 := by
    show (vs'.toList[0 + 4]?).getD undef = _
    rw [HL2.out, get_front hu2]
    rfl
  have xV5 : maVal vs.toList vs'.toList 26 false 5 = .agg #[xv5_0, xv5_1] := by
    show Value.agg ((vs.toList.drop (0 + 5)).take 2).toArray = _
    rw [HL1.out, drop_front hu1]
    rfl
  have yV5 : maVal vs.toList vs'.toList 26 true 5 = .agg #[yv5_0, yv5_1] := by
    show Value.agg ((vs'.toList.drop (0 + 5)).take 2).toArray = _
    rw [HL2.out, drop_front hu2]
    rfl
  have xV6 : maVal vs.toList vs'.toList 27 false 7 = xv6 := by
    show (vs.toList[0 + 7]?).getD undef = _
    rw [HL1.out, get_front hu1]
    rfl
  have yV6 : maVal vs.toList vs'.toList 27 true 7 = yv6 := by
    show (vs'.toList[0 + 7]?).getD undef = _
    rw [HL2.out, get_front hu2]
    rfl
  have xV7 : maVal vs.toList vs'.toList 28 false 8 = xv7 := by
    show (vs.toList[0 + 8]?).getD undef = _
    rw [HL1.out, get_front hu1]
    rfl
  have yV7 : maVal vs.toList vs'.toList 28 true 8 = yv7 := by
    show (vs'.toList[0 + 8]?).getD undef = _
    rw [HL2.out, get_front hu2]
    rfl
  have xV8 : maVal vs.toList vs'.toList 29 false 9 = xv8 := by
    show (vs.toList[0 + 9]?).getD undef = _
    rw [HL1.out, get_front hu1]
    rfl
  have yV8 : maVal vs.toList vs'.toList 29 true 9 = yv8 := by
    show (vs'.toList[0 + 9]?).getD undef = _
    rw [HL2.out, get_front hu2]
    rfl
  have xV9 : maVal vs.toList vs'.toList 30 false 10 = xv9 := by
    show (vs.toList[0 + 10]?).getD undef = _
    rw [HL1.out, get_front hu1]
    rfl
  have yV9 : maVal vs.toList vs'.toList 30 true 10 = yv9 := by
    show (vs'.toList[0 + 10]?).getD undef = _
    rw [HL2.out, get_front hu2]
    rfl
  have xV10 : maVal vs.toList vs'.toList 22 false 11 = xv10 := by
    show (vs.toList[0 + 11]?).getD undef = _
    rw [HL1.out, get_front hu1]
    rfl
  have yV10 : maVal vs.toList vs'.toList 22 true 11 = yv10 := by
    show (vs'.toList[0 + 11]?).getD undef = _
    rw [HL2.out, get_front hu2]
    rfl
  have xV11 : maVal vs.toList vs'.toList 22 false 12 = xv11 := by
    show (vs.toList[0 + 12]?).getD undef = _
    rw [HL1.out, get_front hu1]
    rfl
  have yV11 : maVal vs.toList vs'.toList 22 true 12 = yv11 := by
    show (vs'.toList[0 + 12]?).getD undef = _
    rw [HL2.out, get_front hu2]
    rfl
  have xV12 : maVal vs.toList vs'.toList 31 false 13 = xv12 := by
    show (vs.toList[0 + 13]?).getD undef = _
    rw [HL1.out, get_front hu1]
    rfl
  have yV12 : maVal vs.toList vs'.toList 31 true 13 = yv12 := by
    show (vs'.toList[0 + 13]?).getD undef = _
    rw [HL2.out, get_front hu2]
    rfl
  have xV13 : maVal vs.toList vs'.toList 32 false 14 = xv13 := by
    show (vs.toList[0 + 14]?).getD undef = _
    rw [HL1.out, get_front hu1]
    rfl
  have yV13 : maVal vs.toList vs'.toList 32 true 14 = yv13 := by
    show (vs'.toList[0 + 14]?).getD undef = _
    rw [HL2.out, get_front hu2]
    rfl
  have xV14 : maVal vs.toList vs'.toList 3 false 15 = .int .i64 x14 := by
    show (vs.toList[0 + 15]?).getD undef = _
    rw [HL1.out, get_front hu1]
    rfl
  have yV14 : maVal vs.toList vs'.toList 3 true 15 = .int .i64 y14 := by
    show (vs'.toList[0 + 15]?).getD undef = _
    rw [HL2.out, get_front hu2]
    rfl
  have HO : Hid (Ora Tryd.prog (fun W => Below ((w.alloc (.cells vs 34)).alloc (.cells vs' 34)).heap.size ((w.alloc (.cells vs 34)).alloc (.cells vs' 34)) W) (uBase w.heap.size (w.heap.size + 1)) (maVal vs.toList vs'.toList) (maSy [z0, z1, z2, z3, z4, z5, z6, z7, z8, z9, z10, z11, z12, z13, z14])) := Lib.hid (by
    refine ⟨fun s f k b off W h => ?_, fun t b j W h hW => ?_, fun t j e x y W h => ?_, fun t j e x y W h => ?_, fun f t j e a o x y W h hW hx hy c hc h1 h2 => ?_⟩
    · simp only [maSy] at h
      split at h
      · rename_i hh
        subst hh
        rcases maOff_lt h with rfl | rfl | rfl | rfl | rfl | rfl | rfl | rfl | rfl | rfl | rfl | rfl | rfl | rfl | rfl <;> (injection h with h; subst h)
        · exact run_fieldAt_mid W _ off _ _ _ _ Tryd.underlying34 _ rfl rfl 1 (by kernel_rfl) (by decide)
        · exact run_fieldAt_mid W _ off _ _ _ _ Tryd.underlying34 _ rfl rfl 1 (by kernel_rfl) (by decide)
        · exact run_fieldAt_mid W _ off _ _ _ _ Tryd.underlying34 _ rfl rfl 1 (by kernel_rfl) (by decide)
        · exact run_fieldAt_mid W _ off _ _ _ _ Tryd.underlying34 _ rfl rfl 1 (by kernel_rfl) (by decide)
        · exact run_fieldAt_mid W _ off _ _ _ _ Tryd.underlying34 _ rfl rfl 1 (by kernel_rfl) (by decide)
        · exact run_fieldAt_mid W _ off _ _ _ _ Tryd.underlying34 _ rfl rfl 2 (by kernel_rfl) (by decide)
        · exact run_fieldAt_mid W _ off _ _ _ _ Tryd.underlying34 _ rfl rfl 1 (by kernel_rfl) (by decide)
        · exact run_fieldAt_mid W _ off _ _ _ _ Tryd.underlying34 _ rfl rfl 1 (by kernel_rfl) (by decide)
        · exact run_fieldAt_mid W _ off _ _ _ _ Tryd.underlying34 _ rfl rfl 1 (by kernel_rfl) (by decide)
        · exact run_fieldAt_mid W _ off _ _ _ _ Tryd.underlying34 _ rfl rfl 1 (by kernel_rfl) (by decide)
        · exact run_fieldAt_mid W _ off _ _ _ _ Tryd.underlying34 _ rfl rfl 1 (by kernel_rfl) (by decide)
        · exact run_fieldAt_mid W _ off _ _ _ _ Tryd.underlying34 _ rfl rfl 1 (by kernel_rfl) (by decide)
        · exact run_fieldAt_mid W _ off _ _ _ _ Tryd.underlying34 _ rfl rfl 1 (by kernel_rfl) (by decide)
        · exact run_fieldAt_mid W _ off _ _ _ _ Tryd.underlying34 _ rfl rfl 1 (by kernel_rfl) (by decide)
        · exact run_fieldAt_mid W _ off _ _ _ _ Tryd.underlying34 _ rfl rfl 1 (by kernel_rfl) (by decide)
      · cases h
    · simp only [maSy, beq_iff_eq] at h
      have hc := hrow b j W hW
      have hl := hlen b
      have hcs := hrow b
      rcases maTy_lt (by rw [h]; rfl) with rfl | rfl | rfl | rfl | rfl | rfl | rfl | rfl | rfl | rfl | rfl | rfl | rfl | rfl | rfl <;> (injection h with h; subst h)
      · exact run_loadAt_cell W _ _ _ _ _ Tryd.underlying3 rfl (hc.trans (get_some (by rw [hl]; decide)))
      · exact run_loadAt_cell W _ _ _ _ _ Tryd.underlying3 rfl (hc.trans (get_some (by rw [hl]; decide)))
      · exact run_loadAt_cell W _ _ _ _ _ Tryd.underlying3 rfl (hc.trans (get_some (by rw [hl]; decide)))
      · exact run_loadAt_cell W _ _ _ _ _ Tryd.underlying3 rfl (hc.trans (get_some (by rw [hl]; decide)))
      · exact run_loadAt_cell W _ _ _ _ _ Tryd.underlying22 rfl (hc.trans (get_some (by rw [hl]; decide)))
      · exact run_loadAt_row W _ _ _ _ _ Tryd.underlying26 rfl (by kernel_rfl) (by rw [hl]; decide) (fun i => hcs i W hW)
      · exact run_loadAt_cell W _ _ _ _ _ Tryd.underlying27 rfl (hc.trans (get_some (by rw [hl]; decide)))
      · exact run_loadAt_cell W _ _ _ _ _ Tryd.underlying28 rfl (hc.trans (get_some (by rw [hl]; decide)))
      · exact run_loadAt_cell W _ _ _ _ _ Tryd.underlying29 rfl (hc.trans (get_some (by rw [hl]; decide)))
      · exact run_loadAt_cell W _ _ _ _ _ Tryd.underlying30 rfl (hc.trans (get_some (by rw [hl]; decide)))
      · exact run_loadAt_cell W _ _ _ _ _ Tryd.underlying22 rfl (hc.trans (get_some (by rw [hl]; decide)))
      · exact run_loadAt_cell W _ _ _ _ _ Tryd.underlying22 rfl (hc.trans (get_some (by rw [hl]; decide)))
      · exact run_loadAt_cell W _ _ _ _ _ Tryd.underlying31 rfl (hc.trans (get_some (by rw [hl]; decide)))
      · exact run_loadAt_cell W _ _ _ _ _ Tryd.underlying32 rfl (hc.trans (get_some (by rw [hl]; decide)))
      · exact run_loadAt_cell W _ _ _ _ _ Tryd.underlying3 rfl (hc.trans (get_some (by rw [hl]; decide)))
    · simp only [maSy] at h
      split at h
      · rename_i hh
        obtain ⟨hh, hn⟩ := hh
        injection h with h
        rcases maTy_lt (by rw [hh]; rfl) with rfl | rfl | rfl | rfl | rfl | rfl | rfl | rfl | rfl | rfl | rfl | rfl | rfl | rfl | rfl <;> first | (cases hn; done) | (injection hh with hh; subst hh)
        · rw [xV0, yV0]
          exact eql_int W _ x y _ _ Tryd.underlying3 e (by rw [← h]; exact HQ0.out)
        · rw [xV1, yV1]
          exact eql_int W _ x y _ _ Tryd.underlying3 e (by rw [← h]; exact HQ1.out)
        · rw [xV2, yV2]
          exact eql_int W _ x y _ _ Tryd.underlying3 e (by rw [← h]; exact HQ2.out)
        · rw [xV3, yV3]
          exact eql_int W _ x y _ _ Tryd.underlying3 e (by rw [← h]; exact HQ3.out)
        · rw [xV14, yV14]
          exact eql_int W _ x y _ _ Tryd.underlying3 e (by rw [← h]; exact HQ14.out)
      · cases h
    · simp only [maSy] at h
      split at h
      · rename_i hh
        obtain ⟨hh, hn⟩ := hh
        injection h with h
        rcases maTy_lt (by rw [hh]; rfl) with rfl | rfl | rfl | rfl | rfl | rfl | rfl | rfl | rfl | rfl | rfl | rfl | rfl | rfl | rfl <;> first | (cases hn; done) | (injection hh with hh; subst hh)
        · rw [xV0, yV0]
          exact neq_int W _ x y _ _ Tryd.underlying3 e (by rw [← h]; exact HQ0.out)
        · rw [xV1, yV1]
          exact neq_int W _ x y _ _ Tryd.underlying3 e (by rw [← h]; exact HQ1.out)
        · rw [xV2, yV2]
          exact neq_int W _ x y _ _ Tryd.underlying3 e (by rw [← h]; exact HQ2.out)
        · rw [xV3, yV3]
          exact neq_int W _ x y _ _ Tryd.underlying3 e (by rw [← h]; exact HQ3.out)
        · rw [xV14, yV14]
          exact neq_int W _ x y _ _ Tryd.underlying3 e (by rw [← h]; exact HQ14.out)
      · cases h
    · simp only [maSy] at h
      split at h
      · rename_i hh
        obtain ⟨hh, hn⟩ := hh
        injection h with h
        rcases maTy_lt (by rw [hh]; rfl) with rfl | rfl | rfl | rfl | rfl | rfl | rfl | rfl | rfl | rfl | rfl | rfl | rfl | rfl | rfl <;> first | (cases hn; done) | (injection hn with hn; injection hh with hh; subst hn; subst hh)
        · refine call_quiet (fun args w => Tryd.call14 args w) hc h1 h2 ?_
          rw [hx, hy, xV4, yV4, ← h]
          exact (HK4.out W hW).mono fun e w' ⟨he, hb⟩ => ⟨he, hW.trans (hb.mono hW.size)⟩
        · refine call_quiet (fun args w => Tryd.call15 args w) hc h1 h2 ?_
          rw [hx, hy, xV5, yV5, ← h]
          exact (HK5.out W hW).mono fun e w' ⟨he, hb⟩ => ⟨he, hW.trans (hb.mono hW.size)⟩
        · refine call_quiet (fun args w => Tryd.call16 args w) hc h1 h2 ?_
          rw [hx, hy, xV6, yV6, ← h]
          exact (HK6.out W hW).mono fun e w' ⟨he, hb⟩ => ⟨he, hW.trans (hb.mono hW.size)⟩
        · refine call_quiet (fun args w => Tryd.call17 args w) hc h1 h2 ?_
          rw [hx, hy, xV7, yV7, ← h]
          exact (HK7.out W hW).mono fun e w' ⟨he, hb⟩ => ⟨he, hW.trans (hb.mono hW.size)⟩
        · refine call_quiet (fun args w => Tryd.call18 args w) hc h1 h2 ?_
          rw [hx, hy, xV8, yV8, ← h]
          exact (HK8.out W hW).mono fun e w' ⟨he, hb⟩ => ⟨he, hW.trans (hb.mono hW.size)⟩
        · refine call_quiet (fun args w => Tryd.call19 args w) hc h1 h2 ?_
          rw [hx, hy, xV9, yV9, ← h]
          exact (HK9.out W hW).mono fun e w' ⟨he, hb⟩ => ⟨he, hW.trans (hb.mono hW.size)⟩
        · refine call_quiet (fun args w => Tryd.call14 args w) hc h1 h2 ?_
          rw [hx, hy, xV10, yV10, ← h]
          exact (HK10.out W hW).mono fun e w' ⟨he, hb⟩ => ⟨he, hW.trans (hb.mono hW.size)⟩
        · refine call_quiet (fun args w => Tryd.call14 args w) hc h1 h2 ?_
          rw [hx, hy, xV11, yV11, ← h]
          exact (HK11.out W hW).mono fun e w' ⟨he, hb⟩ => ⟨he, hW.trans (hb.mono hW.size)⟩
        · refine call_quiet (fun args w => Tryd.call20 args w) hc h1 h2 ?_
          rw [hx, hy, xV12, yV12, ← h]
          exact (HK12.out W hW).mono fun e w' ⟨he, hb⟩ => ⟨he, hW.trans (hb.mono hW.size)⟩
        · refine call_quiet (fun args w => Tryd.call21 args w) hc h1 h2 ?_
          rw [hx, hy, xV13, yV13, ← h]
          exact (HK13.out W hW).mono fun e w' ⟨he, hb⟩ => ⟨he, hW.trans (hb.mono hW.size)⟩
      · cases h)
  clear hrow hlen hx1 hx2 ho ho' ha ha' hb0 hu1 hu2 hsz xV0 yV0 xV1 yV1 xV2 yV2 xV3 yV3 xV4 yV4 xV5 yV5 xV6 yV6 xV7 yV7 xV8 yV8 xV9 yV9 xV10 yV10 xV11 yV11 xV12 yV12 xV13 yV13 xV14 yV14
  go_enter Tryd.func7, Tryd.ntmps7
  go_upto_region 1 with fail
  generalize (w.alloc (.cells vs 34)).alloc (.cells vs' 34) = w2 at *
  refine wp_plain_quiet (C := fun W => Below w2.heap.size w2 W) (Below.refl _ _) (srun_kn (N := 108) (F := Gk [2, 3, 4] [.box false 0, .box true 0, .bl false]) HO.out ?hN [2, 3, 53] [.box false 0, .box true 0, .bl (!(z0 && (z1 && (z2 && (z3 && (z14 && (z4 && z5)))))))] ?hs ?hf ?_)
  case hN => kernel_rfl
  case hf =>
    refine ⟨by rfl, fun i => ?_⟩
    by_cases h2 : i = 2
    · subst h2; rfl
    · by_cases h3 : i = 3
      · subst h3; rfl
      · by_cases h4 : i = 4
        · subst h4; rfl
        · rw [gk3 h2 h3 h4]
          trivial
  case hs =>
    clear HQ0 HQ1 HQ2 HQ3 HQ4 HQ5 HQ6 HQ7 HQ8 HQ9 HQ10 HQ11 HQ12 HQ13 HQ14 HK4 HK5 HK6 HK7 HK8 HK9 HK10 HK11 HK12 HK13 HO HPP HL1 HL2
    cases z0
    · kernel_rfl
    · cases z1
      · kernel_rfl
      · cases z2
        · kernel_rfl
        · cases z3
          · kernel_rfl
          · cases z14
            · kernel_rfl
            · cases z4
              · kernel_rfl
              · cases z5
                · kernel_rfl
                · kernel_rfl
  rintro a1 hd1 hf1 w3 hb3
  have HF1 := Lib.hid hf1
  have HB3 := Lib.hid hb3
  clear hf1 hb3
  simp only at hd1
  generalize hB1 : (z0 && (z1 && (z2 && (z3 && (z14 && (z4 && z5)))))) = c1 at *
  have HE1 := Lib.hid hB1
  clear hB1
  have ht : a1.eval (.tmp 53) = .bool (!c1) := HF1.out.2 53
  have hts : a1.tmps.size = 108 := HF1.out.1
  go_upto_if 53 with fail
  cases c1
  · refine wp_cond_true ht ?_
    clear ht
    go_wp2_with fail
    refine bodyPost_ret (v := .bool false) ?_ rfl ⟨⟨_, rfl, ?_⟩, hb2.trans (HB3.out.mono hb2.size)⟩
    · simp [results, Tryd.f7, hts]
    · refine ⟨fun h => (by cases h), fun h => ?_⟩
      have h2 := (HPP.out.1 h).1
      have h3 := HE1.out
      have h4 : (z0 && (z1 && (z2 && (z3 && (z14 && (z4 && z5)))))) = true := by
        simp only [Bool.and_eq_true, HQ0.out, HQ1.out, HQ2.out, HQ3.out, HQ14.out, HQ4.out, HQ5.out]
        exact h2
      rw [h3] at h4
      exact h4
  · refine wp_cond_false ht ?_
    clear ht hts
    go_upto_region 3 with fail
    refine wp_plain_quiet (C := fun W => Below w2.heap.size w2 W) HB3.out (srun_kn (N := 108) (F := Gk [2, 3, 53] [.box false 0, .box true 0, .bl (!true)]) HO.out ?hN [4] [.bl (z6 && (z7 && (z8 && (z9 && (z10 && (z11 && (z12 && z13)))))))] ?hs HF1.out ?_)
    case hN => kernel_rfl
    case hs =>
      clear HQ0 HQ1 HQ2 HQ3 HQ4 HQ5 HQ6 HQ7 HQ8 HQ9 HQ10 HQ11 HQ12 HQ13 HQ14 HK4 HK5 HK6 HK7 HK8 HK9 HK10 HK11 HK12 HK13 HO HPP HL1 HL2 HE1 HF1
      cases z6
      · kernel_rfl
      · cases z7
        · kernel_rfl
        · cases z8
          · kernel_rfl
          · cases z9
            · kernel_rfl
            · cases z10
              · kernel_rfl
              · cases z11
                · kernel_rfl
                · cases z12
                  · kernel_rfl
                  · cases z13
                    · kernel_rfl
                    · kernel_rfl
    rintro a5 hd5 hf5 w7 hb7
    have hv := hf5.2 4
    have hr : a5.tmps.getD 4 undef = .bool (z6 && (z7 && (z8 && (z9 && (z10 && (z11 && (z12 && z13))))))) := hv
    have HR := Lib.hid hr
    have HB7 := Lib.hid hb7
    clear hf5 hv hb7 hr
    go_wp2_with fail
    refine bodyPost_ret (v := .bool (z6 && (z7 && (z8 && (z9 && (z10 && (z11 && (z12 && z13)))))))) ?_ (hd5.trans hd1) ⟨⟨_, rfl, ?_⟩, hb2.trans (HB7.out.mono hb2.size)⟩
    · have h := HR.out
      simp [results, Tryd.f7]
      rw [← Array.getD_eq_getD_getElem?]
      exact h
    · have h3 := HE1.out
      have h4 : ((x0 = y0) ∧ (x1 = y1) ∧ (x2 = y2) ∧ (x3 = y3) ∧ (x14 = y14) ∧ (Ce.l xn4 xe4 = Ce.l yn4 ye4) ∧ ([Ce.l xn5_0 xe5_0, Ce.l xn5_1 xe5_1] = [Ce.l yn5_0 ye5_0, Ce.l yn5_1 ye5_1])) := by
        simp only [Bool.and_eq_true, HQ0.out, HQ1.out, HQ2.out, HQ3.out, HQ14.out, HQ4.out, HQ5.out] at h3
        exact h3
      rw [HPP.out]
      simp only [Bool.and_eq_true, HQ6.out, HQ7.out, HQ8.out, HQ9.out, HQ10.out, HQ11.out, HQ12.out, HQ13.out]
      exact ⟨fun h => ⟨h4, h⟩, fun h => h.2⟩

end Go.Proofs.YtkgkipohalekmaaDoor
