/-
  A log's size, rows that are alike: the walks.
-/
import Derived.Test.YtkgogenmhiclcaaGreatDoorJf
namespace Go.Proofs.YtkgogenmhiclcaaGreatDoor
open Go.RowKit

set_option maxRecDepth 100000 in
set_option maxHeartbeats 8000000 in
theorem size_any (l : List RowD) (hl : Fits l) (A : Option Addr) (n c B : Nat) (w : World) (h : Rd w B 5 A n (rowsC l)) (hB : B ≤ w.heap.size) (hn : n ≤ 137438953472) (E : Env w) :
    Calls Tryz.prog 14 #[.slice A n c] w fun e w' => e = .returned (.int .i64 (Sp.sizeL l : Int)) ∧ Below w.heap.size w w' := by
  have hlen : l.length = n := by have := h.1; rw [rowsC_len] at this; omega
  have HL := Lib.hid hlen
  have HF := Lib.hid hl
  have HROW := Lib.hid (fun k hk => Rd.rowAt h k hk)
  have HTK := Lib.hid (fun k hk => Sp.sizeL_take l k hk)
  have HLE := Lib.hid (fun k => Sp.sizeL_le (l.take k))
  clear hlen hl
  go_enter Tryz.func14, Tryz.ntmps14
  go_wp2_with fail
  go_loopw [3, 8] (fun sv iv wr => ∃ k s : Nat, k ≤ n ∧ iv = .int .i64 k ∧ sv = .int .i64 s ∧ Below w.heap.size w wr ∧ Hid (s = Sp.sizeL (l.take k))) (fun _ iv _ => n - (intOf iv).toNat)
  case atStart => exact ⟨0, 0, Nat.zero_le _, rfl, rfl, Below.refl _ _, Lib.hid rfl⟩
  case round =>
    obtain ⟨k, s, hk, rfl, rfl, hb, HS⟩ := hrel
    have hsle : s ≤ 144115325514809344 := by
      have h1 := HLE.out k
      rw [← HS.out, List.length_take, HL.out] at h1
      omega
    by_cases hlt : k < n
    · have hkl : k < l.length := by rw [HL.out]; exact hlt
      obtain ⟨ad, rfl, hc⟩ := HROW.out k hkl
      obtain ⟨c0, c1, c2, c3, c4⟩ := hc wr (hb.mono hB)
      have hfit := HF.out l[k] (List.getElem_mem hkl)
      have HP := Lib.hid (fun w (E : Env w) => print_any l[k] w hfit.1 hfit.2 E)
      have HT := Lib.hid (HTK.out k hkl)
      have hline := Sp.line_le l[k]
      unfold Sp.lineN at HT hline
      have hbx := hb.alloc hb.size (.cells #[.int .i64 l[k].time, .string l[k].unit, .int .i64 l[k].n, .int .i64 l[k].kind, .string l[k].text] 37)
      clear hc hfit
      generalize l[k] = r at *
      generalize Sp.toB (Sp.printR r) = pr at *
      obtain ⟨rt, ru, rn, rk, rx⟩ := r
      simp only [rowV, rowC] at HP
      dsimp only at c0 c1 c2 c3 c4 hbx
      have HBX := Lib.hid hbx
      have HE := Lib.hid (E.on hbx)
      clear hbx
      have x1 : (0 : Int) ≤ (k : Int) := by omega
      have x2 : (k : Int) < (n : Int) := by omega
      have x3 : IntKind.i64.wrap ((pr.size : Int) + 1) = (pr.size : Int) + 1 := by rw [IntKind.wrap_i64]; omega
      have x4 : IntKind.i64.wrap ((s : Int) + ((pr.size : Int) + 1)) = (s : Int) + ((pr.size : Int) + 1) := by rw [IntKind.wrap_i64]; omega
      go_wp2_with fail
      refine (HP.out _ HE.out).mono ?_
      rintro e w2 ⟨rfl, hb2⟩
      have HB2 : Hid (Below w.heap.size w w2) := Lib.hid (HBX.out.trans (hb2.mono HBX.out.size))
      clear hb2 HBX
      clear c0 c1 c2 c3 c4
      go_wp2
      go_roundw
      case rel => exact ⟨k + 1, s + (pr.size + 1), by omega, by go_num, by first | rfl | go_num, HB2.out, Lib.hid (by rw [HT.out, HS.out])⟩
      case measure => first | (simp [intOf]; done) | (simp [intOf]; omega)
    · have x2 : ¬ (k : Int) < (n : Int) := by omega
      have HR : Hid (s = Sp.sizeL l) := Lib.hid (by rw [HS.out, List.take_of_length_le (by rw [HL.out]; omega)])
      go_wp2
      go_ret
      exact ⟨by rw [HR.out]; rfl, hb⟩

set_option maxRecDepth 100000 in
set_option maxHeartbeats 8000000 in
theorem rsize_any (l : List RowD) (hl : Fits l) (A : Option Addr) (n c B : Nat) (w : World) (h : Rd w B 5 A n (rowsC l)) (hB : B ≤ w.heap.size) (hn : n ≤ 137438953472) :
    Calls Tryz.prog 15 #[.slice A n c] w fun e w' => e = .returned (.int .i64 (Sp.sizeL l : Int)) ∧ Below w.heap.size w w' := by
  have hlen : l.length = n := by have := h.1; rw [rowsC_len] at this; omega
  have HL := Lib.hid hlen
  have HF := Lib.hid hl
  have HROW := Lib.hid (fun k hk => Rd.rowAt h k hk)
  have HTK := Lib.hid (fun k hk => Sp.sizeL_take l k hk)
  have HLE := Lib.hid (fun k => Sp.sizeL_le (l.take k))
  clear hlen hl
  go_enter Tryz.func15, Tryz.ntmps15
  go_wp2_with fail
  go_loopw [3, 8] (fun sv iv wr => ∃ k s : Nat, k ≤ n ∧ iv = .int .i64 k ∧ sv = .int .i64 s ∧ Below w.heap.size w wr ∧ Hid (s = Sp.sizeL (l.take k))) (fun _ iv _ => n - (intOf iv).toNat)
  case atStart => exact ⟨0, 0, Nat.zero_le _, rfl, rfl, Below.refl _ _, Lib.hid rfl⟩
  case round =>
    obtain ⟨k, s, hk, rfl, rfl, hb, HS⟩ := hrel
    have hsle : s ≤ 144115325514809344 := by
      have h1 := HLE.out k
      rw [← HS.out, List.length_take, HL.out] at h1
      omega
    by_cases hlt : k < n
    · have hkl : k < l.length := by rw [HL.out]; exact hlt
      obtain ⟨ad, rfl, hc⟩ := HROW.out k hkl
      obtain ⟨c0, c1, c2, c3, c4⟩ := hc wr (hb.mono hB)
      have hfit := HF.out l[k] (List.getElem_mem hkl)
      have HP := Lib.hid (fun w => rprint_any l[k] w hfit.1 hfit.2)
      have HT := Lib.hid (HTK.out k hkl)
      have hline := Sp.line_le l[k]
      unfold Sp.lineN at HT hline
      have hbx := hb.alloc hb.size (.cells #[.int .i64 l[k].time, .string l[k].unit, .int .i64 l[k].n, .int .i64 l[k].kind, .string l[k].text] 37)
      clear hc hfit
      generalize l[k] = r at *
      generalize Sp.toB (Sp.printR r) = pr at *
      obtain ⟨rt, ru, rn, rk, rx⟩ := r
      simp only [rowV, rowC] at HP
      dsimp only at c0 c1 c2 c3 c4 hbx
      have HBX := Lib.hid hbx

      clear hbx
      have x1 : (0 : Int) ≤ (k : Int) := by omega
      have x2 : (k : Int) < (n : Int) := by omega
      have x3 : IntKind.i64.wrap ((s : Int) + (pr.size : Int)) = (s : Int) + (pr.size : Int) := by rw [IntKind.wrap_i64]; omega
      have x4 : IntKind.i64.wrap ((s : Int) + (pr.size : Int) + 1) = (s : Int) + (pr.size : Int) + 1 := by rw [IntKind.wrap_i64]; omega
      go_wp2_with fail
      refine (HP.out _).mono ?_
      rintro e w2 ⟨rfl, hb2⟩
      have HB2 : Hid (Below w.heap.size w w2) := Lib.hid (HBX.out.trans (hb2.mono HBX.out.size))
      clear hb2 HBX
      clear c0 c1 c2 c3 c4
      go_wp2
      go_roundw
      case rel => exact ⟨k + 1, s + (pr.size + 1), by omega, by go_num, by first | rfl | go_num, HB2.out, Lib.hid (by rw [HT.out, HS.out])⟩
      case measure => first | (simp [intOf]; done) | (simp [intOf]; omega)
    · have x2 : ¬ (k : Int) < (n : Int) := by omega
      have HR : Hid (s = Sp.sizeL l) := Lib.hid (by rw [HS.out, List.take_of_length_le (by rw [HL.out]; omega)])
      go_wp2
      go_ret
      exact ⟨by rw [HR.out]; rfl, hb⟩

@[go_sem] theorem eq_row (x y z : Int) (s t : ByteArray) (w : World) : (Op.equalIn 10000 37 (.agg #[.int .i64 x, .string s, .int .i64 y, .int .i64 z, .string t]) (.agg #[.int .i64 x, .string s, .int .i64 y, .int .i64 z, .string t])).run Tryz.prog w = .ok true w := by
  have u3 := Tryz.underlying3
  have us := Tryz.underlying9
  have hS : Tryz.prog.underlying 37 = some (.struct (Tryz.prog.fieldsOf 37)) := by kernel_rfl
  have hp : Tryz.prog.stoodInHeld 37 = false := by kernel_rfl
  rw [show (10000 : Nat) = 9999 + 1 from rfl, run_equalIn_agg w 9999 37 _ _ hS hp]
  simp only [Program.fieldsOf, Tryz.underlying37]
  go_simp
@[go_sem] theorem guard_row (x y : Operand) (xs ys : Array Value) (w : World) : (eqGuard .neq 37 x y (.agg xs) (.agg ys)).run Tryz.prog w = .ok () w := run_eqGuard_agg w _ _ _ _ _ _ (by kernel_rfl)

set_option maxHeartbeats 4000000 in
theorem same_any (l : List RowD) (A1 A2 : Option Addr) (n c1 c2 B1 B2 : Nat) (w : World) (h1 : Rd w B1 5 A1 n (rowsC l)) (h2 : Rd w B2 5 A2 n (rowsC l)) (hB1 : B1 ≤ w.heap.size) (hB2 : B2 ≤ w.heap.size) (hn : n ≤ 140737488355328) :
    Calls Tryz.prog 10 #[.slice A1 n c1, .slice A2 n c2] w fun e w' => e = .returned (.bool true) ∧ Below w.heap.size w w' := by
  have hl : l.length = n := by have := h1.1; rw [rowsC_len] at this; omega
  have HL := Lib.hid hl
  have HR1 := Lib.hid (fun k hk => Rd.rowAt h1 k hk)
  have HR2 := Lib.hid (fun k hk => Rd.rowAt h2 k hk)
  clear hl
  have hq : ((n : Int) != (n : Int)) = false := by simp
  go_enter Tryz.func10, Tryz.ntmps10
  go_wp2_with fail
  go_loopw [13] (fun v wr => ∃ k : Nat, k ≤ n ∧ v = .int .i64 k ∧ Below w.heap.size w wr) (fun v _ => n - (intOf v).toNat)
  case atStart => exact ⟨0, Nat.zero_le _, rfl, Below.refl _ _⟩
  case round =>
    obtain ⟨k, hk, rfl, hb⟩ := hrel
    by_cases hlt : k < n
    · have hkl : k < l.length := by rw [HL.out]; exact hlt
      obtain ⟨a1, rfl, hc1⟩ := HR1.out k hkl
      obtain ⟨a2, rfl, hc2⟩ := HR2.out k hkl
      obtain ⟨c0, c1, c2, c3, c4⟩ := hc1 wr (hb.mono hB1)
      obtain ⟨d0, d1, d2, d3, d4⟩ := hc2 wr (hb.mono hB2)
      clear hc1 hc2
      generalize l[k] = r at *
      obtain ⟨rt, ru, rn, rk, rx⟩ := r
      dsimp only at c0 c1 c2 c3 c4 d0 d1 d2 d3 d4
      have x1 : (0 : Int) ≤ (k : Int) := by omega
      have x2 : (k : Int) < (n : Int) := by omega
      go_wp2_with fail
      go_quiet (fail)
      go_wp2
      go_roundw
      case rel => exact ⟨k + 1, by omega, by go_num, belowQ hb _⟩
      case measure => first | (simp [intOf]; done) | (simp [intOf]; omega)
    · have x1 : ¬ (k : Int) < (n : Int) := by omega
      go_wp2
      go_ret
      exact ⟨rfl, hb⟩

end Go.Proofs.YtkgogenmhiclcaaGreatDoor
