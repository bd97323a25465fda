/-
  The reference's comparisons, of what is alike.
-/
import Derived.Test.YtkfeicgeobhccaaWs
import Derived.Laws.StructEq
namespace Go.Proofs.Ytkfeicgeobhccaa
open Go.RowKit

@[go_sem] theorem eq_said (x : Int) (s : ByteArray) (w : World) : (Op.equalIn 10000 66 (.agg #[.int .i64 x, .string s]) (.agg #[.int .i64 x, .string s])).run Try.prog w = .ok true w := by
  have u3 := Try.underlying3
  have us := Try.underlying9
  have hS : Try.prog.underlying 66 = some (.struct (Try.prog.fieldsOf 66)) := by kernel_rfl
  have hp : Try.prog.stoodInHeld 66 = false := by kernel_rfl
  rw [show (10000 : Nat) = 9999 + 1 from rfl, run_equalIn_agg w 9999 66 _ _ hS hp]
  simp only [Program.fieldsOf, Try.underlying66]
  go_simp
@[go_sem] theorem eq_call (x y z : Int) (w : World) : (Op.equalIn 10000 54 (.agg #[.int .i64 x, .int .i64 y, .int .i64 z]) (.agg #[.int .i64 x, .int .i64 y, .int .i64 z])).run Try.prog w = .ok true w := by
  have u3 := Try.underlying3
  have hS : Try.prog.underlying 54 = some (.struct (Try.prog.fieldsOf 54)) := by kernel_rfl
  have hp : Try.prog.stoodInHeld 54 = false := by kernel_rfl
  rw [show (10000 : Nat) = 9999 + 1 from rfl, run_equalIn_agg w 9999 54 _ _ hS hp]
  simp only [Program.fieldsOf, Try.underlying54]
  go_simp
@[go_sem] theorem eq_ask (x : Int) (s : ByteArray) (z : Int) (w : World) : (Op.equalIn 10000 51 (.agg #[.int .i64 x, .string s, .int .i64 z]) (.agg #[.int .i64 x, .string s, .int .i64 z])).run Try.prog w = .ok true w := by
  have u3 := Try.underlying3
  have us := Try.underlying9
  have hS : Try.prog.underlying 51 = some (.struct (Try.prog.fieldsOf 51)) := by kernel_rfl
  have hp : Try.prog.stoodInHeld 51 = false := by kernel_rfl
  rw [show (10000 : Nat) = 9999 + 1 from rfl, run_equalIn_agg w 9999 51 _ _ hS hp]
  simp only [Program.fieldsOf, Try.underlying51]
  go_simp
@[go_sem] theorem guard_said (x y : Operand) (xs ys : Array Value) (w : World) : (eqGuard .neq 66 x y (.agg xs) (.agg ys)).run Try.prog w = .ok () w := run_eqGuard_agg w _ _ _ _ _ _ (by kernel_rfl)
@[go_sem] theorem guard_call (x y : Operand) (xs ys : Array Value) (w : World) : (eqGuard .neq 54 x y (.agg xs) (.agg ys)).run Try.prog w = .ok () w := run_eqGuard_agg w _ _ _ _ _ _ (by kernel_rfl)
@[go_sem] theorem guard_ask (x y : Operand) (xs ys : Array Value) (w : World) : (eqGuard .neq 51 x y (.agg xs) (.agg ys)).run Try.prog w = .ok () w := run_eqGuard_agg w _ _ _ _ _ _ (by kernel_rfl)

set_option maxHeartbeats 4000000 in
theorem sameasks_any (A1 A2 : Option Addr) (n c1 c2 B : Nat) (l : List (Int × ByteArray × Int)) (w : World) (h1 : Rd w B 3 A1 n (askCells l)) (h2 : Rd w B 3 A2 n (askCells l)) (hB : B ≤ w.heap.size) (hn : n ≤ 140737488355328) :
    Calls Try.prog 21 #[.slice A1 n c1, .slice A2 n c2] w fun e w' => e = .returned (.bool true) ∧ Below w.heap.size w w' := by
  have hl : l.length = n := by have := h1.1; rw [askCells_len] at this; omega
  have HL := Lib.hid hl
  clear hl
  have hq : ((n : Int) != (n : Int)) = false := by simp
  go_enter Try.func21, Try.ntmps21
  go_wp2_with fail
  go_loopw [13] (fun v wr => ∃ k : Nat, k ≤ n ∧ v = .int .i64 k ∧ Below w.heap.size w wr) (fun v _ => n - (intOf v).toNat)
  case atStart => exact ⟨0, Nat.zero_le _, rfl, Below.refl _ _⟩
  case round =>
    obtain ⟨k, hk, rfl, hb⟩ := hrel
    by_cases hlt : k < n
    · obtain ⟨a1, rfl, hb1, hc1⟩ := (h1.below (hb.mono hB)).here (by omega)
      obtain ⟨a2, rfl, hb2, hc2⟩ := (h2.below (hb.mono hB)).here (by omega)
      have hkl : k < l.length := by rw [HL.out]; exact hlt
      obtain ⟨p0, p1, p2⟩ := askCells_at l k hkl
      have c10 := hc1 _ _ p0
      have c11 := hc1 _ _ p1
      rw [Mem.add_field _ _ 1 (by omega)] at c11
      have c12 := hc1 _ _ p2
      rw [Mem.add_field _ _ 2 (by omega)] at c12
      have c20 := hc2 _ _ p0
      have c21 := hc2 _ _ p1
      rw [Mem.add_field _ _ 1 (by omega)] at c21
      have c22 := hc2 _ _ p2
      rw [Mem.add_field _ _ 2 (by omega)] at c22
      clear hc1 hc2 p0 p1 p2
      generalize l[k] = p at *
      obtain ⟨pt, pu, py⟩ := p
      dsimp only at c10 c11 c12 c20 c21 c22
      have x1 : (0 : Int) ≤ (k : Int) := by omega
      have x2 : (k : Int) < (n : Int) := by omega
      go_wp2_with fail
      go_quiet (fail)
      go_wp2
      go_roundw
      case rel => exact ⟨k + 1, by omega, by go_num, belowQ hb _⟩
      case measure => first | (simp [intOf]; done) | (simp [intOf]; omega)
    · have x1 : ¬ (k : Int) < (n : Int) := by omega
      go_wp2
      go_ret
      exact ⟨rfl, hb⟩

set_option maxHeartbeats 4000000 in
theorem samecalls_any (A1 A2 : Option Addr) (n c1 c2 B : Nat) (l : List (Int × Int × Int)) (w : World) (h1 : Rd w B 3 A1 n (callCells l)) (h2 : Rd w B 3 A2 n (callCells l)) (hB : B ≤ w.heap.size) (hn : n ≤ 140737488355328) :
    Calls Try.prog 18 #[.slice A1 n c1, .slice A2 n c2] w fun e w' => e = .returned (.bool true) ∧ Below w.heap.size w w' := by
  have hl : l.length = n := by have := h1.1; rw [callCells_len] at this; omega
  have HL := Lib.hid hl
  clear hl
  have hq : ((n : Int) != (n : Int)) = false := by simp
  go_enter Try.func18, Try.ntmps18
  go_wp2_with fail
  go_loopw [13] (fun v wr => ∃ k : Nat, k ≤ n ∧ v = .int .i64 k ∧ Below w.heap.size w wr) (fun v _ => n - (intOf v).toNat)
  case atStart => exact ⟨0, Nat.zero_le _, rfl, Below.refl _ _⟩
  case round =>
    obtain ⟨k, hk, rfl, hb⟩ := hrel
    by_cases hlt : k < n
    · obtain ⟨a1, rfl, hb1, hc1⟩ := (h1.below (hb.mono hB)).here (by omega)
      obtain ⟨a2, rfl, hb2, hc2⟩ := (h2.below (hb.mono hB)).here (by omega)
      have hkl : k < l.length := by rw [HL.out]; exact hlt
      obtain ⟨p0, p1, p2⟩ := callCells_at l k hkl
      have c10 := hc1 _ _ p0
      have c11 := hc1 _ _ p1
      rw [Mem.add_field _ _ 1 (by omega)] at c11
      have c12 := hc1 _ _ p2
      rw [Mem.add_field _ _ 2 (by omega)] at c12
      have c20 := hc2 _ _ p0
      have c21 := hc2 _ _ p1
      rw [Mem.add_field _ _ 1 (by omega)] at c21
      have c22 := hc2 _ _ p2
      rw [Mem.add_field _ _ 2 (by omega)] at c22
      clear hc1 hc2 p0 p1 p2
      generalize l[k] = p at *
      obtain ⟨pt, pu, py⟩ := p
      dsimp only at c10 c11 c12 c20 c21 c22
      have x1 : (0 : Int) ≤ (k : Int) := by omega
      have x2 : (k : Int) < (n : Int) := by omega
      go_wp2_with fail
      go_quiet (fail)
      go_wp2
      go_roundw
      case rel => exact ⟨k + 1, by omega, by go_num, belowQ hb _⟩
      case measure => first | (simp [intOf]; done) | (simp [intOf]; omega)
    · have x1 : ¬ (k : Int) < (n : Int) := by omega
      go_wp2
      go_ret
      exact ⟨rfl, hb⟩

set_option maxRecDepth 100000 in
set_option maxHeartbeats 8000000 in
theorem sameact_any (a : ActD) (tA : Option Addr) (tc B : Nat) (w : World) (h1 : Rd w B 2 a.sA a.sn (sayCells a.says)) (h2 : Rd w B 2 tA a.sn (sayCells a.says)) (hB : B ≤ w.heap.size) (hn : a.sn ≤ 140737488355328) :
    Calls Try.prog 15 #[actV a, actV { a with sA := tA, sc := tc }] w fun e w' => e = .returned (.bool true) ∧ Below w.heap.size w w' := by
  obtain ⟨un, pa, nu, at_, la, co, re, di, sA, sn, sc, sy⟩ := a
  dsimp only at h1 h2 hn
  have hl : sy.length = sn := by have := h1.1; rw [sayCells_len] at this; omega
  have HL := Lib.hid hl
  clear hl
  have hq : ((sn : Int) != (sn : Int)) = false := by simp
  show Calls Try.prog 15 #[.agg #[.string un, .int .i64 pa, .int .i64 nu, .int .i64 at_, .int .i64 la, .int .i64 co, .int .i64 re, .int .i64 di, .slice sA sn sc], .agg #[.string un, .int .i64 pa, .int .i64 nu, .int .i64 at_, .int .i64 la, .int .i64 co, .int .i64 re, .int .i64 di, .slice tA sn tc]] w _
  have hbW := ((Below.refl w.heap.size w).alloc (Nat.le_refl _) (.cells #[.string un, .int .i64 pa, .int .i64 nu, .int .i64 at_, .int .i64 la, .int .i64 co, .int .i64 re, .int .i64 di, .slice sA sn sc] 38)).alloc (by simp) (.cells #[.string un, .int .i64 pa, .int .i64 nu, .int .i64 at_, .int .i64 la, .int .i64 co, .int .i64 re, .int .i64 di, .slice tA sn tc] 38)
  go_enter Try.func15, Try.ntmps15
  go_wp2_with fail
  go_loopw [16] (fun v wr => ∃ k : Nat, k ≤ sn ∧ v = .int .i64 k ∧ Below (w.heap.size + 2) ((w.alloc (.cells #[.string un, .int .i64 pa, .int .i64 nu, .int .i64 at_, .int .i64 la, .int .i64 co, .int .i64 re, .int .i64 di, .slice sA sn sc] 38)).alloc (.cells #[.string un, .int .i64 pa, .int .i64 nu, .int .i64 at_, .int .i64 la, .int .i64 co, .int .i64 re, .int .i64 di, .slice tA sn tc] 38)) wr) (fun v _ => sn - (intOf v).toNat)
  case atStart => exact ⟨0, Nat.zero_le _, rfl, Below.refl _ _⟩
  case round =>
    obtain ⟨k, hk, rfl, hb⟩ := hrel
    have hbw : Below w.heap.size w wr := hbW.trans (hb.mono (by omega))
    have q0 : wr.cell? ⟨w.heap.size, 0, none⟩ = some (.string un) := (hb.cell (p := ⟨w.heap.size, 0, none⟩) (by simp)).trans (by go_simp)
    have q1 : wr.cell? ⟨w.heap.size, 1, none⟩ = some (.int .i64 pa) := (hb.cell (p := ⟨w.heap.size, 1, none⟩) (by simp)).trans (by go_simp)
    have q2 : wr.cell? ⟨w.heap.size, 2, none⟩ = some (.int .i64 nu) := (hb.cell (p := ⟨w.heap.size, 2, none⟩) (by simp)).trans (by go_simp)
    have q3 : wr.cell? ⟨w.heap.size, 3, none⟩ = some (.int .i64 at_) := (hb.cell (p := ⟨w.heap.size, 3, none⟩) (by simp)).trans (by go_simp)
    have q4 : wr.cell? ⟨w.heap.size, 4, none⟩ = some (.int .i64 la) := (hb.cell (p := ⟨w.heap.size, 4, none⟩) (by simp)).trans (by go_simp)
    have q5 : wr.cell? ⟨w.heap.size, 5, none⟩ = some (.int .i64 co) := (hb.cell (p := ⟨w.heap.size, 5, none⟩) (by simp)).trans (by go_simp)
    have q6 : wr.cell? ⟨w.heap.size, 6, none⟩ = some (.int .i64 re) := (hb.cell (p := ⟨w.heap.size, 6, none⟩) (by simp)).trans (by go_simp)
    have q7 : wr.cell? ⟨w.heap.size, 7, none⟩ = some (.int .i64 di) := (hb.cell (p := ⟨w.heap.size, 7, none⟩) (by simp)).trans (by go_simp)
    have q8 : wr.cell? ⟨w.heap.size, 8, none⟩ = some (.slice sA sn sc) := (hb.cell (p := ⟨w.heap.size, 8, none⟩) (by simp)).trans (by go_simp)
    have r0 : wr.cell? ⟨w.heap.size + 1, 0, none⟩ = some (.string un) := (hb.cell (p := ⟨w.heap.size + 1, 0, none⟩) (by simp)).trans (by go_simp)
    have r1 : wr.cell? ⟨w.heap.size + 1, 1, none⟩ = some (.int .i64 pa) := (hb.cell (p := ⟨w.heap.size + 1, 1, none⟩) (by simp)).trans (by go_simp)
    have r2 : wr.cell? ⟨w.heap.size + 1, 2, none⟩ = some (.int .i64 nu) := (hb.cell (p := ⟨w.heap.size + 1, 2, none⟩) (by simp)).trans (by go_simp)
    have r3 : wr.cell? ⟨w.heap.size + 1, 3, none⟩ = some (.int .i64 at_) := (hb.cell (p := ⟨w.heap.size + 1, 3, none⟩) (by simp)).trans (by go_simp)
    have r4 : wr.cell? ⟨w.heap.size + 1, 4, none⟩ = some (.int .i64 la) := (hb.cell (p := ⟨w.heap.size + 1, 4, none⟩) (by simp)).trans (by go_simp)
    have r5 : wr.cell? ⟨w.heap.size + 1, 5, none⟩ = some (.int .i64 co) := (hb.cell (p := ⟨w.heap.size + 1, 5, none⟩) (by simp)).trans (by go_simp)
    have r6 : wr.cell? ⟨w.heap.size + 1, 6, none⟩ = some (.int .i64 re) := (hb.cell (p := ⟨w.heap.size + 1, 6, none⟩) (by simp)).trans (by go_simp)
    have r7 : wr.cell? ⟨w.heap.size + 1, 7, none⟩ = some (.int .i64 di) := (hb.cell (p := ⟨w.heap.size + 1, 7, none⟩) (by simp)).trans (by go_simp)
    have r8 : wr.cell? ⟨w.heap.size + 1, 8, none⟩ = some (.slice tA sn tc) := (hb.cell (p := ⟨w.heap.size + 1, 8, none⟩) (by simp)).trans (by go_simp)
    by_cases hlt : k < sn
    · obtain ⟨a1, rfl, hb1, hc1⟩ := (h1.below (hbw.mono hB)).here (by omega)
      obtain ⟨a2, rfl, hb2, hc2⟩ := (h2.below (hbw.mono hB)).here (by omega)
      have hkl : k < sy.length := by rw [HL.out]; exact hlt
      obtain ⟨p0, p1⟩ := sayCells_at sy k hkl
      have c10 := hc1 _ _ p0
      have c11 := hc1 _ _ p1
      rw [Mem.add_field _ _ 1 (by omega)] at c11
      have c20 := hc2 _ _ p0
      have c21 := hc2 _ _ p1
      rw [Mem.add_field _ _ 1 (by omega)] at c21
      clear hc1 hc2 p0 p1 q0 q1 q2 q3 q4 q5 q6 q7 r0 r1 r2 r3 r4 r5 r6 r7
      generalize sy[k] = p at *
      obtain ⟨aft, txt⟩ := p
      dsimp only at c10 c11 c20 c21
      have x1 : (0 : Int) ≤ (k : Int) := by omega
      have x2 : (k : Int) < (sn : Int) := by omega
      go_wp2_with fail
      go_quiet (fail)
      go_wp2
      go_roundw
      case rel => exact ⟨k + 1, by omega, by go_num, belowQ hb _⟩
      case measure => first | (simp [intOf]; done) | (simp [intOf]; omega)
    · have x1 : ¬ (k : Int) < (sn : Int) := by omega
      have t0 : (un.toList == un.toList) = true := by simp
      go_wp2
      go_ret
      exact ⟨by simp, hbw⟩

end Go.Proofs.Ytkfeicgeobhccaa
