/-
  Rows by value, and the walks of the smallest functions of rows: which may be, which comes ahead, a unit's word and back.
-/
import Derived.Test.YtkgogenmhiclcaaGreatDoorWb
import Derived.Test.YtkgogenmhiclcaaGreatDoorNm4
import Derived.Test.YtkgogenmhiclcaaGreatDoorNm6
import Derived.Test.YtkgogenmhiclcaaGreatDoorSp3
import Derived.Sort.Walk0
namespace Go.Proofs.YtkgogenmhiclcaaGreatDoor
open Go.RowKit

set_option maxHeartbeats 1000000 in
theorem cleanm_any (s : ByteArray) (m : Nat) (w : World) (hs : s.size ≤ 140737488355328) :
    Calls Tryz.prog 41 #[.string s, .int .i64 m] w fun e w' => e = .returned (.bool (cleanL s.data.toList && decide (s.size ≤ m))) ∧ w = w' := by
  go_enter Tryz.func41, Tryz.ntmps41
  go_wp2_with fail
  go_loop [8] (fun i => ∃ k : Nat, k ≤ s.size ∧ i = .int .i64 k ∧ Hid (cleanL (s.data.toList.take k) = true)) (fun i => s.size - (intOf i).toNat)
  case atStart => exact ⟨0, Nat.zero_le _, rfl, Lib.hid rfl⟩
  case round =>
    obtain ⟨k, hk, rfl, HK⟩ := hrel
    by_cases hlt : k < s.size
    · cases hc : cleanByte s[k] with
      | false =>
        have HN := Lib.hid (clean_no s k hlt hc)
        have hor : (s[k].toNat : Int) < 32 ∨ (¬ (s[k].toNat : Int) < 32 ∧ (126 : Int) < (s[k].toNat : Int)) := by
          simp [cleanByte] at hc; omega
        clear hc
        rcases hor with h1 | ⟨h1, h2⟩
        · go_wp2
          go_ret
          exact ⟨ret_bool (by rw [HN.out]; rfl), rfl⟩
        · go_wp2
          go_ret
          exact ⟨ret_bool (by rw [HN.out]; rfl), rfl⟩
      | true =>
        have HN : Hid (cleanL (s.data.toList.take (k + 1)) = true) := Lib.hid (by rw [clean_take s k hlt, HK.out, hc]; rfl)
        have h1 : ¬ (s[k].toNat : Int) < 32 := by simp [cleanByte] at hc; omega
        have h2 : ¬ (126 : Int) < (s[k].toNat : Int) := by simp [cleanByte] at hc; omega
        clear hc
        go_wp2
        go_round
        case rel => exact ⟨k + 1, by omega, by go_num, HN⟩
        case measure => first | (simp [intOf]; done) | (simp [intOf]; omega)
    · have HN : Hid (cleanL s.data.toList = true) := Lib.hid (by rw [← Sp.take_all s k hk hlt]; exact HK.out)
      go_wp2
      go_ret
      exact ⟨ret_bool (by rw [HN.out, Bool.eq_iff_iff]; simp; try omega), rfl⟩

set_option maxHeartbeats 1000000 in
theorem rplainm_any (s : ByteArray) (m : Nat) (w : World) (hs : s.size ≤ 140737488355328) :
    Calls Tryz.prog 44 #[.string s, .int .i64 m] w fun e w' => e = .returned (.bool (cleanL s.data.toList && decide (s.size ≤ m))) ∧ w = w' := by
  by_cases h100 : s.size ≤ m
  · have hd : decide (s.size ≤ m) = true := by simpa using h100
    have hi : ¬ (m : Int) < (s.size : Int) := by omega
    rw [hd, Bool.and_true]
    clear hd
    go_enter Tryz.func44, Tryz.ntmps44
    go_wp2_with fail
    go_loop [5] (fun i => ∃ k : Nat, k ≤ s.size ∧ i = .int .i64 k ∧ Hid (cleanL (s.data.toList.take k) = true)) (fun i => s.size - (intOf i).toNat)
    case atStart => exact ⟨0, Nat.zero_le _, rfl, Lib.hid rfl⟩
    case round =>
      obtain ⟨k, hk, rfl, HK⟩ := hrel
      by_cases hlt : k < s.size
      · cases hc : cleanByte s[k] with
        | false =>
          have HN := Lib.hid (clean_no s k hlt hc)
          have hor : (s[k].toNat : Int) < 32 ∨ (¬ (s[k].toNat : Int) < 32 ∧ (126 : Int) < (s[k].toNat : Int)) := by
            simp [cleanByte] at hc; omega
          clear hc
          rcases hor with h1 | ⟨h1, h2⟩
          · go_wp2
            go_ret
            exact ⟨ret_bool (by rw [HN.out]), rfl⟩
          · go_wp2
            go_ret
            exact ⟨ret_bool (by rw [HN.out]), rfl⟩
        | true =>
          have HN : Hid (cleanL (s.data.toList.take (k + 1)) = true) := Lib.hid (by rw [clean_take s k hlt, HK.out, hc]; rfl)
          have h1 : ¬ (s[k].toNat : Int) < 32 := by simp [cleanByte] at hc; omega
          have h2 : ¬ (126 : Int) < (s[k].toNat : Int) := by simp [cleanByte] at hc; omega
          clear hc
          go_wp2
          go_round
          case rel => exact ⟨k + 1, by omega, by go_num, HN⟩
          case measure => first | (simp [intOf]; done) | (simp [intOf]; omega)
      · have HN : Hid (cleanL s.data.toList = true) := Lib.hid (by rw [← Sp.take_all s k hk hlt]; exact HK.out)
        go_wp2
        go_ret
        exact ⟨ret_bool (by rw [HN.out]), rfl⟩
  · have hd : decide (s.size ≤ m) = false := by simpa using h100
    have hi : (m : Int) < (s.size : Int) := by omega
    rw [hd, Bool.and_false]
    go_enter Tryz.func44, Tryz.ntmps44
    go_wp2
    go_ret
    exact ⟨rfl, rfl⟩

/-- a row -/
structure RowD where
  time : Int
  unit : ByteArray
  n : Int
  kind : Int
  text : ByteArray
def rowC (r : RowD) : List Value := [.int .i64 r.time, .string r.unit, .int .i64 r.n, .int .i64 r.kind, .string r.text]
def rowV (r : RowD) : Value := .agg (rowC r).toArray
/-- may it be? -/
def mayRowB (r : RowD) : Bool := timeB r.time && ((r.unit.toList.isEmpty || Sp.mayL r.unit.data.toList) && (decide (1 ≤ r.n) && (decide (r.n ≤ 1000000) && (decide (1 ≤ r.kind) && (decide (r.kind ≤ 6) && (cleanL r.text.data.toList && decide (r.text.size ≤ 200)))))))
/-- does a come ahead of b? -/
def lessB (a b : RowD) : Bool := if a.time == b.time then (if a.unit.toList == b.unit.toList then decide (a.n < b.n) else Op.bytesLess a.unit.toList b.unit.toList) else decide (a.time < b.time)
/-- a unit's word, and back -/
def unitW (u : ByteArray) : ByteArray := if u.toList.isEmpty then ⟨#[45]⟩ else u
def backW (u : ByteArray) : ByteArray := if u.toList == [45] then ⟨#[]⟩ else u

set_option maxHeartbeats 2000000 in
theorem less_any (a b : RowD) (w : World) :
    Calls Tryz.prog 20 #[rowV a, rowV b] w fun e w' => e = .returned (.bool (lessB a b)) ∧ Below w.heap.size w w' := by
  obtain ⟨at_, au, an, ak, ax⟩ := a
  obtain ⟨bt, bu, bn, bk, bx⟩ := b
  show Calls Tryz.prog 20 #[.agg #[.int .i64 at_, .string au, .int .i64 an, .int .i64 ak, .string ax], .agg #[.int .i64 bt, .string bu, .int .i64 bn, .int .i64 bk, .string bx]] w fun e w' => e = .returned (.bool (if at_ == bt then (if au.toList == bu.toList then decide (an < bn) else Op.bytesLess au.toList bu.toList) else decide (at_ < bt))) ∧ Below w.heap.size w w'
  have hb : Below w.heap.size w ((w.alloc (.cells #[.int .i64 at_, .string au, .int .i64 an, .int .i64 ak, .string ax] 37)).alloc (.cells #[.int .i64 bt, .string bu, .int .i64 bn, .int .i64 bk, .string bx] 37)) := ((Below.refl _ _).alloc (Nat.le_refl _) _).alloc (by simp) _
  cases h1 : (at_ == bt) with
  | false =>
    go_enter Tryz.func20, Tryz.ntmps20
    go_wp2
    go_ret
    exact ⟨rfl, hb⟩
  | true =>
    cases h2 : (au.toList == bu.toList) with
    | false =>
      go_enter Tryz.func20, Tryz.ntmps20
      go_wp2
      go_ret
      exact ⟨rfl, hb⟩
    | true =>
      go_enter Tryz.func20, Tryz.ntmps20
      go_wp2
      go_ret
      exact ⟨rfl, hb⟩

set_option maxHeartbeats 2000000 in
theorem rless_any (a b : RowD) (w : World) :
    Calls Tryz.prog 27 #[rowV a, rowV b] w fun e w' => e = .returned (.bool (lessB a b)) ∧ Below w.heap.size w w' := by
  obtain ⟨at_, au, an, ak, ax⟩ := a
  obtain ⟨bt, bu, bn, bk, bx⟩ := b
  show Calls Tryz.prog 27 #[.agg #[.int .i64 at_, .string au, .int .i64 an, .int .i64 ak, .string ax], .agg #[.int .i64 bt, .string bu, .int .i64 bn, .int .i64 bk, .string bx]] w fun e w' => e = .returned (.bool (if at_ == bt then (if au.toList == bu.toList then decide (an < bn) else Op.bytesLess au.toList bu.toList) else decide (at_ < bt))) ∧ Below w.heap.size w w'
  have hb : Below w.heap.size w ((w.alloc (.cells #[.int .i64 at_, .string au, .int .i64 an, .int .i64 ak, .string ax] 37)).alloc (.cells #[.int .i64 bt, .string bu, .int .i64 bn, .int .i64 bk, .string bx] 37)) := ((Below.refl _ _).alloc (Nat.le_refl _) _).alloc (by simp) _
  cases h1 : (at_ == bt) with
  | false =>
    go_enter Tryz.func27, Tryz.ntmps27
    go_wp2
    go_ret
    exact ⟨rfl, hb⟩
  | true =>
    cases h2 : (au.toList == bu.toList) with
    | false =>
      go_enter Tryz.func27, Tryz.ntmps27
      go_wp2
      go_ret
      exact ⟨rfl, hb⟩
    | true =>
      go_enter Tryz.func27, Tryz.ntmps27
      go_wp2
      go_ret
      exact ⟨rfl, hb⟩

theorem unit_any (u : ByteArray) (w : World) :
    Calls Tryz.prog 47 #[.string u] w fun e w' => e = .returned (.string (unitW u)) ∧ w = w' := by
  unfold unitW
  cases h : u.toList.isEmpty
  all_goals
    go_enter Tryz.func47, Tryz.ntmps47
    go_wp2
    go_ret
    exact ⟨rfl, rfl⟩

theorem runit_any (u : ByteArray) (w : World) :
    Calls Tryz.prog 49 #[.string u] w fun e w' => e = .returned (.string (unitW u)) ∧ w = w' := by
  unfold unitW
  cases h : u.toList.isEmpty
  all_goals
    go_enter Tryz.func49, Tryz.ntmps49
    go_wp2
    go_ret
    exact ⟨rfl, rfl⟩

theorem back_any (u : ByteArray) (w : World) :
    Calls Tryz.prog 52 #[.string u] w fun e w' => e = .returned (.string (backW u)) ∧ w = w' := by
  unfold backW
  cases h : (u.toList == [45])
  all_goals
    go_enter Tryz.func52, Tryz.ntmps52
    go_wp2
    go_ret
    exact ⟨rfl, rfl⟩

set_option maxRecDepth 100000 in
set_option maxHeartbeats 4000000 in
theorem mayrow_any (r : RowD) (w : World) (hu : r.unit.size ≤ 140737488355328) (hx : r.text.size ≤ 140737488355328) :
    Calls Tryz.prog 28 #[rowV r] w fun e w' => e = .returned (.bool (mayRowB r)) ∧ Below w.heap.size w w' := by
  obtain ⟨ti, un, n, kd, tx⟩ := r
  dsimp only at hu hx
  show Calls Tryz.prog 28 #[.agg #[.int .i64 ti, .string un, .int .i64 n, .int .i64 kd, .string tx]] w fun e w' => e = .returned (.bool (timeB ti && ((un.toList.isEmpty || Sp.mayL un.data.toList) && (decide (1 ≤ n) && (decide (n ≤ 1000000) && (decide (1 ≤ kd) && (decide (kd ≤ 6) && (cleanL tx.data.toList && decide (tx.size ≤ 200))))))))) ∧ Below w.heap.size w w'
  have hb : Below w.heap.size w (w.alloc (.cells #[.int .i64 ti, .string un, .int .i64 n, .int .i64 kd, .string tx] 37)) := (Below.refl _ _).alloc (Nat.le_refl _) _
  have HK : Hid (∀ w1, Below (w.alloc (.cells #[.int .i64 ti, .string un, .int .i64 n, .int .i64 kd, .string tx] 37)).heap.size (w.alloc (.cells #[.int .i64 ti, .string un, .int .i64 n, .int .i64 kd, .string tx] 37)) w1 → Below w.heap.size w w1 ∧ w1.cell? ⟨w.heap.size, 2, none⟩ = some (.int .i64 n) ∧ w1.cell? ⟨w.heap.size, 3, none⟩ = some (.int .i64 kd) ∧ w1.cell? ⟨w.heap.size, 4, none⟩ = some (.string tx)) := Lib.hid fun w1 hw => by
    refine ⟨hb.trans (hw.mono (by simp)), ?_, ?_, ?_⟩
    · rw [hw.cell (p := ⟨w.heap.size, 2, none⟩) (by simp)]; simp
    · rw [hw.cell (p := ⟨w.heap.size, 3, none⟩) (by simp)]; simp
    · rw [hw.cell (p := ⟨w.heap.size, 4, none⟩) (by simp)]; simp
  cases e1 : timeB ti <;> cases e2 : un.toList.isEmpty <;> cases e3 : Sp.mayL un.data.toList
  all_goals
    go_enter Tryz.func28, Tryz.ntmps28
    go_wp2_with (first | (go_at_call 39; refine (time_any _ _).mono ?_; rintro e w' ⟨rfl, rfl⟩; rw [e1]) | (go_at_call 40; refine (may_any _ _ (by omega)).mono ?_; rintro e w1 ⟨rfl, hb1⟩; obtain ⟨hf, c2, c3, c4⟩ := HK.out _ hb1; clear hb1; rw [e3]) | (go_at_call 41; refine (cleanm_any _ 200 _ (by omega)).mono ?_; rintro e w' ⟨rfl, rfl⟩))
    all_goals
      go_ret
      refine ⟨ret_bool ?_, by first | exact hf | exact hb⟩
      (simp_all; try (intros; omega))

theorem rmayL_any (s : ByteArray) (w : World) :
    Calls Tryz.prog 43 #[.string s] w fun e w' => e = .returned (.bool (Sp.mayL s.data.toList)) ∧ Below w.heap.size w w' := by
  have h := rmay_any s w
  rw [Sp.ofL_eq] at h
  have e : Sp.mayL s.data.toList = decide (0 < Sp.kindL s.data.toList) := by have := (Sp.kindL_range s.data.toList).1; rw [Bool.eq_iff_iff]; simp [Sp.mayL]; omega
  rw [e]
  exact h

set_option maxRecDepth 100000 in
set_option maxHeartbeats 4000000 in
theorem rmayrow_any (r : RowD) (w : World) (hu : r.unit.size ≤ 140737488355328) (hx : r.text.size ≤ 140737488355328) :
    Calls Tryz.prog 29 #[rowV r] w fun e w' => e = .returned (.bool (mayRowB r)) ∧ Below w.heap.size w w' := by
  obtain ⟨ti, un, n, kd, tx⟩ := r
  dsimp only at hu hx
  show Calls Tryz.prog 29 #[.agg #[.int .i64 ti, .string un, .int .i64 n, .int .i64 kd, .string tx]] w fun e w' => e = .returned (.bool (timeB ti && ((un.toList.isEmpty || Sp.mayL un.data.toList) && (decide (1 ≤ n) && (decide (n ≤ 1000000) && (decide (1 ≤ kd) && (decide (kd ≤ 6) && (cleanL tx.data.toList && decide (tx.size ≤ 200))))))))) ∧ Below w.heap.size w w'
  have hb : Below w.heap.size w (w.alloc (.cells #[.int .i64 ti, .string un, .int .i64 n, .int .i64 kd, .string tx] 37)) := (Below.refl _ _).alloc (Nat.le_refl _) _
  have HK : Hid (∀ w1, Below (w.alloc (.cells #[.int .i64 ti, .string un, .int .i64 n, .int .i64 kd, .string tx] 37)).heap.size (w.alloc (.cells #[.int .i64 ti, .string un, .int .i64 n, .int .i64 kd, .string tx] 37)) w1 → Below w.heap.size w w1 ∧ w1.cell? ⟨w.heap.size, 2, none⟩ = some (.int .i64 n) ∧ w1.cell? ⟨w.heap.size, 3, none⟩ = some (.int .i64 kd) ∧ w1.cell? ⟨w.heap.size, 4, none⟩ = some (.string tx)) := Lib.hid fun w1 hw => by
    refine ⟨hb.trans (hw.mono (by simp)), ?_, ?_, ?_⟩
    · rw [hw.cell (p := ⟨w.heap.size, 2, none⟩) (by simp)]; simp
    · rw [hw.cell (p := ⟨w.heap.size, 3, none⟩) (by simp)]; simp
    · rw [hw.cell (p := ⟨w.heap.size, 4, none⟩) (by simp)]; simp
  cases e1 : timeB ti <;> cases e2 : un.toList.isEmpty <;> cases e3 : Sp.mayL un.data.toList
  all_goals
    go_enter Tryz.func29, Tryz.ntmps29
    go_wp2_with (first | (go_at_call 42; refine (rtime_any _ _).mono ?_; rintro e w' ⟨rfl, rfl⟩; rw [e1]) | (go_at_call 43; refine (rmayL_any _ _).mono ?_; rintro e w1 ⟨rfl, hb1⟩; obtain ⟨hf, c2, c3, c4⟩ := HK.out _ hb1; clear hb1; rw [e3]) | (go_at_call 44; refine (rplainm_any _ 200 _ (by omega)).mono ?_; rintro e w' ⟨rfl, rfl⟩))
    all_goals
      go_ret
      refine ⟨ret_bool ?_, by first | exact hf | exact hb⟩
      (simp_all; try (intros; omega))

end Go.Proofs.YtkgogenmhiclcaaGreatDoor
