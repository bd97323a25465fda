/-
  The law that rows are in one order: its plain part, and its walk.
-/
import Derived.Test.YthdefhfgbanfpaaDoorRf
namespace Go.Proofs.YthdefhfgbanfpaaDoor
open Go.RowKit

namespace Sp
theorem bl_asym : ∀ (x y : List UInt8), Op.bytesLess x y = true → Op.bytesLess y x = false
  | [], [], h => by simp [Op.bytesLess] at h
  | [], d :: s, _ => by simp [Op.bytesLess]
  | c :: r, [], h => by simp [Op.bytesLess] at h
  | c :: r, d :: s, h => by
    rw [Op.bytesLess, Bool.or_eq_true, Bool.and_eq_true] at h
    rw [Op.bytesLess, Bool.or_eq_false_iff, Bool.and_eq_false_iff]
    simp only [decide_eq_true_eq, decide_eq_false_iff_not, beq_iff_eq, beq_eq_false_iff_ne, UInt8.lt_iff_toNat_lt] at h ⊢
    rcases h with h | ⟨rfl, h⟩
    · exact ⟨by omega, .inl (by rintro rfl; omega)⟩
    · exact ⟨by omega, .inr (bl_asym r s h)⟩
theorem bl_total : ∀ (x y : List UInt8), x ≠ y → Op.bytesLess x y = true ∨ Op.bytesLess y x = true
  | [], [], h => absurd rfl h
  | [], d :: s, _ => by simp [Op.bytesLess]
  | c :: r, [], _ => by simp [Op.bytesLess]
  | c :: r, d :: s, h => by
    rw [Op.bytesLess, Op.bytesLess, Bool.or_eq_true, Bool.and_eq_true, Bool.or_eq_true, Bool.and_eq_true]
    simp only [decide_eq_true_eq, beq_iff_eq, UInt8.lt_iff_toNat_lt]
    by_cases e : c = d
    · subst e
      rcases bl_total r s (fun e => h (by rw [e])) with g | g
      · exact .inl (.inr ⟨rfl, g⟩)
      · exact .inr (.inr ⟨rfl, g⟩)
    · have : c.toNat ≠ d.toNat := fun e2 => e (UInt8.toNat_inj.1 e2)
      by_cases g : c.toNat < d.toNat
      · exact .inl (.inl g)
      · exact .inr (.inl (by omega))
theorem bl_trans : ∀ (x y z : List UInt8), Op.bytesLess x y = true → Op.bytesLess y z = true → Op.bytesLess x z = true
  | x, [], z, h, _ => by cases x <;> simp [Op.bytesLess] at h
  | x, d :: s, [], _, g => by simp [Op.bytesLess] at g
  | [], d :: s, e :: t, _, _ => by simp [Op.bytesLess]
  | c :: r, d :: s, e :: t, h, g => by
    rw [Op.bytesLess, Bool.or_eq_true, Bool.and_eq_true] at h g ⊢
    simp only [decide_eq_true_eq, beq_iff_eq, UInt8.lt_iff_toNat_lt] at h g ⊢
    rcases h with h | ⟨rfl, h⟩
    · rcases g with g | ⟨rfl, g⟩
      · exact .inl (by omega)
      · exact .inl h
    · rcases g with g | ⟨rfl, g⟩
      · exact .inl g
      · exact .inr ⟨rfl, bl_trans r s t h g⟩
theorem bl_self (x : List UInt8) : Op.bytesLess x x = false := by
  cases h : Op.bytesLess x x with
  | false => rfl
  | true => rw [bl_asym x x h] at h; cases h
/-- two rows that are told apart by nothing -/
def alikeB (a b : RowD) : Bool := (a.time == b.time) && ((a.unit.toList == b.unit.toList) && (a.n == b.n))
theorem less_asym (a b : RowD) (h : lessB a b = true) : lessB b a = false := by
  unfold lessB at h ⊢
  by_cases h1 : a.time = b.time
  · by_cases h2 : a.unit.toList = b.unit.toList
    · simp only [h1, h2, beq_self_eq_true, if_true] at h ⊢
      simp at h ⊢; omega
    · have h3 : (a.unit.toList == b.unit.toList) = false := by simpa using h2
      have h4 : (b.unit.toList == a.unit.toList) = false := by simpa using fun e => h2 e.symm
      simp only [h1, h3, h4, beq_self_eq_true, if_true] at h ⊢
      exact bl_asym _ _ (by simpa using h)
  · have h3 : (a.time == b.time) = false := by simpa using h1
    have h4 : (b.time == a.time) = false := by simpa using fun e => h1 e.symm
    simp only [h3, h4] at h ⊢
    simp at h ⊢; omega
theorem less_total (a b : RowD) : alikeB a b = !(lessB a b || lessB b a) := by
  unfold alikeB lessB
  by_cases h1 : a.time = b.time
  · by_cases h2 : a.unit.toList = b.unit.toList
    · simp only [h1, h2, beq_self_eq_true, if_true]
      rw [Bool.eq_iff_iff]
      simp; omega
    · have h3 : (a.unit.toList == b.unit.toList) = false := by simpa using h2
      have h4 : (b.unit.toList == a.unit.toList) = false := by simpa using fun e => h2 e.symm
      simp only [h1, h3, h4, beq_self_eq_true, if_true]
      rcases bl_total _ _ h2 with g | g
      · simp [g]
      · simp [g]
  · have h3 : (a.time == b.time) = false := by simpa using h1
    have h4 : (b.time == a.time) = false := by simpa using fun e => h1 e.symm
    simp only [h3, h4]
    rw [Bool.eq_iff_iff]
    simp; omega
theorem less_trans (a b c : RowD) (h : lessB a b = true) (g : lessB b c = true) : lessB a c = true := by
  unfold lessB at h g ⊢
  by_cases h1 : a.time = b.time
  · by_cases g1 : b.time = c.time
    · have e1 : (b.time == c.time) = true := by simpa using g1
      have e2 : (a.time == b.time) = true := by simpa using h1
      have e3 : (a.time == c.time) = true := by simpa using h1.trans g1
      simp only [e1, e2, e3, if_true] at h g ⊢
      by_cases h2 : a.unit.toList = b.unit.toList
      · have f1 : (a.unit.toList == b.unit.toList) = true := by simpa using h2
        by_cases g2 : b.unit.toList = c.unit.toList
        · have f2 : (b.unit.toList == c.unit.toList) = true := by simpa using g2
          have f3 : (a.unit.toList == c.unit.toList) = true := by simpa using h2.trans g2
          simp only [f1, f2, f3, if_true] at h g ⊢
          simp at h g ⊢; omega
        · have f2 : (b.unit.toList == c.unit.toList) = false := by simpa using g2
          have f3 : (a.unit.toList == c.unit.toList) = false := by rw [h2]; exact f2
          simp only [f2, f3] at g ⊢
          rw [h2]; exact g
      · have f1 : (a.unit.toList == b.unit.toList) = false := by simpa using h2
        by_cases g2 : b.unit.toList = c.unit.toList
        · have f3 : (a.unit.toList == c.unit.toList) = false := by rw [← g2]; exact f1
          simp only [f1, f3] at h ⊢
          rw [← g2]; exact h
        · have f2 : (b.unit.toList == c.unit.toList) = false := by simpa using g2
          simp only [f1, f2] at h g
          have t := bl_trans _ _ _ (by simpa using h) (by simpa using g)
          have f3 : (a.unit.toList == c.unit.toList) = false := by
            simp only [beq_eq_false_iff_ne]
            intro e
            rw [e, bl_self] at t
            cases t
          simp only [f3]
          simpa using t
    · have e1 : (b.time == c.time) = false := by simpa using g1
      have e3 : (a.time == c.time) = false := by rw [h1]; exact e1
      simp only [e1, e3] at g ⊢
      simp at g ⊢; omega
  · have e2 : (a.time == b.time) = false := by simpa using h1
    simp only [e2] at h
    by_cases g1 : b.time = c.time
    · have e3 : (a.time == c.time) = false := by rw [← g1]; exact e2
      simp only [e3]
      simp at h ⊢; omega
    · have e1 : (b.time == c.time) = false := by simpa using g1
      simp only [e1] at g
      simp at h g
      have e3 : (a.time == c.time) = false := by simp; omega
      simp only [e3]
      simp; omega
end Sp

set_option maxRecDepth 100000 in
set_option maxHeartbeats 8000000 in
theorem order_any (a b c : RowD) (w : World) (E : Env w) :
    Calls Tryd.prog 4 #[rowV a, rowV b, rowV c] w fun e w' => e = .returned (.bool true) ∧ Below w.heap.size w w' := by
  have l1 := Sp.less_asym a b
  have l2 := Sp.less_total a b
  have l3 := Sp.less_trans a b c
  have HAB := Lib.hid (fun w => less_any a b w)
  have HBA := Lib.hid (fun w => less_any b a w)
  have HBC := Lib.hid (fun w => less_any b c w)
  have HAC := Lib.hid (fun w => less_any a c w)
  have HAB' : Hid (∀ q, lessB a b = q → ∀ w, Calls Tryd.prog 11 #[rowV a, rowV b] w fun e w' => e = .returned (.bool q) ∧ Below w.heap.size w w') := Lib.hid (fun q hq => by rw [← hq]; exact HAB.out)
  clear HAB'
  generalize lessB a b = x at *
  generalize lessB b a = y at *
  generalize lessB b c = z at *
  generalize lessB a c = u at *
  obtain ⟨at', au, an, ak, ax⟩ := a
  obtain ⟨bt, bu, bn, bk, bx⟩ := b
  obtain ⟨ct, cu, cn, ck, cx⟩ := c
  simp only [rowV, rowC, Sp.alikeB] at HAB HBA HBC HAC l2 ⊢
  have hor : ((at' == bt) = false ∨ (at' == bt) = true ∧ (au.toList == bu.toList) = false ∨ (at' == bt) = true ∧ (au.toList == bu.toList) = true ∧ (an == bn) = false) ∧ (x = true ∧ y = false ∧ z = false ∨ x = true ∧ y = false ∧ z = true ∧ u = true ∨ x = false ∧ y = true) ∨ ((at' == bt) = true ∧ (au.toList == bu.toList) = true ∧ (an == bn) = true) ∧ x = false ∧ y = false := by
    revert l1 l2 l3
    generalize (at' == bt) = p1
    generalize (au.toList == bu.toList) = p2
    generalize (an == bn) = p3
    clear HAB HBA HBC HAC
    cases x <;> cases y <;> cases z <;> cases u <;> cases p1 <;> cases p2 <;> cases p3 <;> simp
  clear l1 l2 l3
  have hz : (((w.alloc (.cells #[.int .i64 at', .string au, .int .i64 an, .int .i64 ak, .string ax] 23)).alloc (.cells #[.int .i64 bt, .string bu, .int .i64 bn, .int .i64 bk, .string bx] 23)).alloc (.cells #[.int .i64 ct, .string cu, .int .i64 cn, .int .i64 ck, .string cx] 23)).heap.size = w.heap.size + 1 + 1 + 1 := by simp
  have hb0 : Below w.heap.size w (((w.alloc (.cells #[.int .i64 at', .string au, .int .i64 an, .int .i64 ak, .string ax] 23)).alloc (.cells #[.int .i64 bt, .string bu, .int .i64 bn, .int .i64 bk, .string bx] 23)).alloc (.cells #[.int .i64 ct, .string cu, .int .i64 cn, .int .i64 ck, .string cx] 23)) := (((Below.refl _ _).alloc (Nat.le_refl _) _).alloc (by simp) _).alloc (by simp; omega) _
  have HK0 : Hid ((((w.alloc (.cells #[.int .i64 at', .string au, .int .i64 an, .int .i64 ak, .string ax] 23)).alloc (.cells #[.int .i64 bt, .string bu, .int .i64 bn, .int .i64 bk, .string bx] 23)).alloc (.cells #[.int .i64 ct, .string cu, .int .i64 cn, .int .i64 ck, .string cx] 23)).cell? ⟨w.heap.size, 0, none⟩ = some (.int .i64 at') ∧ (((w.alloc (.cells #[.int .i64 at', .string au, .int .i64 an, .int .i64 ak, .string ax] 23)).alloc (.cells #[.int .i64 bt, .string bu, .int .i64 bn, .int .i64 bk, .string bx] 23)).alloc (.cells #[.int .i64 ct, .string cu, .int .i64 cn, .int .i64 ck, .string cx] 23)).cell? ⟨w.heap.size, 1, none⟩ = some (.string au) ∧ (((w.alloc (.cells #[.int .i64 at', .string au, .int .i64 an, .int .i64 ak, .string ax] 23)).alloc (.cells #[.int .i64 bt, .string bu, .int .i64 bn, .int .i64 bk, .string bx] 23)).alloc (.cells #[.int .i64 ct, .string cu, .int .i64 cn, .int .i64 ck, .string cx] 23)).cell? ⟨w.heap.size, 2, none⟩ = some (.int .i64 an) ∧ (((w.alloc (.cells #[.int .i64 at', .string au, .int .i64 an, .int .i64 ak, .string ax] 23)).alloc (.cells #[.int .i64 bt, .string bu, .int .i64 bn, .int .i64 bk, .string bx] 23)).alloc (.cells #[.int .i64 ct, .string cu, .int .i64 cn, .int .i64 ck, .string cx] 23)).cell? ⟨w.heap.size, 3, none⟩ = some (.int .i64 ak) ∧ (((w.alloc (.cells #[.int .i64 at', .string au, .int .i64 an, .int .i64 ak, .string ax] 23)).alloc (.cells #[.int .i64 bt, .string bu, .int .i64 bn, .int .i64 bk, .string bx] 23)).alloc (.cells #[.int .i64 ct, .string cu, .int .i64 cn, .int .i64 ck, .string cx] 23)).cell? ⟨w.heap.size, 4, none⟩ = some (.string ax) ∧ (((w.alloc (.cells #[.int .i64 at', .string au, .int .i64 an, .int .i64 ak, .string ax] 23)).alloc (.cells #[.int .i64 bt, .string bu, .int .i64 bn, .int .i64 bk, .string bx] 23)).alloc (.cells #[.int .i64 ct, .string cu, .int .i64 cn, .int .i64 ck, .string cx] 23)).cell? ⟨w.heap.size + 1, 0, none⟩ = some (.int .i64 bt) ∧ (((w.alloc (.cells #[.int .i64 at', .string au, .int .i64 an, .int .i64 ak, .string ax] 23)).alloc (.cells #[.int .i64 bt, .string bu, .int .i64 bn, .int .i64 bk, .string bx] 23)).alloc (.cells #[.int .i64 ct, .string cu, .int .i64 cn, .int .i64 ck, .string cx] 23)).cell? ⟨w.heap.size + 1, 1, none⟩ = some (.string bu) ∧ (((w.alloc (.cells #[.int .i64 at', .string au, .int .i64 an, .int .i64 ak, .string ax] 23)).alloc (.cells #[.int .i64 bt, .string bu, .int .i64 bn, .int .i64 bk, .string bx] 23)).alloc (.cells #[.int .i64 ct, .string cu, .int .i64 cn, .int .i64 ck, .string cx] 23)).cell? ⟨w.heap.size + 1, 2, none⟩ = some (.int .i64 bn) ∧ (((w.alloc (.cells #[.int .i64 at', .string au, .int .i64 an, .int .i64 ak, .string ax] 23)).alloc (.cells #[.int .i64 bt, .string bu, .int .i64 bn, .int .i64 bk, .string bx] 23)).alloc (.cells #[.int .i64 ct, .string cu, .int .i64 cn, .int .i64 ck, .string cx] 23)).cell? ⟨w.heap.size + 1, 3, none⟩ = some (.int .i64 bk) ∧ (((w.alloc (.cells #[.int .i64 at', .string au, .int .i64 an, .int .i64 ak, .string ax] 23)).alloc (.cells #[.int .i64 bt, .string bu, .int .i64 bn, .int .i64 bk, .string bx] 23)).alloc (.cells #[.int .i64 ct, .string cu, .int .i64 cn, .int .i64 ck, .string cx] 23)).cell? ⟨w.heap.size + 1, 4, none⟩ = some (.string bx) ∧ (((w.alloc (.cells #[.int .i64 at', .string au, .int .i64 an, .int .i64 ak, .string ax] 23)).alloc (.cells #[.int .i64 bt, .string bu, .int .i64 bn, .int .i64 bk, .string bx] 23)).alloc (.cells #[.int .i64 ct, .string cu, .int .i64 cn, .int .i64 ck, .string cx] 23)).cell? ⟨w.heap.size + 1 + 1, 0, none⟩ = some (.int .i64 ct) ∧ (((w.alloc (.cells #[.int .i64 at', .string au, .int .i64 an, .int .i64 ak, .string ax] 23)).alloc (.cells #[.int .i64 bt, .string bu, .int .i64 bn, .int .i64 bk, .string bx] 23)).alloc (.cells #[.int .i64 ct, .string cu, .int .i64 cn, .int .i64 ck, .string cx] 23)).cell? ⟨w.heap.size + 1 + 1, 1, none⟩ = some (.string cu) ∧ (((w.alloc (.cells #[.int .i64 at', .string au, .int .i64 an, .int .i64 ak, .string ax] 23)).alloc (.cells #[.int .i64 bt, .string bu, .int .i64 bn, .int .i64 bk, .string bx] 23)).alloc (.cells #[.int .i64 ct, .string cu, .int .i64 cn, .int .i64 ck, .string cx] 23)).cell? ⟨w.heap.size + 1 + 1, 2, none⟩ = some (.int .i64 cn) ∧ (((w.alloc (.cells #[.int .i64 at', .string au, .int .i64 an, .int .i64 ak, .string ax] 23)).alloc (.cells #[.int .i64 bt, .string bu, .int .i64 bn, .int .i64 bk, .string bx] 23)).alloc (.cells #[.int .i64 ct, .string cu, .int .i64 cn, .int .i64 ck, .string cx] 23)).cell? ⟨w.heap.size + 1 + 1, 3, none⟩ = some (.int .i64 ck) ∧ (((w.alloc (.cells #[.int .i64 at', .string au, .int .i64 an, .int .i64 ak, .string ax] 23)).alloc (.cells #[.int .i64 bt, .string bu, .int .i64 bn, .int .i64 bk, .string bx] 23)).alloc (.cells #[.int .i64 ct, .string cu, .int .i64 cn, .int .i64 ck, .string cx] 23)).cell? ⟨w.heap.size + 1 + 1, 4, none⟩ = some (.string cx)) := Lib.hid (by
    refine ⟨?_, ?_, ?_, ?_, ?_, ?_, ?_, ?_, ?_, ?_, ?_, ?_, ?_, ?_, ?_⟩
    all_goals go_simp)
  go_enter Tryd.func4, Tryd.ntmps4
  go_wp2_with fail
  generalize (((w.alloc (.cells #[.int .i64 at', .string au, .int .i64 an, .int .i64 ak, .string ax] 23)).alloc (.cells #[.int .i64 bt, .string bu, .int .i64 bn, .int .i64 bk, .string bx] 23)).alloc (.cells #[.int .i64 ct, .string cu, .int .i64 cn, .int .i64 ck, .string cx] 23)) = w0 at *
  refine (shown_any w0 (E.on hb0)).mono ?_
  rintro e w1 ⟨rfl, hb1⟩
  have hf := hb0.trans (hb1.mono hb0.size)
  have HK : Hid (∀ W, Below w1.heap.size w1 W → Below w.heap.size w W ∧ W.cell? ⟨w.heap.size, 0, none⟩ = some (.int .i64 at') ∧ W.cell? ⟨w.heap.size, 1, none⟩ = some (.string au) ∧ W.cell? ⟨w.heap.size, 2, none⟩ = some (.int .i64 an) ∧ W.cell? ⟨w.heap.size, 3, none⟩ = some (.int .i64 ak) ∧ W.cell? ⟨w.heap.size, 4, none⟩ = some (.string ax) ∧ W.cell? ⟨w.heap.size + 1, 0, none⟩ = some (.int .i64 bt) ∧ W.cell? ⟨w.heap.size + 1, 1, none⟩ = some (.string bu) ∧ W.cell? ⟨w.heap.size + 1, 2, none⟩ = some (.int .i64 bn) ∧ W.cell? ⟨w.heap.size + 1, 3, none⟩ = some (.int .i64 bk) ∧ W.cell? ⟨w.heap.size + 1, 4, none⟩ = some (.string bx) ∧ W.cell? ⟨w.heap.size + 1 + 1, 0, none⟩ = some (.int .i64 ct) ∧ W.cell? ⟨w.heap.size + 1 + 1, 1, none⟩ = some (.string cu) ∧ W.cell? ⟨w.heap.size + 1 + 1, 2, none⟩ = some (.int .i64 cn) ∧ W.cell? ⟨w.heap.size + 1 + 1, 3, none⟩ = some (.int .i64 ck) ∧ W.cell? ⟨w.heap.size + 1 + 1, 4, none⟩ = some (.string cx)) := Lib.hid fun W hW => by
    have hx := hb1.trans (hW.mono hb1.size)
    obtain ⟨ca0, ca1, ca2, ca3, ca4, cb0, cb1, cb2, cb3, cb4, cc0, cc1, cc2, cc3, cc4⟩ := HK0.out
    refine ⟨hf.trans (hW.mono hf.size), ?_, ?_, ?_, ?_, ?_, ?_, ?_, ?_, ?_, ?_, ?_, ?_, ?_, ?_, ?_⟩
    all_goals (rw [hx.cell (by dsimp only; omega)]; assumption)
  have hq := Below.refl w1.heap.size w1
  clear hf hb1 hb0 hz HK0
  rcases hor with ⟨hp, ho⟩ | ⟨⟨p1, p2, p3⟩, rfl, rfl⟩
  · rcases hp with p1 | ⟨p1, p2⟩ | ⟨p1, p2, p3⟩ <;> rcases ho with ⟨rfl, rfl, rfl⟩ | ⟨rfl, rfl, rfl, rfl⟩ | ⟨rfl, rfl⟩
    all_goals
      obtain ⟨-, ca0, ca1, ca2, ca3, ca4, cb0, cb1, cb2, cb3, cb4, cc0, cc1, cc2, cc3, cc4⟩ := HK.out _ hq
      go_wp2_with (first | (go_at_call 11; (first | (with_reducible refine Calls.mono (HAB.out _) ?_) | (with_reducible refine Calls.mono (HBA.out _) ?_) | (with_reducible refine Calls.mono (HBC.out _) ?_) | (with_reducible refine Calls.mono (HAC.out _) ?_)); rintro e w' ⟨rfl, hb'⟩; have hq := since_more hq hb'; clear hb'; obtain ⟨hf, ca0, ca1, ca2, ca3, ca4, cb0, cb1, cb2, cb3, cb4, cc0, cc1, cc2, cc3, cc4⟩ := HK.out _ hq))
      all_goals
        go_ret
        exact ⟨rfl, (HK.out _ hq).1⟩
  · obtain ⟨-, ca0, ca1, ca2, ca3, ca4, cb0, cb1, cb2, cb3, cb4, cc0, cc1, cc2, cc3, cc4⟩ := HK.out _ hq
    go_wp2_with (first | (go_at_call 11; (first | (with_reducible refine Calls.mono (HAB.out _) ?_) | (with_reducible refine Calls.mono (HBA.out _) ?_) | (with_reducible refine Calls.mono (HBC.out _) ?_) | (with_reducible refine Calls.mono (HAC.out _) ?_)); rintro e w' ⟨rfl, hb'⟩; have hq := since_more hq hb'; clear hb'; obtain ⟨hf, ca0, ca1, ca2, ca3, ca4, cb0, cb1, cb2, cb3, cb4, cc0, cc1, cc2, cc3, cc4⟩ := HK.out _ hq))
    all_goals
      go_ret
      exact ⟨rfl, (HK.out _ hq).1⟩

end Go.Proofs.YthdefhfgbanfpaaDoor
