/-
  The law that rows are in one order: its plain part, and its walk.
-/
import Derived.Test.YtkgogenmhiclcaaGreatDoorRf
namespace Go.Proofs.YtkgogenmhiclcaaGreatDoor
open Go.RowKit

namespace Sp
theorem bl_asym : ∀ (x y : List UInt8), Op.bytesLess x y = true → Op.bytesLess y x = false
  | [], [], h => by simp [Op.bytesLess] at h
  | [], d :: s, _ => by simp [Op.bytesLess]
  | c :: r, [], h => by simp [Op.bytesLess] at h
  | c :: r, d :: s, h => by
    rw [Op.bytesLess, Bool.or_eq_true, Bool.and_eq_true] at h
    rw [Op.bytesLess, Bool.or_eq_false_iff, Bool.and_eq_false_iff]
    simp only [decide_eq_true_eq, decide_eq_false_iff_not, beq_iff_eq, beq_eq_false_iff_ne, UInt8.lt_iff_toNat_lt] at h ⊢
    rcases h with h | ⟨rfl, h⟩
    · exact ⟨by omega, .inl (by rintro rfl; omega)⟩
    · exact ⟨by omega, .inr (bl_asym r s h)⟩
theorem bl_total : ∀ (x y : List UInt8), x ≠ y → Op.bytesLess x y = true ∨ Op.bytesLess y x = true
  | [], [], h => absurd rfl h
  | [], d :: s, _ => by simp [Op.bytesLess]
  | c :: r, [], _ => by simp [Op.bytesLess]
  | c :: r, d :: s, h => by
    rw [Op.bytesLess, Op.bytesLess, Bool.or_eq_true, Bool.and_eq_true, Bool.or_eq_true, Bool.and_eq_true]
    simp only [decide_eq_true_eq, beq_iff_eq, UInt8.lt_iff_toNat_lt]
    by_cases e : c = d
    · subst e
      rcases bl_total r s (fun e => h (by rw [e])) with g | g
      · exact .inl (.inr ⟨rfl, g⟩)
      · exact .inr (.inr ⟨rfl, g⟩)
    · have : c.toNat ≠ d.toNat := fun e2 => e (UInt8.toNat_inj.1 e2)
      by_cases g : c.toNat < d.toNat
      · exact .inl (.inl g)
      · exact .inr (.inl (by omega))
theorem bl_trans : ∀ (x y z : List UInt8), Op.bytesLess x y = true → Op.bytesLess y z = true → Op.bytesLess x z = true
  | x, [], z, h, _ => by cases x <;> simp [Op.bytesLess] at h
  | x, d :: s, [], _, g => by simp [Op.bytesLess] at g
  | [], d :: s, e :: t, _, _ => by simp [Op.bytesLess]
  | c :: r, d :: s, e :: t, h, g => by
    rw [Op.bytesLess, Bool.or_eq_true, Bool.and_eq_true] at h g ⊢
    simp only [decide_eq_true_eq, beq_iff_eq, UInt8.lt_iff_toNat_lt] at h g ⊢
    rcases h with h | ⟨rfl, h⟩
    · rcases g with g | ⟨rfl, g⟩
      · exact .inl (by omega)
      · exact .inl h
    · rcases g with g | ⟨rfl, g⟩
      · exact .inl g
      · exact .inr ⟨rfl, bl_trans r s t h g⟩
theorem bl_self (x : List UInt8) : Op.bytesLess x x = false := by
  cases h : Op.bytesLess x x with
  | false => rfl
  | true => rw [bl_asym x x h] at h; cases h
/-- two rows that are told apart by nothing -/
def alikeB (a b : RowD) : Bool := (a.time == b.time) && ((a.unit.toList == b.unit.toList) && (a.n == b.n))
theorem less_asym (a b : RowD) (h : lessB a b = true) : lessB b a = false := by
  unfold lessB at h ⊢
  by_cases h1 : a.time = b.time
  · by_cases h2 : a.unit.toList = b.unit.toList
    · simp only [h1, h2, beq_self_eq_true, if_true] at h ⊢
      simp at h ⊢; omega
    · have h3 : (a.unit.toList == b.unit.toList) = false := by simpa using h2
      have h4 : (b.unit.toList == a.unit.toList) = false := by simpa using fun e => h2 e.symm
      simp only [h1, h3, h4, beq_self_eq_true, if_true] at h ⊢
      exact bl_asym _ _ (by simpa using h)
  · have h3 : (a.time == b.time) = false := by simpa using h1
    have h4 : (b.time == a.time) = false := by simpa using fun e => h1 e.symm
    simp only [h3, h4] at h ⊢
    simp at h ⊢; omega
theorem less_total (a b : RowD) : alikeB a b = !(lessB a b || lessB b a) := by
  unfold alikeB lessB
  by_cases h1 : a.time = b.time
  · by_cases h2 : a.unit.toList = b.unit.toList
    · simp only [h1, h2, beq_self_eq_true, if_true]
      rw [Bool.eq_iff_iff]
      simp; omega
    · have h3 : (a.unit.toList == b.unit.toList) = false := by simpa using h2
      have h4 : (b.unit.toList == a.unit.toList) = false := by simpa using fun e => h2 e.symm
      simp only [h1, h3, h4, beq_self_eq_true, if_true]
      rcases bl_total _ _ h2 with g | g
      · simp [g]
      · simp [g]
  · have h3 : (a.time == b.time) = false := by simpa using h1
    have h4 : (b.time == a.time) = false := by simpa using fun e => h1 e.symm
    simp only [h3, h4]
    rw [Bool.eq_iff_iff]
    simp; omega
theorem less_trans (a b c : RowD) (h : lessB a b = true) (g : lessB b c = true) : lessB a c = true := by
  unfold lessB at h g ⊢
  by_cases h1 : a.time = b.time
  · by_cases g1 : b.time = c.time
    · have e1 : (b.time == c.time) = true := by simpa using g1
      have e2 : (a.time == b.time) = true := by simpa using h1
      have e3 : (a.time == c.time) = true := by simpa using h1.trans g1
      simp only [e1, e2, e3, if_true] at h g ⊢
      by_cases h2 : a.unit.toList = b.unit.toList
      · have f1 : (a.unit.toList == b.unit.toList) = true := by simpa using h2
        by_cases g2 : b.unit.toList = c.unit.toList
        · have f2 : (b.unit.toList == c.unit.toList) = true := by simpa using g2
          have f3 : (a.unit.toList == c.unit.toList) = true := by simpa using h2.trans g2
          simp only [f1, f2, f3, if_true] at h g ⊢
          simp at h g ⊢; omega
        · have f2 : (b.unit.toList == c.unit.toList) = false := by simpa using g2
          have f3 : (a.unit.toList == c.unit.toList) = false := by rw [h2]; exact f2
          simp only [f2, f3] at g ⊢
          rw [h2]; exact g
      · have f1 : (a.unit.toList == b.unit.toList) = false := by simpa using h2
        by_cases g2 : b.unit.toList = c.unit.toList
        · have f3 : (a.unit.toList == c.unit.toList) = false := by rw [← g2]; exact f1
          simp only [f1, f3] at h ⊢
          rw [← g2]; exact h
        · have f2 : (b.unit.toList == c.unit.toList) = false := by simpa using g2
          simp only [f1, f2] at h g
          have t := bl_trans _ _ _ (by simpa using h) (by simpa using g)
          have f3 : (a.unit.toList == c.unit.toList) = false := by
            simp only [beq_eq_false_iff_ne]
            intro e
            rw [e, bl_self] at t
            cases t
          simp only [f3]
          simpa using t
    · have e1 : (b.time == c.time) = false := by simpa using g1
      have e3 : (a.time == c.time) = false := by rw [h1]; exact e1
      simp only [e1, e3] at g ⊢
      simp at g ⊢; omega
  · have e2 : (a.time == b.time) = false := by simpa using h1
    simp only [e2] at h
    by_cases g1 : b.time = c.time
    · have e3 : (a.time == c.time) = false := by rw [← g1]; exact e2
      simp only [e3]
      simp at h ⊢; omega
    · have e1 : (b.time == c.time) = false := by simpa using g1
      simp only [e1] at g
      simp at h g
      have e3 : (a.time == c.time) = false := by simp; omega
      simp only [e3]
      simp; omega
end Sp

end Go.Proofs.YtkgogenmhiclcaaGreatDoor
