/-
  Plain functions on bytes and on lists of bytes that the walks of names compute; no program in sight.
-/
import Derived.Below
import Derived.Lib.Bytealg
namespace Go.Proofs.YtijfeeiplljnjaaGreatDoor
namespace Sp

def letter (c : UInt8) : Bool := decide (97 ≤ c.toNat) && decide (c.toNat ≤ 122) || decide (65 ≤ c.toNat) && decide (c.toNat ≤ 90)
def digit (c : UInt8) : Bool := decide (48 ≤ c.toNat) && decide (c.toNat ≤ 57)
def kept (c : UInt8) : Bool := letter c || digit c || ((c.toNat : Int) == 58) || ((c.toNat : Int) == 95) || ((c.toNat : Int) == 46)
def nameByte (c : UInt8) : Bool := letter c || digit c || ((c.toNat : Int) == 58) || ((c.toNat : Int) == 45) || ((c.toNat : Int) == 95) || ((c.toNat : Int) == 46) || ((c.toNat : Int) == 92)
/-- the suffix of a kind's names -/
def suffix (k : Int) : List UInt8 :=
  if k = 1 then [115, 101, 114, 118, 105, 99, 101] else if k = 2 then [115, 111, 99, 107, 101, 116] else if k = 3 then [116, 105, 109, 101, 114] else if k = 4 then [116, 97, 114, 103, 101, 116] else []

theorem suffix_len (k : Int) : (suffix k).length ≤ 7 := by
  unfold suffix
  (repeat' split) <;> simp

/-- is it one of the signs ':', '-', '_', '.', a backslash? -/
def moreB (c : UInt8) : Bool := decide (0 ≤ Lib.indexByte [58, 45, 95, 46, 92] c)
def anyB (c : UInt8) : Bool := letter c || digit c || moreB c

theorem more_eq (c : UInt8) : moreB c = (((c.toNat : Int) == 58) || ((c.toNat : Int) == 45) || ((c.toNat : Int) == 95) || ((c.toNat : Int) == 46) || ((c.toNat : Int) == 92)) := by
  have h : ∀ c : Fin 256, moreB (UInt8.ofNat c.val) = ((((UInt8.ofNat c.val).toNat : Int) == 58) || (((UInt8.ofNat c.val).toNat : Int) == 45) || (((UInt8.ofNat c.val).toNat : Int) == 95) || (((UInt8.ofNat c.val).toNat : Int) == 46) || (((UInt8.ofNat c.val).toNat : Int) == 92)) := by decide +kernel
  have := h ⟨c.toNat, c.toNat_lt⟩
  simpa using this

theorem anyB_eq (c : UInt8) : anyB c = nameByte c := by
  unfold anyB nameByte
  rw [more_eq]
  simp [Bool.or_assoc]

/-- has a text no other signs than names have? -/
def allName (l : List UInt8) : Bool := l.all nameByte

theorem take_succ (s : ByteArray) (k : Nat) (h : k < s.size) : s.data.toList.take (k + 1) = s.data.toList.take k ++ [s[k]] := by
  rw [List.take_succ_eq_append_getElem (by simpa using h)]; rfl

theorem all_take_succ (p : UInt8 → Bool) (s : ByteArray) (k : Nat) (h : k < s.size) : (s.data.toList.take (k + 1)).all p = ((s.data.toList.take k).all p && p s[k]) := by
  rw [take_succ s k h]; simp

theorem all_false (p : UInt8 → Bool) (s : ByteArray) (k : Nat) (h : k < s.size) (hf : p s[k] = false) : s.data.toList.all p = false := by
  rw [List.all_eq_false]
  exact ⟨s[k], by simp [ByteArray.getElem_eq_getElem_data, Array.getElem_mem], by simp [hf]⟩

theorem allName_nil (l : List UInt8) : allName (l.take 0) = true := by simp [allName]
theorem allName_succ (s : ByteArray) (k : Nat) (h : k < s.size) : allName (s.data.toList.take (k + 1)) = (allName (s.data.toList.take k) && nameByte s[k]) := all_take_succ _ s k h
theorem allName_false (s : ByteArray) (k : Nat) (h : k < s.size) (hf : nameByte s[k] = false) : allName s.data.toList = false := all_false _ s k h hf
theorem take_all (s : ByteArray) (k : Nat) (hk : k ≤ s.size) (h : ¬ k < s.size) : s.data.toList.take k = s.data.toList := List.take_of_length_le (by simp; omega)

theorem mem_at (s : ByteArray) (j : Nat) (h : j < s.size) : s[j] ∈ s.data.toList := by simp [ByteArray.getElem_eq_getElem_data, Array.getElem_mem]
theorem at_ne (s : ByteArray) (j : Nat) (h : j < s.size) (c : UInt8) (hne : s[j] ≠ c) : ((s[j].toNat : Int) == (c.toNat : Int)) = false := by
  rw [beq_eq_false_iff_ne]
  intro h2
  exact hne (UInt8.toNat.inj (by omega))
theorem at_eq (s : ByteArray) (j : Nat) (h : j < s.size) (c : UInt8) (he : s[j] = c) : ((s[j].toNat : Int) == (c.toNat : Int)) = true := by rw [he]; simp
end Sp

end Go.Proofs.YtijfeeiplljnjaaGreatDoor
