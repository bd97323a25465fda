/-
  Plain functions of escaping: a text as bytes that a name may have, and back. No program in sight.
-/
import Derived.Test.YtijfeeiplljnjaaGreatDoorSp1
import Derived.Lib.Strings
namespace Go.Proofs.YtijfeeiplljnjaaGreatDoor
namespace Sp
def hexs : List UInt8 := [48, 49, 50, 51, 52, 53, 54, 55, 56, 57, 97, 98, 99, 100, 101, 102]
def hexD (n : Nat) : UInt8 := hexs.getD n 0
def byteL (c : UInt8) : List UInt8 := [92, 120, hexD (c.toNat / 16), hexD (c.toNat % 16)]
def hexV (c : UInt8) : Int := Lib.indexByte hexs c
/-- the byte that two digits of sixteen are -/
def twoB (a b : UInt8) : UInt8 := UInt8.ofNat (16 * (hexV a).toNat + (hexV b).toNat)
def isHex (c : UInt8) : Bool := decide (0 ≤ hexV c)
def twoL : List UInt8 → UInt8 × Bool
  | a :: b :: _ => if isHex a && isHex b then (twoB a b, true) else (0, false)
  | _ => (0, false)
theorem hexV_range (c : UInt8) : hexV c = -1 ∨ (0 ≤ hexV c ∧ hexV c < 16) := by
  rcases index_spec hexs c with ⟨e, _⟩ | ⟨i, e, hi, _⟩
  · exact .inl e
  · right
    have h16 : hexs.length = 16 := rfl
    unfold hexV
    omega
/-- a digit's value; 16: it is none -/
def hexR (c : UInt8) : Int := if hexV c < 0 then 16 else hexV c

/-- one byte of a text, escaped; first: it is the first one -/
def escB (first : Bool) (c : UInt8) : List UInt8 :=
  if (c.toNat : Int) = 47 then [45] else if kept c = true ∧ ((c.toNat : Int) ≠ 46 ∨ first = false) then [c] else byteL c
def escL : Bool → List UInt8 → List UInt8
  | _, [] => []
  | f, c :: r => escB f c ++ escL false r

theorem escL_append : ∀ (f : Bool) (a b : List UInt8), escL f (a ++ b) = escL f a ++ escL (f && a.isEmpty) b
  | f, [], b => by simp [escL]
  | f, c :: r, b => by simp [escL, escL_append false r b]

theorem escB_len (f : Bool) (c : UInt8) : (escB f c).length ≤ 4 := by
  unfold escB byteL
  repeat' split
  all_goals simp

theorem escL_len : ∀ (f : Bool) (l : List UInt8), (escL f l).length ≤ 4 * l.length
  | _, [] => by simp [escL]
  | f, c :: r => by
    have h1 := escB_len f c
    have h2 := escL_len false r
    simp [escL]; omega

theorem escTo_succ (s : ByteArray) (k : Nat) (h : k < s.size) : escL true (s.data.toList.take (k + 1)) = escL true (s.data.toList.take k) ++ escB (decide (k = 0)) s[k] := by
  rw [take_succ s k h, escL_append]
  have e : (s.data.toList.take k).isEmpty = decide (k = 0) := by
    have : s.data.toList.length = s.size := by simp
    cases k with
    | zero => simp
    | succ n =>
      have : (s.data.toList.take (n + 1)).length = n + 1 := by rw [List.length_take]; omega
      cases hl : s.data.toList.take (n + 1) with
      | nil => rw [hl] at this; simp at this
      | cons a b => simp
  rw [e]; simp [escL]

/-- a text out of its escaped bytes -/
def unescL : List UInt8 → Option (List UInt8)
  | [] => some []
  | c :: r =>
    if c = 45 then (unescL r).map (47 :: ·)
    else if kept c = true then (unescL r).map (c :: ·)
    else match c, r with
      | 92, 120 :: a :: b :: r2 => if isHex a && isHex b then (unescL r2).map (twoB a b :: ·) else none
      | _, _ => none

theorem kept92 : kept 92 = false := by decide +kernel

theorem unesc_pre (t : List UInt8) : unescL (92 :: 120 :: t) = if (twoL t).2 then (unescL (t.drop 2)).map ((twoL t).1 :: ·) else none := by
  have h1 : (92 : UInt8) ≠ 45 := by decide
  match t with
  | [] => simp [unescL, twoL, kept92]
  | [a] => simp [unescL, twoL, kept92]
  | a :: b :: r =>
    simp only [unescL, kept92, h1, if_false, Bool.false_eq_true, twoL]
    split <;> simp

theorem unesc_kept (c : UInt8) (r : List UInt8) (h1 : c ≠ 45) (h2 : kept c = true) : unescL (c :: r) = (unescL r).map (c :: ·) := by
  conv => lhs; unfold unescL
  rw [if_neg h1, if_pos h2]

theorem unesc_bad (c : UInt8) (r : List UInt8) (h1 : c ≠ 45) (h2 : kept c = false) (h3 : Lib.hasPrefix (c :: r) [92, 120] = false) : unescL (c :: r) = none := by
  unfold unescL
  rw [if_neg h1, if_neg (by simp [h2])]
  split
  · simp [Lib.hasPrefix] at h3
  · rfl

theorem twoL_size (t : List UInt8) (h : (twoL t).2 = true) : 2 ≤ t.length := by
  match t, h with
  | _ :: _ :: _, _ => simp
theorem pre_no1 (c : UInt8) (r : List UInt8) (h : c ≠ 92) : Lib.hasPrefix (c :: r) [92, 120] = false := by
  unfold Lib.hasPrefix
  simp only [List.isPrefixOf, Bool.and_eq_false_iff, beq_eq_false_iff_ne]
  exact .inl (Ne.symm h)
theorem pre_no2 (x : UInt8) (r : List UInt8) (h : x ≠ 120) : Lib.hasPrefix (92 :: x :: r) [92, 120] = false := by
  unfold Lib.hasPrefix
  simp only [List.isPrefixOf, Bool.and_eq_false_iff, beq_eq_false_iff_ne]
  exact .inr (.inl (Ne.symm h))

/-- what is behind a byte that is neither '-' nor kept -/
theorem unesc_split (c : UInt8) (r : List UInt8) (h1 : c ≠ 45) (h2 : kept c = false) :
    (∃ a b r2, c = 92 ∧ r = 120 :: a :: b :: r2 ∧ isHex a = true ∧ isHex b = true ∧ unescL (c :: r) = (unescL r2).map (twoB a b :: ·)) ∨
    (unescL (c :: r) = none ∧ (c ≠ 92 ∨ (c = 92 ∧ r.length < 3) ∨ ∃ x a b r2, c = 92 ∧ r = x :: a :: b :: r2 ∧ (x ≠ 120 ∨ (x = 120 ∧ isHex a = false) ∨ (x = 120 ∧ isHex a = true ∧ isHex b = false)))) := by
  by_cases hc : c = 92
  · subst hc
    match r with
    | [] => exact .inr ⟨by simp [unescL, kept92], .inr (.inl ⟨rfl, by simp⟩)⟩
    | [x] => exact .inr ⟨by simp [unescL, kept92], .inr (.inl ⟨rfl, by simp⟩)⟩
    | [x, y] => exact .inr ⟨by
        by_cases hx : x = 120
        · subst hx; rw [unesc_pre]; simp [twoL]
        · exact unesc_bad 92 _ h1 h2 (pre_no2 _ _ hx), .inr (.inl ⟨rfl, by simp⟩)⟩
    | x :: a :: b :: r2 =>
      by_cases hx : x = 120
      · subst hx
        cases ha : isHex a
        · exact .inr ⟨by rw [unesc_pre]; simp [twoL, ha], .inr (.inr ⟨120, a, b, r2, rfl, rfl, .inr (.inl ⟨rfl, ha⟩)⟩)⟩
        · cases hb : isHex b
          · exact .inr ⟨by rw [unesc_pre]; simp [twoL, ha, hb], .inr (.inr ⟨120, a, b, r2, rfl, rfl, .inr (.inr ⟨rfl, ha, hb⟩)⟩)⟩
          · exact .inl ⟨a, b, r2, rfl, rfl, ha, hb, by rw [unesc_pre]; simp [twoL, ha, hb]⟩
      · exact .inr ⟨unesc_bad 92 _ h1 h2 (pre_no2 _ _ hx), .inr (.inr ⟨x, a, b, r2, rfl, rfl, .inl hx⟩)⟩
  · refine .inr ⟨unesc_bad c r h1 h2 ?_, .inl hc⟩
    exact pre_no1 _ _ hc

theorem hexR_yes (c : UInt8) (h : isHex c = true) : ∃ v : Nat, hexR c = v ∧ v < 16 ∧ (hexV c).toNat = v := by
  rcases hexV_range c with e | ⟨e1, e2⟩
  · simp [isHex, e] at h
  · exact ⟨(hexV c).toNat, by unfold hexR; rw [if_neg (by omega)]; omega, by omega, rfl⟩
theorem hexR_no (c : UInt8) (h : isHex c = false) : hexR c = 16 := by
  unfold hexR
  rw [if_pos (by simpa [isHex] using h)]

theorem drop_at (s : ByteArray) (k : Nat) (c : UInt8) (r : List UInt8) (h : s.data.toList.drop k = c :: r) : ∃ h : k < s.size, s[k] = c := by
  have h1 : s.data.toList.length = s.size := by simp
  have h2 : k < s.data.toList.length := by
    rcases Nat.lt_or_ge k s.data.toList.length with h2 | h2
    · exact h2
    · rw [List.drop_of_length_le h2] at h; simp at h
  refine ⟨by omega, ?_⟩
  rw [List.drop_eq_getElem_cons h2] at h
  have := (List.cons.inj h).1
  rw [← this]; simp [ByteArray.getElem_eq_getElem_data]

theorem drop_next (l : List UInt8) (k : Nat) (c : UInt8) (r : List UInt8) (h : l.drop k = c :: r) : l.drop (k + 1) = r := by
  rw [← List.drop_drop, h]; rfl
end Sp

end Go.Proofs.YtijfeeiplljnjaaGreatDoor
