/-
  Plain functions of spans of time: words parted by blanks, a word's seconds, their sum, a span's text. No program in sight.
-/
import Derived.Test.YtijfeeiplljnjaaGreatDoorSp0
import Derived.Lib.Atoi
namespace Go.Proofs.YtijfeeiplljnjaaGreatDoor
namespace Sp

/-- a text's words, parted by some bytes -/
def blanksTo (p : UInt8 → Bool) : List UInt8 → List UInt8 → List (List UInt8)
  | word, [] => if word = [] then [] else [word]
  | word, c :: r => if p c then (if word = [] then blanksTo p [] r else word :: blanksTo p [] r) else blanksTo p (word ++ [c]) r
def blank (c : UInt8) : Bool := (c.toNat : Int) == 32
def partsOf (l : List UInt8) : List (List UInt8) := blanksTo blank [] l
theorem blanksTo_len (p : UInt8 → Bool) : ∀ (l w : List UInt8), (blanksTo p w l).length ≤ l.length + (if w = [] then 0 else 1)
  | [], w => by
    unfold blanksTo
    split <;> simp
  | c :: r, w => by
    unfold blanksTo
    have h0 := blanksTo_len p r []
    have h1 := blanksTo_len p r (w ++ [c])
    simp at h0 h1
    split
    · split <;> simp <;> omega
    · split <;> simp <;> omega
theorem partsOf_len (l : List UInt8) : (partsOf l).length ≤ l.length := by
  have := blanksTo_len blank l []
  simpa [partsOf] using this
theorem blanksTo_bytes (p : UInt8 → Bool) : ∀ (l w : List UInt8) (x : List UInt8), x ∈ blanksTo p w l → x.length ≤ w.length + l.length
  | [], w, x, h => by
    unfold blanksTo at h
    split at h
    · simp at h
    · simp at h; subst h; simp
  | c :: r, w, x, h => by
    unfold blanksTo at h
    have h0 := fun hx => blanksTo_bytes p r [] x hx
    have h1 := fun hx => blanksTo_bytes p r (w ++ [c]) x hx
    split at h
    · split at h
      · have := h0 h; simp at this ⊢; omega
      · rcases List.mem_cons.1 h with rfl | h
        · simp
        · have := h0 h; simp at this ⊢; omega
    · have := h1 h; simp at this ⊢; omega
theorem partsOf_bytes (l x : List UInt8) (h : x ∈ partsOf l) : x.length ≤ l.length := by
  have := blanksTo_bytes blank l [] x h
  simpa using this

/-- how many seconds a unit has; 0: it is none -/
def secs (l : List UInt8) : Nat :=
  if l = [] then 1 else if l = [115] then 1 else if l = [115, 101, 99] then 1
  else if l = [109] then 60 else if l = [109, 105, 110] then 60
  else if l = [104] then 3600 else if l = [104, 114] then 3600
  else if l = [100] then 86400 else if l = [100, 97, 121] then 86400
  else if l = [119] then 604800 else if l = [119, 101, 101, 107] then 604800
  else 0
theorem secs_le (l : List UInt8) : secs l ≤ 604800 := by
  unfold secs
  (repeat' split) <;> omega
/-- how many digits a text begins with -/
def digs : List UInt8 → Nat
  | [] => 0
  | c :: r => if digit c then digs r + 1 else 0
theorem digs_le : ∀ l, digs l ≤ l.length
  | [] => Nat.le_refl _
  | c :: r => by have := digs_le r; unfold digs; split <;> simp; omega
/-- the number of some digits -/
def decV (l : List UInt8) : Nat := l.foldl (fun n c => 10 * n + (c.toNat - 48)) 0
theorem decV_snoc (l : List UInt8) (c : UInt8) : decV (l ++ [c]) = 10 * decV l + (c.toNat - 48) := by simp [decV]
/-- what one word says -/
def wordS (w : List UInt8) : Option Nat :=
  if digs w = 0 ∨ 10 < digs w ∨ secs (w.drop (digs w)) = 0 then none else some (decV (w.take (digs w)) * secs (w.drop (digs w)))
/-- what some words say, beside what was -/
def sumS : List (List UInt8) → Nat → Option Nat
  | [], t => some t
  | w :: r, t =>
    match wordS w with
    | none => none
    | some n => if 6311433600 < t + n then none else sumS r (t + n)
def endless : List UInt8 := [105, 110, 102, 105, 110, 105, 116, 121]
/-- the span that a text says -/
def parseL (s : List UInt8) : Nat × Bool :=
  if s = endless then (1099511627776, true)
  else match sumS (partsOf s) 0 with
    | none => (0, false)
    | some t => (t, !(partsOf s).isEmpty)

theorem decV_lt : ∀ (k : Nat) (l : List UInt8), l.length ≤ k → (∀ c ∈ l, digit c = true) → decV l < 10 ^ l.length
  | _, [], _, _ => by simp [decV]
  | 0, c :: r, h, _ => by simp at h
  | k + 1, c :: r, h, hd => by
    have e := (List.dropLast_concat_getLast (l := c :: r) (by simp)).symm
    generalize (c :: r).dropLast = q at e
    generalize (c :: r).getLast (by simp) = x at e
    rw [e] at h hd ⊢
    have h1 := decV_lt k q (by simp at h; omega) fun y hy => hd y (by simp [hy])
    have h2 := hd x (by simp)
    simp [digit] at h2
    rw [decV_snoc, List.length_append, List.length_singleton, Nat.pow_succ]
    omega
theorem digs_take : ∀ (l : List UInt8), ∀ c ∈ l.take (digs l), digit c = true
  | [] => by simp
  | c :: r => by
    unfold digs
    split
    · rename_i h
      intro d hd
      rw [List.take_succ_cons] at hd
      rcases List.mem_cons.1 hd with rfl | hd
      · exact h
      · exact digs_take r d hd
    · simp
theorem wordS_le (w : List UInt8) (n : Nat) (h : wordS w = some n) : n ≤ 6048000000000000 := by
  unfold wordS at h
  split at h
  · simp at h
  · rename_i hc
    simp only [not_or, Nat.not_lt] at hc
    simp at h
    subst h
    have h1 := decV_lt (w.take (digs w)).length _ (Nat.le_refl _) (digs_take w)
    have h2 : (w.take (digs w)).length ≤ 10 := by simp; omega
    have h3 : 10 ^ (w.take (digs w)).length ≤ 10 ^ 10 := Nat.pow_le_pow_right (by omega) h2
    have h4 := secs_le (w.drop (digs w))
    calc _ ≤ 10 ^ 10 * 604800 := Nat.mul_le_mul (by omega) h4
      _ = _ := by decide

/-! ### two texts together -/
/-- what some words say, whatever it is -/
def allS : List (List UInt8) → Option Nat
  | [] => some 0
  | w :: r => match wordS w with
    | none => none
    | some n => (allS r).map (n + ·)
theorem sumS_all : ∀ (l : List (List UInt8)) (t : Nat), t ≤ 6311433600 → sumS l t = match allS l with
    | none => none
    | some n => if 6311433600 < t + n then none else some (t + n)
  | [], t, h => by simp [sumS, allS]; omega
  | w :: r, t, h => by
    unfold sumS allS
    cases hw : wordS w with
    | none => rfl
    | some n =>
      simp only
      by_cases hn : 6311433600 < t + n
      · rw [if_pos hn]
        cases ha : allS r with
        | none => rfl
        | some m => simp only [Option.map_some]; rw [if_pos (by omega)]
      · rw [if_neg hn, sumS_all r (t + n) (by omega)]
        cases ha : allS r with
        | none => rfl
        | some m => simp only [Option.map_some, Nat.add_assoc]
theorem allS_app (a b : List (List UInt8)) : allS (a ++ b) = match allS a, allS b with
    | some x, some y => some (x + y)
    | _, _ => none := by
  induction a with
  | nil => cases h : allS b <;> simp [allS, h]
  | cons w r ih =>
    simp only [List.cons_append, allS]
    cases hw : wordS w with
    | none => rfl
    | some n =>
      simp only [ih]
      cases allS r <;> cases allS b <;> simp [Nat.add_assoc]
theorem blanksTo_app (p : UInt8 → Bool) (c : UInt8) (hc : p c = true) : ∀ (a w b : List UInt8), blanksTo p w (a ++ c :: b) = blanksTo p w a ++ blanksTo p [] b
  | [], w, b => by
    rw [List.nil_append, blanksTo.eq_2, if_pos hc, blanksTo.eq_1]
    split <;> simp
  | x :: a, w, b => by
    rw [List.cons_append, blanksTo, blanksTo, blanksTo_app p c hc a [] b, blanksTo_app p c hc a _ b]
    split
    · split <;> simp
    · rfl
theorem parts_two (a b : List UInt8) : partsOf (a ++ 32 :: b) = partsOf a ++ partsOf b := blanksTo_app blank 32 rfl a [] b
theorem parts_front (b : List UInt8) : partsOf (32 :: b) = partsOf b := by
  have := parts_two [] b
  simpa [partsOf, blanksTo] using this
theorem parse_parts (s : List UInt8) (h : s ≠ endless) : parseL s = match allS (partsOf s) with
    | none => (0, false)
    | some n => if 6311433600 < n then (0, false) else (n, !(partsOf s).isEmpty) := by
  unfold parseL
  rw [if_neg h, sumS_all _ 0 (by omega)]
  cases allS (partsOf s) with
  | none => rfl
  | some n =>
    simp only [Nat.zero_add]
    by_cases hn : 6311433600 < n
    · rw [if_pos hn, if_pos hn]
    · rw [if_neg hn, if_neg hn]
theorem endless_no (a b : List UInt8) : a ++ 32 :: b ≠ endless := by
  intro h
  have : (32 : UInt8) ∈ endless := by rw [← h]; simp
  exact absurd this (by decide)
/-- the law of two texts -/
theorem parse_two (a b : List UInt8) (ha : (parseL a).2 = true) (hb : (parseL b).2 = true) (ha2 : (parseL a).1 ≤ 6311433600) (hb2 : (parseL b).1 ≤ 6311433600) :
    parseL (a ++ 32 :: 32 :: b) = (if 6311433600 < (parseL a).1 + (parseL b).1 then (0, false) else ((parseL a).1 + (parseL b).1, true)) ∧
    parseL (32 :: (b ++ 32 :: a)) = parseL (a ++ 32 :: 32 :: b) := by
  have hae : a ≠ endless := by intro h; rw [parseL, if_pos h] at ha2; simp at ha2
  have hbe : b ≠ endless := by intro h; rw [parseL, if_pos h] at hb2; simp at hb2
  have e1 := parse_parts a hae
  have e2 := parse_parts b hbe
  have p1 : partsOf (a ++ 32 :: 32 :: b) = partsOf a ++ partsOf b := by rw [parts_two, parts_front]
  have p2 : partsOf (32 :: (b ++ 32 :: a)) = partsOf b ++ partsOf a := by rw [parts_front, parts_two]
  have q1 := parse_parts (a ++ 32 :: 32 :: b) (endless_no a _)
  have q2 := parse_parts (32 :: (b ++ 32 :: a)) (endless_no [] _)
  rw [p1, allS_app] at q1
  rw [p2, allS_app] at q2
  cases h1 : allS (partsOf a) with
  | none => rw [h1] at e1; rw [e1] at ha; simp at ha
  | some x =>
    cases h2 : allS (partsOf b) with
    | none => rw [h2] at e2; rw [e2] at hb; simp at hb
    | some y =>
      rw [h1] at e1
      rw [h2] at e2
      simp only at e1 e2
      by_cases hx : 6311433600 < x
      · rw [if_pos hx] at e1; rw [e1] at ha; simp at ha
      by_cases hy : 6311433600 < y
      · rw [if_pos hy] at e2; rw [e2] at hb; simp at hb
      rw [if_neg hx] at e1
      rw [if_neg hy] at e2
      rw [e1] at ha ⊢
      rw [e2] at hb ⊢
      simp only [Bool.not_eq_true', List.isEmpty_eq_false_iff] at ha hb
      rw [h1, h2] at q1
      rw [h1, h2] at q2
      simp only at q1 q2
      have n1 : (partsOf a ++ partsOf b).isEmpty = false := by simp [ha]
      have n2 : (partsOf b ++ partsOf a).isEmpty = false := by simp [ha]
      rw [n1] at q1
      rw [n2] at q2
      exact ⟨q1, by rw [q1, q2, Nat.add_comm y x]⟩

/-! ### sums -/
def heldI (n : Int) : Int := if 6311433600 < n then 1099511627776 else if n < 0 then 0 else n
def sumI (a b : Int) : Int := heldI (heldI a + heldI b)
theorem held_le (n : Int) : 0 ≤ heldI n ∧ (heldI n ≤ 6311433600 ∨ heldI n = 1099511627776) := by
  unfold heldI
  split
  · exact ⟨by omega, .inr rfl⟩
  · split
    · exact ⟨by omega, .inl (by omega)⟩
    · exact ⟨by omega, .inl (by omega)⟩
theorem sum_comm (a b : Int) : sumI a b = sumI b a := by unfold sumI; rw [Int.add_comm]
theorem held_of (n : Int) (h0 : 0 ≤ n) (h1 : n ≤ 6311433600 ∨ n = 1099511627776) : heldI n = n := by
  unfold heldI
  rcases h1 with h | h
  · rw [if_neg (by omega), if_neg (by omega)]
  · subst h; rfl
theorem held_held (n : Int) : heldI (heldI n) = heldI n := held_of _ (held_le n).1 (held_le n).2
theorem sum_assoc (a b c : Int) : sumI (sumI a b) c = sumI a (sumI b c) := by
  unfold sumI
  rw [held_held, held_held]
  obtain ⟨a0, a1⟩ := held_le a
  obtain ⟨b0, b1⟩ := held_le b
  obtain ⟨c0, c1⟩ := held_le c
  generalize heldI a = x at *
  generalize heldI b = y at *
  generalize heldI c = z at *
  unfold heldI
  (repeat' split) <;> omega
theorem sum_le (a b : Int) : 0 ≤ sumI a b ∧ (sumI a b ≤ 6311433600 ∨ sumI a b = 1099511627776) := held_le _
theorem sum_ever (a : Int) : sumI a 1099511627776 = 1099511627776 := by
  unfold sumI
  have := (held_le a).1
  generalize heldI a = x at *
  have e : heldI 1099511627776 = 1099511627776 := rfl
  rw [e]
  unfold heldI
  rw [if_pos (by omega)]
theorem sum_zero (a b : Int) : sumI (sumI a b) 0 = sumI a b := by
  have h := sum_le a b
  generalize sumI a b = x at *
  unfold sumI
  rw [held_of x h.1 h.2]
  have e : heldI 0 = 0 := rfl
  rw [e, Int.add_zero, held_of x h.1 h.2]
end Sp

end Go.Proofs.YtijfeeiplljnjaaGreatDoor
