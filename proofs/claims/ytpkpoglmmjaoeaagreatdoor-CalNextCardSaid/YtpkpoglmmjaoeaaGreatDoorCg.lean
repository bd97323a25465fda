/-
  The two ways to read a calendar's text come to the same: in plain Lean.
-/
import Derived.Test.YtpkpoglmmjaoeaaGreatDoorCf
namespace Go.Proofs.YtpkpoglmmjaoeaaGreatDoor
namespace Sp
def copyT (l : List (List UInt8)) : List (List UInt8) := match l with
  | [a, b] => [a, b, [48, 48]]
  | l => l
def refGo : Nat → List Int → List (List UInt8) → List (List UInt8) → List (List UInt8) → Option (List Int × List (List UInt8) × List (List UInt8))
  | _, days, d, t, [] => some (days, d, t)
  | st, days, d, t, w :: r =>
    if (daysP w).isSome = true ∧ st < 1 then refGo 1 ((daysP w).getD []) d t r
    else if (splitC 45 w).length = 3 ∧ st < 2 then refGo 2 days (splitC 45 w) t r
    else if ((splitC 58 w).length = 2 ∨ (splitC 58 w).length = 3) ∧ st < 3 then refGo 3 days d (copyT (splitC 58 w)) r
    else none
def star3 : List (List UInt8) := [[42], [42], [42]]
def nought3 : List (List UInt8) := [[48, 48], [48, 48], [48, 48]]
def refL (s : List UInt8) : Option CalD :=
  if 3 < (splitC 32 (namedL s)).length then none
  else match refGo 0 [] star3 nought3 (splitC 32 (namedL s)) with
    | none => none
    | some (days, d, t) => fillP days d t
theorem cut1_bytes (c : UInt8) : ∀ l : List UInt8, (cut1 c l).2.2 = true → l = (cut1 c l).1 ++ c :: (cut1 c l).2.1
  | [], h => by cases h
  | b :: l, h => by
    rw [cut1] at h ⊢
    split at h
    · rename_i e
      rw [if_pos e, e]; rfl
    · rename_i e
      rw [if_neg e]
      simp only [List.cons_append]
      rw [← cut1_bytes c l h]
theorem cut1_whole (c : UInt8) : ∀ l : List UInt8, (cut1 c l).2.2 = false → (cut1 c l).1 = l
  | [], _ => rfl
  | b :: l, h => by
    rw [cut1] at h ⊢
    split at h
    · cases h
    · rename_i e
      rw [if_neg e]
      simp only
      rw [cut1_whole c l h]
theorem cutD_bytes : ∀ l : List UInt8, (cutD l).2.2 = true → l = (cutD l).1 ++ 46 :: 46 :: (cutD l).2.1
  | [], h => by cases h
  | [b], h => by cases h
  | b :: b' :: l, h => by
    rw [cutD] at h ⊢
    split at h
    · rename_i e
      rw [if_pos e, e.1, e.2]; rfl
    · rename_i e
      rw [if_neg e]
      simp only [List.cons_append]
      rw [← cutD_bytes (b' :: l) h]
theorem cutD_whole : ∀ l : List UInt8, (cutD l).2.2 = false → (cutD l).1 = l
  | [], _ => rfl
  | [b], _ => rfl
  | b :: b' :: l, h => by
    rw [cutD] at h ⊢
    split at h
    · cases h
    · rename_i e
      rw [if_neg e]
      simp only
      rw [cutD_whole (b' :: l) h]
theorem num_bytes (l : List UInt8) (n : Int) (h : numC l = some n) : ∀ c ∈ l, digC c = true := by
  unfold numC at h
  split at h
  · rename_i e
    exact List.all_eq_true.1 e.2.2
  · cases h
theorem body_bytes (l : List UInt8) (st : Int) (p : PartD) (h : bodyP l st = some p) : ∀ c ∈ l, partC c = true := by
  have hd : ∀ c, digC c = true → partC c = true := fun c h => by unfold partC; rw [h]; rfl
  unfold bodyP at h
  split at h
  · rename_i e
    intro c hc
    rw [e, List.mem_singleton] at hc
    subst hc; decide
  · cases h1 : numC (cutD l).1 with
    | none => rw [h1] at h; cases h
    | some fr =>
      rw [h1] at h
      simp only at h
      have a1 := num_bytes _ _ h1
      cases hr : (cutD l).2.2 with
      | false =>
        rw [cutD_whole l hr] at a1
        exact fun c hc => hd c (a1 c hc)
      | true =>
        rw [hr] at h
        simp only [if_true] at h
        cases h2 : numC (cutD l).2.1 with
        | none => rw [h2] at h; cases h
        | some to =>
          have a2 := num_bytes _ _ h2
          intro c hc
          rw [cutD_bytes l hr] at hc
          simp only [List.mem_append, List.mem_cons] at hc
          rcases hc with hc | rfl | rfl | hc
          · exact hd c (a1 c hc)
          · decide
          · decide
          · exact hd c (a2 c hc)
theorem partP_bytes (l : List UInt8) (p : PartD) (h : partP l = some p) : ∀ c ∈ l, partC c = true := by
  have hd : ∀ c, digC c = true → partC c = true := fun c h => by unfold partC; rw [h]; rfl
  unfold partP at h
  cases hr : (cut1 47 l).2.2 with
  | false =>
    rw [hr] at h
    simp only [Bool.false_eq_true, if_false] at h
    have := body_bytes _ _ _ h
    rwa [cut1_whole 47 l hr] at this
  | true =>
    rw [hr] at h
    simp only [if_true] at h
    cases h2 : numC (cut1 47 l).2.1 with
    | none => rw [h2] at h; cases h
    | some st =>
      rw [h2] at h
      simp only at h
      split at h
      · cases h
      · have a1 := body_bytes _ _ _ h
        have a2 := num_bytes _ _ h2
        intro c hc
        rw [cut1_bytes 47 l hr] at hc
        simp only [List.mem_append, List.mem_cons] at hc
        rcases hc with hc | rfl | hc
        · exact a1 c hc
        · decide
        · exact hd c (a2 c hc)
theorem split_ne (c : UInt8) : ∀ l : List UInt8, splitC c l ≠ []
  | [] => by simp [splitC]
  | b :: l => by
    rw [splitC]
    split
    · simp
    · split <;> simp
theorem split_mem (c : UInt8) : ∀ (l : List UInt8) (x : UInt8), x ∈ l → x = c ∨ ∃ w ∈ splitC c l, x ∈ w
  | [], x, h => by cases h
  | b :: l, x, h => by
    rw [splitC]
    by_cases e : b = c
    · rw [if_pos e]
      rcases List.mem_cons.1 h with rfl | h
      · exact .inl e
      · rcases split_mem c l x h with h | ⟨w, hw, hx⟩
        · exact .inl h
        · exact .inr ⟨w, by simp [hw], hx⟩
    · rw [if_neg e]
      cases hs : splitC c l with
      | nil => exact absurd hs (split_ne c l)
      | cons y z =>
        simp only
        rcases List.mem_cons.1 h with rfl | h
        · exact .inr ⟨x :: y, by simp, by simp⟩
        · rcases split_mem c l x h with h | ⟨w, hw, hx⟩
          · exact .inl h
          · rw [hs] at hw
            rcases List.mem_cons.1 hw with rfl | hw
            · exact .inr ⟨b :: w, by simp, by simp [hx]⟩
            · exact .inr ⟨w, by simp [hw], hx⟩
theorem allSome_mem {α : Type} : ∀ (l : List (Option α)) (r : List α), allSome l = some r → ∀ x ∈ l, ∃ y, x = some y
  | [], _, _, x, hx => by cases hx
  | none :: l, r, h, x, hx => by cases h
  | some a :: l, r, h, x, hx => by
    rw [allSome] at h
    cases e : allSome l with
    | none => rw [e] at h; cases h
    | some q =>
      rcases List.mem_cons.1 hx with rfl | hx
      · exact ⟨a, rfl⟩
      · exact allSome_mem l q e x hx
theorem partsP_bytes (l : List UInt8) (r : List PartD) (h : partsP l = some r) : ∀ c ∈ l, c = 44 ∨ partC c = true := by
  intro c hc
  rcases split_mem 44 l c hc with e | ⟨w, hw, hx⟩
  · exact .inl e
  · obtain ⟨p, hp⟩ := allSome_mem _ _ h (partP w) (List.mem_map.2 ⟨w, hw, rfl⟩)
    exact .inr (partP_bytes w p hp c hx)
theorem dayIdx_some (l : List UInt8) (i : Nat) (h : dayIdx l = some i) : i < 7 ∧ l = dayName ((i : Int) + 1) := by
  unfold dayIdx at h
  rw [List.findIdx?_eq_some_iff_getElem] at h
  obtain ⟨hi, h2, _⟩ := h
  have hi' : i < 7 := hi
  refine ⟨hi', ?_⟩
  rw [beq_iff_eq] at h2
  rw [← h2]
  unfold dayName
  rw [show (((i : Int) + 1) - 1).toNat = i from by omega, List.getElem?_eq_getElem hi]
  rfl
theorem name_letters (i : Nat) (h : i < 7) : (∀ c ∈ dayName ((i : Int) + 1), letC c = true) ∧ ∃ b r, dayName ((i : Int) + 1) = b :: r := by
  obtain ⟨_, h2, h3⟩ := day_names ((i : Int) + 1) (by omega) (by omega)
  refine ⟨h2, ?_⟩
  cases hx : dayName ((i : Int) + 1) with
  | nil => exact absurd hx h3
  | cons b r => exact ⟨b, r, rfl⟩
theorem wordDays_some (w : List UInt8) (q : Nat × Nat) (h : wordDays w = some q) : (∀ c ∈ w, letC c = true ∨ c = 46) ∧ ∃ b r, w = b :: r ∧ letC b = true := by
  unfold wordDays at h
  cases h1 : dayIdx (cutD w).1 with
  | none => rw [h1] at h; cases h
  | some a =>
    cases h2 : dayIdx (if (cutD w).2.2 then (cutD w).2.1 else (cutD w).1) with
    | none => rw [h1, h2] at h; cases h
    | some b =>
      obtain ⟨a1, a2⟩ := dayIdx_some _ _ h1
      obtain ⟨b1, b2⟩ := dayIdx_some _ _ h2
      obtain ⟨c1, x, y, c2⟩ := name_letters a a1
      have c3 := (name_letters b b1).1
      have hx : letC x = true := c1 x (by rw [c2]; simp)
      rw [← a2] at c1 c2
      rw [← b2] at c3
      cases hr : (cutD w).2.2 with
      | false =>
        rw [cutD_whole w hr] at c1 c2
        exact ⟨fun c hc => .inl (c1 c hc), x, y, c2, hx⟩
      | true =>
        rw [hr] at c3
        simp only [if_true] at c3
        have e := cutD_bytes w hr
        refine ⟨fun c hc => ?_, x, y ++ 46 :: 46 :: (cutD w).2.1, ?_, hx⟩
        · rw [e] at hc
          simp only [List.mem_append, List.mem_cons] at hc
          rcases hc with hc | rfl | rfl | hc
          · exact .inl (c1 c hc)
          · exact .inr rfl
          · exact .inr rfl
          · exact .inl (c3 c hc)
        · rw [c2] at e
          simpa using e
theorem split_head (c : UInt8) : ∀ (l : List UInt8) (w : List UInt8) (b : UInt8) (r : List UInt8) (t : List (List UInt8)), splitC c l = w :: t → w = b :: r → ∃ q, l = b :: q
  | [], w, b, r, t, h, e => by
    rw [splitC] at h
    injection h with h1 h2
    rw [← h1] at e; cases e
  | x :: l, w, b, r, t, h, e => by
    rw [splitC] at h
    split at h
    · injection h with h1 h2
      rw [← h1] at e; cases e
    · cases hs : splitC c l with
      | nil => exact absurd hs (split_ne c l)
      | cons y z =>
        rw [hs] at h
        injection h with h1 h2
        rw [← h1] at e
        injection e with e1 e2
        exact ⟨l, by rw [e1]⟩
/-- what a word of weekdays has -/
theorem daysP_bytes (w : List UInt8) (r : List Int) (h : daysP w = some r) : (∀ c ∈ w, letC c = true ∨ c = 46 ∨ c = 44) ∧ headLet w = true := by
  unfold daysP at h
  cases e : allSome ((splitC 44 w).map wordDays) with
  | none => rw [e] at h; cases h
  | some q =>
    have hm := allSome_mem _ _ e
    constructor
    · intro c hc
      rcases split_mem 44 w c hc with e | ⟨x, hx, hcx⟩
      · exact .inr (.inr e)
      · obtain ⟨y, hy⟩ := hm (wordDays x) (List.mem_map.2 ⟨x, hx, rfl⟩)
        rcases (wordDays_some x y hy).1 c hcx with h | h
        · exact .inl h
        · exact .inr (.inl h)
    · cases hs : splitC 44 w with
      | nil => exact absurd hs (split_ne 44 w)
      | cons x t =>
        obtain ⟨y, hy⟩ := hm (wordDays x) (List.mem_map.2 ⟨x, by rw [hs]; simp, rfl⟩)
        obtain ⟨b, r, e1, e2⟩ := (wordDays_some x y hy).2
        obtain ⟨q, hq⟩ := split_head 44 w x b r t hs e1
        rw [hq]; exact e2
end Sp

end Go.Proofs.YtpkpoglmmjaoeaaGreatDoor
