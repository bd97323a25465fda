/-
  Filters: which may be, their texts, what a text says; plain laws, no program in sight.
-/
import Derived.Test.YtijfeeiplljnjaaGreatDoorUa
import Derived.Test.YtijfeeiplljnjaaGreatDoorRb
namespace Go.Proofs.YtijfeeiplljnjaaGreatDoor
open Go.RowKit

namespace Sp
theorem bl_asym : ∀ (x y : List UInt8), Op.bytesLess x y = true → Op.bytesLess y x = false
  | [], [], h => by simp [Op.bytesLess] at h
  | [], d :: s, _ => by simp [Op.bytesLess]
  | c :: r, [], h => by simp [Op.bytesLess] at h
  | c :: r, d :: s, h => by
    rw [Op.bytesLess, Bool.or_eq_true, Bool.and_eq_true] at h
    rw [Op.bytesLess, Bool.or_eq_false_iff, Bool.and_eq_false_iff]
    simp only [decide_eq_true_eq, decide_eq_false_iff_not, beq_iff_eq, beq_eq_false_iff_ne, UInt8.lt_iff_toNat_lt] at h ⊢
    rcases h with h | ⟨rfl, h⟩
    · exact ⟨by omega, .inl (by rintro rfl; omega)⟩
    · exact ⟨by omega, .inr (bl_asym r s h)⟩
theorem bl_total : ∀ (x y : List UInt8), x ≠ y → Op.bytesLess x y = true ∨ Op.bytesLess y x = true
  | [], [], h => absurd rfl h
  | [], d :: s, _ => by simp [Op.bytesLess]
  | c :: r, [], _ => by simp [Op.bytesLess]
  | c :: r, d :: s, h => by
    rw [Op.bytesLess, Op.bytesLess, Bool.or_eq_true, Bool.and_eq_true, Bool.or_eq_true, Bool.and_eq_true]
    simp only [decide_eq_true_eq, beq_iff_eq, UInt8.lt_iff_toNat_lt]
    by_cases e : c = d
    · subst e
      rcases bl_total r s (fun e => h (by rw [e])) with g | g
      · exact .inl (.inr ⟨rfl, g⟩)
      · exact .inr (.inr ⟨rfl, g⟩)
    · have : c.toNat ≠ d.toNat := fun e2 => e (UInt8.toNat_inj.1 e2)
      by_cases g : c.toNat < d.toNat
      · exact .inl (.inl g)
      · exact .inr (.inl (by omega))
theorem bl_trans : ∀ (x y z : List UInt8), Op.bytesLess x y = true → Op.bytesLess y z = true → Op.bytesLess x z = true
  | x, [], z, h, _ => by cases x <;> simp [Op.bytesLess] at h
  | x, d :: s, [], _, g => by simp [Op.bytesLess] at g
  | [], d :: s, e :: t, _, _ => by simp [Op.bytesLess]
  | c :: r, d :: s, e :: t, h, g => by
    rw [Op.bytesLess, Bool.or_eq_true, Bool.and_eq_true] at h g ⊢
    simp only [decide_eq_true_eq, beq_iff_eq, UInt8.lt_iff_toNat_lt] at h g ⊢
    rcases h with h | ⟨rfl, h⟩
    · rcases g with g | ⟨rfl, g⟩
      · exact .inl (by omega)
      · exact .inl h
    · rcases g with g | ⟨rfl, g⟩
      · exact .inl g
      · exact .inr ⟨rfl, bl_trans r s t h g⟩
theorem bl_self (x : List UInt8) : Op.bytesLess x x = false := by
  cases h : Op.bytesLess x x with
  | false => rfl
  | true => rw [bl_asym x x h] at h; cases h

/-- a filter -/
structure FD where
  units : List ByteArray
  kinds : List Int
  since : Int
  till : Int
  word : ByteArray
def ltB (a b : ByteArray) : Bool := Op.bytesLess a.toList b.toList
theorem ltB_trans {a b c : ByteArray} (h : ltB a b = true) (g : ltB b c = true) : ltB a c = true := bl_trans _ _ _ h g
theorem ltB_self (a : ByteArray) : ltB a a = false := bl_self _
theorem ltB_asym {a b : ByteArray} (h : ltB a b = true) : ltB b a = false := bl_asym _ _ h
theorem ltB_total {a b : ByteArray} (h : ltB a b = false) (g : ltB b a = false) : a = b := by
  apply WideShapes.bytes_inj
  rw [← bytes_list, ← bytes_list]
  refine Decidable.byContradiction fun e => ?_
  rcases bl_total _ _ e with q | q
  · unfold ltB at h; rw [q] at h; cases h
  · unfold ltB at g; rw [q] at g; cases g
/-- does each stand behind the one ahead of it? -/
def risesB : List ByteArray → Bool
  | a :: b :: r => ltB a b && risesB (b :: r)
  | _ => true
def risesI : List Int → Bool
  | a :: b :: r => decide (a < b) && risesI (b :: r)
  | _ => true
def unitB (u : ByteArray) : Bool := u.toList.isEmpty || mayL u.data.toList
def kindB (k : Int) : Bool := decide (1 ≤ k) && decide (k ≤ 6)
def wordB (w : ByteArray) : Bool := cleanL w.data.toList && decide (w.size ≤ 100)
def mayF (f : FD) : Bool := decide (f.units.length ≤ 16) && (risesB f.units && (risesI f.kinds && (f.units.all unitB && (f.kinds.all kindB && (timeB f.since && (timeB f.till && wordB f.word))))))

/-- a kind's word -/
def kindN (k : Int) : List UInt8 :=
  if k = 1 then [115, 97, 105, 100] else if k = 2 then [115, 116, 97, 116, 101] else if k = 3 then [106, 111, 98]
  else if k = 4 then [99, 111, 110, 110] else if k = 5 then [116, 105, 109, 101, 114] else [97, 115, 107]
def kindP (l : List UInt8) : Option Int :=
  if l = [115, 97, 105, 100] then some 1 else if l = [115, 116, 97, 116, 101] then some 2 else if l = [106, 111, 98] then some 3
  else if l = [99, 111, 110, 110] then some 4 else if l = [116, 105, 109, 101, 114] then some 5 else if l = [97, 115, 107] then some 6 else none
def kUnit : List UInt8 := [117, 110, 105, 116]
def kKind : List UInt8 := [107, 105, 110, 100]
def kSince : List UInt8 := [115, 105, 110, 99, 101]
def kUntil : List UInt8 := [117, 110, 116, 105, 108]
def kWord : List UInt8 := [119, 111, 114, 100]
def unitF (u : ByteArray) : List UInt8 := kUnit ++ 61 :: (unitW u).data.toList
def kindF (k : Int) : List UInt8 := kKind ++ 61 :: kindN k
def sinceF (n : Int) : List (List UInt8) := if n = 0 then [] else [kSince ++ 61 :: decI n]
def tillF (n : Int) : List (List UInt8) := if n = 6311433599 then [] else [kUntil ++ 61 :: decI n]
def wordF (w : ByteArray) : List (List UInt8) := if w.toList.isEmpty then [] else [kWord ++ 61 :: w.data.toList]
def wordsF (f : FD) : List (List UInt8) := f.units.map unitF ++ (f.kinds.map kindF ++ (sinceF f.since ++ (tillF f.till ++ wordF f.word)))
def printF (f : FD) : List UInt8 := if mayF f then joinC (wordsF f) else []

/-- an element is put in its place, if it is not there -/
def putB : List ByteArray → ByteArray → List ByteArray
  | [], x => [x]
  | a :: r, x => if ltB a x then a :: putB r x else if a = x then a :: r else x :: a :: r
def putI : List Int → Int → List Int
  | [], x => [x]
  | a :: r, x => if a < x then a :: putI r x else if a = x then a :: r else x :: a :: r

/-- a filter that is being read, and what was there -/
structure PS where
  f : FD
  h0 : Bool
  h1 : Bool
  h2 : Bool
def timeP (l : List UInt8) : Option Int := match numS l with
  | some n => if timeB n then some (n : Int) else none
  | none => none
def stepU (s : PS) (v : List UInt8) : Except Int PS :=
  if v = [45] ∨ mayL v = true then
    (if 16 < (putB s.f.units (backW (toB v))).length then .error 2 else .ok ⟨⟨putB s.f.units (backW (toB v)), s.f.kinds, s.f.since, s.f.till, s.f.word⟩, s.h0, s.h1, s.h2⟩)
  else .error 12
def stepK (s : PS) (v : List UInt8) : Except Int PS := match kindP v with
  | none => .error 12
  | some k => .ok ⟨⟨s.f.units, putI s.f.kinds k, s.f.since, s.f.till, s.f.word⟩, s.h0, s.h1, s.h2⟩
def stepS (s : PS) (v : List UInt8) : Except Int PS :=
  if s.h0 then .error 7 else match timeP v with
  | none => .error 12
  | some n => .ok ⟨⟨s.f.units, s.f.kinds, n, s.f.till, s.f.word⟩, true, s.h1, s.h2⟩
def stepT (s : PS) (v : List UInt8) : Except Int PS :=
  if s.h1 then .error 7 else match timeP v with
  | none => .error 12
  | some n => .ok ⟨⟨s.f.units, s.f.kinds, s.f.since, n, s.f.word⟩, s.h0, true, s.h2⟩
def stepW (s : PS) (v : List UInt8) : Except Int PS :=
  if s.h2 then .error 7 else if v = [] ∨ wordB (toB v) = false then .error 12
  else .ok ⟨⟨s.f.units, s.f.kinds, s.f.since, s.f.till, toB v⟩, s.h0, s.h1, true⟩
/-- one word is read, parted at its first sign of sameness -/
def stepP (s : PS) (k v : List UInt8) (has : Bool) : Except Int PS :=
  if has = false then .error 11
  else if k = kUnit then stepU s v
  else if k = kKind then stepK s v
  else if k = kSince then stepS s v
  else if k = kUntil then stepT s v
  else if k = kWord then stepW s v
  else .error 11
def wordP (s : PS) (l : List UInt8) : Except Int PS := stepP s (cutC 61 l).1 (cutC 61 l).2.1 (cutC 61 l).2.2
def wordsP : PS → List (List UInt8) → Except Int PS
  | s, [] => .ok s
  | s, l :: r => match wordP s l with
    | .error e => .error e
    | .ok t => wordsP t r
def zeroF : FD := ⟨[], [], 0, 0, ⟨#[]⟩⟩
def firstF : FD := ⟨[], [], 0, 6311433599, ⟨#[]⟩⟩
def parseF (l : List UInt8) : Except Int FD := match splitW l with
  | .error e => .error e
  | .ok ws => match wordsP ⟨firstF, false, false, false⟩ ws with
    | .error e => .error e
    | .ok s => .ok s.f

theorem wordsP_app : ∀ (a b : List (List UInt8)) (s t : PS), wordsP s a = .ok t → wordsP s (a ++ b) = wordsP t b
  | [], b, s, t, h => by injection h with h; rw [h]; rfl
  | l :: r, b, s, t, h => by
    rw [wordsP] at h
    rw [List.cons_append, wordsP]
    cases hw : wordP s l with
    | error e => rw [hw] at h; cases h
    | ok u => rw [hw] at h; exact wordsP_app r b u t h
theorem wordP_hit (s : PS) (k v : List UInt8) (hk : ∀ x ∈ k, x ≠ 61) : wordP s (k ++ 61 :: v) = stepP s k v true := by
  unfold wordP
  rw [cutC_hit 61 k v hk]
/-- what rises, put behind what is less -/
theorem putB_last : ∀ (l : List ByteArray) (x : ByteArray), (∀ a ∈ l, ltB a x = true) → putB l x = l ++ [x]
  | [], _, _ => rfl
  | a :: r, x, h => by
    rw [putB, if_pos (h a (List.mem_cons_self ..)), putB_last r x (fun b hb => h b (List.mem_cons_of_mem _ hb))]; rfl
theorem putI_last : ∀ (l : List Int) (x : Int), (∀ a ∈ l, a < x) → putI l x = l ++ [x]
  | [], _, _ => rfl
  | a :: r, x, h => by
    rw [putI, if_pos (h a (List.mem_cons_self ..)), putI_last r x (fun b hb => h b (List.mem_cons_of_mem _ hb))]; rfl
theorem risesB_head : ∀ (a : ByteArray) (l : List ByteArray), risesB (a :: l) = true → ∀ x ∈ l, ltB a x = true
  | _, [], _, _, hx => by cases hx
  | a, b :: r, h, x, hx => by
    rw [risesB, Bool.and_eq_true] at h
    rcases List.mem_cons.1 hx with rfl | hx
    · exact h.1
    · exact ltB_trans h.1 (risesB_head b r h.2 x hx)
theorem risesI_head : ∀ (a : Int) (l : List Int), risesI (a :: l) = true → ∀ x ∈ l, a < x
  | _, [], _, _, hx => by cases hx
  | a, b :: r, h, x, hx => by
    rw [risesI, Bool.and_eq_true] at h
    have h1 := of_decide_eq_true h.1
    rcases List.mem_cons.1 hx with rfl | hx
    · exact h1
    · have := risesI_head b r h.2 x hx; omega
theorem risesB_tail {a : ByteArray} {l : List ByteArray} (h : risesB (a :: l) = true) : risesB l = true := by
  cases l with
  | nil => rfl
  | cons b r => rw [risesB, Bool.and_eq_true] at h; exact h.2
theorem risesI_tail {a : Int} {l : List Int} (h : risesI (a :: l) = true) : risesI l = true := by
  cases l with
  | nil => rfl
  | cons b r => rw [risesI, Bool.and_eq_true] at h; exact h.2
theorem risesB_cons {a : ByteArray} {l : List ByteArray} (h : risesB l = true) (g : ∀ x, l.head? = some x → ltB a x = true) : risesB (a :: l) = true := by
  cases l with
  | nil => rfl
  | cons b r => rw [risesB, h, g b rfl]; rfl
theorem risesI_cons {a : Int} {l : List Int} (h : risesI l = true) (g : ∀ x, l.head? = some x → a < x) : risesI (a :: l) = true := by
  cases l with
  | nil => rfl
  | cons b r => rw [risesI, h, decide_eq_true (g b rfl)]; rfl
theorem putB_head (l : List ByteArray) (x y : ByteArray) (h : (putB l x).head? = some y) : y = x ∨ l.head? = some y := by
  cases l with
  | nil => simp [putB] at h; exact .inl h.symm
  | cons a r =>
    rw [putB] at h
    split at h
    · exact .inr (by simpa using h)
    · split at h
      · exact .inr h
      · simp at h; exact .inl h.symm
theorem putI_head (l : List Int) (x y : Int) (h : (putI l x).head? = some y) : y = x ∨ l.head? = some y := by
  cases l with
  | nil => simp [putI] at h; exact .inl h.symm
  | cons a r =>
    rw [putI] at h
    split at h
    · exact .inr (by simpa using h)
    · split at h
      · exact .inr h
      · simp at h; exact .inl h.symm
theorem putB_rises : ∀ (l : List ByteArray) (x : ByteArray), risesB l = true → risesB (putB l x) = true
  | [], _, _ => rfl
  | a :: r, x, h => by
    rw [putB]
    split
    · rename_i hl
      refine risesB_cons (putB_rises r x (risesB_tail h)) fun y hy => ?_
      rcases putB_head r x y hy with rfl | hy
      · exact hl
      · exact risesB_head a r h y (List.mem_of_mem_head? hy)
    · rename_i hl
      split
      · exact h
      · rename_i hne
        refine risesB_cons h fun y hy => ?_
        simp at hy
        subst hy
        cases hx : ltB x a with
        | true => rfl
        | false => exact absurd (ltB_total (Bool.eq_false_iff.2 hl) hx) hne
theorem putI_rises : ∀ (l : List Int) (x : Int), risesI l = true → risesI (putI l x) = true
  | [], _, _ => rfl
  | a :: r, x, h => by
    rw [putI]
    split
    · rename_i hl
      refine risesI_cons (putI_rises r x (risesI_tail h)) fun y hy => ?_
      rcases putI_head r x y hy with rfl | hy
      · exact hl
      · exact risesI_head a r h y (List.mem_of_mem_head? hy)
    · rename_i hl
      split
      · exact h
      · rename_i hne
        refine risesI_cons h fun y hy => ?_
        simp at hy
        omega
theorem putB_mem : ∀ (l : List ByteArray) (x y : ByteArray), y ∈ putB l x → y = x ∨ y ∈ l
  | [], x, y, h => by simp [putB] at h; exact .inl h
  | a :: r, x, y, h => by
    rw [putB] at h
    split at h
    · rcases List.mem_cons.1 h with rfl | h
      · exact .inr (List.mem_cons_self ..)
      · exact (putB_mem r x y h).imp id (List.mem_cons_of_mem _)
    · split at h
      · exact .inr h
      · exact (List.mem_cons.1 h)
theorem putI_mem : ∀ (l : List Int) (x y : Int), y ∈ putI l x → y = x ∨ y ∈ l
  | [], x, y, h => by simp [putI] at h; exact .inl h
  | a :: r, x, y, h => by
    rw [putI] at h
    split at h
    · rcases List.mem_cons.1 h with rfl | h
      · exact .inr (List.mem_cons_self ..)
      · exact (putI_mem r x y h).imp id (List.mem_cons_of_mem _)
    · split at h
      · exact .inr h
      · exact (List.mem_cons.1 h)
theorem kindI_few (l : List Int) (h : risesI l = true) (hk : l.all kindB = true) : l.length ≤ 6 := by
  have gen : ∀ (l : List Int) (lo : Int), risesI l = true → (∀ x ∈ l, lo ≤ x ∧ x ≤ 6) → lo ≤ 7 → (l.length : Int) ≤ 7 - lo := by
    intro l
    induction l with
    | nil => intro lo _ _ h7; simp; omega
    | cons a r ih =>
      intro lo hr hx h7
      have ha := hx a (List.mem_cons_self ..)
      have := ih (a + 1) (risesI_tail hr) (fun x h => ⟨by have := risesI_head a r hr x h; omega, (hx x (List.mem_cons_of_mem _ h)).2⟩) (by omega)
      simp; omega
  have := gen l 1 h (fun x hx => by
    have := List.all_eq_true.1 hk x hx
    unfold kindB at this
    simp only [Bool.and_eq_true, decide_eq_true_eq] at this
    exact this) (by decide)
  omega
structure MayF (f : FD) : Prop where
  few : f.units.length ≤ 16
  ru : risesB f.units = true
  rk : risesI f.kinds = true
  us : f.units.all unitB = true
  ks : f.kinds.all kindB = true
  s : timeB f.since = true
  t : timeB f.till = true
  w : wordB f.word = true
theorem mayF_iff (f : FD) : mayF f = true ↔ MayF f := by
  unfold mayF
  simp only [Bool.and_eq_true, decide_eq_true_eq]
  constructor
  · rintro ⟨a, b, c, d, e, g, h, i⟩; exact ⟨a, b, c, d, e, g, h, i⟩
  · rintro ⟨a, b, c, d, e, g, h, i⟩; exact ⟨a, b, c, d, e, g, h, i⟩
theorem timeP_time (l : List UInt8) (n : Int) (h : timeP l = some n) : timeB n = true := by
  unfold timeP at h
  cases hn : numS l with
  | none => rw [hn] at h; cases h
  | some m =>
    rw [hn] at h
    replace h : (if timeB (m : Int) = true then some (m : Int) else none) = some n := h
    by_cases h1 : timeB (m : Int) = true
    · rw [if_pos h1] at h
      exact (Option.some.inj h) ▸ h1
    · rw [if_neg h1] at h
      exact absurd h (by simp)
theorem kindP_kind (l : List UInt8) (k : Int) (h : kindP l = some k) : kindB k = true := by
  unfold kindP at h
  repeat' split at h
  all_goals first | (injection h with h; subst h; rfl) | cases h
theorem back_unit (v : List UInt8) (h : v = [45] ∨ mayL v = true) : unitB (backW (toB v)) = true := by
  unfold unitB
  by_cases h1 : v = [45]
  · rw [h1, show backW (toB [45]) = ⟨#[]⟩ by rw [backW, if_pos (by rw [bytes_list, toB_list]; rfl)]]
    rw [bytes_list]; rfl
  · rw [backW, if_neg (by rw [bytes_list, toB_list]; simpa using h1), toB_list, h.resolve_left h1, Bool.or_true]
theorem stepP_may (s t : PS) (k v : List UInt8) (has : Bool) (h : MayF s.f) (e : stepP s k v has = .ok t) : MayF t.f := by
  unfold stepP at e
  split at e
  · cases e
  split at e
  · unfold stepU at e
    split at e
    · rename_i hv
      split at e
      · cases e
      · rename_i hl
        injection e with e
        rw [← e]
        exact ⟨by simp only; omega, putB_rises _ _ h.ru, h.rk, List.all_eq_true.2 fun x hx => by
          rcases putB_mem _ _ _ hx with rfl | hx
          · exact back_unit v hv
          · exact List.all_eq_true.1 h.us x hx, h.ks, h.s, h.t, h.w⟩
    · cases e
  split at e
  · unfold stepK at e
    split at e
    · cases e
    · rename_i k' hk
      injection e with e
      rw [← e]
      exact ⟨h.few, h.ru, putI_rises _ _ h.rk, h.us, List.all_eq_true.2 fun x hx => by
        rcases putI_mem _ _ _ hx with rfl | hx
        · exact kindP_kind v _ hk
        · exact List.all_eq_true.1 h.ks x hx, h.s, h.t, h.w⟩
  split at e
  · unfold stepS at e
    split at e
    · cases e
    · split at e
      · cases e
      · rename_i n hn
        injection e with e
        rw [← e]
        exact ⟨h.few, h.ru, h.rk, h.us, h.ks, timeP_time v n hn, h.t, h.w⟩
  split at e
  · unfold stepT at e
    split at e
    · cases e
    · split at e
      · cases e
      · rename_i n hn
        injection e with e
        rw [← e]
        exact ⟨h.few, h.ru, h.rk, h.us, h.ks, h.s, timeP_time v n hn, h.w⟩
  split at e
  · unfold stepW at e
    split at e
    · cases e
    · split at e
      · cases e
      · rename_i hn
        injection e with e
        rw [← e]
        exact ⟨h.few, h.ru, h.rk, h.us, h.ks, h.s, h.t, by
          cases hw : wordB (toB v) with
          | true => rfl
          | false => exact absurd (.inr hw) hn⟩
  · cases e
theorem wordsP_may : ∀ (ws : List (List UInt8)) (s t : PS), MayF s.f → wordsP s ws = .ok t → MayF t.f
  | [], s, t, h, e => by injection e with e; rw [← e]; exact h
  | l :: r, s, t, h, e => by
    rw [wordsP] at e
    cases hw : wordP s l with
    | error x => rw [hw] at e; cases e
    | ok u => rw [hw] at e; exact wordsP_may r u t (stepP_may s u _ _ _ h hw) e
theorem first_may : MayF firstF := ⟨by decide, rfl, rfl, rfl, rfl, by decide, by decide, by decide +kernel⟩
/-- what is read may be -/
theorem parse_may (l : List UInt8) (f : FD) (h : parseF l = .ok f) : mayF f = true := by
  unfold parseF at h
  split at h
  · cases h
  · split at h
    · cases h
    · rename_i s hs
      injection h with h
      rw [← h]
      exact (mayF_iff _).2 (wordsP_may _ _ _ first_may hs)

theorem unit_word (u : ByteArray) (h : unitB u = true) : ((unitW u).data.toList = [45] ∨ mayL (unitW u).data.toList = true) ∧ backW (unitW u) = u := by
  unfold unitB at h
  by_cases he : u.toList.isEmpty = true
  · have e := empty_of u he
    refine ⟨.inl (by rw [unitW, if_pos he]), (unit_back u (.inl e)).1⟩
  · have hm : mayL u.data.toList = true := by
      rw [Bool.or_eq_true] at h
      exact h.resolve_left he
    exact ⟨.inr (by rw [unitW, if_neg he]; exact hm), (unit_back u (.inr ⟨he, hm⟩)).1⟩
theorem units_read : ∀ (us done : List ByteArray) (s : PS), s.f.units = done → us.all unitB = true → risesB us = true → (∀ a ∈ done, ∀ x ∈ us, ltB a x = true) → done.length + us.length ≤ 16 → wordsP s (us.map unitF) = .ok ⟨⟨done ++ us, s.f.kinds, s.f.since, s.f.till, s.f.word⟩, s.h0, s.h1, s.h2⟩
  | [], done, s, hd, _, _, _, _ => by
    rw [List.map_nil, wordsP, List.append_nil, ← hd]
  | u :: r, done, s, hd, ha, hr, hx, hl => by
    rw [List.all_cons, Bool.and_eq_true] at ha
    simp only [List.length_cons] at hl
    obtain ⟨h1, h2⟩ := unit_word u ha.1
    have e : wordP s (unitF u) = .ok ⟨⟨done ++ [u], s.f.kinds, s.f.since, s.f.till, s.f.word⟩, s.h0, s.h1, s.h2⟩ := by
      unfold unitF
      rw [wordP_hit s _ _ (by decide), stepP, if_neg (by decide), if_pos rfl, stepU, if_pos h1, toB_of, h2, hd, putB_last done u (fun a h => hx a h u (List.mem_cons_self ..)), if_neg (by simp; omega)]
    rw [List.map_cons, wordsP, e]
    show wordsP _ _ = _
    rw [units_read r (done ++ [u]) ⟨⟨done ++ [u], s.f.kinds, s.f.since, s.f.till, s.f.word⟩, s.h0, s.h1, s.h2⟩ rfl ha.2 (risesB_tail hr) (fun a h x hxr => by
      rcases List.mem_append.1 h with h | h
      · exact hx a h x (List.mem_cons_of_mem _ hxr)
      · rw [List.mem_singleton] at h; rw [h]; exact risesB_head u r hr x hxr) (by simp; omega)]
    simp
theorem kind_word (k : Int) (h : kindB k = true) : kindP (kindN k) = some k := by
  unfold kindB at h
  simp only [Bool.and_eq_true, decide_eq_true_eq] at h
  have e : k = 1 ∨ k = 2 ∨ k = 3 ∨ k = 4 ∨ k = 5 ∨ k = 6 := by omega
  rcases e with rfl | rfl | rfl | rfl | rfl | rfl <;> decide
theorem kinds_read : ∀ (ks done : List Int) (s : PS), s.f.kinds = done → ks.all kindB = true → risesI ks = true → (∀ a ∈ done, ∀ x ∈ ks, a < x) → wordsP s (ks.map kindF) = .ok ⟨⟨s.f.units, done ++ ks, s.f.since, s.f.till, s.f.word⟩, s.h0, s.h1, s.h2⟩
  | [], done, s, hd, _, _, _ => by
    rw [List.map_nil, wordsP, List.append_nil, ← hd]
  | k :: r, done, s, hd, ha, hr, hx => by
    rw [List.all_cons, Bool.and_eq_true] at ha
    have e : wordP s (kindF k) = .ok ⟨⟨s.f.units, done ++ [k], s.f.since, s.f.till, s.f.word⟩, s.h0, s.h1, s.h2⟩ := by
      unfold kindF
      rw [wordP_hit s _ _ (by decide), stepP, if_neg (by decide), if_neg (by decide), if_pos rfl, stepK, kind_word k ha.1]
      simp only
      rw [hd, putI_last done k (fun a h => hx a h k (List.mem_cons_self ..))]
    rw [List.map_cons, wordsP, e]
    show wordsP _ _ = _
    rw [kinds_read r (done ++ [k]) ⟨⟨s.f.units, done ++ [k], s.f.since, s.f.till, s.f.word⟩, s.h0, s.h1, s.h2⟩ rfl ha.2 (risesI_tail hr) (fun a h x hxr => by
      rcases List.mem_append.1 h with h | h
      · exact hx a h x (List.mem_cons_of_mem _ hxr)
      · rw [List.mem_singleton] at h; rw [h]; exact risesI_head k r hr x hxr)]
    simp
theorem time_word (n : Int) (h : timeB n = true) : timeP (decI n) = some n := by
  have h' := h
  unfold timeB at h'
  simp only [Bool.and_eq_true, decide_eq_true_eq] at h'
  have e : ((n.toNat : Nat) : Int) = n := by omega
  rw [timeP, dec_some n h'.1 (by omega)]
  simp only [e]
  rw [if_pos h]
theorem since_read (n : Int) (s : PS) (h : timeB n = true) (h0 : s.h0 = false) (hs : s.f.since = 0) : ∃ b, wordsP s (sinceF n) = .ok ⟨⟨s.f.units, s.f.kinds, n, s.f.till, s.f.word⟩, b, s.h1, s.h2⟩ := by
  unfold sinceF
  split
  · rename_i hn
    exact ⟨s.h0, by rw [hn, wordsP, ← hs]⟩
  · refine ⟨true, ?_⟩
    rw [wordsP, wordP_hit s _ _ (by decide), stepP, if_neg (by decide), if_neg (by decide), if_neg (by decide), if_pos rfl, stepS, h0, if_neg (by decide), time_word n h]
    rfl
theorem till_read (n : Int) (s : PS) (h : timeB n = true) (h0 : s.h1 = false) (hs : s.f.till = 6311433599) : ∃ b, wordsP s (tillF n) = .ok ⟨⟨s.f.units, s.f.kinds, s.f.since, n, s.f.word⟩, s.h0, b, s.h2⟩ := by
  unfold tillF
  split
  · rename_i hn
    exact ⟨s.h1, by rw [hn, wordsP, ← hs]⟩
  · refine ⟨true, ?_⟩
    rw [wordsP, wordP_hit s _ _ (by decide), stepP, if_neg (by decide), if_neg (by decide), if_neg (by decide), if_neg (by decide), if_pos rfl, stepT, h0, if_neg (by decide), time_word n h]
    rfl
theorem word_read (w : ByteArray) (s : PS) (h : wordB w = true) (h0 : s.h2 = false) (hs : s.f.word = ⟨#[]⟩) : ∃ b, wordsP s (wordF w) = .ok ⟨⟨s.f.units, s.f.kinds, s.f.since, s.f.till, w⟩, s.h0, s.h1, b⟩ := by
  unfold wordF
  split
  · rename_i hn
    exact ⟨s.h2, by rw [empty_of w hn, wordsP, ← hs]⟩
  · rename_i hn
    refine ⟨true, ?_⟩
    have hne : w.data.toList ≠ [] := fun e => hn (by rw [bytes_list, e]; rfl)
    rw [wordsP, wordP_hit s _ _ (by decide), stepP, if_neg (by decide), if_neg (by decide), if_neg (by decide), if_neg (by decide), if_neg (by decide), if_pos rfl, stepW, h0, if_neg (by decide), toB_of, if_neg (by
      rintro (e | e)
      · exact hne e
      · rw [h] at e; cases e)]
    rfl
theorem zero_app (a b : List UInt8) (ha : hasZero a = false) (hb : hasZero b = false) : hasZero (a ++ b) = false := by
  unfold hasZero at *
  rw [List.any_append, ha, hb]; rfl
theorem zero_not (l : List UInt8) (h : ∀ c ∈ l, c ≠ 0) : hasZero l = false := by
  unfold hasZero
  exact List.any_eq_false.2 fun c hc => by simpa using h c hc
theorem name_zero (l : List UInt8) (h : allName l = true) : ∀ c ∈ l, c ≠ 0 := by
  intro c hc e
  have := List.all_eq_true.1 h c hc
  rw [e] at this
  exact absurd this (by decide)
theorem clean_zero (l : List UInt8) (h : cleanL l = true) : ∀ c ∈ l, c ≠ 0 := by
  intro c hc e
  have := List.all_eq_true.1 h c hc
  rw [e] at this
  exact absurd this (by decide)
theorem dec_zero (n : Int) : ∀ c ∈ decI n, c ≠ 0 := by
  intro c hc e
  have := (dec_digits n.toNat).1 c hc
  rw [e] at this
  exact absurd this (by decide)
end Sp

end Go.Proofs.YtijfeeiplljnjaaGreatDoor
