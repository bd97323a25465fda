/-
  What rows and cursors say as texts: plain laws, no program in sight.
-/
import Derived.Test.YtijfeeiplljnjaaGreatDoorRa
import Derived.Test.YtijfeeiplljnjaaGreatDoorTsP
import Derived.Lib.SplitLaws
import Derived.Lib.AtoiAll
import Derived.Lib.ItoaNum
namespace Go.Proofs.YtijfeeiplljnjaaGreatDoor
open Go.RowKit
namespace Sp

theorem suffix_bytes (k : Nat) (h1 : 1 ≤ k) (h2 : k ≤ 4) : ∀ c ∈ suffix (k : Int), c ≠ 32 ∧ c ≠ 44 := by
  obtain rfl | rfl | rfl | rfl : k = 1 ∨ k = 2 ∨ k = 3 ∨ k = 4 := by omega
  all_goals decide
theorem name_bytes (l : List UInt8) (h : allName l = true) : ∀ c ∈ l, c ≠ 32 ∧ c ≠ 44 := by
  intro c hc
  have := List.all_eq_true.1 h c hc
  constructor
  · rintro rfl; revert this; decide
  · rintro rfl; revert this; decide
theorem may_bytes (l : List UInt8) (h : mayL l = true) : ∀ c ∈ l, c ≠ 32 ∧ c ≠ 44 := by
  obtain ⟨k, g, h1, h2, hl, _, _, _, ha, _⟩ := kindL_some l (by simpa [mayL] using h)
  have hs := suffix_bytes k h1 h2
  have hg := name_bytes _ ha
  have hh : ∀ c ∈ g, c ≠ 32 ∧ c ≠ 44 := by
    rcases cutAt_at g with ⟨_, e, _⟩ | ⟨_, e, _⟩
    · intro c hc
      rw [e] at hc
      rcases List.mem_append.1 hc with hc | hc
      · exact hg c (List.mem_append.2 (.inl hc))
      · rcases List.mem_cons.1 hc with rfl | hc
        · decide
        · exact hg c (List.mem_append.2 (.inr hc))
    · intro c hc
      rw [e] at hc
      exact hg c (List.mem_append.2 (.inl hc))
  intro c hc
  rw [hl] at hc
  rcases List.mem_append.1 hc with hc | hc
  · exact hh c hc
  · rcases List.mem_cons.1 hc with rfl | hc
    · decide
    · exact hs c hc

/-- a text parted at the first of a byte -/
def cutC (c : UInt8) : List UInt8 → List UInt8 × List UInt8 × Bool
  | [] => ([], [], false)
  | b :: r => if b = c then ([], r, true) else (b :: (cutC c r).1, (cutC c r).2.1, (cutC c r).2.2)
theorem cutC_hit (c : UInt8) : ∀ (a r : List UInt8), (∀ x ∈ a, x ≠ c) → cutC c (a ++ c :: r) = (a, r, true)
  | [], r, _ => by simp [cutC]
  | b :: a, r, h => by simp [cutC, h b (by simp), cutC_hit c a r (fun x hx => h x (by simp [hx]))]
theorem index_hit (c : UInt8) : ∀ (a r : List UInt8), (∀ x ∈ a, x ≠ c) → Lib.index (a ++ c :: r) [c] = a.length
  | [], r, _ => by simp [Lib.index]
  | b :: a, r, h => by
    have hb : ¬ c = b := fun e => h b (by simp) e.symm
    have := index_hit c a r (fun x hx => h x (by simp [hx]))
    simp [Lib.index, hb, this]
theorem splitK_hit (c : UInt8) (k : Nat) (a r : List UInt8) (h : ∀ x ∈ a, x ≠ c) : Lib.splitK [c] 0 (k + 1) (a ++ c :: r) = a :: Lib.splitK [c] 0 k r := by
  rw [Lib.splitK, index_hit c a r h, if_neg (by simp)]
  have e : (a ++ c :: r).drop (a.length + 1) = r := by rw [List.drop_append]; simp
  simp [e]

/-- what 1 to 10 digits without noughts ahead come to -/
def numS (l : List UInt8) : Option Nat := if Lib.decDigits (decV l) = l ∧ l.length ≤ 10 then some (decV l) else none
theorem num_dec (n : Nat) (h : n < 10000000000) : numS (Lib.decDigits n) = some n := by
  have := (dec_digits n).2.1
  rw [numS, this, if_pos ⟨rfl, dec_len n h⟩]
theorem num_some (l : List UInt8) (n : Nat) (h : numS l = some n) : Lib.decDigits n = l ∧ l.length ≤ 10 ∧ n < 10000000000 := by
  unfold numS at h
  split at h
  · rename_i hh
    injection h with h
    subst h
    refine ⟨hh.1, hh.2, ?_⟩
    have hd : ∀ c ∈ l, digit c = true := by
      have := (dec_digits (decV l)).1
      rwa [hh.1] at this
    have h3 := decV_lt _ l (Nat.le_refl _) hd
    exact Nat.lt_of_lt_of_le h3 (Nat.pow_le_pow_right (by decide) hh.2)
  · cases h
theorem fold_ge : ∀ (l : List UInt8) (a : Nat), a ≤ l.foldl (fun n c => 10 * n + (c.toNat - 48)) a
  | [], a => Nat.le_refl a
  | c :: l, a => Nat.le_trans (show a ≤ 10 * a + (c.toNat - 48) by omega) (fold_ge l _)
theorem uint_fold : ∀ (l : List UInt8) (a : Nat), (∀ c ∈ l, digit c = true) → l.foldl (fun n c => 10 * n + (c.toNat - 48)) a < 1844674407370955162 → Lib.parseUint10 a l = .ok (l.foldl (fun n c => 10 * n + (c.toNat - 48)) a)
  | [], a, _, _ => rfl
  | c :: l, a, h, hb => by
    have hc := h c (by simp)
    simp [digit] at hc
    have h2 := fold_ge l (10 * a + (c.toNat - 48))
    rw [List.foldl_cons] at hb ⊢
    rw [Lib.parseUint10, if_pos hc, if_neg (by omega), if_neg (by omega), show a * 10 + (c.toNat - 48) = 10 * a + (c.toNat - 48) by omega]
    exact uint_fold l _ (fun x hx => h x (by simp [hx])) hb
theorem atoi_dec (n : Nat) (h : n < 10000000000) : Lib.atoiAll (Lib.decDigits n) = .ok (n : Int) := by
  obtain ⟨h1, h2, h3⟩ := dec_digits n
  have hu := uint_fold (Lib.decDigits n) 0 h1 (by have : decV (Lib.decDigits n) < 1844674407370955162 := by omega
                                                  exact this)
  have e : Lib.parseUint10 0 (Lib.decDigits n) = .ok n := by rw [hu]; exact congrArg _ h2
  generalize Lib.decDigits n = l at *
  cases l with
  | nil => exact absurd rfl h3
  | cons c r =>
    have hc := h1 c (by simp)
    simp [digit] at hc
    have hm : Lib.parseMag (c :: r) = .ok n := by rw [Lib.parseMag, if_neg (by simp)]; exact e
    unfold Lib.atoiAll
    simp only
    rw [if_neg (by omega), hm]
    simp only
    rw [if_neg (by omega), if_neg (by omega), if_neg (by omega)]
/-- the reference's number -/
def numR (most : Nat) (l : List UInt8) : Int := if l.length ≤ most then (match numS l with | some n => (n : Int) | none => -1) else -1

def decI (n : Int) : List UInt8 := Lib.decDigits n.toNat
theorem decI_bytes (n : Int) : ∀ c ∈ decI n, c ≠ 32 ∧ c ≠ 44 := by
  intro c hc
  have := (dec_digits n.toNat).1 c hc
  constructor
  · rintro rfl; revert this; decide
  · rintro rfl; revert this; decide
/-- a row's text; a cursor -/
def textL (r : RowD) : List UInt8 := decI r.time ++ 32 :: ((unitW r.unit).data.toList ++ 32 :: (decI r.n ++ 32 :: (decI r.kind ++ 32 :: r.text.data.toList)))
def cursL (r : RowD) : List UInt8 := decI r.time ++ 44 :: ((unitW r.unit).data.toList ++ 44 :: decI r.n)
def printR (r : RowD) : List UInt8 := if mayRowB r then textL r else []
def cursorR (r : RowD) : List UInt8 := if mayRowB r then cursL r else []

theorem bytes_list (u : ByteArray) : u.toList = u.data.toList := ByteArray.toList_eq u
theorem empty_of (u : ByteArray) (h : u.toList.isEmpty = true) : u = ⟨#[]⟩ := by
  apply WideShapes.bytes_inj
  rw [bytes_list] at h
  simpa using h
theorem mayRow_parts (r : RowD) (h : mayRowB r = true) : 0 ≤ r.time ∧ r.time < 6311433600 ∧ (r.unit = ⟨#[]⟩ ∨ (¬ r.unit.toList.isEmpty = true ∧ mayL r.unit.data.toList = true)) ∧ 1 ≤ r.n ∧ r.n ≤ 1000000 ∧ 1 ≤ r.kind ∧ r.kind ≤ 6 ∧ cleanL r.text.data.toList = true ∧ r.text.size ≤ 200 := by
  unfold mayRowB timeB at h
  rw [Bool.and_eq_true, Bool.and_eq_true, Bool.and_eq_true, Bool.and_eq_true, Bool.and_eq_true, Bool.and_eq_true, Bool.and_eq_true, Bool.and_eq_true, Bool.or_eq_true] at h
  obtain ⟨⟨h1, h2⟩, h3, h4, h5, h6, h7, h8, h9⟩ := h
  refine ⟨of_decide_eq_true h1, of_decide_eq_true h2, ?_, of_decide_eq_true h4, of_decide_eq_true h5, of_decide_eq_true h6, of_decide_eq_true h7, h8, of_decide_eq_true h9⟩
  by_cases he : r.unit.toList.isEmpty = true
  · exact .inl (empty_of _ he)
  · exact .inr ⟨he, h3.resolve_left he⟩
theorem unit_back (u : ByteArray) (h : u = ⟨#[]⟩ ∨ (¬ u.toList.isEmpty = true ∧ mayL u.data.toList = true)) : backW (unitW u) = u ∧ ∀ c ∈ (unitW u).data.toList, c ≠ 32 ∧ c ≠ 44 := by
  rcases h with rfl | ⟨h1, h2⟩
  · have e : unitW ⟨#[]⟩ = ⟨#[45]⟩ := by rw [unitW, if_pos (by rw [bytes_list]; rfl)]
    rw [e]
    constructor
    · rw [backW, if_pos (by rw [bytes_list]; rfl)]
    · simp
  · have e : unitW u = u := by rw [unitW, if_neg h1]
    rw [e]
    refine ⟨?_, may_bytes _ h2⟩
    rw [backW, if_neg]
    intro he
    have : u.data.toList = [45] := by rw [← bytes_list]; simpa using he
    rw [this] at h2
    revert h2
    decide
theorem text_split (r : RowD) (h : mayRowB r = true) : Lib.splitK [32] 0 4 (textL r) = [decI r.time, (unitW r.unit).data.toList, decI r.n, decI r.kind, r.text.data.toList] := by
  have hu := (unit_back r.unit (mayRow_parts r h).2.2.1).2
  rw [textL, splitK_hit _ _ _ _ (fun x hx => (decI_bytes _ x hx).1), splitK_hit _ _ _ _ (fun x hx => (hu x hx).1), splitK_hit _ _ _ _ (fun x hx => (decI_bytes _ x hx).1), splitK_hit _ _ _ _ (fun x hx => (decI_bytes _ x hx).1)]
  rfl
theorem dec_some (n : Int) (h0 : 0 ≤ n) (h1 : n < 10000000000) : numS (decI n) = some n.toNat := num_dec _ (by omega)
theorem dec_inj (m n : Int) (h0 : 0 ≤ m) (h1 : 0 ≤ n) (h : decI m = decI n) : m = n := by
  have h2 := (dec_digits m.toNat).2.1
  have h3 := (dec_digits n.toNat).2.1
  unfold decI at h
  rw [h] at h2
  omega
theorem row_ext (r q : RowD) (h1 : r.time = q.time) (h2 : r.unit = q.unit) (h3 : r.n = q.n) (h4 : r.kind = q.kind) (h5 : r.text = q.text) : r = q := by
  cases r; cases q; simp_all
theorem text_inj (r q : RowD) (hr : mayRowB r = true) (hq : mayRowB q = true) (h : textL r = textL q) : r = q := by
  have h1 := text_split r hr
  rw [h, text_split q hq] at h1
  simp only [List.cons.injEq, and_true] at h1
  obtain ⟨a, b, c, d, e⟩ := h1
  have pr := mayRow_parts r hr
  have pq := mayRow_parts q hq
  refine row_ext _ _ (dec_inj _ _ pr.1 pq.1 a.symm) ?_ (dec_inj _ _ (by omega) (by omega) c.symm) (dec_inj _ _ (by omega) (by omega) d.symm) (WideShapes.bytes_inj e.symm)
  rw [← (unit_back r.unit pr.2.2.1).1, ← (unit_back q.unit pq.2.2.1).1, WideShapes.bytes_inj b]

open Classical in
/-- the row of a text, if there is one -/
noncomputable def parseP (s : ByteArray) : Option RowD := if h : ∃ r, mayRowB r = true ∧ textL r = s.data.toList then some h.choose else none
theorem parse_spec (s : ByteArray) (r : RowD) (h : parseP s = some r) : mayRowB r = true ∧ textL r = s.data.toList := by
  unfold parseP at h
  split at h
  · rename_i hx
    injection h with h
    subst h
    exact hx.choose_spec
  · cases h
theorem parse_some (s : ByteArray) (r : RowD) (h1 : mayRowB r = true) (h2 : textL r = s.data.toList) : parseP s = some r := by
  have hx : ∃ r, mayRowB r = true ∧ textL r = s.data.toList := ⟨r, h1, h2⟩
  unfold parseP
  rw [dif_pos hx]
  have := hx.choose_spec
  exact congrArg _ (text_inj _ _ this.1 h1 (this.2.trans h2.symm))
theorem parse_none (s : ByteArray) (h : ∀ r, mayRowB r = true → textL r = s.data.toList → False) : parseP s = none := by
  unfold parseP
  rw [dif_neg]
  rintro ⟨r, h1, h2⟩
  exact h r h1 h2

theorem text_long (r : RowD) : 4 ≤ (textL r).length := by simp [textL]; omega
theorem pieces_of (s : ByteArray) (r : RowD) (h1 : mayRowB r = true) (h2 : textL r = s.data.toList) :
    (Lib.splitB ⟨#[32]⟩ 0 (min 5 (s.size + 1) - 1) s).map (·.data.toList) = [decI r.time, (unitW r.unit).data.toList, decI r.n, decI r.kind, r.text.data.toList] := by
  have hz : s.data.toList.length = s.size := by simp
  have h4 := text_long r
  rw [h2, hz] at h4
  rw [Lib.splitB_data, ← h2, show min 5 (s.size + 1) - 1 = 4 by omega]
  exact text_split r h1
theorem parse_short (s : ByteArray) (h : ¬ (Lib.splitB ⟨#[32]⟩ 0 (min 5 (s.size + 1) - 1) s).length = 5) : parseP s = none := by
  refine parse_none _ fun r h1 h2 => h ?_
  have := congrArg List.length (pieces_of s r h1 h2)
  simpa using this
theorem parse_number (s A B C D T : ByteArray) (hL : Lib.splitB ⟨#[32]⟩ 0 (min 5 (s.size + 1) - 1) s = [A, B, C, D, T]) (h : numS A.data.toList = none ∨ numS C.data.toList = none ∨ numS D.data.toList = none) : parseP s = none := by
  refine parse_none _ fun r h1 h2 => ?_
  have hp := pieces_of s r h1 h2
  rw [hL] at hp
  simp only [List.map_cons, List.map_nil, List.cons.injEq, and_true] at hp
  obtain ⟨a, b, c, d, e⟩ := hp
  have p := mayRow_parts r h1
  rw [a, c, d, dec_some _ p.1 (by omega), dec_some _ (by omega) (by omega), dec_some _ (by omega) (by omega)] at h
  rcases h with h | h | h <;> cases h
theorem parse_numbers (s A B C D T : ByteArray) (hL : Lib.splitB ⟨#[32]⟩ 0 (min 5 (s.size + 1) - 1) s = [A, B, C, D, T]) (x y z : Nat) (h1 : numS A.data.toList = some x) (h2 : numS C.data.toList = some y) (h3 : numS D.data.toList = some z) :
    (printR (⟨(x : Int), backW B, (y : Int), (z : Int), T⟩ : RowD) = s.data.toList → parseP s = some ⟨(x : Int), backW B, (y : Int), (z : Int), T⟩) ∧ (printR (⟨(x : Int), backW B, (y : Int), (z : Int), T⟩ : RowD) ≠ s.data.toList → parseP s = none) := by
  constructor
  · intro h
    unfold printR at h
    split at h
    · rename_i hm
      exact parse_some _ _ hm h
    · have hz : s.size = 0 := by
        have : s.data.toList.length = s.size := by simp
        rw [← h] at this
        exact this.symm
      rw [hz] at hL
      simp [Lib.splitB] at hL
  · intro h
    refine parse_none _ fun r g1 g2 => h ?_
    have hp := pieces_of s r g1 g2
    rw [hL] at hp
    simp only [List.map_cons, List.map_nil, List.cons.injEq, and_true] at hp
    obtain ⟨a, b, c, d, e⟩ := hp
    have p := mayRow_parts r g1
    rw [a, dec_some _ p.1 (by omega)] at h1
    rw [c, dec_some _ (by omega) (by omega)] at h2
    rw [d, dec_some _ (by omega) (by omega)] at h3
    have h1 := Option.some.inj h1
    have h2 := Option.some.inj h2
    have h3 := Option.some.inj h3
    have e1 : (⟨(x : Int), backW B, (y : Int), (z : Int), T⟩ : RowD) = r := by
      refine row_ext _ _ (by dsimp only; omega) ?_ (by dsimp only; omega) (by dsimp only; omega) (WideShapes.bytes_inj e)
      dsimp only
      rw [WideShapes.bytes_inj b]
      exact (unit_back r.unit p.2.2.1).1
    rw [e1, printR, if_pos g1, g2]

theorem curs_split (r : RowD) (h : mayRowB r = true) : Lib.splitK [44] 0 2 (cursL r) = [decI r.time, (unitW r.unit).data.toList, decI r.n] := by
  have hu := (unit_back r.unit (mayRow_parts r h).2.2.1).2
  rw [cursL, splitK_hit _ _ _ _ (fun x hx => (decI_bytes _ x hx).2), splitK_hit _ _ _ _ (fun x hx => (hu x hx).2)]
  rfl
theorem curs_count (r : RowD) (h : mayRowB r = true) : Lib.count (cursL r) [44] = 2 := by
  have hu := (unit_back r.unit (mayRow_parts r h).2.2.1).2
  have h1 : (decI r.time).count 44 = 0 := List.count_eq_zero.2 fun hm => (decI_bytes _ _ hm).2 rfl
  have h2 : ((unitW r.unit).data.toList).count 44 = 0 := List.count_eq_zero.2 fun hm => (hu _ hm).2 rfl
  have h3 : (decI r.n).count 44 = 0 := List.count_eq_zero.2 fun hm => (decI_bytes _ _ hm).2 rfl
  rw [Lib.count_one, cursL]
  simp only [List.count_append, List.count_cons, h1, h2, h3, beq_self_eq_true, if_true]
theorem curs_inj (r q : RowD) (hr : mayRowB r = true) (hq : mayRowB q = true) (h : cursL r = cursL q) : r.time = q.time ∧ r.unit = q.unit ∧ r.n = q.n := by
  have h1 := curs_split r hr
  rw [h, curs_split q hq] at h1
  simp only [List.cons.injEq, and_true] at h1
  obtain ⟨a, b, c⟩ := h1
  have pr := mayRow_parts r hr
  have pq := mayRow_parts q hq
  refine ⟨dec_inj _ _ pr.1 pq.1 a.symm, ?_, dec_inj _ _ (by omega) (by omega) c.symm⟩
  rw [← (unit_back r.unit pr.2.2.1).1, ← (unit_back q.unit pq.2.2.1).1, WideShapes.bytes_inj b]

open Classical in
/-- the row of a cursor, if there is one -/
noncomputable def placeP (s : ByteArray) : Option RowD := if h : ∃ r, (r.kind = 1 ∧ r.text = ⟨#[]⟩) ∧ mayRowB r = true ∧ cursL r = s.data.toList then some h.choose else none
theorem place_spec (s : ByteArray) (r : RowD) (h : placeP s = some r) : (r.kind = 1 ∧ r.text = ⟨#[]⟩) ∧ mayRowB r = true ∧ cursL r = s.data.toList := by
  unfold placeP at h
  split at h
  · rename_i hx
    injection h with h
    subst h
    exact hx.choose_spec
  · cases h
theorem place_some (s : ByteArray) (r : RowD) (h0 : r.kind = 1 ∧ r.text = ⟨#[]⟩) (h1 : mayRowB r = true) (h2 : cursL r = s.data.toList) : placeP s = some r := by
  have hx : ∃ r, (r.kind = 1 ∧ r.text = ⟨#[]⟩) ∧ mayRowB r = true ∧ cursL r = s.data.toList := ⟨r, h0, h1, h2⟩
  unfold placeP
  rw [dif_pos hx]
  have := hx.choose_spec
  obtain ⟨a, b, c⟩ := curs_inj _ r this.2.1 h1 (this.2.2.trans h2.symm)
  exact congrArg _ (row_ext _ _ a b c (this.1.1.trans h0.1.symm) (this.1.2.trans h0.2.symm))
theorem place_none (s : ByteArray) (h : ∀ r, r.kind = 1 → r.text = ⟨#[]⟩ → mayRowB r = true → cursL r = s.data.toList → False) : placeP s = none := by
  unfold placeP
  rw [dif_neg]
  rintro ⟨r, ⟨h1, h2⟩, h3, h4⟩
  exact h r h1 h2 h3 h4
/-- a row at a cursor's place -/
def atPlace (r : RowD) : RowD := ⟨r.time, r.unit, r.n, 1, ⟨#[]⟩⟩
theorem atPlace_may (r : RowD) (h : mayRowB r = true) : mayRowB (atPlace r) = true ∧ cursL (atPlace r) = cursL r := by
  refine ⟨?_, rfl⟩
  unfold mayRowB at h ⊢
  simp only [Bool.and_eq_true] at h ⊢
  exact ⟨h.1, h.2.1, h.2.2.1, h.2.2.2.1, rfl, rfl, rfl, rfl⟩
theorem cpieces_of (s : ByteArray) (r : RowD) (h1 : mayRowB r = true) (h2 : cursL r = s.data.toList) :
    Lib.countB s ⟨#[44]⟩ = 2 ∧ (Lib.splitB ⟨#[44]⟩ 0 2 s).map (·.data.toList) = [decI r.time, (unitW r.unit).data.toList, decI r.n] := by
  constructor
  · unfold Lib.countB
    rw [← h2]
    exact curs_count r h1
  · rw [Lib.splitB_data, ← h2]
    exact curs_split r h1
theorem place_short (s : ByteArray) (h : ¬ Lib.countB s ⟨#[44]⟩ + 1 = 3) : placeP s = none := by
  refine place_none _ fun r _ _ h1 h2 => h ?_
  rw [(cpieces_of s r h1 h2).1]
theorem place_number (s A B C : ByteArray) (hL : Lib.splitB ⟨#[44]⟩ 0 2 s = [A, B, C]) (h : numS A.data.toList = none ∨ numS C.data.toList = none) : placeP s = none := by
  refine place_none _ fun r _ _ h1 h2 => ?_
  have hp := (cpieces_of s r h1 h2).2
  rw [hL] at hp
  simp only [List.map_cons, List.map_nil, List.cons.injEq, and_true] at hp
  obtain ⟨a, b, c⟩ := hp
  have p := mayRow_parts r h1
  rw [a, c, dec_some _ p.1 (by omega), dec_some _ (by omega) (by omega)] at h
  rcases h with h | h <;> cases h
theorem place_numbers (s A B C : ByteArray) (hc : Lib.countB s ⟨#[44]⟩ = 2) (hL : Lib.splitB ⟨#[44]⟩ 0 2 s = [A, B, C]) (x y : Nat) (h1 : numS A.data.toList = some x) (h2 : numS C.data.toList = some y) :
    (cursorR (⟨(x : Int), backW B, (y : Int), 1, ⟨#[]⟩⟩ : RowD) = s.data.toList → placeP s = some ⟨(x : Int), backW B, (y : Int), 1, ⟨#[]⟩⟩) ∧ (cursorR (⟨(x : Int), backW B, (y : Int), 1, ⟨#[]⟩⟩ : RowD) ≠ s.data.toList → placeP s = none) := by
  constructor
  · intro h
    unfold cursorR at h
    split at h
    · rename_i hm
      exact place_some _ _ ⟨rfl, rfl⟩ hm h
    · unfold Lib.countB at hc
      rw [← h] at hc
      exact absurd hc (by decide)
  · intro h
    refine place_none _ fun r k1 k2 g1 g2 => h ?_
    have hp := (cpieces_of s r g1 g2).2
    rw [hL] at hp
    simp only [List.map_cons, List.map_nil, List.cons.injEq, and_true] at hp
    obtain ⟨a, b, c⟩ := hp
    have p := mayRow_parts r g1
    rw [a, dec_some _ p.1 (by omega)] at h1
    rw [c, dec_some _ (by omega) (by omega)] at h2
    have h1 := Option.some.inj h1
    have h2 := Option.some.inj h2
    have e1 : (⟨(x : Int), backW B, (y : Int), 1, ⟨#[]⟩⟩ : RowD) = r := by
      refine row_ext _ _ (by dsimp only; omega) ?_ (by dsimp only; omega) k1.symm k2.symm
      dsimp only
      rw [WideShapes.bytes_inj b]
      exact (unit_back r.unit p.2.2.1).1
    rw [e1, cursorR, if_pos g1, g2]

/-- the reference's parts of a text -/
def toB (l : List UInt8) : ByteArray := ⟨l.toArray⟩
theorem toB_list (l : List UInt8) : (toB l).data.toList = l := by simp [toB]
theorem toB_of (s : ByteArray) : toB s.data.toList = s := WideShapes.bytes_inj (toB_list _)
def rest (c : UInt8) (l : List UInt8) : List UInt8 := (cutC c l).2.1
def refRow (l : List UInt8) : RowD := ⟨numR 10 (cutC 32 l).1, backW (toB (cutC 32 (rest 32 l)).1), numR 7 (cutC 32 (rest 32 (rest 32 l))).1, numR 1 (cutC 32 (rest 32 (rest 32 (rest 32 l)))).1, toB (rest 32 (rest 32 (rest 32 (rest 32 l))))⟩
def refHas (l : List UInt8) : Bool := (cutC 32 l).2.2 && ((cutC 32 (rest 32 l)).2.2 && ((cutC 32 (rest 32 (rest 32 l))).2.2 && (cutC 32 (rest 32 (rest 32 (rest 32 l)))).2.2))
theorem dec_short (k : Nat) : ∀ n : Nat, n < 10 ^ (k + 1) → (Lib.decDigits n).length ≤ k + 1 := by
  induction k with
  | zero => intro n hn; rw [Lib.decDigits, dif_pos (by simpa using hn)]; simp
  | succ k ih =>
    intro n hn
    rw [Lib.decDigits]
    split
    · simp
    · have := ih (n / 10) (by rw [Nat.pow_succ] at hn; omega)
      simp; omega
theorem numR_dec (m : Nat) (n : Int) (h0 : 0 ≤ n) (h1 : n.toNat < 10 ^ (m + 1)) (h2 : n < 10000000000) : numR (m + 1) (decI n) = n := by
  rw [numR, if_pos (show (decI n).length ≤ m + 1 from dec_short m _ h1), dec_some n h0 h2]
  dsimp only
  omega
theorem ref_text (r : RowD) (h : mayRowB r = true) : refRow (textL r) = r ∧ refHas (textL r) = true := by
  have p := mayRow_parts r h
  obtain ⟨hb, hu⟩ := unit_back r.unit p.2.2.1
  have c1 := cutC_hit 32 (decI r.time) ((unitW r.unit).data.toList ++ 32 :: (decI r.n ++ 32 :: (decI r.kind ++ 32 :: r.text.data.toList))) (fun x hx => (decI_bytes _ x hx).1)
  have c2 := cutC_hit 32 (unitW r.unit).data.toList (decI r.n ++ 32 :: (decI r.kind ++ 32 :: r.text.data.toList)) (fun x hx => (hu x hx).1)
  have c3 := cutC_hit 32 (decI r.n) (decI r.kind ++ 32 :: r.text.data.toList) (fun x hx => (decI_bytes _ x hx).1)
  have c4 := cutC_hit 32 (decI r.kind) r.text.data.toList (fun x hx => (decI_bytes _ x hx).1)
  constructor
  · simp only [refRow, rest, textL, c1, c2, c3, c4, toB_of]
    refine row_ext _ _ (numR_dec 9 _ p.1 (by omega) (by omega)) hb (numR_dec 6 _ (by omega) (by omega) (by omega)) (numR_dec 0 _ (by omega) (by omega) (by omega)) rfl
  · simp only [refHas, rest, textL, c1, c2, c3, c4, Bool.and_self]
theorem ref_yes (s : ByteArray) (h1 : mayRowB (refRow s.data.toList) = true) (h2 : printR (refRow s.data.toList) = s.data.toList) : parseP s = some (refRow s.data.toList) := by
  rw [printR, if_pos h1] at h2
  exact parse_some _ _ h1 h2
theorem ref_no (s : ByteArray) (h : refHas s.data.toList = true → mayRowB (refRow s.data.toList) = true → printR (refRow s.data.toList) ≠ s.data.toList) : parseP s = none := by
  refine parse_none _ fun r g1 g2 => ?_
  obtain ⟨a, b⟩ := ref_text r g1
  rw [g2] at a b
  refine h b (by rw [a]; exact g1) ?_
  rw [a, printR, if_pos g1, g2]
/-- likewise a cursor's -/
def crefRow (l : List UInt8) : RowD := ⟨numR 10 (cutC 44 l).1, backW (toB (cutC 44 (rest 44 l)).1), numR 7 (rest 44 (rest 44 l)), 1, ⟨#[]⟩⟩
def crefHas (l : List UInt8) : Bool := (cutC 44 l).2.2 && (cutC 44 (rest 44 l)).2.2
theorem cref_text (r : RowD) (h : mayRowB r = true) (hk : r.kind = 1) (hx : r.text = ⟨#[]⟩) : crefRow (cursL r) = r ∧ crefHas (cursL r) = true := by
  have p := mayRow_parts r h
  obtain ⟨hb, hu⟩ := unit_back r.unit p.2.2.1
  have c1 := cutC_hit 44 (decI r.time) ((unitW r.unit).data.toList ++ 44 :: decI r.n) (fun x hx => (decI_bytes _ x hx).2)
  have c2 := cutC_hit 44 (unitW r.unit).data.toList (decI r.n) (fun x hx => (hu x hx).2)
  constructor
  · simp only [crefRow, rest, cursL, c1, c2, toB_of]
    refine row_ext _ _ (numR_dec 9 _ p.1 (by omega) (by omega)) hb (numR_dec 6 _ (by omega) (by omega) (by omega)) hk.symm hx.symm
  · simp only [crefHas, rest, cursL, c1, c2, Bool.and_self]
theorem cref_yes (s : ByteArray) (h1 : mayRowB (crefRow s.data.toList) = true) (h2 : cursorR (crefRow s.data.toList) = s.data.toList) : placeP s = some (crefRow s.data.toList) := by
  rw [cursorR, if_pos h1] at h2
  exact place_some _ _ ⟨rfl, rfl⟩ h1 h2
theorem cref_no (s : ByteArray) (h : crefHas s.data.toList = true → mayRowB (crefRow s.data.toList) = true → cursorR (crefRow s.data.toList) ≠ s.data.toList) : placeP s = none := by
  refine place_none _ fun r k1 k2 g1 g2 => ?_
  obtain ⟨a, b⟩ := cref_text r g1 k1 k2
  rw [g2] at a b
  refine h b (by rw [a]; exact g1) ?_
  rw [a, cursorR, if_pos g1, g2]
end Sp

end Go.Proofs.YtijfeeiplljnjaaGreatDoor
