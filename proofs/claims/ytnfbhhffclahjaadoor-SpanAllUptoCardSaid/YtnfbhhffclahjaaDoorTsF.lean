/-
  Words parted by blanks: what strings.FieldsFunc gives at a predicate on bytes below 128 is what a pass over the bytes gives. No program in sight.
-/
import Derived.Test.YtnfbhhffclahjaaDoorTsP
import Derived.Lib.FieldsP
namespace Go.Proofs.YtnfbhhffclahjaaDoor
namespace Sp

/-- the predicate on runes -/
def blankR (x : Nat) : Bool := decide (x < 128) && decide ((x : Int) = 32)

theorem get_bang (s : ByteArray) (i : Nat) (h : i < s.size) : s.get! i = s[i] := by
  obtain ⟨bs⟩ := s
  have h2 : i < bs.size := h
  show bs[i]! = bs[i]
  exact getElem!_pos bs i h2

theorem decode_low (s : ByteArray) (i : Nat) (h : i < s.size) (hb : s[i].toNat < 128) : Utf8.decode s i = (s[i].toNat, 1) := by
  unfold Utf8.decode
  simp only [Nat.add_zero]
  have e := get_bang s i h
  simp only [e]
  rw [if_pos (by simpa using hb)]

theorem cont_high (s : ByteArray) (i k : Nat) (h : (decide (i + k < s.size) && (s.get! (i + k)).toNat / 64 == 2) = true) : i + k < s.size ∧ ∀ h2 : i + k < s.size, 128 ≤ (s[i + k]'h2).toNat := by
  simp only [Bool.and_eq_true, decide_eq_true_eq, beq_iff_eq] at h
  refine ⟨h.1, fun h2 => ?_⟩
  have := h.2
  rw [get_bang s _ h2] at this
  omega

theorem decode_high (s : ByteArray) (i : Nat) (h : i < s.size) (hb : ¬ s[i].toNat < 128) :
    128 ≤ (Utf8.decode s i).1 ∧ 1 ≤ (Utf8.decode s i).2 ∧ i + (Utf8.decode s i).2 ≤ s.size ∧ ∀ k, k < (Utf8.decode s i).2 → ∀ h2 : i + k < s.size, 128 ≤ (s[i + k]'h2).toNat := by
  have h0 : ∀ k, k < 1 → ∀ h2 : i + k < s.size, 128 ≤ (s[i + k]'h2).toNat := by
    intro k hk h2
    obtain rfl : k = 0 := by omega
    simp only [Nat.add_zero]
    omega
  have he : (128 ≤ (Utf8.runeError, 1).1 ∧ 1 ≤ (Utf8.runeError, 1).2 ∧ i + (Utf8.runeError, 1).2 ≤ s.size ∧ ∀ k, k < (Utf8.runeError, 1).2 → ∀ h2 : i + k < s.size, 128 ≤ (s[i + k]'h2).toNat) :=
    ⟨by decide, by decide, by show i + 1 ≤ _; omega, h0⟩
  unfold Utf8.decode
  simp only [Nat.add_zero]
  have e := get_bang s i h
  simp only [e]
  rw [if_neg (by simpa using hb)]
  split
  · rename_i hc
    simp only [Bool.and_eq_true] at hc
    obtain ⟨q1, g1⟩ := cont_high s i 1 (by simpa using hc.2)
    split
    · rename_i hv
      refine ⟨by simpa using hv, by simp, by simp; omega, ?_⟩
      intro k hk h2
      simp only at hk
      match k with
      | 0 => exact h0 0 (by omega) h2
      | 1 => exact g1 h2
    · exact he
  split
  · rename_i hc
    simp only [Bool.and_eq_true] at hc
    obtain ⟨q1, g1⟩ := cont_high s i 1 (by simpa using hc.1.2)
    obtain ⟨q2, g2⟩ := cont_high s i 2 (by simpa using hc.2)
    split
    · rename_i hv
      simp only [Bool.and_eq_true, decide_eq_true_eq] at hv
      refine ⟨by simp only; omega, by simp, by simp; omega, ?_⟩
      intro k hk h2
      simp only at hk
      match k with
      | 0 => exact h0 0 (by omega) h2
      | 1 => exact g1 h2
      | 2 => exact g2 h2
    · exact he
  split
  · rename_i hc
    simp only [Bool.and_eq_true] at hc
    obtain ⟨q1, g1⟩ := cont_high s i 1 (by simpa using hc.1.1.2)
    obtain ⟨q2, g2⟩ := cont_high s i 2 (by simpa using hc.1.2)
    obtain ⟨q3, g3⟩ := cont_high s i 3 (by simpa using hc.2)
    split
    · rename_i hv
      simp only [Bool.and_eq_true, decide_eq_true_eq] at hv
      refine ⟨by simp only; omega, by simp, by simp; omega, ?_⟩
      intro k hk h2
      simp only at hk
      match k with
      | 0 => exact h0 0 (by omega) h2
      | 1 => exact g1 h2
      | 2 => exact g2 h2
      | 3 => exact g3 h2
    · exact he
  exact he

theorem blank_low (c : UInt8) (h : c.toNat < 128) : blankR c.toNat = blank c := by
  unfold blankR blank
  rw [show decide (c.toNat < 128) = true from by simpa using h, Bool.true_and]
  rfl
theorem blank_high (c : UInt8) (h : 128 ≤ c.toNat) : blank c = false := by
  unfold blank
  simp; omega

/-- the word that is open -/
def openW (s : ByteArray) (pos : Nat) : Option Nat → List UInt8
  | some a => (s.extract a pos).data.toList
  | none => []
def pieces (s : ByteArray) (acc : List (Nat × Nat)) : List (List UInt8) := acc.map fun x => (s.extract x.1 x.2).data.toList

theorem ext_more (s : ByteArray) (a pos n : Nat) (h : a ≤ pos) (_ : pos + n ≤ s.size) : (s.extract a (pos + n)).data.toList = (s.extract a pos).data.toList ++ (s.data.toList.drop pos).take n := by
  simp only [Lib.extract_data]
  rw [show pos + n - a = (pos - a) + n from by omega, List.take_add, List.drop_drop, show a + (pos - a) = pos from by omega]

theorem spans_eq (s : ByteArray) : ∀ (f pos : Nat) (st : Option Nat) (acc : List (Nat × Nat)), s.size - pos ≤ f → pos ≤ s.size → (∀ a, st = some a → a < pos) →
    pieces s (Lib.closeSpans s (Lib.spansFromP blankR s f pos st acc)) = pieces s acc ++ blanksTo blank (openW s pos st) (s.data.toList.drop pos) := by
  intro f
  induction f with
  | zero =>
    intro pos st acc hf hp hst
    obtain rfl : pos = s.size := by omega
    rw [Lib.spansFromP, List.drop_eq_nil_of_le (by simp)]
    cases st with
    | none => simp [Lib.closeSpans, blanksTo, openW]
    | some a =>
      have ha := hst a rfl
      have hne : (s.extract a s.size).data.toList ≠ [] := by
        intro h
        have := congrArg List.length h
        simp at this; omega
      simp only [Lib.closeSpans, blanksTo, openW]
      simp [pieces]; omega
  | succ f ih =>
    intro pos st acc hf hp hst
    by_cases hlt : pos < s.size
    · unfold Lib.spansFromP
      rw [if_pos hlt]
      have hd : s.data.toList.drop pos = s[pos] :: s.data.toList.drop (pos + 1) := by
        rw [List.drop_eq_getElem_cons (by simpa using hlt)]; simp [ByteArray.getElem_eq_getElem_data]
      by_cases hb : s[pos].toNat < 128
      · rw [decode_low s pos hlt hb]
        simp only [blank_low _ hb]
        cases hbl : blank s[pos] with
        | true =>
          rw [if_pos rfl, hd]
          cases st with
          | none =>
            simp only
            rw [ih (pos + 1) none acc (by omega) (by omega) (by simp)]
            simp [openW, blanksTo, hbl]
          | some a =>
            have ha := hst a rfl
            have hne : (s.extract a pos).data.toList ≠ [] := by
              intro h
              have := congrArg List.length h
              simp at this; omega
            simp only
            rw [ih (pos + 1) none _ (by omega) (by omega) (by simp)]
            simp only [openW]
            rw [blanksTo, if_pos hbl, if_neg hne]
            simp [pieces]
        | false =>
          rw [if_neg (by simp)]
          have hx : (s.data.toList.drop pos).take 1 = [s[pos]] := by rw [hd]; rfl
          cases st with
          | none =>
            simp only
            rw [ih (pos + 1) (some pos) acc (by omega) (by omega) (by intro a h; cases h; omega)]
            simp only [openW]
            rw [ext_more s pos pos 1 (by omega) (by omega), hx, hd, blanksTo, if_neg (by rw [hbl]; simp)]
            simp
          | some a =>
            have ha := hst a rfl
            simp only
            rw [ih (pos + 1) (some a) acc (by omega) (by omega) (by intro a h; cases h; omega)]
            simp only [openW]
            rw [ext_more s a pos 1 (by omega) (by omega), hx, hd, blanksTo, if_neg (by rw [hbl]; simp)]
      · obtain ⟨d1, d2, d3, d4⟩ := decode_high s pos hlt hb
        generalize Utf8.decode s pos = dd at d1 d2 d3 d4 ⊢
        obtain ⟨r, n⟩ := dd
        simp only at d1 d2 d3 d4 ⊢
        have hr : blankR r = false := by unfold blankR; simp; omega
        rw [hr, if_neg (by simp)]
        have hrun : s.data.toList.drop pos = (s.data.toList.drop pos).take n ++ s.data.toList.drop (pos + n) := by
          rw [← List.drop_drop, List.take_append_drop]
        have hall : ∀ c ∈ (s.data.toList.drop pos).take n, blank c = false := by
          intro c hc
          obtain ⟨k, hk, rfl⟩ := List.mem_iff_getElem.1 hc
          have hk2 : k < n := by simp at hk; omega
          have := d4 k hk2 (by omega)
          refine blank_high _ ?_
          simp [ByteArray.getElem_eq_getElem_data] at this ⊢
          exact this
        cases st with
        | none =>
          simp only
          rw [ih (pos + n) (some pos) acc (by omega) (by omega) (by intro a h; cases h; omega)]
          simp only [openW]
          rw [ext_more s pos pos n (by omega) d3]
          conv => rhs; rw [hrun, blanksTo_run blank _ _ _ hall]
          simp
        | some a =>
          have ha := hst a rfl
          simp only
          rw [ih (pos + n) (some a) acc (by omega) (by omega) (by intro a h; cases h; omega)]
          simp only [openW]
          rw [ext_more s a pos n (by omega) d3]
          conv => rhs; rw [hrun, blanksTo_run blank _ _ _ hall]
    · rw [Lib.spansFromP_end _ _ _ _ _ _ hlt]
      obtain rfl : pos = s.size := by omega
      rw [List.drop_eq_nil_of_le (by simp)]
      cases st with
      | none => simp [Lib.closeSpans, blanksTo, openW]
      | some a =>
        have ha := hst a rfl
        have hne : (s.extract a s.size).data.toList ≠ [] := by
          intro h
          have := congrArg List.length h
          simp at this; omega
        simp only [Lib.closeSpans, blanksTo, openW]
        simp [pieces]; omega

/-- a text's words: the library's are those of a pass over the bytes -/
theorem fields_eq (s : ByteArray) : (Lib.goFieldsP blankR s).map (fun b => b.data.toList) = partsOf s.data.toList := by
  have h := spans_eq s s.size 0 none [] (by omega) (by omega) (by simp)
  simp only [pieces, openW, List.drop_zero, List.map_nil, List.nil_append] at h
  unfold Lib.goFieldsP Lib.spansOfP partsOf
  rw [List.map_map]
  exact h
end Sp

end Go.Proofs.YtnfbhhffclahjaaDoor
