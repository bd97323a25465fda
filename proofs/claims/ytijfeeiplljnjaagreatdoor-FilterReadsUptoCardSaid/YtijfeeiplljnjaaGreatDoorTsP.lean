/-
  Plain laws of a span's text: it is read as it was. No program in sight.
-/
import Derived.Test.YtijfeeiplljnjaaGreatDoorTsA
import Derived.Lib.ItoaMem
namespace Go.Proofs.YtijfeeiplljnjaaGreatDoor
namespace Sp

/-- one part of a span's text, if there is any -/
def putW (n : Nat) (u : List UInt8) : List (List UInt8) := if n = 0 then [] else [Lib.decDigits n ++ u]
def wordsN (n : Nat) : List (List UInt8) := putW (n / 86400) [100] ++ (putW (n % 86400 / 3600) [104] ++ (putW (n % 3600 / 60) [109, 105, 110] ++ putW (n % 60) [115]))
/-- some words as one text, parted by single blanks -/
def joinW : List (List UInt8) → List UInt8
  | [] => []
  | [w] => w
  | w :: r => w ++ 32 :: joinW r
/-- a span as a text -/
def printL (n : Int) : List UInt8 :=
  if n = 1099511627776 then endless else if n < 0 ∨ 6311433600 < n then [] else if n = 0 then [48] else joinW (wordsN n.toNat)

theorem digit_of (k : Nat) (h : k < 10) : digit (UInt8.ofNat (48 + k)) = true := by
  simp [digit]; omega
theorem dec_digits (n : Nat) : (∀ c ∈ Lib.decDigits n, digit c = true) ∧ decV (Lib.decDigits n) = n ∧ Lib.decDigits n ≠ [] := by
  rw [Lib.decDigits]
  split
  · rename_i hs
    refine ⟨by simpa using digit_of n hs, ?_, by simp⟩
    simp [decV]; omega
  · rename_i hs
    obtain ⟨h1, h2, h3⟩ := dec_digits (n / 10)
    refine ⟨?_, ?_, by simp⟩
    · intro c hc
      rcases List.mem_append.1 hc with hc | hc
      · exact h1 c hc
      · rw [List.mem_singleton] at hc; subst hc; exact digit_of _ (Nat.mod_lt n (by decide))
    · rw [decV_snoc, h2]
      have e : (UInt8.ofNat (48 + n % 10)).toNat = 48 + n % 10 := by rw [UInt8.toNat_ofNat']; omega
      rw [e]; omega
termination_by n
decreasing_by omega
theorem digs_app : ∀ (l u : List UInt8), (∀ c ∈ l, digit c = true) → (∀ c, u.head? = some c → digit c = false) → digs (l ++ u) = l.length
  | [], u, _, hu => by
    cases u with
    | nil => rfl
    | cons c r => simp [digs, hu c rfl]
  | c :: l, u, hl, hu => by
    rw [List.cons_append, digs, if_pos (hl c (by simp)), digs_app l u (fun d hd => hl d (by simp [hd])) hu]
    rfl
theorem dec_len (n : Nat) (h : n < 10000000000) : (Lib.decDigits n).length ≤ 10 := by
  have go : ∀ k n, n < 10 ^ (k + 1) → (Lib.decDigits n).length ≤ k + 1 := by
    intro k
    induction k with
    | zero => intro n hn; rw [Lib.decDigits, dif_pos (by simpa using hn)]; simp
    | succ k ih =>
      intro n hn
      rw [Lib.decDigits]
      split
      · simp
      · have := ih (n / 10) (by rw [Nat.pow_succ] at hn; omega)
        simp; omega
  exact go 9 n (by simpa using h)
theorem word_put (n s : Nat) (u : List UInt8) (h : n < 10000000000) (hu : ∀ c, u.head? = some c → digit c = false) (hs : secs u = s) (h0 : s ≠ 0) : wordS (Lib.decDigits n ++ u) = some (n * s) := by
  obtain ⟨h1, h2, h3⟩ := dec_digits n
  have hl : (Lib.decDigits n).length ≠ 0 := by simpa using h3
  have hl2 := dec_len n h
  unfold wordS
  rw [digs_app _ u h1 hu, if_neg (by rw [List.drop_left, hs]; omega), List.take_left, List.drop_left, h2, hs]

theorem not_blank_digit (c : UInt8) (h : digit c = true) : blank c = false := by
  simp [digit] at h
  unfold blank
  simp; omega
theorem put_words (n : Nat) (u : List UInt8) (hu : ∀ c ∈ u, blank c = false) : ∀ w ∈ putW n u, w ≠ [] ∧ ∀ c ∈ w, blank c = false := by
  intro w hw
  unfold putW at hw
  split at hw
  · simp at hw
  · simp at hw
    subst hw
    obtain ⟨h1, h2, h3⟩ := dec_digits n
    refine ⟨by simp [h3], fun c hc => ?_⟩
    rcases List.mem_append.1 hc with hc | hc
    · exact not_blank_digit c (h1 c hc)
    · exact hu c hc
theorem put_sum (n s : Nat) (u : List UInt8) (h : n < 10000000000) (hu : ∀ c, u.head? = some c → digit c = false) (hs : secs u = s) (h0 : s ≠ 0) : allS (putW n u) = some (n * s) := by
  unfold putW
  split
  · rename_i hn; subst hn; simp [allS]
  · simp [allS, word_put n s u h hu hs h0]
theorem words_ok (n : Nat) : ∀ w ∈ wordsN n, w ≠ [] ∧ ∀ c ∈ w, blank c = false := by
  intro w hw
  unfold wordsN at hw
  simp only [List.mem_append] at hw
  rcases hw with hw | hw | hw | hw
  · exact put_words _ _ (by decide) w hw
  · exact put_words _ _ (by decide) w hw
  · exact put_words _ _ (by decide) w hw
  · exact put_words _ _ (by decide) w hw
theorem words_sum (n : Nat) (h : n ≤ 6311433600) : allS (wordsN n) = some n := by
  unfold wordsN
  rw [allS_app, allS_app, allS_app, put_sum (n / 86400) 86400 [100] (by omega) (by simp; decide) (by decide) (by decide), put_sum (n % 86400 / 3600) 3600 [104] (by omega) (by simp; decide) (by decide) (by decide),
    put_sum (n % 3600 / 60) 60 [109, 105, 110] (by omega) (by simp; decide) (by decide) (by decide), put_sum (n % 60) 1 [115] (by omega) (by simp; decide) (by decide) (by decide)]
  simp only [Option.some.injEq]
  omega
theorem words_some (n : Nat) (h : n ≠ 0) : wordsN n ≠ [] := by
  intro he
  simp only [wordsN, List.append_eq_nil_iff] at he
  obtain ⟨a, b, c, d⟩ := he
  have p : ∀ k u, putW k u = [] → k = 0 := by
    intro k u hk
    unfold putW at hk
    split at hk
    · assumption
    · simp at hk
  have := p _ _ a
  have := p _ _ b
  have := p _ _ c
  have := p _ _ d
  omega
theorem blanksTo_run (p : UInt8 → Bool) : ∀ (u word r : List UInt8), (∀ c ∈ u, p c = false) → blanksTo p word (u ++ r) = blanksTo p (word ++ u) r
  | [], word, r, _ => by simp
  | c :: u, word, r, h => by
    have h1 : p c = false := h c (by simp)
    rw [List.cons_append, blanksTo, if_neg (by rw [h1]; simp), blanksTo_run p u _ r (fun d hd => h d (by simp [hd]))]
    simp
theorem parts_one (w : List UInt8) (h : w ≠ []) (hb : ∀ c ∈ w, blank c = false) : partsOf w = [w] := by
  have := blanksTo_run blank w [] [] hb
  simp at this
  unfold partsOf
  rw [this, blanksTo, if_neg h]
theorem parts_join : ∀ (l : List (List UInt8)), (∀ w ∈ l, w ≠ [] ∧ ∀ c ∈ w, blank c = false) → partsOf (joinW l) = l
  | [], _ => rfl
  | [w], h => parts_one w (h w (by simp)).1 (h w (by simp)).2
  | w :: x :: r, h => by
    rw [joinW, parts_two, parts_one w (h w (by simp)).1 (h w (by simp)).2, parts_join (x :: r) fun y hy => h y (List.mem_cons_of_mem _ hy)]
    · rfl
    · simp
theorem join_some (l : List (List UInt8)) (h : l ≠ []) (hw : ∀ w ∈ l, w ≠ []) : joinW l ≠ [] := by
  match l with
  | [] => exact absurd rfl h
  | [w] => exact hw w (by simp)
  | w :: x :: r => simp [joinW]
theorem join_digit (n : Nat) : joinW (wordsN n) ≠ endless := by
  intro he
  have h1 := parts_join _ (words_ok n)
  rw [he] at h1
  have h2 : partsOf endless = [endless] := by decide
  rw [h2] at h1
  have h3 : (endless : List UInt8) ∈ wordsN n := by rw [← h1]; simp
  unfold wordsN at h3
  have p : ∀ k u, endless ∈ putW k u → False := by
    intro k u hk
    unfold putW at hk
    split at hk
    · simp at hk
    · simp at hk
      obtain ⟨q1, _, q3⟩ := dec_digits k
      match hd : Lib.decDigits k with
      | [] => exact q3 hd
      | c :: r =>
        rw [hd] at hk q1
        have hc := q1 c (by simp)
        have : c = 105 := by
          have := congrArg List.head? hk
          simp [endless] at this
          exact this.symm
        subst this
        exact absurd hc (by decide)
  simp only [List.mem_append] at h3
  rcases h3 with h3 | h3 | h3 | h3 <;> exact p _ _ h3
/-- may a number be a span? -/
def mayS (n : Int) : Bool := (decide (0 ≤ n) && decide (n ≤ 6311433600)) || decide (n = 1099511627776)
theorem parse_empty : parseL [] = (0, false) := by decide
theorem print_parse (n : Int) (h : mayS n = true) : parseL (printL n) = (n.toNat, true) ∧ printL n ≠ [] := by
  unfold mayS at h
  simp only [Bool.or_eq_true, Bool.and_eq_true, decide_eq_true_eq] at h
  unfold printL
  by_cases h1 : n = 1099511627776
  · subst h1
    rw [if_pos rfl]
    exact ⟨by decide, by decide⟩
  · rw [if_neg h1, if_neg (by omega)]
    by_cases h2 : n = 0
    · subst h2
      rw [if_pos rfl]
      exact ⟨by decide, by decide⟩
    · rw [if_neg h2]
      have hk : n.toNat ≠ 0 := by omega
      have hk2 : n.toNat ≤ 6311433600 := by omega
      refine ⟨?_, join_some _ (words_some _ hk) fun w hw => (words_ok _ w hw).1⟩
      rw [parse_parts _ (join_digit _), parts_join _ (words_ok _), words_sum _ hk2]
      simp only
      rw [if_neg (by omega)]
      simp [words_some _ hk]
theorem print_not (n : Int) (h : mayS n = false) : printL n = [] := by
  unfold mayS at h
  simp only [Bool.or_eq_false_iff, Bool.and_eq_false_iff, decide_eq_false_iff_not] at h
  unfold printL
  rw [if_neg h.2, if_pos (by omega)]
theorem print_inj (a b : Int) (h : mayS a = true) : (printL b = printL a) ↔ a = b := by
  refine ⟨fun he => ?_, fun he => by rw [he]⟩
  have ha := print_parse a h
  cases hb : mayS b with
  | false => rw [print_not b hb] at he; exact absurd he.symm ha.2
  | true =>
    have hb2 := print_parse b hb
    rw [he, ha.1] at hb2
    have e := (Prod.mk.inj hb2.1).1
    unfold mayS at h hb
    simp only [Bool.or_eq_true, Bool.and_eq_true, decide_eq_true_eq] at h hb
    omega
end Sp

end Go.Proofs.YtijfeeiplljnjaaGreatDoor
