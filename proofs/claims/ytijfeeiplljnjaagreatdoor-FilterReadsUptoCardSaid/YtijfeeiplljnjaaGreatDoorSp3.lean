/-
  The plain laws of names: the two ways to take a name apart are one, and what follows. No program in sight.
-/
import Derived.Test.YtijfeeiplljnjaaGreatDoorSp2
namespace Go.Proofs.YtijfeeiplljnjaaGreatDoor
namespace Sp

theorem suffix_nodot (k : Int) : ∀ c ∈ suffix k, c ≠ 46 := by
  unfold suffix
  (repeat' split) <;> decide

theorem kindOf_suffix (k : Nat) (h1 : 1 ≤ k) (h2 : k ≤ 4) : kindOfSuffix (suffix (k : Int)) = k := by
  have h : ∀ n : Fin 4, kindOfSuffix (suffix ((n.val + 1 : Nat) : Int)) = ((n.val + 1 : Nat) : Int) := by decide +kernel
  have := h ⟨k - 1, by omega⟩
  have e : k - 1 + 1 = k := by omega
  simpa only [e] using this

theorem kindOf_zero (t : List UInt8) (h : ∀ k : Nat, 1 ≤ k → k ≤ 4 → suffix (k : Int) ≠ t) : kindOfSuffix t = 0 := by
  unfold kindOfSuffix
  have h1 : suffix 1 ≠ t := h 1 (by omega) (by omega)
  have h2 : suffix 2 ≠ t := h 2 (by omega) (by omega)
  have h3 : suffix 3 ≠ t := h 3 (by omega) (by omega)
  have h4 : suffix 4 ≠ t := h 4 (by omega) (by omega)
  rw [if_neg h1, if_neg h2, if_neg h3, if_neg h4]

theorem kindOf_some (t : List UInt8) (h : kindOfSuffix t ≠ 0) : ∃ k : Nat, 1 ≤ k ∧ k ≤ 4 ∧ t = suffix (k : Int) ∧ kindOfSuffix t = k := by
  by_cases hk : ∃ k : Nat, 1 ≤ k ∧ k ≤ 4 ∧ suffix (k : Int) = t
  · obtain ⟨k, h1, h2, rfl⟩ := hk
    exact ⟨k, h1, h2, rfl, kindOf_suffix k h1 h2⟩
  · exact absurd (kindOf_zero t (fun k h1 h2 h3 => hk ⟨k, h1, h2, h3⟩)) h

theorem endsK_iff (l : List UInt8) (k : Int) : endsK l k = true ↔ ∃ h, h ≠ [] ∧ l = h ++ 46 :: suffix k := by
  unfold endsK
  simp only [Bool.and_eq_true, decide_eq_true_eq]
  constructor
  · rintro ⟨h1, h2⟩
    refine ⟨l.take (l.length - (46 :: suffix k).length), ?_, ?_⟩
    · intro h3
      have := congrArg List.length h3
      rw [List.length_take] at this
      simp only [List.length_nil] at this
      omega
    · conv => lhs; rw [← List.take_append_drop (l.length - (46 :: suffix k).length) l, h2]
  · rintro ⟨h, h1, rfl⟩
    have hl : 0 < h.length := List.length_pos_iff.2 h1
    refine ⟨by simp only [List.length_append]; omega, ?_⟩
    have e : (h ++ 46 :: suffix k).length - (46 :: suffix k).length = h.length := by simp only [List.length_append]; omega
    rw [e, List.drop_left]

theorem sufTo_spec (l : List UInt8) : ∀ n : Nat, (sufTo l n = (0, []) ∧ ∀ k : Nat, 1 ≤ k → k ≤ n → endsK l (k : Int) = false) ∨
    ∃ (k : Nat) (h : List UInt8), 1 ≤ k ∧ k ≤ n ∧ h ≠ [] ∧ l = h ++ 46 :: suffix (k : Int) ∧ sufTo l n = ((k : Int), h)
  | 0 => .inl ⟨rfl, fun k h1 h2 => by omega⟩
  | n + 1 => by
    unfold sufTo
    by_cases he : endsK l ((n + 1 : Nat) : Int) = true
    · obtain ⟨h, h1, h2⟩ := (endsK_iff l _).1 he
      refine .inr ⟨n + 1, h, by omega, by omega, h1, h2, ?_⟩
      rw [if_pos he]
      have e : l.take (l.length - (46 :: suffix ((n + 1 : Nat) : Int)).length) = h := by
        have e2 : l.length - (46 :: suffix ((n + 1 : Nat) : Int)).length = h.length := by
          rw [h2]; simp only [List.length_append]; omega
        rw [e2, h2, List.take_left]
      rw [e]
    · rw [if_neg he]
      rcases sufTo_spec l n with ⟨e, hn⟩ | ⟨k, h, h1, h2, h3, h4, h5⟩
      · refine .inl ⟨e, fun k h1 h2 => ?_⟩
        by_cases hk : k = n + 1
        · rw [hk]; simpa using he
        · exact hn k h1 (by omega)
      · exact .inr ⟨k, h, h1, by omega, h3, h4, h5⟩

theorem allName_append (a b : List UInt8) : allName (a ++ b) = (allName a && allName b) := by simp [allName]

/-- what a name is -/
theorem kindL_form (h : List UInt8) (k : Nat) (h1 : 1 ≤ k) (h2 : k ≤ 4) :
    kindL (h ++ 46 :: suffix (k : Int)) = if 60 < (h ++ 46 :: suffix (k : Int)).length then 0 else if (cutAt h).1 = [] then 0 else if allName ((cutAt h).1 ++ (cutAt h).2.1) = false then 0 else (k : Int) := by
  unfold kindL
  rw [cutDot_hit h _ (suffix_nodot _), kindOf_suffix k h1 h2, allName_append]
  generalize (h ++ 46 :: suffix (k : Int)).length = n
  by_cases c1 : 60 < n
  · simp [c1]
  · by_cases c2 : (cutAt h).1 = []
    · simp [c1, c2]
    · have c2' : (cutAt h).1.isEmpty = false := by simpa using c2
      cases c3 : allName (cutAt h).1 <;> cases c4 : allName (cutAt h).2.1 <;> simp [c1, c2, c2']

theorem kindL_some (l : List UInt8) (hk : kindL l ≠ 0) : ∃ (k : Nat) (h : List UInt8), 1 ≤ k ∧ k ≤ 4 ∧ l = h ++ 46 :: suffix (k : Int) ∧ kindL l = k ∧ l.length ≤ 60 ∧ (cutAt h).1 ≠ [] ∧ allName ((cutAt h).1 ++ (cutAt h).2.1) = true ∧ cutDot l = (h, suffix (k : Int)) := by
  have hlen := mayL_len l (by simpa [mayL] using hk)
  rcases lastCut_spec l with ⟨e, hno⟩ | ⟨h, t, e, hl, ht⟩
  · exfalso; apply hk
    unfold kindL
    rw [cutDot_miss l hno]
    simp [cutAt]
  · have hcd : cutDot l = (h, t) := by rw [hl]; exact cutDot_hit h t ht
    have hks : kindOfSuffix t ≠ 0 := by
      intro h0; apply hk
      unfold kindL
      rw [hcd]; simp only [h0]; split <;> rfl
    obtain ⟨k, h1, h2, h3, h4⟩ := kindOf_some t hks
    subst h3
    have hf := kindL_form h k h1 h2
    rw [← hl] at hf
    rw [if_neg (by omega)] at hf
    by_cases c2 : (cutAt h).1 = []
    · rw [if_pos c2] at hf; exact absurd hf hk
    · rw [if_neg c2] at hf
      by_cases c3 : allName ((cutAt h).1 ++ (cutAt h).2.1) = false
      · rw [if_pos c3] at hf; exact absurd hf hk
      · rw [if_neg c3] at hf
        exact ⟨k, h, h1, h2, hl, hf, hlen, c2, by simpa using c3, hcd⟩

/-- THE LAW: the reference's pieces of a text are its kind and its parts -/
theorem ofL_eq (l : List UInt8) : ofL l = (kindL l, partsL l) := by
  unfold ofL
  by_cases c1 : 60 < l.length
  · rw [if_pos c1]
    have hk : kindL l = 0 := by unfold kindL; rw [if_pos (by simp [c1])]
    simp [partsL, mayL, hk]
  · rw [if_neg c1]
    rcases sufTo_spec l 4 with ⟨e, hno⟩ | ⟨k, h, h1, h2, h3, h4, h5⟩
    · rw [e, if_pos rfl]
      have hk : kindL l = 0 := by
        by_cases hk : kindL l = 0
        · exact hk
        · obtain ⟨k, h, g1, g2, g3, g4, g5, g6, g7, g8⟩ := kindL_some l hk
          have hne : h ≠ [] := by intro h0; apply g6; rw [h0]; rfl
          have := hno k g1 g2
          rw [(endsK_iff l k).2 ⟨h, hne, g3⟩] at this
          cases this
      simp [partsL, mayL, hk]
    · rw [h5]
      simp only
      rw [if_neg (by omega)]
      have hf := kindL_form h k h1 h2
      rw [← h4, if_neg c1] at hf
      have hcd : cutDot l = (h, suffix (k : Int)) := by rw [h4]; exact cutDot_hit h _ (suffix_nodot _)
      by_cases c2 : (cutAt h).1 = []
      · rw [if_pos c2] at hf
        rw [if_pos c2]; simp [partsL, mayL, hf]
      · rw [if_neg c2] at hf
        rw [if_neg c2]
        by_cases c3 : allName ((cutAt h).1 ++ (cutAt h).2.1) = false
        · rw [if_pos c3] at hf
          rw [if_pos c3]; simp [partsL, mayL, hf]
        · rw [if_neg c3] at hf
          rw [if_neg c3]
          have : mayL l = true := by unfold mayL; rw [hf]; simp; omega
          simp [partsL, this, hf, hcd]

theorem partsL_no (l : List UInt8) (h : kindL l = 0) : partsL l = ([], [], false) := by simp [partsL, mayL, h]
theorem may_iff (l : List UInt8) : mayL l = decide (0 < (ofL l).1) := by
  rw [ofL_eq]
  have := kindL_range l
  unfold mayL
  rw [Bool.eq_iff_iff]
  simp
  omega

theorem cutAt_at (l : List UInt8) : ((cutAt l).2.2 = true ∧ l = (cutAt l).1 ++ 64 :: (cutAt l).2.1 ∧ ∀ c ∈ (cutAt l).1, c ≠ 64) ∨ ((cutAt l).2.2 = false ∧ l = (cutAt l).1 ∧ (cutAt l).2.1 = []) := by
  rcases cutAt_spec l with ⟨e, _⟩ | ⟨p, i, e, hl, hp⟩
  · right; rw [e]; simp
  · left; rw [e]; exact ⟨rfl, hl, hp⟩

theorem template_eq (l : List UInt8) : templateL l = rtemplateL l := by
  unfold templateL rtemplateL
  rw [ofL_eq]
  simp only
  by_cases hk : kindL l = 0
  · simp [partsL_no l hk]
  · obtain ⟨k, h, g1, g2, g3, g4, g5, g6, g7, g8⟩ := kindL_some l hk
    have hm : mayL l = true := by simp [mayL, hk]
    have hp : partsL l = cutAt h := by simp [partsL, hm, g8]
    rw [hp]
    rcases cutAt_at h with ⟨a1, a2, a3⟩ | ⟨a1, a2, a3⟩
    · rw [a1]
      cases hi : (cutAt h).2.1.isEmpty
      · simp [madeL, rmakeL]
      · simp
    · rw [a1, a3]; simp

/-- a name put together again -/
theorem made_form (p i : List UInt8) (k : Int) : madeL p i k = (p ++ 64 :: i) ++ 46 :: suffix k := by simp [madeL]

theorem made_may (p i : List UInt8) (k : Nat) (h1 : 1 ≤ k) (h2 : k ≤ 4) (hp : p ≠ []) (hno : ∀ c ∈ p, c ≠ 64) :
    ofL (madeL p i (k : Int)) = if mayL (madeL p i (k : Int)) then ((k : Int), p, i, true) else (0, [], [], false) := by
  rw [ofL_eq, made_form]
  have hc : cutAt (p ++ 64 :: i) = (p, i, true) := cutAt_hit p i hno
  have hf := kindL_form (p ++ 64 :: i) k h1 h2
  have hcd := cutDot_hit (p ++ 64 :: i) (suffix (k : Int)) (suffix_nodot _)
  rw [hc] at hf
  simp only at hf
  rw [if_neg hp] at hf
  generalize p ++ 64 :: i ++ 46 :: suffix (k : Int) = m at *
  cases hm : mayL m
  · have h0 : kindL m = 0 := by simpa [mayL] using hm
    simp [h0, partsL_no _ h0]
  · have hne : kindL m ≠ 0 := by simpa [mayL] using hm
    have hk : kindL m = k := by
      rw [hf]
      rw [hf] at hne
      split
      · rename_i c; rw [if_pos c] at hne; exact absurd rfl hne
      · rename_i c1
        rw [if_neg c1] at hne
        split
        · rename_i c; rw [if_pos c] at hne; exact absurd rfl hne
        · rfl
    rw [hk]
    simp [partsL, hm, hcd, hc]

theorem instance_eq (t i : List UInt8) : instanceL t i = rinstanceL t i := by
  unfold instanceL rinstanceL bareL
  rw [ofL_eq t]
  simp only
  by_cases hk : kindL t = 0
  · simp [partsL_no t hk]
  · obtain ⟨k, h, g1, g2, g3, g4, g5, g6, g7, g8⟩ := kindL_some t hk
    have hm : mayL t = true := by simp [mayL, hk]
    have hp : partsL t = cutAt h := by simp [partsL, hm, g8]
    rw [hp, g4]
    rcases cutAt_at h with ⟨a1, a2, a3⟩ | ⟨a1, a2, a3⟩
    · rw [a1]
      cases hi : (cutAt h).2.1.isEmpty
      · simp
      · cases hie : i.isEmpty
        · simp only [Bool.and_true, Bool.not_true, Bool.or_false, Bool.false_or, if_false, Bool.false_eq_true]
          have hr : rmakeL (k : Int) (cutAt h).1 i true = madeL (cutAt h).1 i (k : Int) := by simp [rmakeL, madeL]
          rw [hr]
          have hmm := made_may (cutAt h).1 i k g1 g2 g6 a3
          cases hmay : mayL (madeL (cutAt h).1 i (k : Int))
          · rw [hmay] at hmm
            simp only [Bool.false_eq_true, if_false] at hmm
            rw [hmm]
            have : (k : Int) ≠ 0 := by omega
            simp [Ne.symm this]
          · rw [hmay] at hmm
            simp only [if_true] at hmm
            rw [hmm]; simp
        · simp
    · rw [a1]; simp

theorem rmake_form (h : List UInt8) (k : Int) : rmakeL k (cutAt h).1 (cutAt h).2.1 (cutAt h).2.2 = h ++ [46] ++ suffix k := by
  rcases cutAt_at h with ⟨a1, a2, a3⟩ | ⟨a1, a2, a3⟩
  · rw [a1]
    conv => rhs; rw [a2]
    simp [rmakeL]
  · rw [a1, a3]
    conv => rhs; rw [a2]
    simp [rmakeL]

theorem change_eq (l : List UInt8) (j : Int) : changeL l j = rchangeL l j := by
  unfold changeL rchangeL
  rw [ofL_eq l]
  simp only
  by_cases hk : kindL l = 0
  · simp [mayL, hk]
  · obtain ⟨k, h, g1, g2, g3, g4, g5, g6, g7, g8⟩ := kindL_some l hk
    have hm : mayL l = true := by simp [mayL, hk]
    have hp : partsL l = cutAt h := by simp [partsL, hm, g8]
    rw [hp, rmake_form, g8, hm]
    simp only [Bool.not_true, Bool.false_or]
    by_cases hs : suffix j = []
    · have hor : kindL l = 0 ∨ suffix j = [] := .inr hs
      have : mayL (h ++ [46] ++ suffix j) = false := by
        rw [hs, List.append_nil]
        have hcd : cutDot (h ++ [46]) = (h, []) := cutDot_hit h [] (by simp)
        have hz : kindOfSuffix [] = 0 := by decide
        unfold mayL kindL
        rw [hcd]; simp only [hz]; split <;> rfl
      rw [this]
      conv => rhs; rw [if_pos hor]
      rfl
    · have hor : ¬ (kindL l = 0 ∨ suffix j = []) := by simp [hk, hs]
      have hmi := may_iff (h ++ [46] ++ suffix j)
      generalize h ++ [46] ++ suffix j = m at *
      conv => rhs; rw [if_neg hor]
      cases hm2 : mayL m
      · rw [hm2] at hmi; have := of_decide_eq_false hmi.symm; simp [this]
      · rw [hm2] at hmi; have := of_decide_eq_true hmi.symm; simp [this]
end Sp

end Go.Proofs.YtijfeeiplljnjaaGreatDoor
