/-
  The two ways to read a calendar's text come to the same: the end.
-/
import Derived.Test.YtpkpoglmmjaoeaaGreatDoorCg
namespace Go.Proofs.YtpkpoglmmjaoeaaGreatDoor
namespace Sp
theorem split_len (c : UInt8) : ∀ l : List UInt8, (splitC c l).length = (l.filter fun x => x == c).length + 1
  | [] => rfl
  | b :: l => by
    have ih := split_len c l
    rw [splitC]
    by_cases e : b = c
    · rw [if_pos e, List.filter_cons_of_pos (by simp [e]), List.length_cons, List.length_cons, ih]
    · rw [if_neg e, List.filter_cons_of_neg (by simp [e])]
      cases hs : splitC c l with
      | nil => exact absurd hs (split_ne c l)
      | cons y z =>
        rw [hs] at ih
        simpa using ih
theorem split_app (c : UInt8) : ∀ (l r : List UInt8), splitC c (l ++ c :: r) = splitC c l ++ splitC c r
  | [], r => by simp [splitC]
  | b :: l, r => by
    rw [List.cons_append, splitC, splitC]
    by_cases e : b = c
    · rw [if_pos e, if_pos e, split_app c l r]; rfl
    · rw [if_neg e, if_neg e, split_app c l r]
      cases hs : splitC c l with
      | nil => exact absurd hs (split_ne c l)
      | cons y z => rfl
theorem split_without (c : UInt8) (l : List UInt8) (h : has1 c l = false) : splitC c l = [l] := split_one c l fun x hx e => by
  rw [← Bool.not_eq_true, has1_mem] at h
  exact h (e ▸ hx)
theorem split_has (c : UInt8) (l : List UInt8) (h : (splitC c l).length ≠ 1) : has1 c l = true := by
  cases e : has1 c l with
  | true => rfl
  | false => rw [split_without c l e] at h; exact absurd rfl h
theorem clk_copy (w : List UInt8) (h : (splitC 58 w).length = 2 ∨ (splitC 58 w).length = 3) : splitC 58 (clockL w) = copyT (splitC 58 w) := by
  have hl := split_len 58 w
  unfold clockL
  rcases h with h | h
  · rw [if_pos (by omega)]
    have e : w ++ [58, 48, 48] = w ++ 58 :: [48, 48] := rfl
    rw [e, split_app, split_one 58 [48, 48] (by decide)]
    match hs : splitC 58 w, h with
    | [a, b], _ => rfl
  · rw [if_neg (by omega)]
    match hs : splitC 58 w, h with
    | [a, b, c], _ => rfl
theorem clk_three (w : List UInt8) (h : (splitC 58 (clockL w)).length = 3) : (splitC 58 w).length = 2 ∨ (splitC 58 w).length = 3 := by
  have hl := split_len 58 w
  unfold clockL at h
  split at h
  · exact .inl (by omega)
  · exact .inr h
theorem fill_some (days : List Int) (d t : List (List UInt8)) (c : CalD) (h : fillP days d t = some c) : d.length = 3 ∧ t.length = 3 ∧ (∀ w ∈ d, ∃ r, partsP w = some r) ∧ ∀ w ∈ t, ∃ r, partsP w = some r := by
  unfold fillP at h
  split at h
  · rename_i a b c' e f g
    split at h
    · rename_i y mo dd hh mi s h1 h2 h3 h4 h5 h6
      refine ⟨rfl, rfl, fun w hw => ?_, fun w hw => ?_⟩
      · simp only [List.mem_cons, List.not_mem_nil, or_false] at hw
        rcases hw with rfl | rfl | rfl
        · exact ⟨_, h1⟩
        · exact ⟨_, h2⟩
        · exact ⟨_, h3⟩
      · simp only [List.mem_cons, List.not_mem_nil, or_false] at hw
        rcases hw with rfl | rfl | rfl
        · exact ⟨_, h4⟩
        · exact ⟨_, h5⟩
        · exact ⟨_, h6⟩
    · cases h
  · cases h
theorem form_bytes (c : UInt8) (w : List UInt8) (h : ∀ x ∈ splitC c w, ∃ r, partsP x = some r) : ∀ x ∈ w, x = c ∨ x = 44 ∨ partC x = true := by
  intro x hx
  rcases split_mem c w x hx with e | ⟨y, hy, hxy⟩
  · exact .inl e
  · obtain ⟨r, hr⟩ := h y hy
    exact .inr (partsP_bytes y r hr x hxy)
theorem form_head (c : UInt8) (w : List UInt8) (hc : letC c = false) (h : ∀ x ∈ splitC c w, ∃ r, partsP x = some r) : headLet w = false := by
  have hb := form_bytes c w h
  cases w with
  | nil => rfl
  | cons b r =>
    show letC b = false
    rcases hb b (by simp) with e | e | e
    · rw [e]; exact hc
    · rw [e]; decide
    · unfold partC digC at e
      unfold letC
      simp only [Bool.or_eq_true, Bool.and_eq_true, decide_eq_true_eq, beq_iff_eq] at e
      have h3 : b.toNat ≤ 57 := by
        rcases e with ((e | e) | e) | e
        · omega
        · subst e; decide
        · subst e; decide
        · subst e; decide
      simp only [Bool.or_eq_false_iff, Bool.and_eq_false_iff, decide_eq_false_iff_not]
      omega
theorem form_not (c d : UInt8) (w : List UInt8) (hcd : d ≠ c) (h44 : d ≠ 44) (hp : partC d = false) (h : ∀ x ∈ splitC c w, ∃ r, partsP x = some r) : has1 d w = false := by
  cases e : has1 d w with
  | false => rfl
  | true =>
    rw [has1_mem] at e
    rcases form_bytes c w h d e with e | e | e
    · exact absurd e hcd
    · exact absurd e h44
    · rw [hp] at e; cases e
theorem copy_parts (w : List UInt8) (h : (splitC 58 w).length = 2 ∨ (splitC 58 w).length = 3) (hp : ∀ x ∈ copyT (splitC 58 w), ∃ r, partsP x = some r) : ∀ x ∈ splitC 58 w, ∃ r, partsP x = some r := by
  rcases h with h | h
  · match hs : splitC 58 w, h with
    | [a, b], _ =>
      rw [hs] at hp
      intro x hx
      refine hp x ?_
      simp only [copyT, List.mem_cons, List.not_mem_nil, or_false] at hx ⊢
      rcases hx with h | h
      · exact .inl h
      · exact .inr (.inl h)
  · match hs : splitC 58 w, h with
    | [a, b, c], _ => rw [hs] at hp; exact hp
theorem takeP_cases (is : List UInt8 → Bool) (ws : List (List UInt8)) : (∃ w r, ws = w :: r ∧ is w = true ∧ takeP is ws = (some w, r)) ∨ (takeP is ws = (none, ws) ∧ ∀ w r, ws = w :: r → is w = false) := by
  cases ws with
  | nil => exact .inr ⟨rfl, fun w r h => by cases h⟩
  | cons w r =>
    cases e : is w with
    | true => exact .inl ⟨w, r, rfl, e, by show (if is w = true then _ else _) = _; rw [e]; rfl⟩
    | false =>
      refine .inr ⟨by show (if is w = true then _ else _) = _; rw [e]; rfl, fun x y h => ?_⟩
      injection h with h1 h2
      rw [← h1]; exact e
theorem days_unlet (w : List UInt8) (h : headLet w = false) : (daysP w).isSome = false := by
  cases e : daysP w with
  | none => rfl
  | some r =>
    have := (daysP_bytes w r e).2
    rw [h] at this; cases this
/-- the words behind the weekdays: from the program's way to the reference's -/
theorem tail_go (st : Nat) (days : List Int) (ws : List (List UInt8)) (hst : st < 2) (hd : st = 0 → ∀ w r, ws = w :: r → headLet w = false) (c : CalD)
    (he : (takeP (has1 58) (takeP (has1 45) ws).2).2 = [])
    (hf : fillP days (splitC 45 (match (takeP (has1 45) ws).1 with | none => [42, 45, 42, 45, 42] | some w => w)) (splitC 58 (match (takeP (has1 58) (takeP (has1 45) ws).2).1 with | none => [48, 48, 58, 48, 48, 58, 48, 48] | some w => clockL w)) = some c) :
    ws.length ≤ 2 ∧ ∃ d t, refGo st days star3 nought3 ws = some (days, d, t) ∧ fillP days d t = some c := by
  have e1 : splitC 45 [42, 45, 42, 45, 42] = star3 := by decide
  have e2 : splitC 58 [48, 48, 58, 48, 48, 58, 48, 48] = nought3 := by decide
  have hfs := fill_some _ _ _ _ hf
  rcases takeP_cases (has1 45) ws with ⟨w, r, rfl, h45, ht⟩ | ⟨ht, hn⟩
  · have h0 : ¬ ((daysP w).isSome = true ∧ st < 1) := fun h => by
      have := days_unlet w (hd (by omega) w r rfl)
      rw [h.1] at this; cases this
    rw [ht] at he hf hfs
    simp only at he hf hfs
    rcases takeP_cases (has1 58) r with ⟨v, q, rfl, h58, ht2⟩ | ⟨ht2, hn2⟩
    · rw [ht2] at he hf hfs
      simp only at he hf hfs
      subst he
      have h3 := clk_three v hfs.2.1
      refine ⟨by simp, splitC 45 w, copyT (splitC 58 v), ?_, by rw [← clk_copy v h3]; exact hf⟩
      rw [refGo, if_neg h0, if_pos ⟨hfs.1, hst⟩, refGo, if_neg (by omega), if_neg (by omega), if_pos ⟨h3, by omega⟩, refGo]
    · rw [ht2] at he hf hfs
      simp only at he hf hfs
      subst he
      refine ⟨by simp, splitC 45 w, nought3, ?_, by rw [← e2]; exact hf⟩
      rw [refGo, if_neg h0, if_pos ⟨hfs.1, hst⟩, refGo]
  · rw [ht] at he hf hfs
    simp only at he hf hfs
    rw [e1] at hf hfs
    rcases takeP_cases (has1 58) ws with ⟨v, q, rfl, h58, ht2⟩ | ⟨ht2, hn2⟩
    · rw [ht2] at he hf hfs
      simp only at he hf hfs
      subst he
      have h0 : ¬ ((daysP v).isSome = true ∧ st < 1) := fun h => by
        have := days_unlet v (hd (by omega) v _ rfl)
        rw [h.1] at this; cases this
      have h3 := clk_three v hfs.2.1
      have h4 := split_without 45 v (hn v _ rfl)
      refine ⟨by simp, star3, copyT (splitC 58 v), ?_, by rw [← clk_copy v h3]; exact hf⟩
      rw [refGo, if_neg h0, if_neg (by rw [h4]; simp), if_pos ⟨h3, by omega⟩, refGo]
    · rw [ht2] at he hf hfs
      simp only at he hf hfs
      subst he
      exact ⟨by simp, star3, nought3, by rw [refGo], by rw [← e2]; exact hf⟩
theorem parse_ref (s : List UInt8) (c : CalD) (h : parseL s = some c) : refL s = some c := by
  unfold parseL at h
  unfold refL
  generalize splitC 32 (namedL s) = ws at *
  simp only at h
  rcases takeP_cases headLet ws with ⟨w, r, rfl, hl, ht⟩ | ⟨ht, hn⟩
  · rw [ht] at h
    simp only at h
    cases hd : daysP w with
    | none => rw [hd] at h; cases h
    | some ds =>
      rw [hd] at h
      simp only at h
      split at h
      · rename_i he
        obtain ⟨h1, d, t, h2, h3⟩ := tail_go 1 ds r (by omega) (fun e => by cases e) c (by simpa using he) h
        rw [if_neg (by simp; omega), refGo, hd, if_pos ⟨rfl, by omega⟩]
        show (match refGo 1 ds star3 nought3 r with | none => none | some (days, d, t) => fillP days d t) = _
        rw [h2]; exact h3
      · cases h
  · rw [ht] at h
    simp only at h
    split at h
    · rename_i he
      obtain ⟨h1, d, t, h2, h3⟩ := tail_go 0 [] ws (by omega) (fun _ => hn) c (by simpa using he) h
      rw [if_neg (by omega), h2]; exact h3
    · cases h
/-- and back -/
theorem tail_back (st : Nat) (days : List Int) (ws : List (List UInt8)) (hst : st < 2) (hd : st = 0 → ∀ w r, ws = w :: r → (daysP w).isSome = false) (c : CalD) (dy : List Int) (d t : List (List UInt8))
    (hg : refGo st days star3 nought3 ws = some (dy, d, t)) (hf : fillP dy d t = some c) :
    dy = days ∧ (st = 0 → ∀ w r, ws = w :: r → headLet w = false) ∧ (takeP (has1 58) (takeP (has1 45) ws).2).2 = [] ∧
    fillP days (splitC 45 (match (takeP (has1 45) ws).1 with | none => [42, 45, 42, 45, 42] | some w => w)) (splitC 58 (match (takeP (has1 58) (takeP (has1 45) ws).2).1 with | none => [48, 48, 58, 48, 48, 58, 48, 48] | some w => clockL w)) = some c := by
  have e1 : splitC 45 [42, 45, 42, 45, 42] = star3 := by decide
  have e2 : splitC 58 [48, 48, 58, 48, 48, 58, 48, 48] = nought3 := by decide
  have hfs := fill_some _ _ _ _ hf
  cases ws with
  | nil =>
    rw [refGo] at hg
    injection hg with hg
    injection hg with g1 g2
    injection g2 with g2 g3
    subst g1; subst g2; subst g3
    refine ⟨rfl, fun _ w r h => (by cases h), rfl, ?_⟩
    show fillP _ (splitC 45 [42, 45, 42, 45, 42]) (splitC 58 [48, 48, 58, 48, 48, 58, 48, 48]) = _
    rw [e1, e2]; exact hf
  | cons w r =>
    have h0 : ¬ ((daysP w).isSome = true ∧ st < 1) := fun h => by
      have := hd (by omega) w r rfl
      rw [h.1] at this; cases this
    rw [refGo, if_neg h0] at hg
    by_cases h45 : (splitC 45 w).length = 3 ∧ st < 2
    · rw [if_pos h45] at hg
      have k45 := split_has 45 w (by omega)
      have ht : takeP (has1 45) (w :: r) = (some w, r) := by show (if has1 45 w = true then _ else _) = _; rw [k45]; rfl
      rw [ht]
      simp only
      cases r with
      | nil =>
        rw [refGo] at hg
        injection hg with hg
        injection hg with g1 g2
        injection g2 with g2 g3
        subst g1; subst g2; subst g3
        refine ⟨rfl, fun _ x y h => ?_, rfl, ?_⟩
        · injection h with h1 h2
          rw [← h1]
          exact form_head 45 w (by decide) hfs.2.2.1
        · show fillP _ (splitC 45 w) (splitC 58 [48, 48, 58, 48, 48, 58, 48, 48]) = _
          rw [e2]; exact hf
      | cons v q =>
        rw [refGo, if_neg (by omega), if_neg (by omega)] at hg
        by_cases h58 : ((splitC 58 v).length = 2 ∨ (splitC 58 v).length = 3) ∧ 2 < 3
        · rw [if_pos h58] at hg
          have k58 := split_has 58 v (by omega)
          have ht2 : takeP (has1 58) (v :: q) = (some v, q) := by show (if has1 58 v = true then _ else _) = _; rw [k58]; rfl
          rw [ht2]
          simp only
          cases q with
          | nil =>
            rw [refGo] at hg
            injection hg with hg
            injection hg with g1 g2
            injection g2 with g2 g3
            subst g1; subst g2; subst g3
            refine ⟨rfl, fun _ x y h => ?_, rfl, by rw [clk_copy v h58.1]; exact hf⟩
            injection h with h1 h2
            rw [← h1]
            exact form_head 45 w (by decide) hfs.2.2.1
          | cons u p =>
            rw [refGo, if_neg (by omega), if_neg (by omega), if_neg (by omega)] at hg
            cases hg
        · rw [if_neg h58] at hg
          cases hg
    · rw [if_neg h45] at hg
      by_cases h58 : ((splitC 58 w).length = 2 ∨ (splitC 58 w).length = 3) ∧ st < 3
      · rw [if_pos h58] at hg
        cases r with
        | nil =>
          rw [refGo] at hg
          injection hg with hg
          injection hg with g1 g2
          injection g2 with g2 g3
          subst g1; subst g2; subst g3
          have hcp := copy_parts w h58.1 hfs.2.2.2
          have k45 := form_not 58 45 w (by decide) (by decide) (by decide) hcp
          have k58 := split_has 58 w (by omega)
          have ht : takeP (has1 45) [w] = (none, [w]) := by show (if has1 45 w = true then _ else _) = _; rw [k45]; rfl
          have ht2 : takeP (has1 58) [w] = (some w, []) := by show (if has1 58 w = true then _ else _) = _; rw [k58]; rfl
          rw [ht]
          simp only
          rw [ht2]
          simp only
          refine ⟨trivial, fun _ x y h => ?_, trivial, by rw [e1, clk_copy w h58.1]; exact hf⟩
          injection h with h1 h2
          rw [← h1]
          exact form_head 58 w (by decide) hcp
        | cons v q =>
          rw [refGo, if_neg (by omega), if_neg (by omega), if_neg (by omega)] at hg
          cases hg
      · rw [if_neg h58] at hg
        cases hg
theorem ref_parse (s : List UInt8) (c : CalD) (h : refL s = some c) : parseL s = some c := by
  unfold refL at h
  unfold parseL
  have hne := split_ne 32 (namedL s)
  generalize splitC 32 (namedL s) = ws at *
  simp only
  split at h
  · cases h
  · cases ws with
    | nil => exact absurd rfl hne
    | cons w r =>
      cases hg : refGo 0 [] star3 nought3 (w :: r) with
      | none => rw [hg] at h; cases h
      | some q =>
        obtain ⟨dy, d, t⟩ := q
        rw [hg] at h
        simp only at h
        cases hd : daysP w with
        | some ds =>
          rw [refGo, hd, if_pos ⟨rfl, by omega⟩] at hg
          have hh := (daysP_bytes w ds hd).2
          have ht : takeP headLet (w :: r) = (some w, r) := by show (if headLet w = true then _ else _) = _; rw [hh]; rfl
          obtain ⟨a1, _, a3, a4⟩ := tail_back 1 ds r (by omega) (fun e => by cases e) c dy d t hg h
          rw [ht]
          simp only
          rw [hd]
          simp only
          rw [a3]
          exact a4
        | none =>
          obtain ⟨a1, a2, a3, a4⟩ := tail_back 0 [] (w :: r) (by omega) (fun _ x y e => by injection e with e1 e2; rw [← e1, hd]; rfl) c dy d t hg h
          have hh := a2 rfl w r rfl
          have ht : takeP headLet (w :: r) = (none, w :: r) := by show (if headLet w = true then _ else _) = _; rw [hh]; rfl
          rw [ht]
          simp only
          rw [a3]
          exact a4
theorem ref_same (s : List UInt8) : refL s = parseL s := by
  cases h : parseL s with
  | some c => exact parse_ref s c h
  | none =>
    cases h2 : refL s with
    | none => rfl
    | some c => rw [ref_parse s c h2] at h; cases h
end Sp

end Go.Proofs.YtpkpoglmmjaoeaaGreatDoor
