/-
  Plain laws of what stands for something: doubled signs, two texts, a value more. No program in sight.
-/
import Derived.Test.YtcefnglmacpehaaSpE
namespace Go.Proofs.Ytcefnglmacpehaa
namespace Sp
/-- each sign c twice -/
def dbl (c : UInt8) : List UInt8 → List UInt8
  | [] => []
  | x :: r => if x = c then c :: c :: dbl c r else x :: dbl c r
theorem dbl_len (c : UInt8) (l : List UInt8) : (dbl c l).length ≤ 2 * l.length := by
  induction l with
  | nil => simp [dbl]
  | cons x r ih => unfold dbl; split <;> simp <;> omega
theorem dbl_snoc (c x : UInt8) (l : List UInt8) : dbl c (l ++ [x]) = dbl c l ++ (if x = c then [c, c] else [x]) := by
  induction l with
  | nil => simp [dbl]
  | cons y r ih =>
    simp only [List.cons_append, dbl]
    split <;> simp [ih]

theorem goL_other (u : List UInt8) (c : UInt8) (r : List UInt8) (h : c ≠ 37) : goL u (c :: r) = (goL u r).map (c :: ·) := by
  rw [goL.eq_def]
  simp [h]
theorem goL_dbl (u : List UInt8) (l : List UInt8) : goL u (dbl 37 l) = some l := by
  induction l with
  | nil => rfl
  | cons x r ih =>
    unfold dbl
    split
    · rename_i h
      rw [goL, if_pos rfl, h]
      simp [standsL, ih]
    · rename_i h
      rw [goL_other u x _ h]
      simp [ih]
theorem goL_app (u : List UInt8) : ∀ (n : Nat) (a b x : List UInt8), a.length ≤ n → goL u a = some x → goL u (a ++ b) = (goL u b).map (x ++ ·)
  | _, [], b, x, _, h => by
    simp [goL] at h
    subst h
    simp
  | 0, c :: r, b, x, hn, h => by simp at hn
  | n + 1, c :: r, b, x, hn, h => by
    by_cases hc : c = 37
    · subst hc
      match r with
      | [] => simp [goL] at h
      | d :: r2 =>
        rw [goL, if_pos rfl] at h
        rw [List.cons_append, List.cons_append, goL, if_pos rfl]
        cases hs : standsL d u with
        | none => simp [hs] at h
        | some t =>
          simp only [hs] at h ⊢
          cases hg : goL u r2 with
          | none => simp [hg] at h
          | some y =>
            simp [hg] at h
            rw [goL_app u n r2 b y (by simp at hn; omega) hg, ← h]
            simp [Function.comp_def]
    · rw [goL_other u c _ hc] at h
      rw [List.cons_append, goL_other u c _ hc]
      cases hg : goL u r with
      | none => simp [hg] at h
      | some y =>
        simp [hg] at h
        rw [goL_app u n r b y (by simp at hn; omega) hg, ← h]
        simp [Function.comp_def]

/-! ### what the law of the percent signs says -/
theorem spec_not (s u : List UInt8) (h : mayL u = false) : (specL s u).2 = 5 := by simp [specL, h]
theorem spec_dbl (s u : List UInt8) (h : mayL u = true) : specL (dbl 37 s) u = (s, 0) := by simp [specL, h, goL_dbl]
theorem spec_app (a b u : List UInt8) (h : mayL u = true) (hf : (specL a u).2 = 0) : (specL (a ++ b) u).2 = (specL b u).2 ∧ ((specL b u).2 = 0 → (specL (a ++ b) u).1 = (specL a u).1 ++ (specL b u).1) := by
  simp only [specL, h, if_true] at hf ⊢
  cases hg : goL u a with
  | none => simp [hg] at hf
  | some x =>
    rw [goL_app u a.length a b x (Nat.le_refl _) hg]
    cases hb : goL u b <;> simp

/-! ### words -/
theorem wordL_plain (env : List (List UInt8 × List UInt8)) (c : UInt8) (r : List UInt8) (h : c ≠ 36) : wordL env (c :: r) = c :: wordL env r := by
  have h1 : ∀ b, Lib.hasPrefix (c :: r) [36, b] = false := by
    intro b
    unfold Lib.hasPrefix
    simp only [List.isPrefixOf, Bool.and_eq_false_iff, beq_eq_false_iff_ne]
    exact .inl (Ne.symm h)
  rw [wordL_cons, if_neg (by rw [h1]; simp), if_neg (by unfold braceL; rw [h1]; simp)]
theorem wordL_two (env : List (List UInt8 × List UInt8)) (r : List UInt8) : wordL env (36 :: 36 :: r) = 36 :: wordL env r := by
  rw [wordL_cons, if_pos (by simp [Lib.hasPrefix, List.isPrefixOf])]
  rfl
theorem wordL_dbl (env : List (List UInt8 × List UInt8)) (l : List UInt8) : wordL env (dbl 36 l) = l := by
  induction l with
  | nil => rfl
  | cons x r ih =>
    unfold dbl
    split
    · rename_i h
      rw [wordL_two, ih, h]
    · rename_i h
      rw [wordL_plain env x _ h, ih]
theorem varL_sign (c : UInt8) (r : List UInt8) (h : varByte c = false) : varL (c :: r) = false := by
  simp [varL, h]
theorem oneL_dbl (env : List (List UInt8 × List UInt8)) (l : List UInt8) : oneL env (dbl 36 l) = [l] := by
  have hw := wordL_dbl env l
  match l with
  | [] => rfl
  | x :: r =>
    by_cases hx : x = 36
    · subst hx
      have e : dbl 36 (36 :: r) = 36 :: 36 :: dbl 36 r := by simp [dbl]
      rw [e] at hw ⊢
      simp only [oneL]
      rw [if_neg (by rw [varL_sign 36 _ (by decide)]; simp), hw]
    · have e : dbl 36 (x :: r) = x :: dbl 36 r := by simp [dbl, hx]
      rw [e] at hw ⊢
      unfold oneL
      split
      · rename_i hh; simp at hh; exact absurd hh.1 hx
      · rw [hw]
theorem varL_all (n : List UInt8) (h : varL n = true) : ∀ c ∈ n, varByte c = true := by
  match n with
  | [] => simp
  | c :: r =>
    simp only [varL, Bool.and_eq_true] at h
    exact List.all_eq_true.1 h.1.2
theorem oneL_brace (env : List (List UInt8 × List UInt8)) (n : List UInt8) (h : varL n = true) : oneL env (36 :: 123 :: (n ++ [125])) = [valueL env n] := by
  have hc : cutBr (n ++ 125 :: []) = (n, [], true) := cutBr_hit n [] fun c hcn => by
    intro e; subst e
    exact absurd (varL_all n h 125 hcn) (by decide)
  simp only [oneL]
  rw [if_neg (by rw [varL_sign 123 _ (by decide)]; simp)]
  rw [wordL_cons, if_neg (by simp [Lib.hasPrefix, List.isPrefixOf]), if_pos (by simp [braceL, Lib.hasPrefix, List.isPrefixOf, hc, h])]
  simp [hc, wordL_nil]
theorem oneL_sole (env : List (List UInt8 × List UInt8)) (n : List UInt8) (h : varL n = true) : oneL env (36 :: n) = partsOf (valueL env n) := by
  simp only [oneL]
  rw [if_pos h]
theorem vars_two (env : List (List UInt8 × List UInt8)) (n v : List UInt8) (h : varL n = true) : varsL [36 :: 123 :: (n ++ [125]), 36 :: n] (env ++ [(n, v)]) = v :: partsOf v := by
  simp [varsL, oneL_brace _ n h, oneL_sole _ n h, valueL_snoc]
theorem vars_app (l m : List (List UInt8)) (env : List (List UInt8 × List UInt8)) : varsL (l ++ m) env = varsL l env ++ varsL m env := by simp [varsL]
theorem vars_dbl (env : List (List UInt8 × List UInt8)) (l : List UInt8) : varsL [dbl 36 l] env = [l] := by simp [varsL, oneL_dbl]

/-! ### what is shown -/
theorem shown_spec : specL [37, 110, 32, 37, 78, 32, 37, 112, 32, 37, 105, 32, 37, 73, 32, 49, 48, 48, 37, 37] [97, 64, 120, 45, 121, 46, 115, 101, 114, 118, 105, 99, 101] =
    ([97, 64, 120, 45, 121, 46, 115, 101, 114, 118, 105, 99, 101, 32, 97, 64, 120, 45, 121, 32, 97, 32, 120, 45, 121, 32, 120, 47, 121, 32, 49, 48, 48, 37], 0) := by decide +kernel
theorem shown_wrong : specL [37] [97, 46, 115, 101, 114, 118, 105, 99, 101] = ([], 14) := by decide +kernel
theorem shown_vars : varsL [[36, 65], [60, 36, 123, 66, 125, 62, 36, 36], [36, 99]] [([65], [120, 32, 32, 121]), ([66], [113])] = [[120], [121], [60, 113, 62, 36]] := by decide +kernel
end Sp

end Go.Proofs.Ytcefnglmacpehaa
