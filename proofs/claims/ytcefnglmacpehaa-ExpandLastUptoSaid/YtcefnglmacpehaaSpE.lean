/-
  Plain functions of what stands for something: percent signs, variables. No program in sight.
-/
import Derived.Test.YtcefnglmacpehaaSp4
namespace Go.Proofs.Ytcefnglmacpehaa
namespace Sp

/-! ### percent signs -/
/-- what a byte behind a percent sign stands for -/
def standsL (c : UInt8) (u : List UInt8) : Option (List UInt8) :=
  if c = 37 then some [37]
  else if c = 110 then some u
  else if c = 78 then some (Lib.trimSuffix u (46 :: suffix (kindL u)))
  else if c = 112 then some (partsL u).1
  else if c = 105 then some (partsL u).2.1
  else if c = 73 then some ((unescL (partsL u).2.1).getD (partsL u).2.1)
  else none

/-- a text in which percent signs are what they stand for -/
def goL (u : List UInt8) : List UInt8 → Option (List UInt8)
  | [] => some []
  | c :: r =>
    if c = 37 then
      match r with
      | [] => none
      | d :: r2 =>
        match standsL d u with
        | none => none
        | some t => (goL u r2).map (t ++ ·)
    else (goL u r).map (c :: ·)

/-- the text, and the error -/
def specL (s u : List UInt8) : List UInt8 × Int :=
  if mayL u then match goL u s with
    | some t => (t, 0)
    | none => ([], 14)
  else ([], 5)

/-! ### variables -/
/-- a byte of a variable's name -/
def varByte (c : UInt8) : Bool := letter c || digit c || ((c.toNat : Int) == 95)
/-- is it a variable's name? -/
def varL (l : List UInt8) : Bool :=
  match l with
  | [] => false
  | c :: _ => decide (l.length ≤ 60) && l.all varByte && !digit c

/-- a variable's value: the last one's; none: no text -/
def valueL (env : List (List UInt8 × List UInt8)) (n : List UInt8) : List UInt8 :=
  match env.reverse.find? (fun p => decide (p.1 = n)) with
  | some p => p.2
  | none => []
theorem valueL_nil (n : List UInt8) : valueL [] n = [] := rfl
theorem valueL_snoc (env : List (List UInt8 × List UInt8)) (a v n : List UInt8) : valueL (env ++ [(a, v)]) n = if a = n then v else valueL env n := by
  unfold valueL
  rw [List.reverse_append, List.reverse_singleton, List.singleton_append, List.find?_cons]
  by_cases h : a = n
  · simp [h]
  · rw [if_neg h]; simp [h]

/-- a text up to its first closing brace, and behind it -/
def cutBr : List UInt8 → List UInt8 × List UInt8 × Bool
  | [] => ([], [], false)
  | c :: r => if c = 125 then ([], r, true) else (c :: (cutBr r).1, (cutBr r).2.1, (cutBr r).2.2)

theorem cutBr_len (l : List UInt8) : (cutBr l).1.length ≤ l.length ∧ (cutBr l).2.1.length ≤ l.length := by
  induction l with
  | nil => simp [cutBr]
  | cons c r ih =>
    unfold cutBr
    split
    · simp
    · simp; omega

theorem cutBr_miss : ∀ (l : List UInt8), (∀ c ∈ l, c ≠ 125) → cutBr l = (l, [], false)
  | [], _ => rfl
  | c :: r, h => by
    have hr := cutBr_miss r (fun x hx => h x (List.mem_cons_of_mem _ hx))
    have hc : c ≠ 125 := h c (by simp)
    simp [cutBr, hr, hc]
theorem cutBr_hit : ∀ (p i : List UInt8), (∀ c ∈ p, c ≠ 125) → cutBr (p ++ 125 :: i) = (p, i, true)
  | [], i, _ => by simp [cutBr]
  | c :: r, i, h => by
    have hr := cutBr_hit r i (fun x hx => h x (List.mem_cons_of_mem _ hx))
    have hc : c ≠ 125 := h c (by simp)
    simp [cutBr, hr, hc]

/-- does a variable stand here between braces? -/
def braceL (l : List UInt8) : Bool := Lib.hasPrefix l [36, 123] && (cutBr (l.drop 2)).2.2 && varL (cutBr (l.drop 2)).1
/-- a word in which variables are their values; n: no fewer steps than bytes -/
def withinL (env : List (List UInt8 × List UInt8)) : Nat → List UInt8 → List UInt8
  | 0, _ => []
  | _ + 1, [] => []
  | n + 1, c :: r =>
    if Lib.hasPrefix (c :: r) [36, 36] = true then 36 :: withinL env n (r.drop 1)
    else if braceL (c :: r) = true then valueL env (cutBr (r.drop 1)).1 ++ withinL env n (cutBr (r.drop 1)).2.1
    else c :: withinL env n r
def wordL (env : List (List UInt8 × List UInt8)) (w : List UInt8) : List UInt8 := withinL env w.length w

theorem withinL_more (env : List (List UInt8 × List UInt8)) : ∀ (n m : Nat) (l : List UInt8), l.length ≤ n → l.length ≤ m → withinL env n l = withinL env m l
  | 0, m, l, h, _ => by
    obtain rfl : l = [] := List.eq_nil_of_length_eq_zero (by omega)
    cases m <;> rfl
  | n + 1, 0, l, _, h => by
    obtain rfl : l = [] := List.eq_nil_of_length_eq_zero (by omega)
    rfl
  | n + 1, m + 1, [], _, _ => rfl
  | n + 1, m + 1, c :: r, h1, h2 => by
    simp only [List.length_cons] at h1 h2
    have hb := (cutBr_len (r.drop 1)).2
    have hd : (r.drop 1).length ≤ r.length := by simp
    unfold withinL
    rw [withinL_more env n m (r.drop 1) (by omega) (by omega), withinL_more env n m (cutBr (r.drop 1)).2.1 (by omega) (by omega), withinL_more env n m r (by omega) (by omega)]

theorem wordL_nil (env : List (List UInt8 × List UInt8)) : wordL env [] = [] := rfl
theorem wordL_cons (env : List (List UInt8 × List UInt8)) (c : UInt8) (r : List UInt8) : wordL env (c :: r) =
    if Lib.hasPrefix (c :: r) [36, 36] = true then 36 :: wordL env (r.drop 1)
    else if braceL (c :: r) = true then valueL env (cutBr (r.drop 1)).1 ++ wordL env (cutBr (r.drop 1)).2.1
    else c :: wordL env r := by
  have hb := (cutBr_len (r.drop 1)).2
  have hd : (r.drop 1).length ≤ r.length := by simp
  unfold wordL
  rw [List.length_cons, withinL]
  rw [withinL_more env r.length _ (r.drop 1) hd (Nat.le_refl _), withinL_more env r.length _ (cutBr (r.drop 1)).2.1 (by omega) (Nat.le_refl _)]

theorem valueL_len (env : List (List UInt8 × List UInt8)) (M : Nat) (h : ∀ p ∈ env, p.2.length ≤ M) (n : List UInt8) : (valueL env n).length ≤ M := by
  unfold valueL
  split
  · rename_i p hp
    exact h p (List.mem_reverse.1 (List.mem_of_find?_eq_some hp))
  · simp

/-- where the loop of within stands: what is left, what is written; M: no value is longer -/
def WRel (env : List (List UInt8 × List UInt8)) (M : Nat) (s rb acc : List UInt8) : Prop := wordL env s = acc ++ wordL env rb ∧ acc.length + rb.length * M ≤ s.length * M
theorem WRel.start (env : List (List UInt8 × List UInt8)) (M : Nat) (s : List UInt8) : WRel env M s s [] := ⟨by simp, by simp⟩
theorem WRel.done {env : List (List UInt8 × List UInt8)} {M : Nat} {s acc : List UInt8} (h : WRel env M s [] acc) : wordL env s = acc := by rw [h.1]; simp [wordL_nil]
theorem WRel.two {env : List (List UInt8 × List UInt8)} {M : Nat} {s rb acc : List UInt8} (h : WRel env M s rb acc) (hM : 1 ≤ M) (hp : Lib.hasPrefix rb [36, 36] = true) : WRel env M s (rb.drop 2) (acc ++ [36]) := by
  match rb with
  | [] => simp [Lib.hasPrefix] at hp
  | [c] => simp [Lib.hasPrefix] at hp
  | c :: d :: r =>
    refine ⟨?_, ?_⟩
    · rw [h.1, wordL_cons, if_pos hp]; simp
    · have h2 := h.2
      simp only [List.length_cons, Nat.add_mul] at h2
      simp; omega
theorem WRel.val {env : List (List UInt8 × List UInt8)} {M : Nat} {s rb acc : List UInt8} (h : WRel env M s rb acc) (hM : ∀ p ∈ env, p.2.length ≤ M) (hp : Lib.hasPrefix rb [36, 36] = false) (hb : braceL rb = true) :
    WRel env M s (cutBr (rb.drop 2)).2.1 (acc ++ valueL env (cutBr (rb.drop 2)).1) := by
  match rb with
  | [] => simp [braceL, Lib.hasPrefix] at hb
  | [c] => simp [braceL, Lib.hasPrefix] at hb
  | c :: d :: r =>
    refine ⟨?_, ?_⟩
    · rw [h.1, wordL_cons, if_neg (by rw [hp]; simp), if_pos hb]; simp
    · have h2 := h.2
      have h3 := valueL_len env M hM (cutBr r).1
      have h4 := Nat.mul_le_mul_right M (cutBr_len r).2
      simp only [List.length_cons, Nat.add_mul] at h2
      simp; omega
theorem WRel.one {env : List (List UInt8 × List UInt8)} {M : Nat} {s r acc : List UInt8} {c : UInt8} (h : WRel env M s (c :: r) acc) (hM : 1 ≤ M) (hp : Lib.hasPrefix (c :: r) [36, 36] = false) (hb : braceL (c :: r) = false) :
    WRel env M s r (acc ++ [c]) := by
  refine ⟨?_, ?_⟩
  · rw [h.1, wordL_cons, if_neg (by rw [hp]; simp), if_neg (by rw [hb]; simp)]; simp
  · have h2 := h.2
    simp only [List.length_cons, Nat.add_mul] at h2
    simp; omega

/-- a text's words, parted by some bytes -/
def blanksTo (p : UInt8 → Bool) : List UInt8 → List UInt8 → List (List UInt8)
  | word, [] => if word = [] then [] else [word]
  | word, c :: r => if p c then (if word = [] then blanksTo p [] r else word :: blanksTo p [] r) else blanksTo p (word ++ [c]) r
def blank (c : UInt8) : Bool := ((c.toNat : Int) == 32) || ((c.toNat : Int) == 9)
def partsOf (l : List UInt8) : List (List UInt8) := blanksTo blank [] l

/-- one word's words -/
def oneL (env : List (List UInt8 × List UInt8)) (w : List UInt8) : List (List UInt8) :=
  match w with
  | 36 :: v => if varL v then partsOf (valueL env v) else [wordL env w]
  | _ => [wordL env w]
def varsL (l : List (List UInt8)) (env : List (List UInt8 × List UInt8)) : List (List UInt8) := l.flatMap (oneL env)
end Sp

end Go.Proofs.Ytcefnglmacpehaa
