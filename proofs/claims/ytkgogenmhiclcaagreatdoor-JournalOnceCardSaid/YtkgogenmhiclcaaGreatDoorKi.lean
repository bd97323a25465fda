/-
  Plain: the insertion sort of a stretch; a row in sorted blocks.
-/
import Derived.Test.YtkgogenmhiclcaaGreatDoorKg
namespace Go.Proofs.YtkgogenmhiclcaaGreatDoor
open Go.Sort

namespace Mg
theorem ltOf_cf (x y : C) : ltOf cfC x y = decide (x.1 < y.1) := by
  unfold ltOf
  have := cf_lt x y
  by_cases h : x.1 < y.1
  · simp [h, this.2 h]
  · have h2 : ¬ cfC x y < 0 := fun h3 => h (this.1 h3)
    simp [h, h2]
theorem up_snoc {S : List C} {x : C} (h : Up (S ++ [x])) : Up S ∧ ∀ y ∈ S, y.1 ≤ x.1 := by
  have := up_app h
  exact ⟨this.1, fun y hy => this.2.2 y hy x (by simp)⟩
theorem ins_last {S : List C} {c : C} (h : ∀ y ∈ S, ¬ c.1 < y.1) : ins c S = S ++ [c] := by
  induction S with
  | nil => rfl
  | cons x r ih =>
    rw [ins, if_neg (h x (by simp)), ih (fun y hy => h y (by simp [hy]))]; rfl
theorem ins_before {S : List C} {c x : C} (h : c.1 < x.1) : ins c (S ++ [x]) = ins c S ++ [x] := by
  induction S with
  | nil => simp [ins, h]
  | cons y r ih =>
    rw [List.cons_append, ins, ins]
    split
    · rfl
    · rw [ih]; rfl
theorem swp_mid (P : List C) (x c : C) (R : List C) : swp (P ++ [x] ++ [c] ++ R).toArray (P.length + 1) P.length = (P ++ [c] ++ [x] ++ R).toArray := by
  have h := swp_list2 P R x c
  have e1 : P ++ [x] ++ [c] ++ R = P ++ x :: c :: R := by simp
  have e2 : P ++ [c] ++ [x] ++ R = P ++ c :: x :: R := by simp
  rw [e1, e2]; exact h
theorem inner_eq (a : Nat) : ∀ (k : Nat) (P S : List C) (c : C) (R : List C), P.length = a → S.length = k → Up S → insInner (ltOf cfC) a (a + k) (P ++ S ++ [c] ++ R).toArray = (P ++ ins c S ++ R).toArray := by
  intro k
  induction k with
  | zero =>
    intro P S c R hP hS hU
    obtain rfl : S = [] := List.eq_nil_of_length_eq_zero hS
    have : insInner (ltOf cfC) a (a + 0) (P ++ [] ++ [c] ++ R).toArray = (P ++ [] ++ [c] ++ R).toArray := by
      cases a with
      | zero => rfl
      | succ a => rw [Nat.add_zero, insInner, if_neg (by simp)]
    rw [this]; simp [ins]
  | succ k ih =>
    intro P S c R hP hS hU
    obtain ⟨T, x, rfl⟩ : ∃ T x, S = T ++ [x] := ⟨S.dropLast, S.getLast (by intro e; subst e; simp at hS), (List.dropLast_concat_getLast _).symm⟩
    have hT : T.length = k := by simp at hS; exact hS
    have hu := up_snoc hU
    have hPT : (P ++ T).length = a + k := by simp; omega
    have e1 : (P ++ (T ++ [x]) ++ [c] ++ R).toArray[a + k]! = x := by
      have h := get_mid (P ++ T) (c :: R) x
      rw [hPT] at h
      have e : P ++ (T ++ [x]) ++ [c] ++ R = P ++ T ++ x :: c :: R := by simp
      rw [e]; exact h
    have e2 : (P ++ (T ++ [x]) ++ [c] ++ R).toArray[a + k + 1]! = c := by
      have h := get_mid (P ++ T ++ [x]) R c
      rw [List.length_append, hPT] at h
      have e : P ++ (T ++ [x]) ++ [c] ++ R = P ++ T ++ [x] ++ c :: R := by simp
      rw [e]; exact h
    rw [show a + (k + 1) = a + k + 1 from rfl, insInner, e1, e2, ltOf_cf]
    by_cases h : c.1 < x.1
    · rw [if_pos (by simp [h]; omega)]
      have hs := swp_mid (P ++ T) x c R
      rw [hPT] at hs
      have e3 : P ++ (T ++ [x]) ++ [c] ++ R = P ++ T ++ [x] ++ [c] ++ R := by simp
      have e4 : P ++ T ++ [c] ++ [x] ++ R = P ++ T ++ [c] ++ ([x] ++ R) := by simp
      rw [e3, hs, e4, ih P T c ([x] ++ R) hP hT hu.1, ins_before h]
      simp
    · rw [if_neg (by simp [h]), ins_last (fun y hy => ?_)]
      · simp
      · rcases List.mem_append.1 hy with hy | hy
        · have := hu.2 y hy; omega
        · simp at hy; subst hy; exact h
theorem outer_eq (a b : Nat) : ∀ (n : Nat) (P S T R : List C), T.length = n → P.length = a → 0 < S.length → a + S.length + n = b → Up S → insOuter (ltOf cfC) a b (a + S.length) (P ++ S ++ T ++ R).toArray = (P ++ T.foldl (fun acc c => ins c acc) S ++ R).toArray := by
  intro n
  induction n with
  | zero =>
    intro P S T R hT hP hS hb hU
    obtain rfl : T = [] := List.eq_nil_of_length_eq_zero hT
    rw [insOuter, if_neg (by omega)]; simp
  | succ n ih =>
    intro P S T R hT hP hS hb hU
    obtain ⟨c, T, rfl⟩ : ∃ c T', T = c :: T' := by cases T with | nil => simp at hT | cons c T => exact ⟨c, T, rfl⟩
    have hT : T.length = n := by simpa using hT
    have hl : (ins c S).length = S.length + 1 := by
      have : ∀ S : List C, (ins c S).length = S.length + 1 := by
        intro S
        induction S with
        | nil => rfl
        | cons x r ih => rw [ins]; split <;> simp [ih]
      exact this S
    have e : P ++ S ++ c :: T ++ R = P ++ S ++ [c] ++ (T ++ R) := by simp
    rw [insOuter, if_pos (by omega), e, inner_eq a S.length P S c (T ++ R) hP rfl hU]
    have := ih P (ins c S) T R hT hP (by omega) (by omega) (ins_up c S hU)
    rw [hl] at this
    rw [show a + S.length + 1 = a + (S.length + 1) from by omega, ← List.append_assoc, this]
    rfl
/-- the insertion sort of a stretch -/
theorem insertion_eq (P X R : List C) : insertionSort (ltOf cfC) (P ++ X ++ R).toArray P.length (P.length + X.length) = (P ++ isort X ++ R).toArray := by
  unfold insertionSort isort
  cases X with
  | nil =>
    rw [insOuter, if_neg (by simp)]; rfl
  | cons c T =>
    have e : P ++ c :: T ++ R = P ++ [c] ++ T ++ R := by simp
    rw [e]
    exact outer_eq P.length (P.length + (c :: T).length) T.length P [c] T R rfl rfl (by simp) (by simp; omega) ⟨by simp, trivial⟩
theorem isort_len (L : List C) : (isort L).length = L.length := by
  have : ∀ (r acc : List C), (r.foldl (fun acc c => ins c acc) acc).length = r.length + acc.length := by
    intro r
    induction r with
    | nil => intro acc; simp
    | cons c r ih =>
      intro acc
      have hl : (ins c acc).length = acc.length + 1 := by
        have : ∀ S : List C, (ins c S).length = S.length + 1 := by
          intro S
          induction S with
          | nil => rfl
          | cons x r ih => rw [ins]; split <;> simp [ih]
        exact this acc
      rw [List.foldl_cons, ih, hl, List.length_cons]; omega
  have h := this L []
  simpa [isort] using h
/-- a row whose blocks are sorted, each by itself -/
noncomputable def srt (k : Nat) (L : List C) : List C := if _h : L = [] ∨ k = 0 then [] else isort (L.take k) ++ srt k (L.drop k)
termination_by L.length
decreasing_by
  have h1 : L ≠ [] := fun e => _h (.inl e)
  have h2 : k ≠ 0 := fun e => _h (.inr e)
  have h3 := List.length_pos_iff.2 h1
  rw [List.length_drop]; omega
theorem srt_step (k : Nat) (hk : 0 < k) (L : List C) : srt k L = isort (L.take k) ++ srt k (L.drop k) := by
  by_cases h : L = []
  · subst h
    rw [srt, dif_pos (.inl rfl), List.take_nil, List.drop_nil, srt, dif_pos (.inl rfl)]; rfl
  · rw [srt, dif_neg (fun e => e.elim h (by omega))]
theorem srt_short (k : Nat) (hk : 0 < k) (L : List C) (h : L.length ≤ k) : srt k L = isort L := by
  rw [srt_step k hk, List.take_of_length_le h, List.drop_eq_nil_of_le h, srt, dif_pos (.inl rfl), List.append_nil]
theorem srt_len (k : Nat) (hk : 0 < k) : ∀ (n : Nat) (L : List C), L.length ≤ n → (srt k L).length = L.length := by
  intro n
  induction n with
  | zero =>
    intro L h
    obtain rfl : L = [] := List.eq_nil_of_length_eq_zero (by omega)
    rw [srt, dif_pos (.inl rfl)]
  | succ n ih =>
    intro L h
    by_cases hL : L = []
    · subst hL
      rw [srt, dif_pos (.inl rfl)]
    · have := List.length_pos_iff.2 hL
      rw [srt_step k hk, List.length_append, isort_len, List.length_take, ih _ (by rw [List.length_drop]; omega), List.length_drop]; omega
end Mg

end Go.Proofs.YtkgogenmhiclcaaGreatDoor
