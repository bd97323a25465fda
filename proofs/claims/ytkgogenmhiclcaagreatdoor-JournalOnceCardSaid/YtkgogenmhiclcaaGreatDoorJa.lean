/-
  Plain: a sorted row without those that are like the one ahead; one put in if none is like it.
-/
import Derived.Test.YtkgogenmhiclcaaGreatDoorKk
import Derived.Test.YtkgogenmhiclcaaGreatDoorIns2
namespace Go.Proofs.YtkgogenmhiclcaaGreatDoor

namespace Mg
/-- without those that are like the one ahead -/
def dd (p : C) : List C → List C
  | [] => []
  | y :: r => if y.1 = p.1 then dd y r else y :: dd y r
def dedup : List C → List C
  | [] => []
  | x :: r => x :: dd x r
/-- one put in, if none is like it -/
noncomputable def put (c : C) (D : List C) : List C := if D.any (fun d => decide (d.1 = c.1)) then D else ins c D
noncomputable def puts (L : List C) : List C := L.foldl (fun D c => put c D) []

theorem dd_snoc : ∀ (r : List C) (p z : C), dd p (r ++ [z]) = dd p r ++ (if z.1 = (r.getLastD p).1 then [] else [z])
  | [], p, z => by rw [List.nil_append, dd, dd, dd, List.nil_append]; rfl
  | y :: r, p, z => by
    simp only [List.cons_append, dd, List.getLastD_cons]
    rw [dd_snoc r y z]
    split <;> simp
theorem dedup_take (L : List C) (t : Nat) (h1 : 1 ≤ t) (ht : t < L.length) : dedup (L.take (t + 1)) = dedup (L.take t) ++ (if (L[t]).1 = (L[t - 1]'(by omega)).1 then [] else [L[t]]) := by
  rw [List.take_succ_eq_append_getElem ht]
  match L, ht with
  | x :: r, ht =>
    obtain ⟨s, rfl⟩ : ∃ s, t = s + 1 := ⟨t - 1, by omega⟩
    simp only [List.take_succ_cons, List.cons_append, dedup, List.getElem_cons_succ]
    rw [dd_snoc]
    have e : (r.take s).getLastD x = (x :: r)[s]'(by simp at ht; simp; omega) := by
      cases s with
      | zero => simp
      | succ q =>
        have hq : q < r.length := by simp at ht; omega
        rw [List.take_succ_eq_append_getElem hq, List.getLastD_concat, List.getElem_cons_succ]
    rw [e]
    rfl
theorem dedup_one (L : List C) (h : 1 ≤ L.length) : dedup (L.take 1) = L.take 1 := by
  match L, h with
  | x :: r, _ => simp [dedup, dd]
theorem dd_mem (z : C) : ∀ (r : List C) (p : C), z ∈ dd p r → z ∈ r
  | [], p, h => by simp [dd] at h
  | y :: r, p, h => by
    simp only [dd] at h
    split at h
    · exact List.mem_cons_of_mem _ (dd_mem z r y h)
    · rcases List.mem_cons.1 h with e | h
      · rw [e]; exact List.mem_cons_self
      · exact List.mem_cons_of_mem _ (dd_mem z r y h)
theorem any_false (c : C) (D : List C) (h : ∀ d ∈ D, c.1 < d.1) : D.any (fun d => decide (d.1 = c.1)) = false := by
  rw [List.any_eq_false]
  intro d hd
  have := h d hd
  simp; omega
theorem put_walk (c : C) : ∀ (r : List C) (x : C), Up (x :: r) → x.1 ≤ c.1 → x :: dd x (ins c r) = put c (x :: dd x r)
  | [], x, _, hc => by
    unfold put
    by_cases e : c.1 = x.1
    · simp [ins, dd, e]
    · have e2 : ¬ x.1 = c.1 := fun h => e h.symm
      have e3 : ¬ c.1 < x.1 := by omega
      simp [ins, dd, e, e2, e3]
  | y :: s, x, hU, hc => by
    have hxy := hU.1 y (by simp)
    have hys := hU.2.1
    by_cases hcy : c.1 < y.1
    · have e1 : ins c (y :: s) = c :: y :: s := by simp [ins, hcy]
      have e2 : dd c (y :: s) = y :: dd y s := by rw [dd, if_neg (by omega)]
      have e3 : dd x (y :: s) = y :: dd y s := by rw [dd, if_neg (by omega)]
      have hge : ∀ d ∈ y :: dd y s, c.1 < d.1 := by
        intro d hd
        rcases List.mem_cons.1 hd with e | hd
        · rw [e]; exact hcy
        · have := hys d (dd_mem d s y hd); omega
      rw [e1, e3, dd, e2]
      unfold put
      by_cases e : c.1 = x.1
      · rw [if_pos e, if_pos (by simp [e.symm])]
      · rw [if_neg e, List.any_cons, any_false c _ hge, if_neg (by simp; omega)]
        have e4 : ¬ c.1 < x.1 := by omega
        simp [ins, e4, hcy]
    · have e1 : ins c (y :: s) = y :: ins c s := by simp [ins, hcy]
      have ih := put_walk c s y hU.2 (by omega)
      rw [e1]
      unfold put at ih ⊢
      have e5 : ¬ c.1 < x.1 := by omega
      by_cases e : y.1 = x.1
      · rw [dd, if_pos e, dd, if_pos e]
        rw [List.any_cons] at ih ⊢
        rw [show decide (x.1 = c.1) = decide (y.1 = c.1) from by rw [e]]
        split at ih
        · rename_i hh
          rw [if_pos hh]
          injection ih with _ ih
          rw [ih]
        · rename_i hh
          rw [if_neg hh]
          rw [ins, if_neg hcy] at ih
          injection ih with _ ih
          rw [ih, ins, if_neg e5]
      · rw [dd, if_neg e, dd, if_neg e, ih, List.any_cons (a := x)]
        have e6 : decide (x.1 = c.1) = false := by simp; omega
        rw [e6, Bool.false_or]
        split
        · rfl
        · rw [ins, ins, if_neg hcy, if_neg e5, ins, if_neg hcy]
theorem dedup_ins (c : C) (X : List C) (h : Up X) : dedup (ins c X) = put c (dedup X) := by
  match X, h with
  | [], _ => simp [ins, dedup, dd, put]
  | x :: r, h =>
    by_cases hc : c.1 < x.1
    · have e1 : ins c (x :: r) = c :: x :: r := by simp [ins, hc]
      have e2 : dd c (x :: r) = x :: dd x r := by rw [dd, if_neg (by omega)]
      have hge : ∀ d ∈ x :: dd x r, c.1 < d.1 := by
        intro d hd
        rcases List.mem_cons.1 hd with e | hd
        · rw [e]; exact hc
        · have := h.1 d (dd_mem d r x hd); omega
      rw [e1, dedup, e2, dedup, put, any_false c _ hge]
      simp [ins, hc]
    · have e1 : ins c (x :: r) = x :: ins c r := by simp [ins, hc]
      rw [e1, dedup, dedup]
      exact put_walk c r x h (by omega)
theorem puts_snoc (L : List C) (c : C) : puts (L ++ [c]) = put c (puts L) := by simp [puts, List.foldl_append]
/-- the sorted row without like ones is what one gets by putting one in behind the other -/
theorem dedup_isort (L : List C) : dedup (isort L) = puts L := by
  suffices h : ∀ n, ∀ L : List C, L.length = n → dedup (isort L) = puts L from h _ L rfl
  intro n
  induction n with
  | zero =>
    intro L hL
    obtain rfl := List.eq_nil_of_length_eq_zero hL
    rfl
  | succ n ih =>
    intro L hL
    have hne : L ≠ [] := by intro e; rw [e] at hL; simp at hL
    rw [← List.dropLast_concat_getLast hne, isort_app, dedup_ins _ _ (up_isort _), puts_snoc, ih _ (by simp [hL])]
end Mg

end Go.Proofs.YtkgogenmhiclcaaGreatDoor
