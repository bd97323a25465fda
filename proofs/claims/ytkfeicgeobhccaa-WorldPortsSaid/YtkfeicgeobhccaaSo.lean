/-
  Plain: who calls two ports, in the order of their times, parted by port.
-/
import Derived.Test.YtkfeicgeobhccaaSk
namespace Go.Proofs.Ytkfeicgeobhccaa

namespace Mg
theorem ins_filter (f : C → Bool) (c : C) : ∀ S : List C, Up S → (ins c S).filter f = if f c then ins c (S.filter f) else S.filter f := by
  intro S
  induction S with
  | nil => intro _; by_cases h : f c = true <;> simp [ins, h]
  | cons x r ih =>
    intro hU
    by_cases hlt : c.1 < x.1
    · rw [ins, if_pos hlt, List.filter_cons]
      by_cases hc : f c = true
      · rw [if_pos hc, if_pos hc, ins_here (fun y hy => ?_)]
        rcases List.mem_cons.1 (List.mem_filter.1 hy).1 with rfl | hy
        · exact hlt
        · have := hU.1 y hy; omega
      · rw [if_neg hc, if_neg hc]
    · rw [ins, if_neg hlt, List.filter_cons, ih hU.2, List.filter_cons]
      by_cases hx : f x = true
      · rw [if_pos hx]
        by_cases hc : f c = true
        · rw [if_pos hc, if_pos hc, if_pos hx, ins, if_neg hlt]
        · rw [if_neg hc, if_neg hc, if_pos hx]
      · rw [if_neg hx]
        by_cases hc : f c = true
        · rw [if_pos hc, if_pos hc, if_neg hx]
        · rw [if_neg hc, if_neg hc, if_neg hx]
theorem isort_filter (f : C → Bool) (L : List C) : (isort L).filter f = isort (L.filter f) := by
  have h : ∀ (n : Nat) (L : List C), L.length = n → (isort L).filter f = isort (L.filter f) := by
    intro n
    induction n with
    | zero =>
      intro L hL
      obtain rfl := List.eq_nil_of_length_eq_zero hL
      rfl
    | succ n ih =>
      intro L hL
      obtain ⟨T, c, rfl⟩ : ∃ T c, L = T ++ [c] := ⟨L.dropLast, L.getLast (by intro e; subst e; simp at hL), (List.dropLast_concat_getLast _).symm⟩
      have hT : T.length = n := by simp at hL; exact hL
      rw [isort_app, ins_filter f c _ (up_isort T), ih T hT, List.filter_append]
      by_cases hc : f c = true
      · rw [if_pos hc, List.filter_cons, if_pos hc, List.filter_nil, isort_app]
      · rw [if_neg hc, List.filter_cons, if_neg hc, List.filter_nil, List.append_nil]
  exact h _ L rfl
end Mg

/-- the calls of one port -/
def portL (p : Int) (l : List Mg.C) : List Mg.C := l.filter fun c => c.2.1 == p
def elseL (p : Int) (l : List Mg.C) : List Mg.C := l.filter fun c => !(c.2.1 == p)
theorem ports_one (p q : Int) (l : List Mg.C) : portL p (Mg.isort (callsF [p, q, p] l)) = Mg.isort (callsF [p] l) := by
  unfold portL
  rw [Mg.isort_filter]
  unfold callsF
  rw [List.filter_filter]
  congr 1
  refine List.filter_congr fun c _ => ?_
  simp only [hasI, List.any_cons, List.any_nil, Bool.or_false]
  cases (c.2.1 == p) <;> cases (c.2.1 == q) <;> rfl
theorem ports_two (p q : Int) (hpq : p ≠ q) (l : List Mg.C) : elseL p (Mg.isort (callsF [p, q, p] l)) = Mg.isort (callsF [q] l) := by
  unfold elseL
  rw [Mg.isort_filter]
  unfold callsF
  rw [List.filter_filter]
  congr 1
  refine List.filter_congr fun c _ => ?_
  simp only [hasI, List.any_cons, List.any_nil, Bool.or_false]
  by_cases h1 : c.2.1 = p
  · have h2 : ¬ c.2.1 = q := fun e => hpq (h1.symm.trans e)
    simp [h1, hpq]
  · have : (c.2.1 == p) = false := by simp [h1]
    rw [this]; cases (c.2.1 == q) <;> rfl
theorem portL_snoc (p : Int) (l : List Mg.C) (k : Nat) (h : k < l.length) (hp : (l[k].2.1 == p) = true) : portL p (l.take (k + 1)) = portL p (l.take k) ++ [l[k]] ∧ elseL p (l.take (k + 1)) = elseL p (l.take k) := by
  have e : l.take (k + 1) = l.take k ++ [l[k]] := by rw [List.take_add_one, List.getElem?_eq_getElem h]; rfl
  rw [e]
  generalize l.take k = T
  generalize l[k] = c at *
  unfold portL elseL
  rw [List.filter_append, List.filter_append, List.filter_cons, List.filter_cons, if_pos (by exact hp), if_neg (by rw [hp]; decide), List.filter_nil, List.filter_nil, List.append_nil]
  exact ⟨rfl, rfl⟩
theorem elseL_snoc (p : Int) (l : List Mg.C) (k : Nat) (h : k < l.length) (hp : (l[k].2.1 == p) = false) : portL p (l.take (k + 1)) = portL p (l.take k) ∧ elseL p (l.take (k + 1)) = elseL p (l.take k) ++ [l[k]] := by
  have e : l.take (k + 1) = l.take k ++ [l[k]] := by rw [List.take_add_one, List.getElem?_eq_getElem h]; rfl
  rw [e]
  generalize l.take k = T
  generalize l[k] = c at *
  unfold portL elseL
  rw [List.filter_append, List.filter_append, List.filter_cons, List.filter_cons, if_neg (by rw [hp]; decide), if_pos (by rw [hp]; decide), List.filter_nil, List.filter_nil, List.append_nil]
  exact ⟨rfl, rfl⟩

end Go.Proofs.Ytkfeicgeobhccaa
