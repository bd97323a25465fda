/-
  Plain: merging two sorted rows, stably; putting one behind the other; halves that are merged apart.
-/
import Derived.Test.YtkgogenmhiclcaaGreatDoorKa
namespace Go.Proofs.YtkgogenmhiclcaaGreatDoor

namespace Mg
abbrev C := RC
/-- those of Y that are strictly ahead come ahead of X's -/
noncomputable def merge : List C → List C → List C
  | [], Y => Y
  | x :: X, [] => x :: X
  | x :: X, y :: Y => if y.1 < x.1 then y :: merge (x :: X) Y else x :: merge X (y :: Y)
termination_by X Y => X.length + Y.length
/-- sorted by time -/
noncomputable def Up : List C → Prop
  | [] => True
  | x :: r => (∀ y ∈ r, x.1 ≤ y.1) ∧ Up r
/-- one put behind those that are no later -/
noncomputable def ins (c : C) : List C → List C
  | [] => [c]
  | x :: r => if c.1 < x.1 then c :: x :: r else x :: ins c r
noncomputable def isort (L : List C) : List C := L.foldl (fun acc c => ins c acc) []

theorem merge_nil (X : List C) : merge X [] = X := by cases X <;> simp [merge]
theorem nil_merge (Y : List C) : merge [] Y = Y := by simp [merge]
theorem merge_len : ∀ (X Y : List C), (merge X Y).length = X.length + Y.length
  | [], Y => by simp [merge]
  | x :: X, [] => by simp [merge]
  | x :: X, y :: Y => by
    rw [merge]
    split
    · simp only [List.length_cons, merge_len (x :: X) Y]; omega
    · simp only [List.length_cons, merge_len X (y :: Y)]; omega
termination_by X Y => X.length + Y.length
theorem merge_mem (c : C) : ∀ (X Y : List C), c ∈ merge X Y ↔ c ∈ X ∨ c ∈ Y
  | [], Y => by simp [merge]
  | x :: X, [] => by simp [merge]
  | x :: X, y :: Y => by
    rw [merge]
    split
    · rw [List.mem_cons, merge_mem c (x :: X) Y, List.mem_cons (a := c) (b := y)]
      constructor
      · rintro (h | h | h)
        · exact .inr (.inl h)
        · exact .inl h
        · exact .inr (.inr h)
      · rintro (h | h | h)
        · exact .inr (.inl h)
        · exact .inl h
        · exact .inr (.inr h)
    · rw [List.mem_cons, merge_mem c X (y :: Y), List.mem_cons (a := c) (b := x)]
      constructor
      · rintro (h | h | h)
        · exact .inl (.inl h)
        · exact .inl (.inr h)
        · exact .inr h
      · rintro ((h | h) | h)
        · exact .inl h
        · exact .inr (.inl h)
        · exact .inr (.inr h)
termination_by X Y => X.length + Y.length
theorem merge_up : ∀ (X Y : List C), Up X → Up Y → Up (merge X Y)
  | [], Y, _, hY => by rw [nil_merge]; exact hY
  | x :: X, [], hX, _ => by rw [merge_nil]; exact hX
  | x :: X, y :: Y, hX, hY => by
    rw [merge]
    split
    · rename_i h
      refine ⟨fun z hz => ?_, merge_up (x :: X) Y hX hY.2⟩
      rcases (merge_mem z (x :: X) Y).1 hz with hz | hz
      · rcases List.mem_cons.1 hz with e | hz
        · subst e; omega
        · have := hX.1 z hz; omega
      · exact hY.1 z hz
    · rename_i h
      refine ⟨fun z hz => ?_, merge_up X (y :: Y) hX.2 hY⟩
      rcases (merge_mem z X (y :: Y)).1 hz with hz | hz
      · exact hX.1 z hz
      · rcases List.mem_cons.1 hz with e | hz
        · subst e; omega
        · have := hY.1 z hz; omega
termination_by X Y => X.length + Y.length
/-- two halves that lie apart are merged apart -/
theorem merge_app : ∀ (X1 X2 Y1 Y2 : List C), (∀ x ∈ X1, ∀ y ∈ Y2, x.1 ≤ y.1) → (∀ y ∈ Y1, ∀ x ∈ X2, y.1 < x.1) → merge (X1 ++ X2) (Y1 ++ Y2) = merge X1 Y1 ++ merge X2 Y2
  | [], X2, [], Y2, _, _ => by simp [merge]
  | [], [], y :: Y1, Y2, _, _ => by simp [merge]
  | [], x2 :: X2, y :: Y1, Y2, h1, h2 => by
    have e : y.1 < x2.1 := h2 y (by simp) x2 (by simp)
    have ih := merge_app [] (x2 :: X2) Y1 Y2 h1 (fun z hz => h2 z (by simp [hz]))
    rw [List.nil_append] at ih
    rw [nil_merge] at ih ⊢
    rw [List.nil_append, List.cons_append, merge, if_pos e, ih, List.cons_append]
  | x :: X1, X2, [], [], _, _ => by simp [merge_nil]
  | x :: X1, X2, [], y2 :: Y2, h1, h2 => by
    have e : ¬ y2.1 < x.1 := by have := h1 x (by simp) y2 (by simp); omega
    have ih := merge_app X1 X2 [] (y2 :: Y2) (fun z hz => h1 z (by simp [hz])) h2
    rw [List.nil_append] at ih
    rw [merge_nil] at ih ⊢
    rw [List.nil_append, List.cons_append, merge, if_neg e, ih, List.cons_append]
  | x :: X1, X2, y :: Y1, Y2, h1, h2 => by
    rw [List.cons_append, List.cons_append, merge, merge]
    by_cases e : y.1 < x.1
    · have ih := merge_app (x :: X1) X2 Y1 Y2 h1 (fun z hz => h2 z (by simp [hz]))
      rw [if_pos e, if_pos e, ← List.cons_append, ih, List.cons_append]
    · have ih := merge_app X1 X2 (y :: Y1) Y2 (fun z hz => h1 z (by simp [hz])) h2
      rw [if_neg e, if_neg e, ← List.cons_append, ih, List.cons_append]
termination_by X1 _ Y1 _ => X1.length + Y1.length
/-- one behind a merged row is one behind the second one -/
theorem ins_merge (c : C) : ∀ (X Y : List C), Up X → Up Y → ins c (merge X Y) = merge X (ins c Y)
  | [], Y, _, _ => by rw [nil_merge, nil_merge]
  | x :: X, [], hX, hY => by
    rw [merge_nil, ins, ins, merge, merge_nil]
    by_cases e : c.1 < x.1
    · rw [if_pos e, if_pos e]
    · have ih := ins_merge c X [] hX.2 hY
      rw [merge_nil, ins] at ih
      rw [if_neg e, if_neg e, ih]
  | x :: X, y :: Y, hX, hY => by
    rw [merge, ins]
    by_cases e : y.1 < x.1
    · rw [if_pos e, ins]
      by_cases f : c.1 < y.1
      · have g : c.1 < x.1 := by omega
        rw [if_pos f, if_pos f, merge, if_pos g, merge, if_pos e]
      · have ih := ins_merge c (x :: X) Y hX hY.2
        rw [if_neg f, if_neg f, ih, merge, if_pos e]
    · rw [if_neg e, ins]
      by_cases f : c.1 < y.1
      · rw [if_pos f]
        by_cases g : c.1 < x.1
        · rw [if_pos g, merge, if_pos g, merge, if_neg e]
        · have ih := ins_merge c X (y :: Y) hX.2 hY
          rw [ins, if_pos f] at ih
          rw [if_neg g, merge, if_neg g, ih]
      · have g : ¬ c.1 < x.1 := by omega
        have ih := ins_merge c X (y :: Y) hX.2 hY
        rw [ins, if_neg f] at ih
        rw [if_neg g, if_neg f, merge, if_neg e, ih]
termination_by X Y => X.length + Y.length
theorem ins_mem (c z : C) : ∀ L : List C, z ∈ ins c L ↔ z = c ∨ z ∈ L
  | [] => by simp [ins]
  | x :: r => by
    rw [ins]
    split
    · simp
    · rw [List.mem_cons, ins_mem c z r, List.mem_cons]
      constructor
      · rintro (h | h | h)
        · exact .inr (.inl h)
        · exact .inl h
        · exact .inr (.inr h)
      · rintro (h | h | h)
        · exact .inr (.inl h)
        · exact .inl h
        · exact .inr (.inr h)
theorem ins_up (c : C) : ∀ L : List C, Up L → Up (ins c L)
  | [], _ => ⟨by simp, trivial⟩
  | x :: r, h => by
    rw [ins]
    split
    · rename_i e
      refine ⟨fun z hz => ?_, h⟩
      rcases List.mem_cons.1 hz with e2 | hz
      · subst e2; omega
      · have := h.1 z hz; omega
    · rename_i e
      refine ⟨fun z hz => ?_, ins_up c r h.2⟩
      rcases (ins_mem c z r).1 hz with e2 | hz
      · subst e2; omega
      · exact h.1 z hz
theorem isort_app (X : List C) (c : C) : isort (X ++ [c]) = ins c (isort X) := by simp [isort, List.foldl_append]
theorem up_isort (L : List C) : Up (isort L) := by
  have h : ∀ (r acc : List C), Up acc → Up (r.foldl (fun acc c => ins c acc) acc) := by
    intro r
    induction r with
    | nil => intro acc h; exact h
    | cons c r ih => intro acc h; exact ih _ (ins_up c acc h)
  exact h L [] trivial
/-- two rows put in order, merged, are both put in order -/
theorem merge_isort (X Y : List C) : merge (isort X) (isort Y) = isort (X ++ Y) := by
  induction h : Y.length generalizing Y with
  | zero =>
    have : Y = [] := List.eq_nil_of_length_eq_zero h
    subst this
    rw [List.append_nil]; exact merge_nil _
  | succ n ih =>
    obtain ⟨Z, c, rfl⟩ : ∃ Z c, Y = Z ++ [c] := ⟨Y.dropLast, Y.getLast (by intro e; subst e; simp at h), (List.dropLast_concat_getLast _).symm⟩
    have hz : Z.length = n := by simp at h; exact h
    rw [← List.append_assoc, isort_app, isort_app, ← ih Z hz, ins_merge c _ _ (up_isort X) (up_isort Z)]
end Mg

end Go.Proofs.YtkgogenmhiclcaaGreatDoor
