/-
  What comes next, out of days gone through in order: in plain Lean.
-/
import Derived.Test.YtpkpoglmmjaoeaaGreatDoorCx
namespace Go.Proofs.YtpkpoglmmjaoeaaGreatDoor
namespace Sp
/-- no second of a day from one on is a calendar's -/
def NoneD (c : CalD) (a y m d : Int) : Prop := ∀ h mi s, (0 ≤ h ∧ h < 24) → (0 ≤ mi ∧ mi < 60) → (0 ≤ s ∧ s < 60) → timeB c h mi s = true → dayOf y m d * 86400 + (h * 3600 + mi * 60 + s) < a
def LessD (y' m' d' y m d : Int) : Prop := y' < y ∨ (y' = y ∧ (m' < m ∨ (m' = m ∧ d' < d)))
theorem dayB_ok {c : CalD} {y m d : Int} (h : dayB c y m d = true) : okDay y m d = true := by
  unfold dayB at h
  simp only [Bool.and_eq_true] at h
  exact h.1.2
theorem lex_three (y' m' d' y m d : Int) : LessD y' m' d' y m d ∨ (y' = y ∧ m' = m ∧ d' = d) ∨ LessD y m d y' m' d' := by
  unfold LessD; omega
theorem next_found (c : CalD) (hm : mayCal c = true) (after a y m d v : Int) (ha : a = max (after + 1) 0) (hd : dayB c y m d = true) (hs : MomentIs c (a - dayOf y m d * 86400) v true)
    (hb : ∀ y' m' d', dayB c y' m' d' = true → LessD y' m' d' y m d → NoneD c a y' m' d') : NextIs c after (dayOf y m d * 86400 + v) true := by
  rcases hs with ⟨_, h1, ⟨h, mi, s, r1, r2, r3, rfl, ht⟩, hmin⟩ | ⟨h0, _⟩
  · refine .inl ⟨rfl, by omega, match_at c hm y m d h mi s hd r1 r2 r3 ht, fun t hat htv => ?_⟩
    cases hx : matchB c t with
    | false => rfl
    | true =>
      exfalso
      obtain ⟨t0, _⟩ := match_time hx
      obtain ⟨y', m', d', h', mi', s', hd', q1, q2, q3, ht', rfl⟩ := match_split c t hx
      rcases lex_three y' m' d' y m d with hl | ⟨rfl, rfl, rfl⟩ | hl
      · have := hb y' m' d' hd' hl h' mi' s' q1 q2 q3 ht'
        omega
      · have := hmin h' mi' s' q1 q2 q3 ht' (by omega)
        omega
      · have := day_less y m d y' m' d' (dayB_ok hd) (dayB_ok hd') hl
        omega
  · cases h0
theorem next_none (c : CalD) (after a : Int) (ha : a = max (after + 1) 0) (hb : ∀ y m d, dayB c y m d = true → NoneD c a y m d) : NextIs c after 0 false := by
  refine .inr ⟨rfl, rfl, fun t hat => ?_⟩
  cases hx : matchB c t with
  | false => rfl
  | true =>
    exfalso
    obtain ⟨t0, _⟩ := match_time hx
    obtain ⟨y', m', d', h', mi', s', hd', q1, q2, q3, ht', rfl⟩ := match_split c t hx
    have := hb y' m' d' hd' h' mi' s' q1 q2 q3 ht'
    omega
/-- a calendar that may not be, or nothing is left -/
theorem next_not (c : CalD) (after : Int) (h : mayCal c = false ∨ 6311433599 ≤ after) : NextIs c after 0 false := by
  refine .inr ⟨rfl, rfl, fun t hat => ?_⟩
  cases hx : matchB c t with
  | false => rfl
  | true =>
    exfalso
    rcases h with h | h
    · rw [match_may hx] at h; cases h
    · have := match_time hx; omega
/-- a day of a year that is over -/
theorem old_year (c : CalD) (a y m d : Int) (h0 : 0 ≤ a) (h1 : a < 6311433600) (hd : dayB c y m d = true) (hy : y < (dateOf a).year) : NoneD c a y m d := by
  intro h mi s r1 r2 r3 _
  obtain ⟨e1, e2⟩ := day_of_date a h0 h1
  have := day_less y m d _ _ _ (dayB_ok hd) e1 (.inl hy)
  rw [e2] at this
  omega
/-- a day that is over, and one that moment finds nothing of -/
theorem none_over (c : CalD) (a y m d : Int) (h : dayOf y m d * 86400 + 86400 ≤ a) : NoneD c a y m d := by
  intro h' mi s r1 r2 r3 _
  omega
theorem none_moment (c : CalD) (a y m d v : Int) (h : MomentIs c (a - dayOf y m d * 86400) v false) : NoneD c a y m d := by
  rcases h with ⟨h, _⟩ | ⟨_, _, h⟩
  · cases h
  · intro h' mi s r1 r2 r3 ht
    have := h h' mi s r1 r2 r3 ht
    omega
end Sp

end Go.Proofs.YtpkpoglmmjaoeaaGreatDoor
