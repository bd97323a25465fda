/-
  Days of years and months, in plain Lean.
-/
import Derived.Below
namespace Go.Proofs.YtpkpoglmmjaoeaaGreatDoor
namespace Sp
structure DateD where
  year : Int
  month : Int
  day : Int
  hour : Int
  min : Int
  sec : Int
  wday : Int
def leapB (y : Int) : Bool := (y % 4 == 0) && ((y % 100 != 0) || (y % 400 == 0))
def longY (y : Int) : Int := if leapB y then 366 else 365
def dimB (y m : Int) : Int :=
  if m = 1 ∨ m = 3 ∨ m = 5 ∨ m = 7 ∨ m = 8 ∨ m = 10 ∨ m = 12 then 31 else if m = 4 ∨ m = 6 ∨ m = 9 ∨ m = 11 then 30 else if m = 2 then (if leapB y then 29 else 28) else 0
/-- the days of so many years; of so many months of a year -/
def ysum : Nat → Int
  | 0 => 0
  | k + 1 => ysum k + longY (2000 + (k : Int))
def msum (y : Int) : Nat → Int
  | 0 => 0
  | k + 1 => msum y k + dimB y ((k : Int) + 1)
theorem long_pos (y : Int) : 365 ≤ longY y ∧ longY y ≤ 366 := by unfold longY; split <;> omega
theorem dim_pos (y m : Int) (h1 : 1 ≤ m) (h2 : m ≤ 12) : 28 ≤ dimB y m ∧ dimB y m ≤ 31 := by
  unfold dimB
  split
  · omega
  · split
    · omega
    · rw [if_pos (by omega)]
      split <;> omega
theorem dim_all (y m : Int) : 0 ≤ dimB y m ∧ dimB y m ≤ 31 := by
  unfold dimB
  split
  · omega
  · split
    · omega
    · split
      · split <;> omega
      · omega
theorem msum_12 (y : Int) : msum y 12 = longY y := by
  simp only [msum, longY]
  unfold dimB
  cases leapB y <;> simp
theorem ysum_200 : ysum 200 = 73049 := by decide +kernel
theorem ysum_step (k : Nat) : ysum k + 365 ≤ ysum (k + 1) ∧ ysum (k + 1) ≤ ysum k + 366 := by
  have := long_pos (2000 + (k : Int))
  rw [ysum]; omega
theorem ysum_up (k : Nat) : ysum k ≤ ysum (k + 1) := by have := ysum_step k; omega
theorem ysum_le : ∀ (a b : Nat), a ≤ b → ysum a ≤ ysum b := by
  intro a b h
  induction h with
  | refl => exact Int.le_refl _
  | step h ih => exact Int.le_trans ih (ysum_up _)
theorem msum_step (y : Int) (k : Nat) : msum y k ≤ msum y (k + 1) := by
  have := dim_all y ((k : Int) + 1)
  rw [msum]; omega
theorem msum_le (y : Int) : ∀ (a b : Nat), a ≤ b → msum y a ≤ msum y b := by
  intro a b h
  induction h with
  | refl => exact Int.le_refl _
  | step h ih => exact Int.le_trans ih (msum_step y _)
theorem ysum_nonneg (k : Nat) : 0 ≤ ysum k := ysum_le 0 k (Nat.zero_le _)
theorem msum_nonneg (y : Int) (k : Nat) : 0 ≤ msum y k := msum_le y 0 k (Nat.zero_le _)
/-- the day D lies in the year 2000 + k, in its month m + 1 -/
structure IsDay (D : Int) (k m : Nat) : Prop where
  y1 : ysum k ≤ D
  y2 : D < ysum (k + 1)
  m1 : msum (2000 + (k : Int)) m ≤ D - ysum k
  m2 : D - ysum k < msum (2000 + (k : Int)) (m + 1)
theorem IsDay.unique {D : Int} {k m k' m' : Nat} (h : IsDay D k m) (h' : IsDay D k' m') : k = k' ∧ m = m' := by
  have e : k = k' := by
    rcases Nat.lt_trichotomy k k' with h1 | h1 | h1
    · have := ysum_le (k + 1) k' h1; have := h.y2; have := h'.y1; omega
    · exact h1
    · have := ysum_le (k' + 1) k h1; have := h'.y2; have := h.y1; omega
  subst e
  refine ⟨rfl, ?_⟩
  rcases Nat.lt_trichotomy m m' with h1 | h1 | h1
  · have := msum_le (2000 + (k : Int)) (m + 1) m' h1; have := h.m2; have := h'.m1; omega
  · exact h1
  · have := msum_le (2000 + (k : Int)) (m' + 1) m h1; have := h'.m2; have := h.m1; omega
theorem IsDay.month {D : Int} {k m : Nat} (h : IsDay D k m) : m < 12 := by
  rcases Nat.lt_or_ge m 12 with h1 | h1
  · exact h1
  · have h2 := msum_le (2000 + (k : Int)) 12 m h1
    rw [msum_12] at h2
    have := h.m1; have := h.y2
    rw [ysum] at this
    omega
theorem IsDay.year {D : Int} {k m : Nat} (h : IsDay D k m) (hD : D < 73049) : k < 200 := by
  rcases Nat.lt_or_ge k 200 with h1 | h1
  · exact h1
  · have h2 := ysum_le 200 k h1
    rw [ysum_200] at h2
    have := h.y1
    omega
theorem find_y : ∀ (n : Nat) (D : Int), 0 ≤ D → D < ysum n → ∃ k, k < n ∧ ysum k ≤ D ∧ D < ysum (k + 1)
  | 0, D, h0, h1 => by rw [ysum] at h1; omega
  | n + 1, D, h0, h1 => by
    by_cases h : D < ysum n
    · obtain ⟨k, hk, h2⟩ := find_y n D h0 h
      exact ⟨k, by omega, h2⟩
    · exact ⟨n, by omega, by omega, h1⟩
theorem find_m (y : Int) : ∀ (n : Nat) (D : Int), 0 ≤ D → D < msum y n → ∃ k, k < n ∧ msum y k ≤ D ∧ D < msum y (k + 1)
  | 0, D, h0, h1 => by rw [msum] at h1; omega
  | n + 1, D, h0, h1 => by
    by_cases h : D < msum y n
    · obtain ⟨k, hk, h2⟩ := find_m y n D h0 h
      exact ⟨k, by omega, h2⟩
    · exact ⟨n, by omega, by omega, h1⟩
theorem isDay_has (D : Int) (h0 : 0 ≤ D) (h1 : D < 73049) : ∃ k m, k < 200 ∧ m < 12 ∧ IsDay D k m := by
  obtain ⟨k, hk, hy1, hy2⟩ := find_y 200 D h0 (by rw [ysum_200]; exact h1)
  have hl : D - ysum k < msum (2000 + (k : Int)) 12 := by rw [msum_12]; rw [ysum] at hy2; omega
  obtain ⟨m, hm, hm1, hm2⟩ := find_m (2000 + (k : Int)) 12 (D - ysum k) (by omega) hl
  exact ⟨k, m, hk, hm, ⟨hy1, hy2, hm1, hm2⟩⟩
open Classical in
/-- the year and the month of a day -/
noncomputable def ymOf (D : Int) : Nat × Nat := if h : ∃ p : Nat × Nat, IsDay D p.1 p.2 then h.choose else (0, 0)
theorem ymOf_of {D : Int} {k m : Nat} (h : IsDay D k m) : ymOf D = (k, m) := by
  have hx : ∃ p : Nat × Nat, IsDay D p.1 p.2 := ⟨(k, m), h⟩
  unfold ymOf
  rw [dif_pos hx]
  obtain ⟨a, b⟩ := hx.choose_spec.unique h
  exact Prod.ext a b
theorem ymOf_is (D : Int) (h0 : 0 ≤ D) (h1 : D < 73049) : IsDay D (ymOf D).1 (ymOf D).2 := by
  obtain ⟨k, m, _, _, h⟩ := isDay_has D h0 h1
  rw [ymOf_of h]; exact h
/-- the date of a second -/
noncomputable def dateOf (t : Int) : DateD :=
  let D := t / 86400
  let k := (ymOf D).1
  let m := (ymOf D).2
  ⟨2000 + (k : Int), (m : Int) + 1, D - ysum k - msum (2000 + (k : Int)) m + 1, t % 86400 / 3600, t % 3600 / 60, t % 60, (D + 5) % 7 + 1⟩
/-- the day of a date -/
def dayOf (y m d : Int) : Int := ysum (y - 2000).toNat + msum y (m - 1).toNat + (d - 1)
def okDay (y m d : Int) : Bool := decide (2000 ≤ y) && decide (y ≤ 2199) && (decide (1 ≤ m) && decide (m ≤ 12)) && (decide (1 ≤ d) && decide (d ≤ dimB y m))
theorem dayOf_is (y m d : Int) (h : okDay y m d = true) : IsDay (dayOf y m d) (y - 2000).toNat (m - 1).toNat := by
  unfold okDay at h
  simp only [Bool.and_eq_true, decide_eq_true_eq] at h
  obtain ⟨⟨⟨h1, h2⟩, h3, h4⟩, h5, h6⟩ := h
  have ey : (2000 : Int) + ((y - 2000).toNat : Int) = y := by omega
  have em : (((m - 1).toNat : Nat) : Int) + 1 = m := by omega
  have hm0 := msum_nonneg y (m - 1).toNat
  have hm1 : msum y ((m - 1).toNat + 1) = msum y (m - 1).toNat + dimB y m := by rw [msum, em]
  have hm2 := msum_le y ((m - 1).toNat + 1) 12 (by omega)
  rw [msum_12] at hm2
  have hy : ysum ((y - 2000).toNat + 1) = ysum (y - 2000).toNat + longY y := by rw [ysum, ey]
  unfold dayOf
  refine ⟨by omega, by omega, by rw [ey]; omega, by rw [ey, hm1]; omega⟩
theorem dayOf_range (y m d : Int) (h : okDay y m d = true) : 0 ≤ dayOf y m d ∧ dayOf y m d < 73049 := by
  have hi := dayOf_is y m d h
  unfold okDay at h
  simp only [Bool.and_eq_true, decide_eq_true_eq] at h
  have h1 := hi.y1
  have h2 := hi.y2
  have h3 := ysum_nonneg (y - 2000).toNat
  have h4 := ysum_le ((y - 2000).toNat + 1) 200 (by omega)
  rw [ysum_200] at h4
  omega
theorem date_of_day (y m d : Int) (h : okDay y m d = true) (s : Int) (hs : 0 ≤ s) (hs2 : s < 86400) :
    (dateOf (dayOf y m d * 86400 + s)).year = y ∧ (dateOf (dayOf y m d * 86400 + s)).month = m ∧ (dateOf (dayOf y m d * 86400 + s)).day = d := by
  have hi := dayOf_is y m d h
  have e : (dayOf y m d * 86400 + s) / 86400 = dayOf y m d := by omega
  unfold okDay at h
  simp only [Bool.and_eq_true, decide_eq_true_eq] at h
  have ey : (2000 : Int) + ((y - 2000).toNat : Int) = y := by omega
  unfold dateOf
  simp only [e, ymOf_of hi]
  refine ⟨ey, by omega, ?_⟩
  rw [ey]
  unfold dayOf
  omega
theorem day_of_date (t : Int) (h0 : 0 ≤ t) (h1 : t < 6311433600) :
    okDay (dateOf t).year (dateOf t).month (dateOf t).day = true ∧ dayOf (dateOf t).year (dateOf t).month (dateOf t).day = t / 86400 := by
  have hi := ymOf_is (t / 86400) (by omega) (by omega)
  have hk := hi.year (by omega)
  have hm := hi.month
  unfold dateOf
  simp only
  generalize (ymOf (t / 86400)).1 = k at *
  generalize (ymOf (t / 86400)).2 = m at *
  have ek : (2000 + (k : Int) - 2000).toNat = k := by omega
  have em : ((m : Int) + 1 - 1).toNat = m := by omega
  constructor
  · have h2 := hi.m2
    rw [msum] at h2
    have := hi.m1
    unfold okDay
    simp only [Bool.and_eq_true, decide_eq_true_eq]
    omega
  · unfold dayOf
    rw [ek, em]; omega
/-- days are in the order of their dates -/
theorem day_less (y m d y' m' d' : Int) (h : okDay y m d = true) (h' : okDay y' m' d' = true) (hl : y < y' ∨ (y = y' ∧ (m < m' ∨ (m = m' ∧ d < d')))) : dayOf y m d < dayOf y' m' d' := by
  have hi := dayOf_is y m d h
  have hi' := dayOf_is y' m' d' h'
  unfold okDay at h h'
  simp only [Bool.and_eq_true, decide_eq_true_eq] at h h'
  rcases hl with hl | ⟨rfl, hl | ⟨rfl, hl⟩⟩
  · have h1 := ysum_le ((y - 2000).toNat + 1) (y' - 2000).toNat (by omega)
    have := hi.y2; have := hi'.y1
    omega
  · have ey : (2000 : Int) + ((y - 2000).toNat : Int) = y := by omega
    have h1 := msum_le y ((m - 1).toNat + 1) (m' - 1).toNat (by omega)
    have h2 := hi.m2; have h3 := hi'.m1
    rw [ey] at h2 h3
    omega
  · unfold dayOf; omega
end Sp

end Go.Proofs.YtpkpoglmmjaoeaaGreatDoor
