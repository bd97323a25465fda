/-
  The numbers of a field, one after another; what comes next, found by going through years, months, days, hours, minutes, seconds: in plain Lean.
-/
import Derived.Test.YtpkpoglmmjaoeaaGreatDoorCh
namespace Go.Proofs.YtpkpoglmmjaoeaaGreatDoor
namespace Sp
def numsF (l : List PartD) (f : Nat) (a : Int) : List Int :=
  ((List.range 2200).map Int.ofNat).filter fun n => decide (lowF f ≤ n) && decide (n ≤ highF f) && decide (a ≤ n) && inB l f n
theorem field_range (f : Nat) : 0 ≤ lowF f ∧ highF f < 2200 := by
  unfold lowF highF
  constructor <;> split <;> decide
theorem nums_mem (l : List PartD) (f : Nat) (a n : Int) : n ∈ numsF l f a ↔ lowF f ≤ n ∧ n ≤ highF f ∧ a ≤ n ∧ inB l f n = true := by
  have h := field_range f
  unfold numsF
  rw [List.mem_filter]
  simp only [Bool.and_eq_true, decide_eq_true_eq, List.mem_map, List.mem_range]
  constructor
  · rintro ⟨_, ⟨⟨h1, h2⟩, h3⟩, h4⟩
    exact ⟨h1, h2, h3, h4⟩
  · rintro ⟨h1, h2, h3, h4⟩
    exact ⟨⟨n.toNat, by omega, by simp; omega⟩, ⟨⟨h1, h2⟩, h3⟩, h4⟩
theorem range_sorted (k : Nat) : ((List.range k).map Int.ofNat).Pairwise (· < ·) := by
  rw [List.pairwise_map]
  exact List.Pairwise.imp (fun h => by simpa using h) List.pairwise_lt_range
theorem nums_sorted (l : List PartD) (f : Nat) (a : Int) : (numsF l f a).Pairwise (· < ·) := List.Pairwise.sublist List.filter_sublist (range_sorted _)
/-- those below a number -/
def numsTo (l : List PartD) (f : Nat) (a n : Int) : List Int := (numsF l f a).filter fun x => decide (x < n)
theorem to_mem (l : List PartD) (f : Nat) (a n x : Int) : x ∈ numsTo l f a n ↔ (lowF f ≤ x ∧ x ≤ highF f ∧ a ≤ x ∧ inB l f x = true) ∧ x < n := by
  unfold numsTo
  rw [List.mem_filter, nums_mem, decide_eq_true_eq]
theorem to_sorted (l : List PartD) (f : Nat) (a n : Int) : (numsTo l f a n).Pairwise (· < ·) := List.Pairwise.sublist List.filter_sublist (nums_sorted l f a)
theorem to_none (l : List PartD) (f : Nat) (a n : Int) (h : n ≤ lowF f ∨ n ≤ a) : numsTo l f a n = [] := by
  unfold numsTo
  rw [List.filter_eq_nil_iff]
  intro x hx h2
  rw [nums_mem] at hx
  rw [decide_eq_true_eq] at h2
  omega
theorem to_all (l : List PartD) (f : Nat) (a n : Int) (h : highF f < n) : numsTo l f a n = numsF l f a := by
  unfold numsTo
  rw [List.filter_eq_self]
  intro x hx
  rw [nums_mem] at hx
  rw [decide_eq_true_eq]
  omega
theorem snoc_sorted {X : List Int} {n : Int} (h : X.Pairwise (· < ·)) (hn : ∀ x ∈ X, x < n) : (X ++ [n]).Pairwise (· < ·) := by
  rw [List.pairwise_append]
  exact ⟨h, List.pairwise_singleton _ _, fun a ha b hb => by rw [List.mem_singleton] at hb; subst hb; exact hn a ha⟩
theorem to_step (l : List PartD) (f : Nat) (a n : Int) (h1 : lowF f ≤ n) (h2 : n ≤ highF f) (h3 : a ≤ n) : numsTo l f a (n + 1) = if inB l f n then numsTo l f a n ++ [n] else numsTo l f a n := by
  split
  · rename_i hi
    refine sorted_eq _ _ (to_sorted _ _ _ _) (snoc_sorted (to_sorted _ _ _ _) (fun x hx => ((to_mem _ _ _ _ _).1 hx).2)) fun d => ?_
    rw [List.mem_append, List.mem_singleton, to_mem, to_mem]
    constructor
    · rintro ⟨g1, g2⟩
      by_cases e : d = n
      · exact .inr e
      · exact .inl ⟨g1, by omega⟩
    · rintro (⟨g1, g2⟩ | rfl)
      · exact ⟨g1, by omega⟩
      · exact ⟨⟨h1, h2, h3, hi⟩, by omega⟩
  · rename_i hi
    refine sorted_eq _ _ (to_sorted _ _ _ _) (to_sorted _ _ _ _) fun d => ?_
    rw [to_mem, to_mem]
    constructor
    · rintro ⟨g1, g2⟩
      refine ⟨g1, ?_⟩
      by_cases e : d = n
      · subst e
        exact absurd g1.2.2.2 hi
      · omega
    · rintro ⟨g1, g2⟩
      exact ⟨g1, by omega⟩
theorem filter_prefix (X : List Int) (h : X.Pairwise (· < ·)) (n : Int) : X.filter (fun x => decide (x < n)) <+: X := by
  induction X with
  | nil => exact List.prefix_rfl
  | cons x r ih =>
    obtain ⟨h1, h2⟩ := List.pairwise_cons.1 h
    by_cases e : x < n
    · rw [List.filter_cons_of_pos (by simpa using e)]
      exact List.prefix_cons_inj x |>.2 (ih h2)
    · rw [List.filter_cons_of_neg (by simpa using e), List.filter_eq_nil_iff.2 (fun y hy h3 => by
        have := h1 y hy
        rw [decide_eq_true_eq] at h3
        omega)]
      exact List.nil_prefix
theorem to_prefix (l : List PartD) (f : Nat) (a n : Int) : numsTo l f a n <+: numsF l f a := filter_prefix _ (nums_sorted l f a) n
/-- what is below the last one of a part that has come has come -/
theorem before {X pre : List Int} {x y : Int} (h : X.Pairwise (· < ·)) (hp : pre ++ [x] <+: X) (hy : y ∈ X) (hl : y < x) : y ∈ pre := by
  obtain ⟨r, hr⟩ := hp
  rw [← hr, List.append_assoc] at hy h
  rcases List.mem_append.1 hy with hy | hy
  · exact hy
  · have h2 := (List.pairwise_append.1 h).2.1
    simp only [List.singleton_append] at h2 hy
    rcases List.mem_cons.1 hy with rfl | hy
    · omega
    · have := (List.pairwise_cons.1 h2).1 y hy
      omega
/-- a second of a day -/
def timeB (c : CalD) (h m s : Int) : Bool := (inB c.hour 3 h && inB c.min 4 m) && inB c.sec 5 s
def MomentIs (c : CalD) (a v : Int) (ok : Bool) : Prop :=
  (ok = true ∧ a ≤ v ∧ (∃ h m s, (0 ≤ h ∧ h < 24) ∧ (0 ≤ m ∧ m < 60) ∧ (0 ≤ s ∧ s < 60) ∧ v = h * 3600 + m * 60 + s ∧ timeB c h m s = true) ∧ ∀ h m s, (0 ≤ h ∧ h < 24) → (0 ≤ m ∧ m < 60) → (0 ≤ s ∧ s < 60) → timeB c h m s = true → a ≤ h * 3600 + m * 60 + s → v ≤ h * 3600 + m * 60 + s) ∨
  (ok = false ∧ v = 0 ∧ ∀ h m s, (0 ≤ h ∧ h < 24) → (0 ≤ m ∧ m < 60) → (0 ≤ s ∧ s < 60) → timeB c h m s = true → h * 3600 + m * 60 + s < a)
/-- a day that a calendar has -/
def dayB (c : CalD) (y m d : Int) : Bool := (((inB c.year 0 y && inB c.month 1 m) && inB c.day 2 d) && okDay y m d) && wdayB c.days ((dayOf y m d + 5) % 7 + 1)
theorem match_parts (c : CalD) (t : Int) (hm : mayCal c = true) (h0 : 0 ≤ t) (h1 : t < 6311433600) :
    matchB c t = (dayB c (dateOf t).year (dateOf t).month (dateOf t).day && timeB c (t % 86400 / 3600) (t % 3600 / 60) (t % 60)) := by
  obtain ⟨e1, e2⟩ := day_of_date t h0 h1
  have ew : (dateOf t).wday = (t / 86400 + 5) % 7 + 1 := rfl
  have eh : (dateOf t).hour = t % 86400 / 3600 := rfl
  have em : (dateOf t).min = t % 3600 / 60 := rfl
  have es : (dateOf t).sec = t % 60 := rfl
  unfold matchB dayB timeB inDate
  rw [e1, e2, ew, hm, decide_eq_true h0, decide_eq_true h1, eh, em, es]
  generalize inB c.year 0 _ = a1
  generalize inB c.month 1 _ = a2
  generalize inB c.day 2 _ = a3
  generalize inB c.hour 3 _ = a4
  generalize inB c.min 4 _ = a5
  generalize inB c.sec 5 _ = a6
  generalize wdayB c.days _ = a7
  cases a1 <;> cases a2 <;> cases a3 <;> cases a4 <;> cases a5 <;> cases a6 <;> cases a7 <;> rfl
theorem match_at (c : CalD) (hm : mayCal c = true) (y mo d h m s : Int) (hd : dayB c y mo d = true) (hh : 0 ≤ h ∧ h < 24) (hmi : 0 ≤ m ∧ m < 60) (hs : 0 ≤ s ∧ s < 60) (ht : timeB c h m s = true) :
    matchB c (dayOf y mo d * 86400 + (h * 3600 + m * 60 + s)) = true := by
  have hok : okDay y mo d = true := by
    unfold dayB at hd
    simp only [Bool.and_eq_true] at hd
    exact hd.1.2
  have hr := dayOf_range y mo d hok
  obtain ⟨e1, e2, e3⟩ := date_of_day y mo d hok (h * 3600 + m * 60 + s) (by omega) (by omega)
  rw [match_parts c _ hm (by omega) (by omega), e1, e2, e3, hd]
  have a1 : (dayOf y mo d * 86400 + (h * 3600 + m * 60 + s)) % 86400 / 3600 = h := by omega
  have a2 : (dayOf y mo d * 86400 + (h * 3600 + m * 60 + s)) % 3600 / 60 = m := by omega
  have a3 : (dayOf y mo d * 86400 + (h * 3600 + m * 60 + s)) % 60 = s := by omega
  rw [a1, a2, a3, ht]
  rfl
/-- a second that a calendar has, as a day and a time of the day -/
theorem match_split (c : CalD) (t : Int) (h : matchB c t = true) : ∃ y mo d h m s, dayB c y mo d = true ∧ (0 ≤ h ∧ h < 24) ∧ (0 ≤ m ∧ m < 60) ∧ (0 ≤ s ∧ s < 60) ∧ timeB c h m s = true ∧ t = dayOf y mo d * 86400 + (h * 3600 + m * 60 + s) := by
  obtain ⟨h0, h1⟩ := match_time h
  have hm := match_may h
  rw [match_parts c t hm h0 h1, Bool.and_eq_true] at h
  obtain ⟨_, e2⟩ := day_of_date t h0 h1
  exact ⟨_, _, _, _, _, _, h.1, by omega, by omega, by omega, h.2, by rw [e2]; omega⟩
end Sp

end Go.Proofs.YtpkpoglmmjaoeaaGreatDoor
