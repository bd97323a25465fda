/-
  Calendars in plain Lean: whether one may be, whether it has a second, which one comes next.
-/
import Derived.Test.YtpkpoglmmjaoeaaGreatDoorCa
namespace Go.Proofs.YtpkpoglmmjaoeaaGreatDoor
namespace Sp
structure PartD where
  fr : Int
  to : Int
  st : Int
structure CalD where
  days : List Int
  year : List PartD
  month : List PartD
  day : List PartD
  hour : List PartD
  min : List PartD
  sec : List PartD
def CalD.field (c : CalD) : Nat → List PartD
  | 0 => c.year
  | 1 => c.month
  | 2 => c.day
  | 3 => c.hour
  | 4 => c.min
  | _ => c.sec
def CalD.put (c : CalD) (l : List PartD) : Nat → CalD
  | 0 => { c with year := l }
  | 1 => { c with month := l }
  | 2 => { c with day := l }
  | 3 => { c with hour := l }
  | 4 => { c with min := l }
  | _ => { c with sec := l }
def DateD.field (d : DateD) : Nat → Int
  | 0 => d.year
  | 1 => d.month
  | 2 => d.day
  | 3 => d.hour
  | 4 => d.min
  | _ => d.sec
def lowF : Nat → Int
  | 0 => 2000
  | 1 => 1
  | 2 => 1
  | _ => 0
def highF : Nat → Int
  | 0 => 2199
  | 1 => 12
  | 2 => 31
  | 3 => 23
  | _ => 59
def mayPartB (p : PartD) (f : Nat) : Bool :=
  if p.st < 0 ∨ 9999 < p.st then false
  else if p.fr = -1 then decide (p.to = -1)
  else if p.fr < lowF f ∨ highF f < p.fr then false
  else decide (p.to = -1) || (decide (p.fr ≤ p.to) && decide (p.to ≤ highF f))
def fromF (p : PartD) (f : Nat) : Int := if p.fr = -1 then lowF f else p.fr
def toF (p : PartD) (f : Nat) : Int := if p.fr = -1 then highF f else if p.to = -1 then (if p.st = 0 then p.fr else highF f) else p.to
def stepF (p : PartD) : Int := if p.st < 1 then 1 else p.st
def hasB (p : PartD) (f : Nat) (n : Int) : Bool := decide (fromF p f ≤ n) && decide (n ≤ toF p f) && decide ((n - fromF p f) % stepF p = 0)
def inB (l : List PartD) (f : Nat) (n : Int) : Bool := l.any fun p => hasB p f n
def mayDays : Int → List Int → Bool
  | _, [] => true
  | last, d :: r => if d ≤ last ∨ 7 < d then false else mayDays d r
def mayList (l : List PartD) (f : Nat) : Bool := decide (1 ≤ l.length) && decide (l.length ≤ 4) && l.all fun p => mayPartB p f
def mayCal (c : CalD) : Bool := mayDays 0 c.days && ((((((mayList c.year 0 && mayList c.month 1) && mayList c.day 2) && mayList c.hour 3) && mayList c.min 4) && mayList c.sec 5))
def wdayB (l : List Int) (n : Int) : Bool := l.isEmpty || l.any fun d => decide (d = n)
def inDate (c : CalD) (d : DateD) : Bool := ((((inB c.year 0 d.year && inB c.month 1 d.month) && inB c.day 2 d.day) && inB c.hour 3 d.hour) && inB c.min 4 d.min) && inB c.sec 5 d.sec
noncomputable def matchB (c : CalD) (t : Int) : Bool := decide (0 ≤ t) && decide (t < 6311433600) && mayCal c && wdayB c.days (dateOf t).wday && inDate c (dateOf t)
/-- what comes next behind a second -/
def NextIs (c : CalD) (after v : Int) (ok : Bool) : Prop :=
  (ok = true ∧ after < v ∧ matchB c v = true ∧ ∀ s, after < s → s < v → matchB c s = false) ∨ (ok = false ∧ v = 0 ∧ ∀ s, after < s → matchB c s = false)
theorem NextIs.unique {c : CalD} {after v v' : Int} {ok ok' : Bool} (h : NextIs c after v ok) (h' : NextIs c after v' ok') : v = v' ∧ ok = ok' := by
  rcases h with ⟨rfl, h1, h2, h3⟩ | ⟨rfl, rfl, h3⟩ <;> rcases h' with ⟨rfl, g1, g2, g3⟩ | ⟨rfl, rfl, g3⟩
  · refine ⟨?_, rfl⟩
    rcases Int.lt_trichotomy v v' with h | h | h
    · have := g3 v h1 h; rw [h2] at this; cases this
    · exact h
    · have := h3 v' g1 h; rw [g2] at this; cases this
  · have := g3 v h1; rw [h2] at this; cases this
  · have := h3 v' g1; rw [g2] at this; cases this
  · exact ⟨rfl, rfl⟩
theorem NextIs.later {c : CalD} {after v x : Int} (h : NextIs c after v true) (h1 : after ≤ x) (h2 : x < v) : NextIs c x v true := by
  rcases h with ⟨_, g1, g2, g3⟩ | ⟨h, _⟩
  · exact .inl ⟨rfl, h2, g2, fun s hs => g3 s (by omega)⟩
  · cases h
theorem match_time {c : CalD} {t : Int} (h : matchB c t = true) : 0 ≤ t ∧ t < 6311433600 := by
  unfold matchB at h
  simp only [Bool.and_eq_true, decide_eq_true_eq] at h
  exact ⟨h.1.1.1.1, h.1.1.1.2⟩
theorem match_may {c : CalD} {t : Int} (h : matchB c t = true) : mayCal c = true := by
  unfold matchB at h
  simp only [Bool.and_eq_true] at h
  exact h.1.1.2
theorem next_time {c : CalD} {after v : Int} (h : NextIs c after v true) : 0 ≤ v ∧ v < 6311433600 ∧ after < v := by
  rcases h with ⟨_, g1, g2, _⟩ | ⟨h, _⟩
  · exact ⟨(match_time g2).1, (match_time g2).2, g1⟩
  · cases h
/-- weekdays: none, and all -/
theorem wday_range (t : Int) : 1 ≤ (dateOf t).wday ∧ (dateOf t).wday ≤ 7 := by
  unfold dateOf
  simp only
  omega
theorem days_all (c : CalD) (t : Int) : matchB { c with days := [] } t = matchB { c with days := [1, 2, 3, 4, 5, 6, 7] } t := by
  have h := wday_range t
  have e : wdayB [1, 2, 3, 4, 5, 6, 7] (dateOf t).wday = true := by
    unfold wdayB
    simp only [List.isEmpty_cons, Bool.false_or, List.any_cons, List.any_nil, Bool.or_false, Bool.or_eq_true, decide_eq_true_eq]
    omega
  unfold matchB
  simp only [e]
  rfl
theorem days_none (c : CalD) (t : Int) (h : matchB c t = true) : matchB { c with days := [] } t = true := by
  unfold matchB mayCal at h ⊢
  simp only [Bool.and_eq_true] at h ⊢
  exact ⟨⟨⟨h.1.1.1, ⟨rfl, h.1.1.2.2⟩⟩, rfl⟩, h.2⟩
/-- the parts of two in one field -/
theorem in_app (p q : List PartD) (f : Nat) (n : Int) : inB (p ++ q) f n = (inB p f n || inB q f n) := by
  unfold inB; rw [List.any_append]
theorem mayList_app (p q : List PartD) (f : Nat) (h1 : 1 ≤ p.length) (h2 : 1 ≤ q.length) (h3 : p.length + q.length ≤ 4) : mayList (p ++ q) f = (mayList p f && mayList q f) := by
  unfold mayList
  rw [List.length_append, List.all_append]
  have e1 : decide (1 ≤ p.length + q.length) = true := decide_eq_true (by omega)
  have e2 : decide (p.length + q.length ≤ 4) = true := decide_eq_true h3
  have e3 : decide (1 ≤ p.length) = true := decide_eq_true h1
  have e4 : decide (p.length ≤ 4) = true := decide_eq_true (by omega)
  have e5 : decide (1 ≤ q.length) = true := decide_eq_true h2
  have e6 : decide (q.length ≤ 4) = true := decide_eq_true (by omega)
  rw [e1, e2, e3, e4, e5, e6]
  simp
def putN (f : Int) : Nat := if f = 0 then 0 else if f = 1 then 1 else if f = 2 then 2 else if f = 3 then 3 else if f = 4 then 4 else 5
theorem may_union (c : CalD) (p q : List PartD) (f : Nat) (h1 : 1 ≤ p.length) (h2 : 1 ≤ q.length) (h3 : p.length + q.length ≤ 4) : mayCal (c.put (p ++ q) f) = (mayCal (c.put p f) && mayCal (c.put q f)) := by
  have e := fun g => mayList_app p q g h1 h2 h3
  match f with
  | 0 | 1 | 2 | 3 | 4 | n + 5 =>
    simp only [CalD.put, mayCal, e]
    generalize mayDays 0 c.days = a0
    generalize mayList c.year 0 = a1
    generalize mayList c.month 1 = a2
    generalize mayList c.day 2 = a3
    generalize mayList c.hour 3 = a4
    generalize mayList c.min 4 = a5
    generalize mayList c.sec 5 = a6
    generalize mayList p _ = b1
    generalize mayList q _ = b2
    cases a0 <;> cases a1 <;> cases a2 <;> cases a3 <;> cases a4 <;> cases a5 <;> cases a6 <;> cases b1 <;> cases b2 <;> rfl
theorem put_days (c : CalD) (l : List PartD) (f : Nat) : (c.put l f).days = c.days := by
  match f with
  | 0 | 1 | 2 | 3 | 4 | n + 5 => rfl
theorem in_union (c : CalD) (p q : List PartD) (f : Nat) (d : DateD) : inDate (c.put (p ++ q) f) d = (inDate (c.put p f) d || inDate (c.put q f) d) := by
  match f with
  | 0 | 1 | 2 | 3 | 4 | n + 5 =>
    simp only [CalD.put, inDate, in_app]
    generalize inB c.year 0 d.year = a1
    generalize inB c.month 1 d.month = a2
    generalize inB c.day 2 d.day = a3
    generalize inB c.hour 3 d.hour = a4
    generalize inB c.min 4 d.min = a5
    generalize inB c.sec 5 d.sec = a6
    generalize inB p _ _ = b1
    generalize inB q _ _ = b2
    cases a1 <;> cases a2 <;> cases a3 <;> cases a4 <;> cases a5 <;> cases a6 <;> cases b1 <;> cases b2 <;> rfl
theorem match_union (c : CalD) (p q : List PartD) (f : Nat) (h1 : 1 ≤ p.length) (h2 : 1 ≤ q.length) (h3 : p.length + q.length ≤ 4) (hm : mayCal (c.put (p ++ q) f) = true) (t : Int) :
    matchB (c.put (p ++ q) f) t = (matchB (c.put p f) t || matchB (c.put q f) t) := by
  have hm' := hm
  rw [may_union c p q f h1 h2 h3, Bool.and_eq_true] at hm'
  unfold matchB
  rw [hm, hm'.1, hm'.2, in_union, put_days, put_days, put_days]
  generalize inDate (c.put p f) _ = b1
  generalize inDate (c.put q f) _ = b2
  generalize wdayB _ _ = a1
  generalize decide (0 ≤ t) = a2
  generalize decide (t < 6311433600) = a3
  cases a1 <;> cases a2 <;> cases a3 <;> cases b1 <;> cases b2 <;> rfl
theorem next_union {a b u : CalD} {after x y z : Int} {ox oy oz : Bool} (hu : ∀ t, matchB u t = (matchB a t || matchB b t)) (hx : NextIs a after x ox) (hy : NextIs b after y oy) (hz : NextIs u after z oz) :
    (ox = true → oy = true → oz = true ∧ z = min x y) ∧ (ox = true → oy = false → oz = true ∧ z = x) ∧ (ox = false → oy = true → oz = true ∧ z = y) ∧ (ox = false → oy = false → oz = false) := by
  have key : ∀ v, NextIs u after v true → oz = true ∧ z = v := fun v h => ⟨(hz.unique h).2, (hz.unique h).1⟩
  refine ⟨?_, ?_, ?_, ?_⟩
  · rintro rfl rfl
    rcases hx with ⟨_, x1, x2, x3⟩ | ⟨h, _⟩
    · rcases hy with ⟨_, y1, y2, y3⟩ | ⟨h, _⟩
      · refine key _ (.inl ⟨rfl, by omega, ?_, fun s h1 h2 => ?_⟩)
        · rcases Int.le_total x y with h | h
          · rw [Int.min_eq_left h, hu, x2]; rfl
          · rw [Int.min_eq_right h, hu, y2, Bool.or_true]
        · rw [hu, x3 s h1 (by omega), y3 s h1 (by omega)]; rfl
      · cases h
    · cases h
  · rintro rfl rfl
    rcases hx with ⟨_, x1, x2, x3⟩ | ⟨h, _⟩
    · rcases hy with ⟨h, _⟩ | ⟨_, _, y3⟩
      · cases h
      · exact key _ (.inl ⟨rfl, x1, by rw [hu, x2]; rfl, fun s h1 h2 => by rw [hu, x3 s h1 h2, y3 s h1]; rfl⟩)
    · cases h
  · rintro rfl rfl
    rcases hx with ⟨h, _⟩ | ⟨_, _, x3⟩
    · cases h
    · rcases hy with ⟨_, y1, y2, y3⟩ | ⟨h, _⟩
      · exact key _ (.inl ⟨rfl, y1, by rw [hu, y2, Bool.or_true], fun s h1 h2 => by rw [hu, x3 s h1, y3 s h1 h2]; rfl⟩)
      · cases h
  · rintro rfl rfl
    rcases hx with ⟨h, _⟩ | ⟨_, _, x3⟩
    · cases h
    · rcases hy with ⟨h, _⟩ | ⟨_, _, y3⟩
      · cases h
      · exact (hz.unique (.inr ⟨rfl, rfl, fun s h1 => by rw [hu, x3 s h1, y3 s h1]; rfl⟩)).2
/-- Steps that are multiples -/
def timesP (n : Int) (p : PartD) : PartD := ⟨p.fr, p.to, p.st * n⟩
theorem has_times (p : PartD) (f : Nat) (n v : Int) (hn : 1 ≤ n) (hm : mayPartB p f = true) (h : hasB (timesP n p) f v = true) : hasB p f v = true := by
  unfold hasB at h ⊢
  simp only [Bool.and_eq_true, decide_eq_true_eq] at h ⊢
  have h0 : 0 ≤ p.st := by
    unfold mayPartB at hm
    split at hm
    · cases hm
    · omega
  have e1 : fromF (timesP n p) f = fromF p f := rfl
  have e2 : toF (timesP n p) f = toF p f := by
    unfold toF timesP
    simp only
    have : p.st * n = 0 ↔ p.st = 0 := by
      constructor
      · intro h
        rcases Int.mul_eq_zero.1 h with h | h
        · exact h
        · omega
      · intro h; rw [h, Int.zero_mul]
    simp only [this]
  rw [e1, e2] at h
  refine ⟨h.1, ?_⟩
  have h2 := h.2
  have e3 : stepF (timesP n p) = stepF p * (if p.st < 1 then 1 else n) := by
    unfold stepF timesP
    simp only
    by_cases hs : p.st < 1
    · have : p.st = 0 := by omega
      rw [this]; simp
    · have h3 : ¬ p.st * n < 1 := by
        have : p.st * 1 ≤ p.st * n := Int.mul_le_mul_of_nonneg_left hn h0
        omega
      rw [if_neg hs, if_neg h3, if_neg hs]
  rw [e3] at h2
  exact Int.emod_eq_zero_of_dvd (Int.dvd_trans (Int.dvd_mul_right _ _) (Int.dvd_of_emod_eq_zero h2))
theorem may_times (p : PartD) (f : Nat) (n : Int) (hn : 1 ≤ n) (hm : mayPartB p f = true) (h : p.st * n ≤ 9999) : mayPartB (timesP n p) f = true := by
  have h0 : 0 ≤ p.st := by
    unfold mayPartB at hm
    split at hm
    · cases hm
    · omega
  have h1 : 0 ≤ p.st * n := Int.mul_nonneg h0 (by omega)
  unfold mayPartB at hm ⊢
  unfold timesP
  simp only
  split at hm
  · cases hm
  · rw [if_neg (by omega)]
    exact hm
theorem match_less (c : CalD) (day n t : Int) (hn : 1 ≤ n) (hd : c.days = [] ∨ ∃ r, c.days = day :: r) (hm : mayCal c = true)
    (h : matchB { c with days := [day], sec := c.sec.map (timesP n) } t = true) : matchB c t = true := by
  have hms : ∀ p ∈ c.sec, mayPartB p 5 = true := by
    unfold mayCal mayList at hm
    simp only [Bool.and_eq_true, List.all_eq_true] at hm
    exact hm.2.2.2
  unfold matchB at h ⊢
  rw [hm]
  simp only [Bool.and_eq_true, decide_eq_true_eq] at h ⊢
  obtain ⟨⟨⟨⟨h1, h2⟩, _⟩, h3⟩, h4⟩ := h
  refine ⟨⟨⟨⟨h1, h2⟩, trivial⟩, ?_⟩, ?_⟩
  · rcases hd with e | ⟨r, e⟩
    · rw [e]; rfl
    · rw [e]
      simp only [wdayB, List.isEmpty_cons, Bool.false_or, List.any_cons, List.any_nil, Bool.or_false] at h3 ⊢
      rw [h3]; rfl
  · unfold inDate at h4 ⊢
    simp only [Bool.and_eq_true] at h4 ⊢
    refine ⟨h4.1, ?_⟩
    have h5 := h4.2
    unfold inB at h5 ⊢
    simp only [List.any_map, List.any_eq_true, Function.comp] at h5 ⊢
    obtain ⟨p, hp, h6⟩ := h5
    exact ⟨p, hp, has_times p 5 n _ hn (hms p hp) h6⟩
theorem may_less (c : CalD) (day n : Int) (hn : 1 ≤ n) (h1 : 1 ≤ day) (h7 : day ≤ 7) (hm : mayCal c = true) (hs : ∀ p ∈ c.sec, p.st * n ≤ 9999) : mayCal { c with days := [day], sec := c.sec.map (timesP n) } = true := by
  unfold mayCal at hm ⊢
  simp only [Bool.and_eq_true] at hm ⊢
  obtain ⟨_, h2, h3⟩ := hm
  refine ⟨?_, h2, ?_⟩
  · simp only [mayDays]
    rw [if_neg (by omega)]
  · unfold mayList at h3 ⊢
    simp only [Bool.and_eq_true, List.length_map, List.all_eq_true, List.mem_map, forall_exists_index, and_imp, forall_apply_eq_imp_iff₂] at h3 ⊢
    exact ⟨h3.1, fun p hp => may_times p 5 n hn (h3.2 p hp) (hs p hp)⟩
theorem next_less {c d : CalD} {after x y : Int} {ox oy : Bool} (h : ∀ t, matchB d t = true → matchB c t = true) (hx : NextIs c after x ox) (hy : NextIs d after y oy) : oy = false ∨ (ox = true ∧ x ≤ y) := by
  rcases hy with ⟨rfl, y1, y2, y3⟩ | ⟨rfl, _⟩
  · right
    have hc := h y y2
    rcases hx with ⟨rfl, x1, x2, x3⟩ | ⟨rfl, _, x3⟩
    · refine ⟨rfl, ?_⟩
      by_cases hl : y < x
      · have := x3 y y1 hl; rw [hc] at this; cases this
      · omega
    · have := x3 y y1; rw [hc] at this; cases this
  · exact .inl rfl
end Sp

end Go.Proofs.YtpkpoglmmjaoeaaGreatDoor
