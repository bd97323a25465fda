/-
  A calendar's days, one after another: in plain Lean.
-/
import Derived.Test.YtpkpoglmmjaoeaaGreatDoorCy
import Derived.Test.YtpkpoglmmjaoeaaGreatDoorCz
namespace Go.Proofs.YtpkpoglmmjaoeaaGreatDoor
namespace Sp
structure DayT where
  y : Int
  m : Int
  d : Int
  ok : okDay y m d = true
noncomputable def DayT.t (x : DayT) : Int := dayOf x.y x.m x.d * 86400
open Classical in
noncomputable def oneD (c : CalD) (y m d : Int) : List DayT := if h : okDay y m d = true then (if wdayB c.days ((dayOf y m d + 5) % 7 + 1) = true then [⟨y, m, d, h⟩] else []) else []
noncomputable def D3 (c : CalD) (y m : Int) (ds : List Small) : List DayT := ds.flatMap fun d => oneD c y m d.1
noncomputable def D2 (c : CalD) (y : Int) (ms : List Small) : List DayT := ms.flatMap fun m => D3 c y m.1 (toS (numsF c.day 2 1))
noncomputable def D1 (c : CalD) (ys : List Small) : List DayT := ys.flatMap fun y => D2 c y.1 (toS (numsF c.month 1 1))
noncomputable def daysT (c : CalD) (y0 : Int) : List DayT := D1 c (toS (numsF c.year 0 y0))
theorem one_hit (c : CalD) (y m d : Int) (h : okDay y m d = true) (h2 : wdayB c.days ((dayOf y m d + 5) % 7 + 1) = true) : oneD c y m d = [⟨y, m, d, h⟩] := by
  unfold oneD; rw [dif_pos h, if_pos h2]
theorem one_none (c : CalD) (y m d : Int) (h : okDay y m d = false) : oneD c y m d = [] := by
  unfold oneD; rw [dif_neg (by rw [h]; decide)]
theorem one_other (c : CalD) (y m d : Int) (h2 : wdayB c.days ((dayOf y m d + 5) % 7 + 1) = false) : oneD c y m d = [] := by
  unfold oneD; split
  · rw [if_neg (by rw [h2]; decide)]
  · rfl
theorem D3_snoc (c : CalD) (y m : Int) (ds : List Small) (d : Small) : D3 c y m (ds ++ [d]) = D3 c y m ds ++ oneD c y m d.1 := by
  unfold D3; rw [List.flatMap_append, List.flatMap_singleton]
theorem D2_snoc (c : CalD) (y : Int) (ms : List Small) (m : Small) : D2 c y (ms ++ [m]) = D2 c y ms ++ D3 c y m.1 (toS (numsF c.day 2 1)) := by
  unfold D2; rw [List.flatMap_append, List.flatMap_singleton]
theorem D1_snoc (c : CalD) (ys : List Small) (y : Small) : D1 c (ys ++ [y]) = D1 c ys ++ D2 c y.1 (toS (numsF c.month 1 1)) := by
  unfold D1; rw [List.flatMap_append, List.flatMap_singleton]
theorem flat_prefix {α β : Type} (f : α → List β) {a b : List α} (h : a <+: b) : a.flatMap f <+: b.flatMap f := by
  obtain ⟨r, rfl⟩ := h
  rw [List.flatMap_append]
  exact List.prefix_append _ _
theorem D3_pre (c : CalD) (y m : Int) {a b : List Small} (h : a <+: b) : D3 c y m a <+: D3 c y m b := flat_prefix _ h
theorem D2_pre (c : CalD) (y : Int) {a b : List Small} (h : a <+: b) : D2 c y a <+: D2 c y b := flat_prefix _ h
theorem D1_pre (c : CalD) {a b : List Small} (h : a <+: b) : D1 c a <+: D1 c b := flat_prefix _ h
theorem pre_app {α : Type} (p : List α) {a b : List α} (h : a <+: b) : p ++ a <+: p ++ b := (List.prefix_append_right_inj p).2 h
theorem one_mem (c : CalD) (y m d : Int) (x : DayT) : x ∈ oneD c y m d ↔ (x.y = y ∧ x.m = m ∧ x.d = d) ∧ okDay y m d = true ∧ wdayB c.days ((dayOf y m d + 5) % 7 + 1) = true := by
  unfold oneD
  constructor
  · intro h
    split at h
    · rename_i h1
      split at h
      · rename_i h2
        rw [List.mem_singleton] at h
        subst h
        exact ⟨⟨rfl, rfl, rfl⟩, h1, h2⟩
      · cases h
    · cases h
  · rintro ⟨⟨rfl, rfl, rfl⟩, h1, h2⟩
    rw [dif_pos h1, if_pos h2, List.mem_singleton]
theorem mem_D1 (c : CalD) (ys : List Small) (x : DayT) : x ∈ D1 c ys ↔ ∃ y ∈ ys, ∃ m ∈ toS (numsF c.month 1 1), ∃ d ∈ toS (numsF c.day 2 1), x ∈ oneD c y.1 m.1 d.1 := by
  unfold D1 D2 D3
  simp only [List.mem_flatMap]
theorem ok_parts {y m d : Int} (h : okDay y m d = true) : (2000 ≤ y ∧ y ≤ 2199) ∧ (1 ≤ m ∧ m ≤ 12) ∧ (1 ≤ d ∧ d ≤ 31) := by
  have h31 : dimB y m ≤ 31 := by
    unfold dimB
    repeat' split
    all_goals omega
  unfold okDay at h
  simp only [Bool.and_eq_true, decide_eq_true_eq] at h
  omega
theorem mem_days (c : CalD) (y0 : Int) (x : DayT) : x ∈ daysT c y0 ↔ dayB c x.y x.m x.d = true ∧ y0 ≤ x.y := by
  unfold daysT
  rw [mem_D1]
  constructor
  · rintro ⟨y, hy, m, hm, d, hd, hx⟩
    obtain ⟨⟨e1, e2, e3⟩, h1, h2⟩ := (one_mem _ _ _ _ _).1 hx
    have g1 := (nums_mem _ _ _ _).1 ((mem_toS _ _).1 hy)
    have g2 := (nums_mem _ _ _ _).1 ((mem_toS _ _).1 hm)
    have g3 := (nums_mem _ _ _ _).1 ((mem_toS _ _).1 hd)
    refine ⟨?_, by rw [e1]; exact g1.2.2.1⟩
    unfold dayB
    rw [e1, e2, e3, g1.2.2.2, g2.2.2.2, g3.2.2.2, h1, h2]
    rfl
  · rintro ⟨h1, h2⟩
    have h3 := h1
    unfold dayB at h3
    simp only [Bool.and_eq_true] at h3
    obtain ⟨⟨⟨⟨a1, a2⟩, a3⟩, a4⟩, a5⟩ := h3
    obtain ⟨b1, b2, b3⟩ := ok_parts x.ok
    refine ⟨⟨x.y, by omega⟩, (mem_toS _ _).2 ((nums_mem _ _ _ _).2 ⟨b1.1, b1.2, h2, a1⟩), ⟨x.m, by omega⟩, (mem_toS _ _).2 ((nums_mem _ _ _ _).2 ⟨b2.1, b2.2, b2.1, a2⟩), ⟨x.d, by omega⟩, (mem_toS _ _).2 ((nums_mem _ _ _ _).2 ⟨b3.1, b3.2, b3.1, a3⟩), (one_mem _ _ _ _ _).2 ⟨⟨rfl, rfl, rfl⟩, a4, a5⟩⟩
def Less (a b : DayT) : Prop := LessD a.y a.m a.d b.y b.m b.d
theorem flat_sorted {α β : Type} (R : α → α → Prop) (S : β → β → Prop) (f : α → List β) (l : List α) (hl : l.Pairwise R) (h1 : ∀ a ∈ l, (f a).Pairwise S) (h2 : ∀ a b, R a b → ∀ x ∈ f a, ∀ y ∈ f b, S x y) : (l.flatMap f).Pairwise S := by
  induction l with
  | nil => exact List.Pairwise.nil
  | cons a r ih =>
    obtain ⟨g1, g2⟩ := List.pairwise_cons.1 hl
    rw [List.flatMap_cons, List.pairwise_append]
    refine ⟨h1 a (by simp), ih g2 (fun b hb => h1 b (by simp [hb])), fun x hx y hy => ?_⟩
    obtain ⟨b, hb, hy⟩ := List.mem_flatMap.1 hy
    exact h2 a b (g1 b hb) x hx y hy
theorem one_sorted (c : CalD) (y m d : Int) : (oneD c y m d).Pairwise Less := by
  unfold oneD
  split
  · split
    · exact List.pairwise_singleton _ _
    · exact List.Pairwise.nil
  · exact List.Pairwise.nil
theorem days_sorted (c : CalD) (y0 : Int) : (daysT c y0).Pairwise Less := by
  unfold daysT D1
  refine flat_sorted (fun a b : Small => a.1 < b.1) Less _ _ (toS_sorted _ (nums_sorted _ _ _)) (fun y _ => ?_) (fun y y' h x hx x' hx' => ?_)
  · unfold D2
    refine flat_sorted (fun a b : Small => a.1 < b.1) Less _ _ (toS_sorted _ (nums_sorted _ _ _)) (fun m _ => ?_) (fun m m' h x hx x' hx' => ?_)
    · unfold D3
      refine flat_sorted (fun a b : Small => a.1 < b.1) Less _ _ (toS_sorted _ (nums_sorted _ _ _)) (fun d _ => one_sorted _ _ _ _) (fun d d' h x hx x' hx' => ?_)
      obtain ⟨⟨e1, e2, e3⟩, _⟩ := (one_mem _ _ _ _ _).1 hx
      obtain ⟨⟨f1, f2, f3⟩, _⟩ := (one_mem _ _ _ _ _).1 hx'
      unfold Less LessD
      omega
    · unfold D3 at hx hx'
      obtain ⟨d, _, hx⟩ := List.mem_flatMap.1 hx
      obtain ⟨d', _, hx'⟩ := List.mem_flatMap.1 hx'
      obtain ⟨⟨e1, e2, e3⟩, _⟩ := (one_mem _ _ _ _ _).1 hx
      obtain ⟨⟨f1, f2, f3⟩, _⟩ := (one_mem _ _ _ _ _).1 hx'
      unfold Less LessD
      omega
  · unfold D2 D3 at hx hx'
    obtain ⟨m, _, hx⟩ := List.mem_flatMap.1 hx
    obtain ⟨m', _, hx'⟩ := List.mem_flatMap.1 hx'
    obtain ⟨d, _, hx⟩ := List.mem_flatMap.1 hx
    obtain ⟨d', _, hx'⟩ := List.mem_flatMap.1 hx'
    obtain ⟨⟨e1, e2, e3⟩, _⟩ := (one_mem _ _ _ _ _).1 hx
    obtain ⟨⟨f1, f2, f3⟩, _⟩ := (one_mem _ _ _ _ _).1 hx'
    unfold Less LessD
    omega
/-- what is less than the last one of a part that has come has come -/
theorem before_T {X pre : List DayT} {x y : DayT} (h : X.Pairwise Less) (hp : pre ++ [x] <+: X) (hy : y ∈ X) (hl : Less y x) : y ∈ pre := by
  obtain ⟨r, hr⟩ := hp
  rw [← hr, List.append_assoc] at hy h
  rcases List.mem_append.1 hy with hy | hy
  · exact hy
  · have h2 := (List.pairwise_append.1 h).2.1
    simp only [List.singleton_append] at h2 hy
    rcases List.mem_cons.1 hy with rfl | hy
    · unfold Less LessD at hl; omega
    · have := (List.pairwise_cons.1 h2).1 y hy
      unfold Less LessD at hl this; omega
def NoneT (c : CalD) (a : Int) (pre : List DayT) : Prop := ∀ x ∈ pre, NoneD c a x.y x.m x.d
theorem NoneT.nil {c : CalD} {a : Int} : NoneT c a [] := fun x hx => by cases hx
theorem NoneT.snoc {c : CalD} {a : Int} {pre : List DayT} {x : DayT} (h : NoneT c a pre) (hx : NoneD c a x.y x.m x.d) : NoneT c a (pre ++ [x]) := fun u hu => (List.mem_append.1 hu).elim (h u) (fun e => by rw [List.mem_singleton] at e; rw [e]; exact hx)
def HitT (c : CalD) (a : Int) (pre : List DayT) (v : Int) : Prop := ∃ q x u, pre = q ++ [x] ∧ NoneT c a q ∧ MomentIs c (a - x.t) u true ∧ v = x.t + u
theorem next_all (c : CalD) (after a : Int) (ha : a = max (after + 1) 0) (h1 : a < 6311433600) (h : NoneT c a (daysT c (dateOf a).year)) : NextIs c after 0 false :=
  next_none c after a ha fun y m d hd => by
    by_cases hy : (dateOf a).year ≤ y
    · exact h ⟨y, m, d, dayB_ok hd⟩ ((mem_days _ _ _).2 ⟨hd, hy⟩)
    · exact old_year c a y m d (by omega) h1 hd (by omega)
theorem next_hit (c : CalD) (hm : mayCal c = true) (after a v : Int) (ha : a = max (after + 1) 0) (h1 : a < 6311433600) (pre : List DayT) (hp : pre <+: daysT c (dateOf a).year) (h : HitT c a pre v) : NextIs c after v true := by
  obtain ⟨q, x, u, rfl, hq, hu, rfl⟩ := h
  have hx := (mem_days _ _ _).1 (hp.subset (List.mem_append_right q (List.mem_singleton_self x)))
  refine next_found c hm after a x.y x.m x.d u ha hx.1 hu fun y m d hd hl => ?_
  by_cases hy : (dateOf a).year ≤ y
  · exact hq ⟨y, m, d, dayB_ok hd⟩ (before_T (days_sorted _ _) hp ((mem_days _ _ _).2 ⟨hd, hy⟩) hl)
  · exact old_year c a y m d (by omega) h1 hd (by omega)
end Sp

end Go.Proofs.YtpkpoglmmjaoeaaGreatDoor
