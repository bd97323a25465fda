/-
  The calls' sort: two rows merged in place, whole.
-/
import Derived.Test.YtkgogenmhiclcaaGreatDoorKf
namespace Go.Proofs.YtkgogenmhiclcaaGreatDoor
open Go.RowKit Go.Sort Go.Lib

theorem Mg.up_app {X1 X2 : List Mg.C} (h : Mg.Up (X1 ++ X2)) : Mg.Up X1 ∧ Mg.Up X2 ∧ ∀ x ∈ X1, ∀ y ∈ X2, x.1 ≤ y.1 := by
  induction X1 with
  | nil => exact ⟨trivial, h, by simp⟩
  | cons x r ih =>
    have h2 := ih h.2
    refine ⟨⟨fun y hy => h.1 y (by simp [hy]), h2.1⟩, h2.2.1, fun z hz y hy => ?_⟩
    rcases List.mem_cons.1 hz with e | hz
    · subst e; exact h.1 y (by simp [hy])
    · exact h2.2.2 z hz y hy
/-- what the merge asks of its own smaller ones -/
noncomputable def SymmFor (k : Nat) (w : World) (blk off cap size : Nat) (t : Nat) : Prop :=
  ∀ (A X Y B : List Mg.C) (n : Nat) (os : Array Obj), X.length + Y.length < t → 0 < X.length → 0 < Y.length → (A ++ X ++ Y ++ B).length = size → Mg.Up X → Mg.Up Y →
    Calls Tryz.prog 56 #[.slice (some ⟨blk, off, none⟩) size cap, .int .i64 A.length, .int .i64 ((A.length + X.length : Nat) : Int), .int .i64 ((A.length + X.length + Y.length : Nat) : Int), .func (.func 24) #[] #[]] (sortWorldK encC k w blk off n (A ++ X ++ Y ++ B).toArray os) fun e w' =>
      e = .returned (.tuple #[]) ∧ ∃ n' os', w' = sortWorldK encC k w blk off n' (A ++ Mg.merge X Y ++ B).toArray os'
/-- where the search ends: the halves lie apart -/
theorem halves (X Y : List Mg.C) (hX : Mg.Up X) (hY : Mg.Up Y) (u v : Nat) (hu : u ≤ X.length) (hv : v ≤ Y.length) (h1 : 0 < u → v < Y.length → X[u - 1]!.1 ≤ Y[v]!.1) (h2 : u < X.length → 0 < v → Y[v - 1]!.1 < X[u]!.1) :
    (∀ x ∈ X.take u, ∀ y ∈ Y.drop v, x.1 ≤ y.1) ∧ (∀ y ∈ Y.take v, ∀ x ∈ X.drop u, y.1 < x.1) := by
  constructor
  · intro x hx y hy
    obtain ⟨s, hs, rfl⟩ := List.mem_iff_getElem.1 hx
    obtain ⟨t, ht, rfl⟩ := List.mem_iff_getElem.1 hy
    rw [List.length_take] at hs
    rw [List.length_drop] at ht
    simp only [List.getElem_take, List.getElem_drop]
    have a := up_get hX s (u - 1) (by omega) (by omega)
    have b := up_get hY v (v + t) (by omega) (by omega)
    have c := h1 (by omega) (by omega)
    rw [getElem!_pos X _ (by omega), getElem!_pos Y _ (by omega)] at c
    omega
  · intro y hy x hx
    obtain ⟨s, hs, rfl⟩ := List.mem_iff_getElem.1 hx
    obtain ⟨t, ht, rfl⟩ := List.mem_iff_getElem.1 hy
    rw [List.length_take] at ht
    rw [List.length_drop] at hs
    simp only [List.getElem_take, List.getElem_drop]
    have a := up_get hX u (u + s) (by omega) (by omega)
    have b := up_get hY t (v - 1) (by omega) (by omega)
    have c := h2 (by omega) (by omega)
    rw [getElem!_pos X _ (by omega), getElem!_pos Y _ (by omega)] at c
    omega

/-- what the rotation does, wherever -/
noncomputable def RotFor (k : Nat) (w : World) (blk off cap size : Nat) : Prop :=
  ∀ (A' X' Y' B' : List Mg.C) (n : Nat) (os : Array Obj), (A' ++ X' ++ Y' ++ B').length = size → 0 < X'.length → 0 < Y'.length → Calls Tryz.prog 65 #[.slice (some ⟨blk, off, none⟩) size cap, .int .i64 A'.length, .int .i64 ((A'.length + X'.length : Nat) : Int), .int .i64 ((A'.length + X'.length + Y'.length : Nat) : Int), .func (.func 24) #[] #[]] (sortWorldK encC k w blk off n (A' ++ X' ++ Y' ++ B').toArray os) fun e w' => e = .returned (.tuple #[]) ∧ ∃ n' os', w' = sortWorldK encC k w blk off n' (A' ++ Y' ++ X' ++ B').toArray os'
/-- after the search: three steps, each done or not asked for -/
theorem symm_end (k : Nat) (w : World) (blk off cap size : Nat) (A X Y B T : List Mg.C) (D : Array Mg.C) (hD : D = (A ++ X ++ Y ++ B).toArray) (hT : T = A ++ Mg.merge X Y ++ B) (hX : Mg.Up X) (hY : Mg.Up Y) (a m b mid s e : Nat)
    (lA : A.length = a) (lX : X.length = m - a) (lY : Y.length = b - m) (lB : b + B.length = size) (h1 : m ≤ e) (h2 : e ≤ b) (h3 : a ≤ s) (h4 : s ≤ m) (h5 : s + (e - m) = mid) (ham : a + 2 ≤ m) (hmb : m + 2 ≤ b) (hma : a < mid) (hmc : mid < b)
    (k1 : a < s → e < b → X[s - 1 - a]!.1 ≤ Y[e - m]!.1) (k2 : s < m → m < e → Y[e - 1 - m]!.1 < X[s - a]!.1) (HROT : RotFor k w blk off cap size) (IH : SymmFor k w blk off cap size (b - a)) :
    ∃ L1 L2 : List Mg.C, (s < m ∧ m < e → ∀ n os, Calls Tryz.prog 65 #[.slice (some ⟨blk, off, none⟩) size cap, .int .i64 s, .int .i64 m, .int .i64 e, .func (.func 24) #[] #[]] (sortWorldK encC k w blk off n D os) fun e w' => e = .returned (.tuple #[]) ∧ ∃ n' os', w' = sortWorldK encC k w blk off n' L1.toArray os') ∧ (¬ (s < m ∧ m < e) → D = L1.toArray) ∧
      (a < s ∧ s < mid → ∀ n os, Calls Tryz.prog 56 #[.slice (some ⟨blk, off, none⟩) size cap, .int .i64 a, .int .i64 s, .int .i64 mid, .func (.func 24) #[] #[]] (sortWorldK encC k w blk off n L1.toArray os) fun e w' => e = .returned (.tuple #[]) ∧ ∃ n' os', w' = sortWorldK encC k w blk off n' L2.toArray os') ∧ (¬ (a < s ∧ s < mid) → L1 = L2) ∧
      (mid < e ∧ e < b → ∀ n os, Calls Tryz.prog 56 #[.slice (some ⟨blk, off, none⟩) size cap, .int .i64 mid, .int .i64 e, .int .i64 b, .func (.func 24) #[] #[]] (sortWorldK encC k w blk off n L2.toArray os) fun e w' => e = .returned (.tuple #[]) ∧ ∃ n' os', w' = sortWorldK encC k w blk off n' T.toArray os') ∧ (¬ (mid < e ∧ e < b) → L2 = T) := by
  have hv := halves X Y hX hY (s - a) (e - m) (by omega) (by omega) (fun g1 g2 => by
    have := k1 (by omega) (by omega)
    rwa [show s - 1 - a = s - a - 1 from by omega] at this) (fun g1 g2 => by
    have := k2 (by omega) (by omega)
    rwa [show e - 1 - m = e - m - 1 from by omega] at this)
  have hmg := Mg.merge_app (X.take (s - a)) (X.drop (s - a)) (Y.take (e - m)) (Y.drop (e - m)) hv.1 hv.2
  rw [List.take_append_drop, List.take_append_drop] at hmg
  have hUX := Mg.up_app (X1 := X.take (s - a)) (X2 := X.drop (s - a)) (by rw [List.take_append_drop]; exact hX)
  have hUY := Mg.up_app (X1 := Y.take (e - m)) (X2 := Y.drop (e - m)) (by rw [List.take_append_drop]; exact hY)
  have hxy : A ++ X ++ Y ++ B = A ++ (X.take (s - a) ++ X.drop (s - a)) ++ (Y.take (e - m) ++ Y.drop (e - m)) ++ B := by rw [List.take_append_drop, List.take_append_drop]
  have l1 : (X.take (s - a)).length = s - a := by rw [List.length_take]; omega
  have l2 : (X.drop (s - a)).length = m - s := by rw [List.length_drop]; omega
  have l3 : (Y.take (e - m)).length = e - m := by rw [List.length_take]; omega
  have l4 : (Y.drop (e - m)).length = b - e := by rw [List.length_drop]; omega
  rw [hxy] at hD
  rw [hmg] at hT
  clear hmg hxy hv k1 k2 lX lY hX hY
  generalize X.take (s - a) = X1 at *
  generalize X.drop (s - a) = X2 at *
  generalize Y.take (e - m) = Y1 at *
  generalize Y.drop (e - m) = Y2 at *
  refine ⟨A ++ X1 ++ Y1 ++ X2 ++ Y2 ++ B, A ++ Mg.merge X1 Y1 ++ X2 ++ Y2 ++ B, ?_, ?_, ?_, ?_, ?_, ?_⟩
  · intro hq n os
    have h := HROT (A ++ X1) X2 Y1 (Y2 ++ B) n os (by simp; omega) (by omega) (by omega)
    have q1 : (A ++ X1).length = s := by simp; omega
    rw [q1, show s + X2.length = m from by omega, show m + Y1.length = e from by omega] at h
    have q2 : (A ++ X1 ++ X2 ++ Y1 ++ (Y2 ++ B)).toArray = D := by rw [hD]; simp
    have q3 : (A ++ X1 ++ Y1 ++ X2 ++ (Y2 ++ B)) = A ++ X1 ++ Y1 ++ X2 ++ Y2 ++ B := by simp
    rw [q2, q3] at h
    exact h
  · intro hq
    rw [hD]
    have : X2 = [] ∨ Y1 = [] := by
      by_cases h1 : s < m
      · right; exact List.eq_nil_of_length_eq_zero (by omega)
      · left; exact List.eq_nil_of_length_eq_zero (by omega)
    rcases this with rfl | rfl <;> simp
  · intro hq n os
    have h := IH A X1 Y1 (X2 ++ Y2 ++ B) n os (by omega) (by omega) (by omega) (by simp; omega) hUX.1 hUY.1
    rw [lA, show a + X1.length = s from by omega, show s + Y1.length = mid from by omega] at h
    simp only [List.append_assoc] at h ⊢
    exact h
  · intro hq
    have : X1 = [] ∨ Y1 = [] := by
      by_cases h1 : a < s
      · right; exact List.eq_nil_of_length_eq_zero (by omega)
      · left; exact List.eq_nil_of_length_eq_zero (by omega)
    rcases this with rfl | rfl
    · simp [Mg.nil_merge]
    · simp [Mg.merge_nil]
  · intro hq n os
    have hml : (Mg.merge X1 Y1).length = X1.length + Y1.length := Mg.merge_len _ _
    have h := IH (A ++ Mg.merge X1 Y1) X2 Y2 B n os (by omega) (by omega) (by omega) (by simp [hml]; omega) hUX.2.1 hUY.2.1
    have q1 : (A ++ Mg.merge X1 Y1).length = mid := by rw [List.length_append, hml]; omega
    rw [q1, show mid + X2.length = e from by omega, show e + Y2.length = b from by omega] at h
    rw [hT]
    simp only [List.append_assoc] at h ⊢
    exact h
  · intro hq
    rw [hT]
    have : X2 = [] ∨ Y2 = [] := by
      by_cases h1 : mid < e
      · right; exact List.eq_nil_of_length_eq_zero (by omega)
      · left; exact List.eq_nil_of_length_eq_zero (by omega)
    rcases this with rfl | rfl
    · simp [Mg.nil_merge]
    · simp [Mg.merge_nil]

end Go.Proofs.YtkgogenmhiclcaaGreatDoor
