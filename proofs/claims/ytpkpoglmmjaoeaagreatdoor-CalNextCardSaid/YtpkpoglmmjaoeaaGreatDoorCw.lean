/-
  What moment finds is the first second of a calendar's days from one on.
-/
import Derived.Test.YtpkpoglmmjaoeaaGreatDoorCv
namespace Go.Proofs.YtpkpoglmmjaoeaaGreatDoor
open Go.RowKit Go.Shelf

theorem mem_toS (x : Small) (l : List Int) : x ∈ toS l ↔ x.1 ∈ l := by
  unfold toS
  rw [List.mem_filterMap]
  constructor
  · rintro ⟨y, hy, h⟩
    split at h
    · injection h with h
      rw [← h]; exact hy
    · cases h
  · intro h
    exact ⟨x.1, h, by rw [dif_pos x.2]⟩
theorem toS_sorted (l : List Int) (h : l.Pairwise (· < ·)) : (toS l).Pairwise (fun a b => a.1 < b.1) := by
  unfold toS
  refine List.Pairwise.filterMap _ ?_ h
  intro a a' haa b hb b' hb'
  split at hb
  · split at hb'
    · injection hb with hb
      injection hb' with hb'
      rw [← hb, ← hb']; exact haa
    · cases hb'
  · cases hb
theorem before_S {X : List Int} {pre : List Small} {x y : Small} (h : X.Pairwise (· < ·)) (hp : pre ++ [x] <+: toS X) (hy : y.1 ∈ X) (hl : y.1 < x.1) : y ∈ pre := by
  have hs := toS_sorted X h
  have hy' := (mem_toS y X).2 hy
  obtain ⟨r, hr⟩ := hp
  rw [← hr, List.append_assoc] at hy' hs
  rcases List.mem_append.1 hy' with hy' | hy'
  · exact hy'
  · have h2 := (List.pairwise_append.1 hs).2.1
    simp only [List.singleton_append] at h2 hy'
    rcases List.mem_cons.1 hy' with rfl | hy'
    · omega
    · have := (List.pairwise_cons.1 h2).1 y hy'
      omega
theorem last_in {X : List Int} {pre : List Small} {x : Small} (hp : pre ++ [x] <+: toS X) : x.1 ∈ X := (mem_toS x X).1 (hp.subset (by simp))
theorem field_mem (l : List Sp.PartD) (f : Nat) (hf : 3 ≤ f) (n : Int) : n ∈ Sp.numsF l f 0 ↔ (0 ≤ n ∧ n ≤ Sp.highF f) ∧ Sp.inB l f n = true := by
  rw [Sp.nums_mem]
  match f, hf with
  | k + 3, _ =>
    show 0 ≤ n ∧ _ ↔ _
    constructor
    · rintro ⟨h1, h2, _, h4⟩; exact ⟨⟨h1, h2⟩, h4⟩
    · rintro ⟨⟨h1, h2⟩, h4⟩; exact ⟨h1, h2, h1, h4⟩
theorem moment_is (c : Sp.CalD) (a v : Int) (ok : Bool)
    (h : (ok = true ∧ ∃ pre, pre <+: toS (Sp.numsF c.hour 3 0) ∧ Sp.Hit1 c a pre v) ∨ (ok = false ∧ v = 0 ∧ ∀ x ∈ toS (Sp.numsF c.hour 3 0), Sp.Fail1 c a x.1)) : Sp.MomentIs c a v ok := by
  have tb : ∀ h m s : Int, Sp.timeB c h m s = true → (0 ≤ h ∧ h < 24) → (0 ≤ m ∧ m < 60) → (0 ≤ s ∧ s < 60) → h ∈ Sp.numsF c.hour 3 0 ∧ m ∈ Sp.numsF c.min 4 0 ∧ s ∈ Sp.numsF c.sec 5 0 := fun h m s ht h1 h2 h3 => by
    unfold Sp.timeB at ht
    simp only [Bool.and_eq_true] at ht
    exact ⟨(field_mem _ 3 (by decide) h).2 ⟨⟨h1.1, by show h ≤ 23; omega⟩, ht.1.1⟩, (field_mem _ 4 (by decide) m).2 ⟨⟨h2.1, by show m ≤ 59; omega⟩, ht.1.2⟩, (field_mem _ 5 (by decide) s).2 ⟨⟨h3.1, by show s ≤ 59; omega⟩, ht.2⟩⟩
  rcases h with ⟨hok, pre, hp1, q1, h, rfl, hq1, pre2, hp2, q2, m, rfl, hq2, pre3, hp3, q3, s, rfl, hq3, hav, hv⟩ | ⟨hok, hv, hf⟩
  · have m1 := (field_mem _ 3 (by decide) h.1).1 (last_in hp1)
    have m2 := (field_mem _ 4 (by decide) m.1).1 (last_in hp2)
    have m3 := (field_mem _ 5 (by decide) s.1).1 (last_in hp3)
    have r1 : h.1 ≤ 23 := m1.1.2
    have r2 : m.1 ≤ 59 := m2.1.2
    have r3 : s.1 ≤ 59 := m3.1.2
    have s1 := h.2
    have s2 := m.2
    have s3 := s.2
    have hv' : v = h.1 * 3600 + m.1 * 60 + s.1 := hv
    refine .inl ⟨hok, hav, ⟨h.1, m.1, s.1, by omega, by omega, by omega, hv', by unfold Sp.timeB; rw [m1.2, m2.2, m3.2]; rfl⟩, ?_⟩
    intro h' m' s' b1 b2 b3 ht hge
    obtain ⟨n1, n2, n3⟩ := tb h' m' s' ht b1 b2 b3
    by_cases e1 : h' < h.1
    · have hm := before_S (y := ⟨h', by omega⟩) (Sp.nums_sorted _ _ _) hp1 n1 e1
      have hx := hq1 _ hm ⟨m', by omega⟩ ((mem_toS _ _).2 n2) ⟨s', by omega⟩ ((mem_toS _ _).2 n3)
      have hx' : h' * 3600 + m' * 60 + s' < a := hx
      omega
    · by_cases e2 : h' = h.1
      · by_cases e3 : m' < m.1
        · have hm := before_S (y := ⟨m', by omega⟩) (Sp.nums_sorted _ _ _) hp2 n2 e3
          have hx := hq2 _ hm ⟨s', by omega⟩ ((mem_toS _ _).2 n3)
          have hx' : h.1 * 3600 + m' * 60 + s' < a := hx
          rw [← e2] at hx'
          omega
        · by_cases e4 : m' = m.1
          · by_cases e5 : s' < s.1
            · have hm := before_S (y := ⟨s', by omega⟩) (Sp.nums_sorted _ _ _) hp3 n3 e5
              have hx := hq3 _ hm
              have hx' : h.1 * 3600 + m.1 * 60 + s' < a := hx
              rw [← e2, ← e4] at hx'
              omega
            · rw [hv', e2, e4]; omega
          · rw [hv', e2]; omega
      · omega
  · refine .inr ⟨hok, hv, fun h' m' s' b1 b2 b3 ht => ?_⟩
    obtain ⟨n1, n2, n3⟩ := tb h' m' s' ht b1 b2 b3
    exact hf ⟨h', by omega⟩ ((mem_toS _ _).2 n1) ⟨m', by omega⟩ ((mem_toS _ _).2 n2) ⟨s', by omega⟩ ((mem_toS _ _).2 n3)
theorem moment_any (s : CalS) (a : Int) (w : World) (h : CalGood w s) (hm : Sp.mayCal s.cal = true) :
    Calls Tryz.prog 15 #[calV s, .int .i64 a] w fun e w' => (∃ v ok, e = .returned (.tuple #[.int .i64 v, .bool ok]) ∧ Sp.MomentIs s.cal a v ok) ∧ Below w.heap.size w w' :=
  (callsIn_wide.1 (moment_in 12 (Nat.le_refl _) s a w h hm)).mono fun _ _ ⟨⟨v, ok, he, hr⟩, hb⟩ => ⟨⟨v, ok, he, moment_is s.cal a v ok hr⟩, hb⟩

end Go.Proofs.YtpkpoglmmjaoeaaGreatDoor
