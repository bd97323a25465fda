/-
  The walks of the reference's Instance and Change.
-/
import Derived.Test.YtgflmoejdhfecaaNm6
import Derived.Deep.RegionHeld3
namespace Go.Proofs.Ytgflmoejdhfecaa
open Go.RowKit

set_option maxHeartbeats 400000 in
theorem rinstance_no (s x : ByteArray) (w : World) (h : (!((Sp.ofL s.data.toList).2.2.2 && (Sp.ofL s.data.toList).2.2.1.isEmpty) || x.data.toList.isEmpty) = true) :
    Calls Try.prog 17 #[.string s, .string x] w fun e w' => e = .returned (.tuple #[.string ⟨#[]⟩, .bool false]) ∧ Below w.heap.size w w' := by
  generalize hb : ((Sp.ofL s.data.toList).2.2.2 && (Sp.ofL s.data.toList).2.2.1.isEmpty) = b at h
  have HB := Lib.hid hb
  have h2 : (!b || x.toList.isEmpty) = true := by rw [Lib.toList_data]; exact h
  clear hb h
  cases b
  · clear h2
    go_enter Try.func17, Try.ntmps17
    go_wp2_with (go_at_call 34; refine (risTemplate_any _ _).mono ?_; rintro e w1 ⟨rfl, hb⟩; rw [HB.out])
    go_ret2
    exact ⟨rfl, hb⟩
  · have h3 : x.toList.isEmpty = true := by simpa using h2
    clear h2
    go_enter Try.func17, Try.ntmps17
    go_wp2_with (go_at_call 34; refine (risTemplate_any _ _).mono ?_; rintro e w1 ⟨rfl, hb⟩; rw [HB.out])
    go_ret2
    exact ⟨rfl, hb⟩

/-- two pieces of names are alike, or a first one of their parts is not -/
theorem cut_cases (k k2 : Int) (p i p2 i2 : ByteArray) (a a2 : Bool) :
    ((k2 == k) = true ∧ (p2.toList == p.toList) = true ∧ (i2.toList == i.toList) = true ∧ (a2 == a) = true ∧ (k2, p2.data.toList, i2.data.toList, a2) = (k, p.data.toList, i.data.toList, a)) ∨
    (((k2 == k) = false ∨ ((k2 == k) = true ∧ (p2.toList == p.toList) = false) ∨ ((k2 == k) = true ∧ (p2.toList == p.toList) = true ∧ (i2.toList == i.toList) = false) ∨ ((k2 == k) = true ∧ (p2.toList == p.toList) = true ∧ (i2.toList == i.toList) = true ∧ (a2 == a) = false)) ∧
      ¬ (k2, p2.data.toList, i2.data.toList, a2) = (k, p.data.toList, i.data.toList, a)) := by
  simp only [Lib.toList_data, Prod.mk.injEq]
  by_cases h1 : k2 = k
  · by_cases h2 : p2.data.toList = p.data.toList
    · by_cases h3 : i2.data.toList = i.data.toList
      · by_cases h4 : a2 = a
        · left; simp [h1, h2, h3, h4]
        · right; simp only [h1, h2, h3]; simp [h4]
      · have h3' : ¬ i2.data = i.data := fun h => h3 (by rw [h])
        right; simp only [h1, h2]; simp [h3']
    · have h2' : ¬ p2.data = p.data := fun h => h2 (by rw [h])
      right; simp only [h1]; simp [h2']
  · right; simp [h1]

theorem held_below {B0 b : Nat} {c0 c1 c2 c3 : Value} {w0 W : World} (h : Below B0 w0 W ∧ b < W.heap.size ∧ B0 ≤ W.heap.size ∧ W.cell? ⟨b, 0, none⟩ = some c0 ∧ W.cell? ⟨b, 1, none⟩ = some c1 ∧ W.cell? ⟨b, 2, none⟩ = some c2 ∧ W.cell? ⟨b, 3, none⟩ = some c3) : Below B0 w0 W := h.1

theorem held_after {B0 b : Nat} {c0 c1 c2 c3 : Value} {w0 W W' : World} (h : Below B0 w0 W ∧ b < W.heap.size ∧ B0 ≤ W.heap.size ∧ W.cell? ⟨b, 0, none⟩ = some c0 ∧ W.cell? ⟨b, 1, none⟩ = some c1 ∧ W.cell? ⟨b, 2, none⟩ = some c2 ∧ W.cell? ⟨b, 3, none⟩ = some c3)
    (hb : Below W.heap.size W W') :
    Below B0 w0 W' ∧ b < W'.heap.size ∧ B0 ≤ W'.heap.size ∧ W'.cell? ⟨b, 0, none⟩ = some c0 ∧ W'.cell? ⟨b, 1, none⟩ = some c1 ∧ W'.cell? ⟨b, 2, none⟩ = some c2 ∧ W'.cell? ⟨b, 3, none⟩ = some c3 := by
  obtain ⟨h1, h2, h3, h4, h5, h6, h7⟩ := h
  have hz := hb.size
  exact ⟨h1.trans (hb.mono h3), by omega, by omega, by rw [hb.cell (p := ⟨b, 0, none⟩) h2]; exact h4, by rw [hb.cell (p := ⟨b, 1, none⟩) h2]; exact h5,
    by rw [hb.cell (p := ⟨b, 2, none⟩) h2]; exact h6, by rw [hb.cell (p := ⟨b, 3, none⟩) h2]; exact h7⟩

set_option maxHeartbeats 400000 in
theorem rinstance_yes (s x : ByteArray) (w : World) (hx : x.size ≤ 281474976710656) (h : (!((Sp.ofL s.data.toList).2.2.2 && (Sp.ofL s.data.toList).2.2.1.isEmpty) || x.data.toList.isEmpty) = false) :
    Calls Try.prog 17 #[.string s, .string x] w fun e w' => e = .returned (.tuple #[.string ⟨(Sp.rinstanceL s.data.toList x.data.toList).1.toArray⟩, .bool (Sp.rinstanceL s.data.toList x.data.toList).2]) ∧ Below w.heap.size w w' := by
  obtain ⟨k, p, i, a, HO, hp, hi⟩ := of_ex s.data.toList
  have HT : Hid (Sp.rinstanceL s.data.toList x.data.toList = if Sp.ofL (Sp.rmakeL k p.data.toList x.data.toList a) = (k, p.data.toList, x.data.toList, a) then (Sp.rmakeL k p.data.toList x.data.toList a, true) else ([], false)) :=
    Lib.hid (by unfold Sp.rinstanceL; rw [if_neg (by rw [h]; simp), HO.out])
  generalize hm : Sp.rmakeL k p.data.toList x.data.toList a = m at HT
  have HM := Lib.hid hm
  have h1 : ((Sp.ofL s.data.toList).2.2.2 && (Sp.ofL s.data.toList).2.2.1.isEmpty) = true := by simp at h; simp [h]
  have h3 : x.toList.isEmpty = false := by rw [Lib.toList_data]; simp at h; simp [h]
  have HB := Lib.hid h1
  clear h h1 hm
  obtain ⟨k2, p2, i2, a2, HO2, hp2, hi2⟩ := of_ex m
  go_enter Try.func17, Try.ntmps17
  go_wp2_with fail
  refine (risTemplate_any _ _).mono ?_
  rintro e w1 ⟨rfl, hb⟩
  rw [HB.out]
  go_wp2_with fail
  refine (of_as _ _ k p i _ HO).mono ?_
  rintro e w2 ⟨rfl, hb2⟩
  have hb3 := hb.trans (hb2.mono hb.size)
  clear hb2 hb
  go_wp2_with fail
  refine (rmake_any k p x a _ (by omega) hx).mono ?_
  rintro e w3 ⟨rfl, hb4⟩
  rw [HM.out]
  have hw := hb3.size
  have q0 : Below w.heap.size w w3.drew ∧ w2.heap.size < w3.drew.heap.size ∧ w.heap.size ≤ w3.drew.heap.size ∧ w3.drew.cell? ⟨w2.heap.size, 0, none⟩ = some (.int .i64 k) ∧ w3.drew.cell? ⟨w2.heap.size, 1, none⟩ = some (.string p) ∧ w3.drew.cell? ⟨w2.heap.size, 2, none⟩ = some (.string x) ∧ w3.drew.cell? ⟨w2.heap.size, 3, none⟩ = some (.bool a) := by
    refine held_after ⟨hb3.alloc hw (.cells #[.int .i64 k, .string p, .string x, .bool a] 24), by simp, by simp; omega, ?_, ?_, ?_, ?_⟩ (hb4.mono (Nat.le_refl _)).drew <;> go_simp
  clear hb4 hb3 hw
  go_wp2_with fail
  rcases cut_cases k k2 p x p2 i2 a a2 with ⟨e1, e2, e3, e4, heq⟩ | ⟨hd, hneq⟩
  · have HE : Hid (Sp.ofL m = (k, p.data.toList, x.data.toList, a)) := Lib.hid (by rw [HO2.out]; exact heq)
    clear heq
    go_region_held3 (fun W => Below w.heap.size w W ∧ w2.heap.size < W.heap.size ∧ w.heap.size ≤ W.heap.size ∧ W.cell? ⟨w2.heap.size, 0, none⟩ = some (.int .i64 k) ∧ W.cell? ⟨w2.heap.size, 1, none⟩ = some (.string p) ∧ W.cell? ⟨w2.heap.size, 2, none⟩ = some (.string x) ∧ W.cell? ⟨w2.heap.size, 3, none⟩ = some (.bool a)) (assumption)
      (first | (go_at_call 10; refine (of_as ⟨m.toArray⟩ _ k2 p2 i2 a2 HO2).mono ?_; rintro e w4 ⟨rfl, hb6⟩; have q1 := held_after ‹_› hb6))
    all_goals
      go_wp2
      go_ret2
      exact ⟨by rw [HT.out, if_pos HE.out]; rfl, held_below ‹_›⟩
  · have HE : Hid (¬ Sp.ofL m = (k, p.data.toList, x.data.toList, a)) := Lib.hid (by rw [HO2.out]; exact hneq)
    clear hneq
    rcases hd with e1 | ⟨e1, e2⟩ | ⟨e1, e2, e3⟩ | ⟨e1, e2, e3, e4⟩
    all_goals
      go_region_held3 (fun W => Below w.heap.size w W ∧ w2.heap.size < W.heap.size ∧ w.heap.size ≤ W.heap.size ∧ W.cell? ⟨w2.heap.size, 0, none⟩ = some (.int .i64 k) ∧ W.cell? ⟨w2.heap.size, 1, none⟩ = some (.string p) ∧ W.cell? ⟨w2.heap.size, 2, none⟩ = some (.string x) ∧ W.cell? ⟨w2.heap.size, 3, none⟩ = some (.bool a)) (assumption)
        (first | (go_at_call 10; refine (of_as ⟨m.toArray⟩ _ k2 p2 i2 a2 HO2).mono ?_; rintro e w4 ⟨rfl, hb6⟩; have q1 := held_after ‹_› hb6))
      go_wp2
      go_ret2
      exact ⟨by rw [HT.out, if_neg HE.out]; rfl, held_below ‹_›⟩

theorem rinstance_any (s x : ByteArray) (w : World) (hx : x.size ≤ 281474976710656) :
    Calls Try.prog 17 #[.string s, .string x] w fun e w' => e = .returned (.tuple #[.string ⟨(Sp.rinstanceL s.data.toList x.data.toList).1.toArray⟩, .bool (Sp.rinstanceL s.data.toList x.data.toList).2]) ∧ Below w.heap.size w w' := by
  cases h : (!((Sp.ofL s.data.toList).2.2.2 && (Sp.ofL s.data.toList).2.2.1.isEmpty) || x.data.toList.isEmpty)
  · exact rinstance_yes s x w hx h
  · refine (rinstance_no s x w h).mono fun e w' ⟨h1, h2⟩ => ⟨?_, h2⟩
    rw [h1, show Sp.rinstanceL s.data.toList x.data.toList = ([], false) by unfold Sp.rinstanceL; rw [if_pos h]]

set_option maxHeartbeats 400000 in
theorem rchange_any (s : ByteArray) (j : Int) (w : World) :
    Calls Try.prog 19 #[.string s, .int .i64 j] w fun e w' => e = .returned (.string ⟨(Sp.rchangeL s.data.toList j).toArray⟩) ∧ Below w.heap.size w w' := by
  obtain ⟨k, p, i, a, HO, hp, hi⟩ := of_ex s.data.toList
  by_cases hk : k = 0
  · have HT : Hid (Sp.rchangeL s.data.toList j = []) := Lib.hid (by unfold Sp.rchangeL; rw [if_pos (.inl (by rw [HO.out]; exact hk))])
    have hk2 : (k == 0) = true := by simpa using hk
    clear hk
    go_enter Try.func19, Try.ntmps19
    go_wp2_with (go_at_call 10; refine (of_as _ _ k p i _ HO).mono ?_; rintro e w1 ⟨rfl, hb⟩)
    go_ret
    exact ⟨ret_str (by rw [HT.out]), hb.alloc hb.size _⟩
  · have hk2 : (k == 0) = false := by simpa using hk
    clear hk
    by_cases hs : Sp.suffix j = []
    · have HT : Hid (Sp.rchangeL s.data.toList j = []) := Lib.hid (by unfold Sp.rchangeL; rw [if_pos (.inr hs)])
      have HS := Lib.hid hs
      clear hs
      go_enter Try.func19, Try.ntmps19
      go_wp2_with (first | (go_at_call 10; refine (of_as _ _ k p i _ HO).mono ?_; rintro e w1 ⟨rfl, hb⟩) | (go_at_call 21; refine (rsuffix_any _ _).mono ?_; rintro e w2 ⟨rfl, rfl⟩; rw [HS.out]))
      go_ret
      exact ⟨ret_str (by rw [HT.out]), hb.alloc hb.size _⟩
    · generalize hm : Sp.rmakeL j p.data.toList i.data.toList a = m
      have HT : Hid (Sp.rchangeL s.data.toList j = if 0 < (Sp.ofL m).1 then m else []) := Lib.hid (by
        unfold Sp.rchangeL
        rw [if_neg (by rw [HO.out]; simp at hk2; simp [hk2, hs]), HO.out]; simp only [hm])
      have HM := Lib.hid hm
      clear hm
      generalize hsf : Sp.suffix j = sf at hs
      have HS := Lib.hid hsf
      have hs2 : sf.isEmpty = false := by simpa using hs
      clear hs hsf
      go_enter Try.func19, Try.ntmps19
      go_wp2_with (first | (go_at_call 10; refine (of_as _ _ k p i _ HO).mono ?_; rintro e w1 ⟨rfl, hb⟩) | (go_at_call 21; refine (rsuffix_any _ _).mono ?_; rintro e w2 ⟨rfl, rfl⟩; rw [HS.out]))
      refine (rmake_any j p i a _ (by omega) (by omega)).mono ?_
      rintro e w3 ⟨rfl, hb4⟩
      rw [HM.out]
      have hw := hb.size
      have q0 : Below w.heap.size w w3 ∧ w1.heap.size < w3.heap.size ∧ w.heap.size ≤ w3.heap.size ∧ w3.cell? ⟨w1.heap.size, 0, none⟩ = some (.int .i64 j) ∧ w3.cell? ⟨w1.heap.size, 1, none⟩ = some (.string p) ∧ w3.cell? ⟨w1.heap.size, 2, none⟩ = some (.string i) ∧ w3.cell? ⟨w1.heap.size, 3, none⟩ = some (.bool a) := by
        refine held_after ⟨hb.alloc hw (.cells #[.int .i64 j, .string p, .string i, .bool a] 24), by simp, by simp; omega, ?_, ?_, ?_, ?_⟩ (hb4.mono (Nat.le_refl _)) <;> go_simp
      clear hb4 hb hw
      go_wp2_with fail
      refine (rmay_any ⟨m.toArray⟩ _).mono ?_
      rintro e w4 ⟨rfl, hb5⟩
      have q1 := held_after q0 hb5
      clear q0 hb5
      obtain ⟨g1, g2, g3, g4, g5, g6, g7⟩ := q1
      rw [show Sp.ofL (ByteArray.mk m.toArray).data.toList = Sp.ofL m from rfl]
      by_cases hmay : 0 < (Sp.ofL m).1
      · have HMY := Lib.hid hmay
        have hd : decide (0 < (Sp.ofL m).1) = true := by simpa using hmay
        rw [hd]
        clear hd hmay
        go_wp2_with fail
        refine (rmake_any j p i a _ (by omega) (by omega)).mono ?_
        rintro e w5 ⟨rfl, hb6⟩
        go_wp2_with fail
        go_ret
        exact ⟨ret_str (by rw [HT.out, if_pos HMY.out, HM.out]), g1.trans (hb6.mono g3)⟩
      · have HMY := Lib.hid hmay
        have hd : decide (0 < (Sp.ofL m).1) = false := by simpa using hmay
        rw [hd]
        clear hd hmay
        go_wp2_with fail
        go_ret
        exact ⟨ret_str (by rw [HT.out, if_neg (by have := HMY.out; omega)]), g1⟩
end Go.Proofs.Ytgflmoejdhfecaa
