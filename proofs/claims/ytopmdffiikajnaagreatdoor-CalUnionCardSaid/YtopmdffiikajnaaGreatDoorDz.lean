/-
  A calendar with another field.
-/
import Derived.Test.YtopmdffiikajnaaGreatDoorDu
import Derived.Test.YtopmdffiikajnaaGreatDoorDx
namespace Go.Proofs.YtopmdffiikajnaaGreatDoor
open Go.RowKit Go.Shelf

def CalS.putS (s : CalS) (a : SlA) (l : List Sp.PartD) : Nat → CalS
  | 0 => { s with f0 := a, cal := s.cal.put l 0 }
  | 1 => { s with f1 := a, cal := s.cal.put l 1 }
  | 2 => { s with f2 := a, cal := s.cal.put l 2 }
  | 3 => { s with f3 := a, cal := s.cal.put l 3 }
  | 4 => { s with f4 := a, cal := s.cal.put l 4 }
  | _ => { s with f5 := a, cal := s.cal.put l 5 }
theorem putS_cal (s : CalS) (a : SlA) (l : List Sp.PartD) (i : Nat) (hi : i < 6) : (s.putS a l i).cal = s.cal.put l i := by
  have e : i = 0 ∨ i = 1 ∨ i = 2 ∨ i = 3 ∨ i = 4 ∨ i = 5 := by omega
  rcases e with rfl | rfl | rfl | rfl | rfl | rfl <;> rfl
theorem CalGood.putS {w : World} {s : CalS} (h : CalGood w s) (a : SlA) (l : List Sp.PartD) (hr : Rd w w.heap.size 3 a.A a.n (partsC l)) (hn : a.n ≤ 9223372036854775807) (i : Nat) (hi : i < 6) : CalGood w (s.putS a l i) := by
  obtain ⟨h0, h1, h2, h3⟩ := h
  have e : i = 0 ∨ i = 1 ∨ i = 2 ∨ i = 3 ∨ i = 4 ∨ i = 5 := by omega
  have g0 := h1 0 (by decide)
  have g1 := h1 1 (by decide)
  have g2 := h1 2 (by decide)
  have g3 := h1 3 (by decide)
  have g4 := h1 4 (by decide)
  have g5 := h1 5 (by decide)
  have b0 := h3 0
  have b1 := h3 1
  have b2 := h3 2
  have b3 := h3 3
  have b4 := h3 4
  have b5 := h3 5
  rcases e with rfl | rfl | rfl | rfl | rfl | rfl
  all_goals
    refine ⟨h0, fun j hj => ?_, h2, fun j => ?_⟩
    · have e : j = 0 ∨ j = 1 ∨ j = 2 ∨ j = 3 ∨ j = 4 ∨ j = 5 := by omega
      rcases e with rfl | rfl | rfl | rfl | rfl | rfl
      all_goals first | exact hr | exact g0 | exact g1 | exact g2 | exact g3 | exact g4 | exact g5
    · match j with
      | 0 => first | exact b0 | exact hn
      | 1 => first | exact b1 | exact hn
      | 2 => first | exact b2 | exact hn
      | 3 => first | exact b3 | exact hn
      | 4 => first | exact b4 | exact hn
      | q + 5 => first | exact b5 | exact hn
set_option maxRecDepth 100000 in
set_option maxHeartbeats 4000000 in
theorem with_any (f : Int) (s : CalS) (a : SlA) (l : List Sp.PartD) (w : World) : Calls Tryz.prog 27 #[calV s, .int .i64 f, slV a] w fun e w' => e = .returned (calV (s.putS a l (Sp.putN (bits BinOp.and IntKind.i64 f 7)))) ∧ Below w.heap.size w w' := by
  obtain ⟨⟨dA, dn, dc⟩, ⟨A0, n0, c0⟩, ⟨A1, n1, c1⟩, ⟨A2, n2, c2⟩, ⟨A3, n3, c3⟩, ⟨A4, n4, c4⟩, ⟨A5, n5, c5⟩, cal⟩ := s
  obtain ⟨A, n, c⟩ := a
  obtain ⟨k, hk⟩ : ∃ k, bits BinOp.and IntKind.i64 f 7 = k := ⟨_, rfl⟩
  rw [hk]
  have hb : Below w.heap.size w (((w.alloc (.cells #[.slice dA dn dc, .slice A0 n0 c0, .slice A1 n1 c1, .slice A2 n2 c2, .slice A3 n3 c3, .slice A4 n4 c4, .slice A5 n5 c5] 26)).alloc (.cells #[.slice none 0 0, .slice none 0 0, .slice none 0 0, .slice none 0 0, .slice none 0 0, .slice none 0 0, .slice none 0 0] 26))) := ((Below.refl _ _).alloc (Nat.le_refl _) _).alloc (by simp) _
  have hkk : k = 0 ∨ k = 1 ∨ k = 2 ∨ k = 3 ∨ k = 4 ∨ (k ≠ 0 ∧ k ≠ 1 ∧ k ≠ 2 ∧ k ≠ 3 ∧ k ≠ 4) := by omega
  rcases hkk with rfl | rfl | rfl | rfl | rfl | ⟨h0, h1, h2, h3, h4⟩
  · simp only [calV, slV, show Sp.putN 0 = 0 from rfl, CalS.putS]
    go_enter Tryz.func27, Tryz.ntmps27
    go_wp2
    exact bodyPost_ret (v := .agg #[.slice dA dn dc, .slice A n c, .slice A1 n1 c1, .slice A2 n2 c2, .slice A3 n3 c3, .slice A4 n4 c4, .slice A5 n5 c5]) (by simp [results, Tryz.results27, go_sem]) rfl ⟨rfl, ((Below.refl _ _).alloc (Nat.le_refl _) _).alloc (by simp) _⟩
  · simp only [calV, slV, show Sp.putN 1 = 1 from rfl, CalS.putS]
    go_enter Tryz.func27, Tryz.ntmps27
    go_wp2
    exact bodyPost_ret (v := .agg #[.slice dA dn dc, .slice A0 n0 c0, .slice A n c, .slice A2 n2 c2, .slice A3 n3 c3, .slice A4 n4 c4, .slice A5 n5 c5]) (by simp [results, Tryz.results27, go_sem]) rfl ⟨rfl, ((Below.refl _ _).alloc (Nat.le_refl _) _).alloc (by simp) _⟩
  · simp only [calV, slV, show Sp.putN 2 = 2 from rfl, CalS.putS]
    go_enter Tryz.func27, Tryz.ntmps27
    go_wp2
    exact bodyPost_ret (v := .agg #[.slice dA dn dc, .slice A0 n0 c0, .slice A1 n1 c1, .slice A n c, .slice A3 n3 c3, .slice A4 n4 c4, .slice A5 n5 c5]) (by simp [results, Tryz.results27, go_sem]) rfl ⟨rfl, ((Below.refl _ _).alloc (Nat.le_refl _) _).alloc (by simp) _⟩
  · simp only [calV, slV, show Sp.putN 3 = 3 from rfl, CalS.putS]
    go_enter Tryz.func27, Tryz.ntmps27
    go_wp2
    exact bodyPost_ret (v := .agg #[.slice dA dn dc, .slice A0 n0 c0, .slice A1 n1 c1, .slice A2 n2 c2, .slice A n c, .slice A4 n4 c4, .slice A5 n5 c5]) (by simp [results, Tryz.results27, go_sem]) rfl ⟨rfl, ((Below.refl _ _).alloc (Nat.le_refl _) _).alloc (by simp) _⟩
  · simp only [calV, slV, show Sp.putN 4 = 4 from rfl, CalS.putS]
    go_enter Tryz.func27, Tryz.ntmps27
    go_wp2
    exact bodyPost_ret (v := .agg #[.slice dA dn dc, .slice A0 n0 c0, .slice A1 n1 c1, .slice A2 n2 c2, .slice A3 n3 c3, .slice A n c, .slice A5 n5 c5]) (by simp [results, Tryz.results27, go_sem]) rfl ⟨rfl, ((Below.refl _ _).alloc (Nat.le_refl _) _).alloc (by simp) _⟩
  · have e : Sp.putN k = 5 := by
      unfold Sp.putN
      rw [if_neg h0, if_neg h1, if_neg h2, if_neg h3, if_neg h4]
    simp only [calV, slV, e, CalS.putS]
    have q0 : (k == 0) = false := by simpa using h0
    have q1 : (k == 1) = false := by simpa using h1
    have q2 : (k == 2) = false := by simpa using h2
    have q3 : (k == 3) = false := by simpa using h3
    have q4 : (k == 4) = false := by simpa using h4
    clear h0 h1 h2 h3 h4 e
    go_enter Tryz.func27, Tryz.ntmps27
    go_wp2
    exact bodyPost_ret (v := .agg #[.slice dA dn dc, .slice A0 n0 c0, .slice A1 n1 c1, .slice A2 n2 c2, .slice A3 n3 c3, .slice A4 n4 c4, .slice A n c]) (by simp [results, Tryz.results27, go_sem]) rfl ⟨rfl, ((Below.refl _ _).alloc (Nat.le_refl _) _).alloc (by simp) _⟩

end Go.Proofs.YtopmdffiikajnaaGreatDoor
