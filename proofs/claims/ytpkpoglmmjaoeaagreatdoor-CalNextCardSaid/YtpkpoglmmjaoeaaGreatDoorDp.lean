/-
  A calendar, a list of numbers that come in by value, opened.
-/
import Derived.Test.YtpkpoglmmjaoeaaGreatDoorGr
import Derived.Test.YtpkpoglmmjaoeaaGreatDoorDk
import Derived.ChangeShapes
import Derived.ChangeSlices
namespace Go.Proofs.YtpkpoglmmjaoeaaGreatDoor
open Go.ChangeShapes Go.WideShapes Go.Deep Go.RowKit Go.Joins

section
variable {H : Type} {enc : TypeId × Value → H} {w : World} {base : Nat} {held : Bool}
theorem ints_raw {fuel : Nat} {v : Value} {x : DataW H × List MemPlace} (h : DataW.trod enc Tryz.prog w base (fun _ => true) held fuel 22 [v] = some x) (hp : ∀ p ∈ x.2, p.block < w.heap.size) (hw : ∀ m ∈ x.1.weights Tryz.prog 22, m ≤ reachBytes) :
    ∃ (A : Option Addr) (n c : Nat) (l : List Int), v = .slice A n c ∧ Rd w w.heap.size 1 A n (intsC l) ∧ n ≤ c ∧ n * 8 ≤ reachBytes := by
  rcases open_ints Tryz.underlying22 Tryz.underlying3 (by kernel_rfl) h with ⟨hcs, hx⟩ | ⟨a, len, cap, zs, hcs, _, hl, _, hz, hx, hc, _⟩
  · obtain rfl : v = .slice none 0 0 := by simpa using hcs
    exact ⟨none, 0, 0, [], rfl, Rd.empty, Nat.le_refl _, by simp⟩
  · obtain rfl : v = .slice (some a) len cap := by simpa using hcs
    simp only [if_true] at hz
    subst hx
    refine ⟨some a, len, cap, zs.take len, rfl, ⟨by simp [intsC]; omega, fun hn => ⟨a, rfl, ?_, ?_⟩⟩, hl, ?_⟩
    · exact hp (.cell a.block (a.off + 0)) (MemPlace.mem_row.2 ⟨0, by have : 0 < len := hn; omega, rfl⟩)
    · intro j u hu
      unfold intsC at hu
      rw [List.getElem?_map, List.getElem?_take] at hu
      split at hu
      case isTrue hj =>
        have hj2 : j < zs.length := by omega
        rw [List.getElem?_eq_getElem hj2] at hu
        injection hu with hu
        subst hu
        have h9 := hc j hj2
        rw [List.getD_eq_getElem?_getD, List.getElem?_eq_getElem hj2, Option.getD_some] at h9
        exact h9
      case isFalse => cases hu
    · have h1 := hw _ (by simp only [DataW.weights, Tryz.underlying22]; exact List.mem_cons_self)
      rw [show Tryz.prog.bytesOf 3 = 8 by kernel_rfl] at h1
      refine Nat.le_trans (Nat.mul_le_mul_right _ ?_) h1
      simp [lits]; omega
set_option maxRecDepth 100000 in
theorem parts_raw {fuel : Nat} {v : Value} {x : DataW H × List MemPlace} (h : DataW.trod enc Tryz.prog w base (fun _ => true) held fuel 23 [v] = some x) (hp : ∀ p ∈ x.2, p.block < w.heap.size) (hw : ∀ m ∈ x.1.weights Tryz.prog 23, m ≤ reachBytes) :
    ∃ (A : Option Addr) (n c : Nat) (l : List Sp.PartD), v = .slice A n c ∧ Rd w w.heap.size 3 A n (partsC l) ∧ n ≤ c ∧ n ≤ 9223372036854775807 := by
  obtain ⟨A, n, c, l, hv, hr, hn, hb, _⟩ := rows_is (C := partC) (G := fun _ => True) Tryz.underlying23 Tryz.underlying62 (by kernel_rfl) (by kernel_rfl) (fun _ => rfl) (by decide)
    (fun ys n vs _ hf => by
      obtain ⟨y0, _, t0, _, _⟩ := hf 0 _ rfl
      obtain ⟨y1, _, t1, _, _⟩ := hf 1 _ rfl
      obtain ⟨y2, _, t2, _, _⟩ := hf 2 _ rfl
      obtain ⟨n0, h0, _, _⟩ := DataW.trod_int Tryz.underlying3 t0
      obtain ⟨n1, h1, _, _⟩ := DataW.trod_int Tryz.underlying3 t1
      obtain ⟨n2, h2, _, _⟩ := DataW.trod_int Tryz.underlying3 t2
      have e0 : vs 0 = .int .i64 n0 := by simpa using h0
      have e1 : vs 1 = .int .i64 n1 := by simpa using h1
      have e2 : vs 2 = .int .i64 n2 := by simpa using h2
      refine ⟨⟨n0, n1, n2⟩, fun j hj => ?_, trivial⟩
      have hj3 : j < 3 := hj
      have e : j = 0 ∨ j = 1 ∨ j = 2 := by omega
      rcases e with rfl | rfl | rfl
      · rw [e0]; rfl
      · rw [e1]; rfl
      · rw [e2]; rfl) h hp hw
  have hr2 := reach_le
  rw [show Tryz.prog.bytesOf 62 = 24 by kernel_rfl] at hb
  exact ⟨A, n, c, l, hv, hr, hn, by omega⟩
set_option maxRecDepth 100000 in
theorem cal_is {v : Value} {r : Reach} {b0 : Nat} {d : DataW H} {p : List MemPlace} (hok : Value.okWide Tryz.prog w r b0 25 v)
    (h : DataW.Trod enc Tryz.prog w base (fun _ => true) held 25 v d p) (hp : ∀ x ∈ p, x.block < w.heap.size) (hw : ∀ m ∈ d.weights Tryz.prog 25, m ≤ reachBytes) :
    ∃ S : CalS, v = calV S ∧ CalGood w S := by
  obtain ⟨vs, ys, n, rfl, rfl, rfl, hv, hy, hf⟩ := open_fields Tryz.underlying25 (by kernel_rfl) (by kernel_rfl) hok h
  obtain ⟨u0, y0, e0, i0, t0⟩ := hf 0 _ rfl
  obtain ⟨u1, y1, e1, i1, t1⟩ := hf 1 _ rfl
  obtain ⟨u2, y2, e2, i2, t2⟩ := hf 2 _ rfl
  obtain ⟨u3, y3, e3, i3, t3⟩ := hf 3 _ rfl
  obtain ⟨u4, y4, e4, i4, t4⟩ := hf 4 _ rfl
  obtain ⟨u5, y5, e5, i5, t5⟩ := hf 5 _ rfl
  obtain ⟨u6, y6, e6, i6, t6⟩ := hf 6 _ rfl
  have pp : ∀ {y : DataW H × List MemPlace} {j : Nat}, ys[j]? = some y → ∀ q ∈ y.2, q.block < w.heap.size := fun hi q hq => hp q (List.mem_flatMap.2 ⟨_, List.mem_of_getElem? hi, hq⟩)
  obtain ⟨A0, n0, c0, l0, rfl, r0, _, k0⟩ := ints_raw t0 (pp i0) (fun m hm => hw m (weights_agg (j := 0) Tryz.underlying25 rfl (by rw [List.getElem?_map, i0]; rfl) hm))
  obtain ⟨A1, n1, c1, l1, rfl, r1, _, k1⟩ := parts_raw t1 (pp i1) (fun m hm => hw m (weights_agg (j := 1) Tryz.underlying25 rfl (by rw [List.getElem?_map, i1]; rfl) hm))
  obtain ⟨A2, n2, c2, l2, rfl, r2, _, k2⟩ := parts_raw t2 (pp i2) (fun m hm => hw m (weights_agg (j := 2) Tryz.underlying25 rfl (by rw [List.getElem?_map, i2]; rfl) hm))
  obtain ⟨A3, n3, c3, l3, rfl, r3, _, k3⟩ := parts_raw t3 (pp i3) (fun m hm => hw m (weights_agg (j := 3) Tryz.underlying25 rfl (by rw [List.getElem?_map, i3]; rfl) hm))
  obtain ⟨A4, n4, c4, l4, rfl, r4, _, k4⟩ := parts_raw t4 (pp i4) (fun m hm => hw m (weights_agg (j := 4) Tryz.underlying25 rfl (by rw [List.getElem?_map, i4]; rfl) hm))
  obtain ⟨A5, n5, c5, l5, rfl, r5, _, k5⟩ := parts_raw t5 (pp i5) (fun m hm => hw m (weights_agg (j := 5) Tryz.underlying25 rfl (by rw [List.getElem?_map, i5]; rfl) hm))
  obtain ⟨A6, n6, c6, l6, rfl, r6, _, k6⟩ := parts_raw t6 (pp i6) (fun m hm => hw m (weights_agg (j := 6) Tryz.underlying25 rfl (by rw [List.getElem?_map, i6]; rfl) hm))
  have hr := reach_le
  match vs, hv with
  | [v0, v1, v2, v3, v4, v5, v6], _ =>
    simp only [List.getElem?_cons_zero, List.getElem?_cons_succ, Option.some.injEq] at e0 e1 e2 e3 e4 e5 e6
    subst e0 e1 e2 e3 e4 e5 e6
    refine ⟨⟨⟨A0, n0, c0⟩, ⟨A1, n1, c1⟩, ⟨A2, n2, c2⟩, ⟨A3, n3, c3⟩, ⟨A4, n4, c4⟩, ⟨A5, n5, c5⟩, ⟨A6, n6, c6⟩, ⟨l0, l1, l2, l3, l4, l5, l6⟩⟩, rfl, ⟨r0, fun i hi => ?_, by dsimp only; omega, fun i => ?_⟩⟩
    · have e : i = 0 ∨ i = 1 ∨ i = 2 ∨ i = 3 ∨ i = 4 ∨ i = 5 := by omega
      rcases e with rfl | rfl | rfl | rfl | rfl | rfl
      · exact r1
      · exact r2
      · exact r3
      · exact r4
      · exact r5
      · exact r6
    · match i with
      | 0 => exact k1
      | 1 => exact k2
      | 2 => exact k3
      | 3 => exact k4
      | 4 => exact k5
      | q + 5 => exact k6
end

end Go.Proofs.YtpkpoglmmjaoeaaGreatDoor
