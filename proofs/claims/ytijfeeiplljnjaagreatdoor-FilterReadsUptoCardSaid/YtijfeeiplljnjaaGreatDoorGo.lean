/-
  A row that comes in by value, opened.
-/
import Derived.Test.YtijfeeiplljnjaaGreatDoorGr
import Derived.Test.YtijfeeiplljnjaaGreatDoorRa
import Derived.ChangeShapes
namespace Go.Proofs.YtijfeeiplljnjaaGreatDoor
open Go.ChangeShapes Go.WideShapes Go.Deep Go.RowKit Go.Joins

/-- what a row reads as -/
def rowD {H : Type} (r : RowD) : DataW H := .agg [.lit (.int .i64 r.time), .lit (.string r.unit.data.toList), .lit (.int .i64 r.n), .lit (.int .i64 r.kind), .lit (.string r.text.data.toList)]
set_option maxRecDepth 100000 in
theorem row_is {H : Type} {enc : TypeId × Value → H} {w : World} {base : Nat} {held : Bool} {v : Value} {r : Reach} {b0 : Nat} {d : DataW H} {p : List MemPlace} (hok : Value.okWide Tryz.prog w r b0 33 v)
    (h : DataW.Trod enc Tryz.prog w base (fun _ => true) held 33 v d p) (hw : ∀ m ∈ d.weights Tryz.prog 33, m ≤ reachBytes) :
    ∃ R : RowD, v = rowV R ∧ d = rowD R ∧ R.unit.size ≤ 140737488351232 ∧ R.text.size ≤ 140737488351232 := by
  obtain ⟨vs, ys, n, rfl, rfl, rfl, hv, hy, hf⟩ := open_fields Tryz.underlying33 (by kernel_rfl) (by kernel_rfl) hok h
  obtain ⟨u0, y0, e0, i0, t0⟩ := hf 0 _ rfl
  obtain ⟨u1, y1, e1, i1, t1⟩ := hf 1 _ rfl
  obtain ⟨u2, y2, e2, i2, t2⟩ := hf 2 _ rfl
  obtain ⟨u3, y3, e3, i3, t3⟩ := hf 3 _ rfl
  obtain ⟨u4, y4, e4, i4, t4⟩ := hf 4 _ rfl
  obtain ⟨n0, hn0, rfl, _⟩ := DataW.trod_int Tryz.underlying3 t0
  obtain ⟨s1, hs1, rfl, _⟩ := DataW.trod_string Tryz.underlying9 t1
  obtain ⟨n2, hn2, rfl, _⟩ := DataW.trod_int Tryz.underlying3 t2
  obtain ⟨n3, hn3, rfl, _⟩ := DataW.trod_int Tryz.underlying3 t3
  obtain ⟨s4, hs4, rfl, _⟩ := DataW.trod_string Tryz.underlying9 t4
  obtain rfl : u0 = .int .i64 n0 := by simpa using hn0
  obtain rfl : u1 = .string s1 := by simpa using hs1
  obtain rfl : u2 = .int .i64 n2 := by simpa using hn2
  obtain rfl : u3 = .int .i64 n3 := by simpa using hn3
  obtain rfl : u4 = .string s4 := by simpa using hs4
  have w1 := hw (s1.data.toList.length) (weights_agg (j := 1) Tryz.underlying33 rfl (by rw [List.getElem?_map, i1]; rfl) (by simp [DataW.weights]))
  have w4 := hw (s4.data.toList.length) (weights_agg (j := 4) Tryz.underlying33 rfl (by rw [List.getElem?_map, i4]; rfl) (by simp [DataW.weights]))
  have k1 : s1.data.toList.length = s1.size := by rw [Array.length_toList]; rfl
  have k4 : s4.data.toList.length = s4.size := by rw [Array.length_toList]; rfl
  have hr := reach_le
  match vs, hv, ys, hy with
  | [v0, v1, v2, v3, v4], _, [z0, z1, z2, z3, z4], _ =>
    simp only [List.getElem?_cons_zero, List.getElem?_cons_succ, Option.some.injEq] at e0 e1 e2 e3 e4 i0 i1 i2 i3 i4
    subst e0 e1 e2 e3 e4 i0 i1 i2 i3 i4
    exact ⟨⟨n0, s1, n2, n3, s4⟩, rfl, rfl, by dsimp only; omega, by dsimp only; omega⟩

end Go.Proofs.YtijfeeiplljnjaaGreatDoor
