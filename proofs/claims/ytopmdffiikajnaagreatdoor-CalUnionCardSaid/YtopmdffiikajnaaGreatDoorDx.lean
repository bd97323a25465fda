/-
  A part, a list of parts that come in by value, opened.
-/
import Derived.Test.YtopmdffiikajnaaGreatDoorDp
import Derived.ChangeShapes
import Derived.ChangeSlices
namespace Go.Proofs.YtopmdffiikajnaaGreatDoor
open Go.ChangeShapes Go.WideShapes Go.Deep Go.RowKit Go.Joins

/-- a list of parts that comes in by value -/
structure PartsS where
  A : Option Addr
  n : Nat
  c : Nat
  l : List Sp.PartD
def partsV (s : PartsS) : Value := .slice s.A s.n s.c
structure PartsGood (w : World) (s : PartsS) : Prop where
  rd : Rd w w.heap.size 3 s.A s.n (partsC s.l)
  bd : s.n ≤ 5864062014805
section
variable {H : Type} {enc : TypeId × Value → H} {w : World} {base : Nat} {held : Bool}
set_option maxRecDepth 100000 in
theorem part_is {v : Value} {r : Reach} {b0 : Nat} {d : DataW H} {p : List MemPlace} (hok : Value.okWide Tryz.prog w r b0 43 v)
    (h : DataW.Trod enc Tryz.prog w base (fun _ => true) held 43 v d p) (_hp : ∀ x ∈ p, x.block < w.heap.size) (_hw : ∀ m ∈ d.weights Tryz.prog 43, m ≤ reachBytes) :
    ∃ S : Sp.PartD, v = partV S ∧ True := by
  obtain ⟨vs, ys, n, rfl, rfl, rfl, hv, hy, hf⟩ := open_fields Tryz.underlying43 (by kernel_rfl) (by kernel_rfl) hok h
  obtain ⟨u0, y0, e0, i0, t0⟩ := hf 0 _ rfl
  obtain ⟨u1, y1, e1, i1, t1⟩ := hf 1 _ rfl
  obtain ⟨u2, y2, e2, i2, t2⟩ := hf 2 _ rfl
  obtain ⟨n0, h0, _, _⟩ := DataW.trod_int Tryz.underlying3 t0
  obtain ⟨n1, h1, _, _⟩ := DataW.trod_int Tryz.underlying3 t1
  obtain ⟨n2, h2, _, _⟩ := DataW.trod_int Tryz.underlying3 t2
  obtain rfl : u0 = .int .i64 n0 := by simpa using h0
  obtain rfl : u1 = .int .i64 n1 := by simpa using h1
  obtain rfl : u2 = .int .i64 n2 := by simpa using h2
  match vs, hv with
  | [v0, v1, v2], _ =>
    simp only [List.getElem?_cons_zero, List.getElem?_cons_succ, Option.some.injEq] at e0 e1 e2
    subst e0 e1 e2
    exact ⟨⟨n0, n1, n2⟩, rfl, trivial⟩
set_option maxRecDepth 100000 in
theorem parts_raw3 {fuel : Nat} {v : Value} {x : DataW H × List MemPlace} (h : DataW.trod enc Tryz.prog w base (fun _ => true) held fuel 24 [v] = some x) (hp : ∀ p ∈ x.2, p.block < w.heap.size) (hw : ∀ m ∈ x.1.weights Tryz.prog 24, m ≤ reachBytes) :
    ∃ (A : Option Addr) (n c : Nat) (l : List Sp.PartD), v = .slice A n c ∧ Rd w w.heap.size 3 A n (partsC l) ∧ n ≤ c ∧ n ≤ 5864062014805 := by
  obtain ⟨A, n, c, l, hv, hr, hn, hb, _⟩ := rows_is (C := partC) (G := fun _ => True) Tryz.underlying24 Tryz.underlying43 (by kernel_rfl) (by kernel_rfl) (fun _ => rfl) (by decide)
    (fun ys n vs _ hf => by
      obtain ⟨y0, _, t0, _, _⟩ := hf 0 _ rfl
      obtain ⟨y1, _, t1, _, _⟩ := hf 1 _ rfl
      obtain ⟨y2, _, t2, _, _⟩ := hf 2 _ rfl
      obtain ⟨n0, h0, _, _⟩ := DataW.trod_int Tryz.underlying3 t0
      obtain ⟨n1, h1, _, _⟩ := DataW.trod_int Tryz.underlying3 t1
      obtain ⟨n2, h2, _, _⟩ := DataW.trod_int Tryz.underlying3 t2
      have e0 : vs 0 = .int .i64 n0 := by simpa using h0
      have e1 : vs 1 = .int .i64 n1 := by simpa using h1
      have e2 : vs 2 = .int .i64 n2 := by simpa using h2
      refine ⟨⟨n0, n1, n2⟩, fun j hj => ?_, trivial⟩
      have hj3 : j < 3 := hj
      have e : j = 0 ∨ j = 1 ∨ j = 2 := by omega
      rcases e with rfl | rfl | rfl
      · rw [e0]; rfl
      · rw [e1]; rfl
      · rw [e2]; rfl) h hp hw
  have hr2 := reach_le
  rw [show Tryz.prog.bytesOf 43 = 24 by kernel_rfl] at hb
  exact ⟨A, n, c, l, hv, hr, hn, by omega⟩
set_option maxRecDepth 100000 in
theorem parts_raw2 {r : Reach} {b0 : Nat} {v : Value} {d : DataW H} {p : List MemPlace} (hok : Value.okWide Tryz.prog w r b0 24 v)
    (h : DataW.Trod enc Tryz.prog w base (fun _ => true) held 24 v d p) (hp : ∀ x ∈ p, x.block < w.heap.size) (hw : ∀ m ∈ d.weights Tryz.prog 24, m ≤ reachBytes) : ∃ D : PartsS, v = partsV D ∧ PartsGood w D := by
  obtain ⟨a0, len0, cap0, rfl⟩ := okWide_slice Tryz.underlying24 hok
  obtain ⟨fuel, h⟩ := h
  have h' : DataW.trod enc Tryz.prog w base (fun _ => true) held fuel 24 [.slice a0 len0 cap0] = some (d, p) := by simpa [Value.cells] using h
  obtain ⟨A, n, c, l, h1, h2, h3, h4⟩ := parts_raw3 h' hp hw
  exact ⟨⟨A, n, c, l⟩, h1, h2, h4⟩
end

end Go.Proofs.YtopmdffiikajnaaGreatDoor
