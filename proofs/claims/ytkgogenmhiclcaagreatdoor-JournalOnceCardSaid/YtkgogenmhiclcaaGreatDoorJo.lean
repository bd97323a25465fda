/-
  A log that comes in, opened.
-/
import Derived.Test.YtkgogenmhiclcaaGreatDoorGr
import Derived.Test.YtkgogenmhiclcaaGreatDoorJe
import Derived.Test.YtkgogenmhiclcaaGreatDoorJf
import Derived.ChangeShapes
namespace Go.Proofs.YtkgogenmhiclcaaGreatDoor
open Go.ChangeShapes Go.WideShapes Go.Deep Go.RowKit Go.Joins

/-- rows whose numbers and texts can be -/
def GoodL (l : List RowD) : Prop := ∀ r ∈ l, okRow r ∧ r.text.size ≤ 140737488355328
structure RowsD where
  A : Option Addr
  n : Nat
  c : Nat
  l : List RowD
def rowsV (d : RowsD) : Value := .slice d.A d.n d.c
structure RowsGood (w : World) (d : RowsD) : Prop where
  rd : Rd w w.heap.size 5 d.A d.n (rowsC d.l)
  le : d.n ≤ d.c
  good : GoodL d.l
  bulk : d.n ≤ 140737488355328
  bytes : d.n * 56 ≤ 140737488351232
theorem GoodL.fits {l : List RowD} (h : GoodL l) : Fits l := fun r hr => ⟨(h r hr).1.1, (h r hr).2⟩
theorem GoodL.ok {l : List RowD} (h : GoodL l) : ∀ r ∈ l, okRow r := fun r hr => (h r hr).1
section
variable {H : Type} {enc : TypeId × Value → H} {w : World} {base : Nat} {held : Bool}
set_option maxRecDepth 100000 in
theorem logrows_is {r : Reach} {b0 : Nat} {v : Value} {d : DataW H} {p : List MemPlace} (hok : Value.okWide Tryz.prog w r b0 22 v) (h : DataW.Trod enc Tryz.prog w base (fun _ => true) held 22 v d p) (hp : ∀ x ∈ p, x.block < w.heap.size) (hw : ∀ m ∈ d.weights Tryz.prog 22, m ≤ reachBytes) :
    ∃ D : RowsD, v = rowsV D ∧ RowsGood w D := by
  obtain ⟨a0, len0, cap0, rfl⟩ := okWide_slice Tryz.underlying22 hok
  obtain ⟨fuel, h⟩ := h
  have h' : DataW.trod enc Tryz.prog w base (fun _ => true) held fuel 22 [.slice a0 len0 cap0] = some (d, p) := by simpa [Value.cells] using h
  obtain ⟨A, n, c, l, h1, h2, h3, h4, h5⟩ := rows_is rowC (fun q => okRow q ∧ q.text.size ≤ 140737488355328) Tryz.underlying22 Tryz.underlying37 (by kernel_rfl) (by kernel_rfl) (fun _ => rfl) (by decide) (by
    intro ys n vs hyl hf
    obtain ⟨y0, e0, t0, _, w0⟩ := hf 0 _ rfl
    obtain ⟨y1, e1, t1, _, w1⟩ := hf 1 _ rfl
    obtain ⟨y2, e2, t2, _, w2⟩ := hf 2 _ rfl
    obtain ⟨y3, e3, t3, _, w3⟩ := hf 3 _ rfl
    obtain ⟨y4, e4, t4, _, w4⟩ := hf 4 _ rfl
    obtain ⟨n0, hn0, rfl, _⟩ := DataW.trod_int Tryz.underlying3 t0
    obtain ⟨s1, hs1, rfl, _⟩ := DataW.trod_string Tryz.underlying9 t1
    obtain ⟨n2, hn2, rfl, wf2⟩ := DataW.trod_int Tryz.underlying3 t2
    obtain ⟨n3, hn3, rfl, _⟩ := DataW.trod_int Tryz.underlying3 t3
    obtain ⟨s4, hs4, rfl, _⟩ := DataW.trod_string Tryz.underlying9 t4
    have z1 := w1 (s1.data.toList.length) (by simp [DataW.weights])
    have z4 := w4 (s4.data.toList.length) (by simp [DataW.weights])
    have k1 : s1.data.toList.length = s1.size := by rw [Array.length_toList]; rfl
    have k4 : s4.data.toList.length = s4.size := by rw [Array.length_toList]; rfl
    have hr := reach_le
    have hb2 := bounds_i64 wf2
    refine ⟨⟨n0, s1, n2, n3, s4⟩, fun j hj => ?_, ⟨by dsimp only; omega, hb2.1, hb2.2⟩, by dsimp only; omega⟩
    have e0' : vs 0 = .int .i64 n0 := by simpa using hn0
    have e1' : vs 1 = .string s1 := by simpa using hs1
    have e2' : vs 2 = .int .i64 n2 := by simpa using hn2
    have e3' : vs 3 = .int .i64 n3 := by simpa using hn3
    have e4' : vs 4 = .string s4 := by simpa using hs4
    have hj5 : j < 5 := hj
    match j, hj5 with
    | 0, _ => rw [e0']; rfl
    | 1, _ => rw [e1']; rfl
    | 2, _ => rw [e2']; rfl
    | 3, _ => rw [e3']; rfl
    | 4, _ => rw [e4']; rfl) h' hp hw
  have hb : Tryz.prog.bytesOf 37 = 56 := by kernel_rfl
  rw [hb] at h4
  have hr := reach_le
  exact ⟨⟨A, n, c, l⟩, h1, ⟨h2, h3, h5, by dsimp only; omega, by dsimp only; omega⟩⟩
end

end Go.Proofs.YtkgogenmhiclcaaGreatDoor
