/-
  Units and acts that come in by value, opened.
-/
import Derived.Test.YtkfeicgeobhccaaWr
namespace Go.Proofs.Ytkfeicgeobhccaa
open Go.ChangeShapes Go.WideShapes Go.Deep Go.RowKit Go.Joins

/-- a unit by value: its name, its type, and the rest -/
structure UnitD where
  nm : ByteArray
  ty : Int
  u : Nat → Value
def unitV (D : UnitD) : Value := .agg #[.string D.nm, D.u 1, D.u 2, D.u 3, D.u 4, D.u 5, D.u 6, .int .i64 D.ty, D.u 8, D.u 9, D.u 10, D.u 11, D.u 12, D.u 13, D.u 14, D.u 15, D.u 16, D.u 17, D.u 18, D.u 19, D.u 20, D.u 21, D.u 22, D.u 23, D.u 24, D.u 25, D.u 26, D.u 27, D.u 28, D.u 29, D.u 30, D.u 31, D.u 32, D.u 33, D.u 34]
section
variable {H : Type} {enc : TypeId × Value → H} {w : World} {base : Nat} {held : Bool} {v : Value}
theorem one_str {t : TypeId} {n : Nat} {c : Value} {o : Option (DataW H × List MemPlace)} (ht : Try.prog.underlying t = some .string) (h : DataW.trod enc Try.prog w base (fun _ => true) held n t [c] = o) (ho : o.isSome = true) : ∃ s : ByteArray, c = .string s := by
  obtain ⟨y, rfl⟩ := Option.isSome_iff_exists.1 ho
  obtain ⟨s, hs, _, _⟩ := DataW.trod_string ht h
  exact ⟨s, by simpa using hs⟩
theorem one_int {t : TypeId} {n : Nat} {c : Value} {o : Option (DataW H × List MemPlace)} (ht : Try.prog.underlying t = some (.int .i64)) (h : DataW.trod enc Try.prog w base (fun _ => true) held n t [c] = o) (ho : o.isSome = true) : ∃ k : Int, c = .int .i64 k := by
  obtain ⟨y, rfl⟩ := Option.isSome_iff_exists.1 ho
  obtain ⟨s, hs, _, _⟩ := DataW.trod_int ht h
  exact ⟨s, by simpa using hs⟩
set_option maxRecDepth 100000 in
set_option maxHeartbeats 1000000 in
theorem unit_is {r : Reach} {b0 : Nat} {d : DataW H} {p : List MemPlace} (hok : Value.okWide Try.prog w r b0 35 v) (h : DataW.Trod enc Try.prog w base (fun _ => true) held 35 v d p) (_ : ∀ x ∈ p, x.block < w.heap.size) (_ : ∀ m ∈ d.weights Try.prog 35, m ≤ reachBytes) :
    ∃ D : UnitD, v = unitV D ∧ True := by
  obtain ⟨cs, rfl, hsz⟩ := okWide_struct Try.underlying35 hok
  have hC : Try.prog.cellsOf 35 = 35 := by kernel_rfl
  have hs1 : Try.prog.cellsOf 9 = 1 := by kernel_rfl
  have hi1 : Try.prog.cellsOf 3 = 1 := by kernel_rfl
  obtain ⟨l⟩ := cs
  match l, hsz.trans hC with
  | c0 :: c1 :: c2 :: c3 :: c4 :: c5 :: c6 :: c7 :: c8 :: c9 :: c10 :: c11 :: c12 :: c13 :: c14 :: c15 :: c16 :: c17 :: c18 :: c19 :: c20 :: c21 :: c22 :: c23 :: c24 :: c25 :: c26 :: c27 :: c28 :: c29 :: c30 :: c31 :: c32 :: c33 :: c34 :: [], _ =>
    obtain ⟨fuel, hf⟩ := h
    obtain ⟨xs, n, _, hx, _, hlen, hg⟩ := DataW.trod_struct Try.underlying35 hf
    have hl : xs.length = 35 := hlen
    obtain ⟨s, rfl⟩ := one_str (c := c0) Try.underlying9 (o := xs[0]?) (by have := hg 0 _ rfl; simpa [Value.cells, hs1] using this) (by rw [List.getElem?_eq_getElem (show 0 < xs.length by omega)]; rfl)
    obtain ⟨k, rfl⟩ := one_int (c := c7) Try.underlying3 (o := xs[7]?) (by have := hg 7 _ rfl; simpa [Value.cells, hi1] using this) (by rw [List.getElem?_eq_getElem (show 7 < xs.length by omega)]; rfl)
    exact ⟨⟨s, k, fun j => [undef, c1, c2, c3, c4, c5, c6, undef, c8, c9, c10, c11, c12, c13, c14, c15, c16, c17, c18, c19, c20, c21, c22, c23, c24, c25, c26, c27, c28, c29, c30, c31, c32, c33, c34].getD j undef⟩, rfl, trivial⟩
set_option maxRecDepth 100000 in
set_option maxHeartbeats 1000000 in
theorem act_is {r : Reach} {b0 : Nat} {d : DataW H} {p : List MemPlace} (hok : Value.okWide Try.prog w r b0 38 v) (h : DataW.Trod enc Try.prog w base (fun _ => true) held 38 v d p) (hp : ∀ x ∈ p, x.block < w.heap.size) (hw : ∀ m ∈ d.weights Try.prog 38, m ≤ reachBytes) :
    ∃ D : ActD, v = actV D ∧ ActGood w D := by
  obtain ⟨cs, rfl, hsz⟩ := okWide_struct Try.underlying38 hok
  have hC : Try.prog.cellsOf 38 = 9 := by kernel_rfl
  obtain ⟨l⟩ := cs
  match l, hsz.trans hC with
  | [c0, c1, c2, c3, c4, c5, c6, c7, c8], _ =>
    obtain ⟨fuel, hf⟩ := h
    obtain ⟨xs, n, _, hx, _, hlen, hg⟩ := DataW.trod_struct Try.underlying38 hf
    simp only [Prod.mk.injEq] at hx
    obtain ⟨rfl, rfl⟩ := hx
    have hone : oneCellFields Try.prog (match Try.prog.underlying 38 with | some (.struct fs) => fs | _ => #[]) = true := by kernel_rfl
    obtain ⟨q, hq, hG⟩ := act_of (enc := enc) (w := w) (base := base) (held := held) (ys := xs) (n := n) (vs := fun j => [c0, c1, c2, c3, c4, c5, c6, c7, c8].getD j undef) (by
      intro j f hj
      have hh := hone_of hone j f hj
      rw [Try.underlying38] at hj
      have h1 := hg j f hj
      have hjl : j < 9 := (Array.getElem?_eq_some_iff.1 hj).1
      have hjx : j < xs.length := by rw [hlen]; exact hjl
      have hy := List.getElem?_eq_getElem hjx
      refine ⟨xs[j], hy, ?_, fun q hq => hp q (List.mem_flatMap.2 ⟨_, List.getElem_mem hjx, hq⟩), fun m hm => hw m (weights_agg Try.underlying38 hj (by rw [List.getElem?_map, hy]; rfl) hm)⟩
      rw [← hy, ← h1, hh.1, hh.2]
      have h3 : (([c0, c1, c2, c3, c4, c5, c6, c7, c8] : List Value).drop j).take 1 = [([c0, c1, c2, c3, c4, c5, c6, c7, c8] : List Value).getD j undef] := by
        match j, hjl with
        | 0, _ => rfl
        | 1, _ => rfl
        | 2, _ => rfl
        | 3, _ => rfl
        | 4, _ => rfl
        | 5, _ => rfl
        | 6, _ => rfl
        | 7, _ => rfl
        | 8, _ => rfl
      rw [← h3]; rfl)
    refine ⟨q, ?_, hG⟩
    have e : actC q = [c0, c1, c2, c3, c4, c5, c6, c7, c8] := by
      apply List.ext_getElem?
      intro j
      by_cases hj : j < 9
      · rw [hq j hj]
        match j, hj with
        | 0, _ => rfl
        | 1, _ => rfl
        | 2, _ => rfl
        | 3, _ => rfl
        | 4, _ => rfl
        | 5, _ => rfl
        | 6, _ => rfl
        | 7, _ => rfl
        | 8, _ => rfl
      · rw [List.getElem?_eq_none (by rw [actC_len]; omega), List.getElem?_eq_none (by simp; omega)]
    unfold actV
    rw [e]
end

end Go.Proofs.Ytkfeicgeobhccaa
