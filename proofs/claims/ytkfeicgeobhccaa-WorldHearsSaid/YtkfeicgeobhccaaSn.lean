/-
  A slice of integers that came in, as a list; the walk of the law of who calls, with it.
-/
import Derived.Test.YtkfeicgeobhccaaSj
import Derived.Test.YtkfeicgeobhccaaWx
import Derived.ChangeSlices
namespace Go.Proofs.Ytkfeicgeobhccaa
open Go.ChangeShapes Go.WideShapes Go.Deep Go.RowKit

structure IntsD where
  A : Option Addr
  n : Nat
  c : Nat
  l : List Int
def intsV (d : IntsD) : Value := .slice d.A d.n d.c
structure IntsGood (w : World) (d : IntsD) : Prop where
  rd : Rd w w.heap.size 1 d.A d.n (d.l.map (Value.int .i64))
  le : d.n ≤ d.c
  bulk : d.n * 8 ≤ reachBytes
section
variable {H : Type} {enc : TypeId × Value → H} {w : World} {base : Nat} {held : Bool}
theorem ints_of {P : Program} {t e : TypeId} (ht : P.underlying t = some (.slice e)) (he : P.underlying e = some (.int .i64)) (hc1 : P.cellsOf e = 1) (hb : P.bytesOf e = 8) {r : Reach} {b0 : Nat} {v : Value} {d : DataW H} {p : List MemPlace} (hok : Value.okWide P w r b0 t v) (h : DataW.Trod enc P w base (fun _ => true) held t v d p) (hp : ∀ x ∈ p, x.block < w.heap.size) (hw : ∀ m ∈ d.weights P t, m ≤ reachBytes) :
    ∃ D : IntsD, v = intsV D ∧ IntsGood w D := by
  obtain ⟨a0, len0, cap0, rfl⟩ := okWide_slice ht hok
  obtain ⟨fuel, h⟩ := h
  rcases open_ints ht he hc1 h with ⟨hcs, hx⟩ | ⟨a, len, cap, zs, hcs, _, hl, _, hz, hx, hc, _⟩
  · simp [Value.cells] at hcs
    obtain ⟨rfl, rfl, rfl⟩ := hcs
    exact ⟨⟨none, 0, 0, []⟩, rfl, Rd.empty, Nat.le_refl _, by simp⟩
  · simp [Value.cells] at hcs
    obtain ⟨rfl, rfl, rfl⟩ := hcs
    simp only [if_true] at hz
    simp only [Prod.mk.injEq] at hx
    obtain ⟨rfl, rfl⟩ := hx
    refine ⟨⟨some a, len0, cap0, zs.take len0⟩, rfl, ⟨by simp; omega, fun hn => ⟨a, rfl, ?_, ?_⟩⟩, hl, ?_⟩
    · exact hp (.cell a.block (a.off + 0)) (MemPlace.mem_row.2 ⟨0, by have : 0 < len0 := hn; omega, rfl⟩)
    · intro j u hu
      rw [List.getElem?_map, List.getElem?_take] at hu
      split at hu
      case isTrue hj =>
        have hj2 : j < zs.length := by omega
        rw [List.getElem?_eq_getElem hj2] at hu
        injection hu with hu
        subst hu
        have h9 := hc j hj2
        rw [List.getD_eq_getElem?_getD, List.getElem?_eq_getElem hj2, Option.getD_some] at h9
        exact h9
      case isFalse => cases hu
    · have h1 := hw _ (by simp only [DataW.weights, ht]; exact List.mem_cons_self)
      rw [hb] at h1
      refine Nat.le_trans (Nat.mul_le_mul_right _ ?_) h1
      simp [lits]; omega
theorem ints_is {r : Reach} {b0 : Nat} {v : Value} {d : DataW H} {p : List MemPlace} (hok : Value.okWide Try.prog w r b0 31 v) (h : DataW.Trod enc Try.prog w base (fun _ => true) held 31 v d p) (hp : ∀ x ∈ p, x.block < w.heap.size) (hw : ∀ m ∈ d.weights Try.prog 31, m ≤ reachBytes) :
    ∃ D : IntsD, v = intsV D ∧ IntsGood w D := ints_of Try.underlying31 Try.underlying3 (by kernel_rfl) (by kernel_rfl) hok h hp hw
end
theorem worldhears_row (D : WorldD) (I : IntsD) (heard now : Int) (w : World) (h : WorldGood w D) (hi : IntsGood w I) :
    Calls Try.prog 5 #[worldV D, intsV I, .int .i64 heard, .int .i64 now] w fun e w' => e = .returned (.bool true) ∧ Below w.heap.size w w' := by
  have h1 := hi.bulk
  have h2 := reach_le
  exact worldhears_any D I.A I.n I.c I.l heard now w h hi.rd (by omega)

end Go.Proofs.Ytkfeicgeobhccaa
