/-
  The walk of the law that an act more is what its command does.
-/
import Derived.Test.YtkfeicgeobhccaaWz
import Derived.Deep.RegionHeld3
namespace Go.Proofs.Ytkfeicgeobhccaa
open Go.RowKit

theorem act_info : (Try.prog.info? 38).map (fun i => (i.zero, i.size, i.bytes)) = some (some (.agg #[.string ⟨#[]⟩, .int .i64 0, .int .i64 0, .int .i64 0, .int .i64 0, .int .i64 0, .int .i64 0, .int .i64 0, .slice none 0 0]), 9, 96) := by kernel_rfl
theorem actCells_one (l : List ActD) : ∀ u ∈ actCells l, u.oneCell' = true := by
  intro u hu
  simp only [actCells, List.mem_flatMap, actC, List.mem_cons, List.not_mem_nil, or_false] at hu
  obtain ⟨a, _, rfl | rfl | rfl | rfl | rfl | rfl | rfl | rfl | rfl⟩ := hu <;> rfl
theorem actCells_app (a b : List ActD) : actCells (a ++ b) = actCells a ++ actCells b := by simp [actCells]
/-- what stays while the acts are copied: all below, and the copy's own fields -/
def VS (w1 : World) (c1 c2 : Value) (W : World) : Prop :=
  Below w1.heap.size w1 W ∧ w1.heap.size + 1 ≤ W.heap.size ∧ (∃ x, W.cell? ⟨w1.heap.size, 0, none⟩ = some x) ∧ W.frozen? ⟨w1.heap.size, 0, none⟩ = false ∧ W.cell? ⟨w1.heap.size, 1, none⟩ = some c1 ∧ W.cell? ⟨w1.heap.size, 2, none⟩ = some c2
theorem VS.next {w1 W W' : World} {c1 c2 : Value} (h : VS w1 c1 c2 W) (hb : Below (w1.heap.size + 1) W W') : VS w1 c1 c2 W' :=
  ⟨h.1.trans (hb.mono (by omega)), Nat.le_trans h.2.1 hb.size, ⟨_, (hb.cell (p := ⟨w1.heap.size, 0, none⟩) (by simp)).trans h.2.2.1.choose_spec⟩, (hb.frozen (p := ⟨w1.heap.size, 0, none⟩) (by simp)).trans h.2.2.2.1, (hb.cell (p := ⟨w1.heap.size, 1, none⟩) (by simp)).trans h.2.2.2.2.1, (hb.cell (p := ⟨w1.heap.size, 2, none⟩) (by simp)).trans h.2.2.2.2.2⟩
theorem VS.grown {w1 W W' : World} {c1 c2 : Value} {row : Option Nat} (h : VS w1 c1 c2 W) (hg : W.grownBy W' row) (hr : ∀ k, row = some k → w1.heap.size + 1 ≤ k) : VS w1 c1 c2 W' := h.next ((Below.refl _ _).grown hg h.2.1 hr)
theorem VS.alloc {w1 W : World} {c1 c2 : Value} (h : VS w1 c1 c2 W) (o : Obj) : VS w1 c1 c2 (W.alloc o) := h.next ((Below.refl _ _).alloc h.2.1 o)
theorem VS.set {w1 W : World} {c1 c2 : Value} (h : VS w1 c1 c2 W) (v : Value) : VS w1 c1 c2 (W.setCell ⟨w1.heap.size, 0, none⟩ v) := by
  obtain ⟨h1, h2, ⟨x, h3⟩, h4, h5, h6⟩ := h
  exact ⟨Below.setCell h1 (by simp) _, by simpa using h2, ⟨v, by go_simp⟩, by go_simp, by go_simp, by go_simp⟩
/-- one act more -/
theorem anyOf_first {l : List ActD} {a : ActD} (h : anyOf l a = false) : firstOf l a.unit a.part a.num a.att = none := by
  unfold anyOf at h
  unfold firstOf
  rw [List.find?_eq_none]
  intro x hx
  rw [List.any_eq_false] at h
  simpa using h x hx
theorem acts_more : ∀ (l pre : List ActD) (a : ActD), actsFrom pre (l ++ [a]) = true → anyOf (pre ++ l) a = false
  | [], pre, a, h => by
    simp only [List.nil_append, actsFrom, Bool.and_true, Bool.and_eq_true] at h
    rw [List.append_nil]
    simpa using h.2
  | x :: r, pre, a, h => by
    rw [List.cons_append, actsFrom, Bool.and_eq_true] at h
    have := acts_more r (pre ++ [x]) a h.2
    rwa [List.append_assoc] at this
theorem ofB_self (a : ActD) : ofB a a.unit a.part a.num a.att = true := by simp [ofB]
theorem find_more (l : List ActD) (a : ActD) {na nc nk : Nat} {calls : List (Int × Int × Int)} {asks : List (Int × ByteArray × Int)} (h : mayWB na nc nk (l ++ [a]) calls asks = true) : findAct (l ++ [a]) a.unit a.part a.num a.att = some a := by
  have h1 : actsFrom [] (l ++ [a]) = true := by
    unfold mayWB at h
    simp only [Bool.and_eq_true] at h
    exact h.2.2.2.1
  have h2 := anyOf_first (acts_more l [] a h1)
  rw [List.nil_append] at h2
  unfold findAct
  rw [first_app, h2]
  simp [ofB_self]
theorem find_else (l : List ActD) (a : ActD) (u : ByteArray) (part num att : Int) (h : ((u.toList == a.unit.toList) && (part == a.part)) = false) : findAct (l ++ [a]) u part num att = findAct l u part num att := by
  have ho : ∀ p q, ofB a u part p q = false := by
    intro p q
    unfold ofB
    rw [BEq.comm (a := a.unit.toList), BEq.comm (a := a.part), h]; rfl
  have hf : ∀ p q, firstOf (l ++ [a]) u part p q = firstOf l u part p q := by
    intro p q
    rw [first_app]
    cases firstOf l u part p q with
    | some x => rfl
    | none => simp [ho]
  unfold findAct
  simp only [hf]

end Go.Proofs.Ytkfeicgeobhccaa
