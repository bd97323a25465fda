/-
  A box whose fields are gone over: what is left of it to be gone over; what one step leaves.
-/
import Derived.Test.YtkgkipohalekmaaDoorBs
namespace Go.Proofs.YtkgkipohalekmaaDoor
open Go.RowKit Go.Shelf
theorem tokI_len (n : Int) (h0 : -9223372036854775808 ≤ n) (h1 : n ≤ 9223372036854775807) : (tokI n).length ≤ 22 := by
  have := itoa_len n h0 h1
  unfold tokI
  rw [List.length_append]
  show _ + 1 ≤ 22
  omega
mutual
theorem Ce.txt_len : ∀ (c : Ce) (t : Ty), c.Ok t → c.txt.length ≤ 23 * c.bulk
  | .i n, .i, h => by
    unfold Ce.Ok at h
    have := tokI_len n h.1 h.2
    unfold Ce.txt Ce.bulk
    omega
  | .b x, .b, _ => by
    have := tokI_len (if x then 1 else 0) (by split <;> omega) (by split <;> omega)
    unfold Ce.txt Ce.bulk tokB
    omega
  | .s t, .s, h => by
    unfold Ce.Ok at h
    have := itoa_len (t.size : Int) (by omega) (by omega)
    unfold Ce.txt Ce.bulk tokS
    have e : t.data.toList.length = t.size := by rw [Array.length_toList]; rfl
    simp only [List.length_append, List.length_cons, List.length_nil, e]
    omega
  | .l n cs, .l nb e, h => by
    unfold Ce.Ok at h
    have h1 := tokI_len n (by omega) (by omega)
    have h2 := Ce.txts_len cs _ h.2
    unfold Ce.txt Ce.bulk
    rw [List.length_append]
    omega
  | .i _, .b, h => by unfold Ce.Ok at h; exact h.elim
  | .i _, .s, h => by unfold Ce.Ok at h; exact h.elim
  | .i _, .l _ _, h => by unfold Ce.Ok at h; exact h.elim
  | .b _, .i, h => by unfold Ce.Ok at h; exact h.elim
  | .b _, .s, h => by unfold Ce.Ok at h; exact h.elim
  | .b _, .l _ _, h => by unfold Ce.Ok at h; exact h.elim
  | .s _, .i, h => by unfold Ce.Ok at h; exact h.elim
  | .s _, .b, h => by unfold Ce.Ok at h; exact h.elim
  | .s _, .l _ _, h => by unfold Ce.Ok at h; exact h.elim
  | .l _ _, .i, h => by unfold Ce.Ok at h; exact h.elim
  | .l _ _, .b, h => by unfold Ce.Ok at h; exact h.elim
  | .l _ _, .s, h => by unfold Ce.Ok at h; exact h.elim
theorem Ce.txts_len : ∀ (cs : List Ce) (q : List Ty), Ce.Oks cs q → (Ce.txts cs).length ≤ 23 * Ce.bulks cs
  | [], _, _ => by unfold Ce.txts Ce.bulks; exact Nat.zero_le _
  | c :: r, t :: q, h => by
    unfold Ce.Oks at h
    have h1 := Ce.txt_len c t h.1
    have h2 := Ce.txts_len r q h.2
    unfold Ce.txts Ce.bulks
    rw [List.length_append]
    omega
  | _ :: _, [], h => by unfold Ce.Oks at h; exact h.elim
end
/-- what is left of a box to be gone over -/
structure Bx (W0 : World) (wb blk o : Nat) (vs : List Value) (w : World) : Prop where
  obj : ∃ cells t, w.heap[blk]? = some (.cells cells t (0, 0)) ∧ t ≠ 5 ∧ ∀ j v, vs[j]? = some v → cells[o + j]? = some v
  ne : blk ≠ wb
  ge : W0.heap.size ≤ blk
theorem Bx.cell {W0 w : World} {wb blk o : Nat} {vs : List Value} (h : Bx W0 wb blk o vs w) (j : Nat) {v : Value} (hj : vs[j]? = some v) : w.cell? ⟨blk, o + j, none⟩ = some v := by
  obtain ⟨cells, t, h1, _, h3⟩ := h.obj
  rw [cell_of_row w blk _ _ _ _ h1]
  exact h3 j v hj
theorem Bx.fz {W0 w : World} {wb blk o : Nat} {vs : List Value} (h : Bx W0 wb blk o vs w) (j : Nat) : w.frozen? ⟨blk, j, none⟩ = false := by
  obtain ⟨cells, t, h1, _, _⟩ := h.obj
  exact frozen_of_row w blk j cells t h1
theorem Bx.po {W0 w : World} {wb blk o : Nat} {vs : List Value} (h : Bx W0 wb blk o vs w) (j : Nat) : ∃ cs ty fr, w.heap[(⟨blk, j, none⟩ : Addr).block]? = some (.cells cs ty fr) ∧ ty ≠ 5 := by
  obtain ⟨cells, t, h1, h2, _⟩ := h.obj
  exact ⟨cells, t, _, h1, h2⟩
theorem Bx.lt {W0 w : World} {wb blk o : Nat} {vs : List Value} (h : Bx W0 wb blk o vs w) : blk < w.heap.size := by
  obtain ⟨cells, t, h1, _, _⟩ := h.obj
  exact (Array.getElem?_eq_some_iff.1 h1).1
theorem Bx.keep {W0 w w' : World} {wb blk o : Nat} {vs : List Value} (h : Bx W0 wb blk o vs w) (hb : Below w.heap.size w w') : Bx W0 wb blk o vs w' := by
  obtain ⟨cells, t, h1, h2, h3⟩ := h.obj
  exact ⟨⟨cells, t, (hb.block blk h.lt).trans h1, h2, h3⟩, h.ne, h.ge⟩
/-- what going over k cells of a box leaves -/
structure Chg (wb blk o k : Nat) (w w' : World) : Prop where
  oth : Oth (fun i => i = wb ∨ i = blk) w w'
  box : ∀ cells t, w.heap[blk]? = some (.cells cells t (0, 0)) → t ≠ 5 → ∃ cells', w'.heap[blk]? = some (.cells cells' t (0, 0)) ∧ cells'.size = cells.size ∧ (∀ j, (j < o ∨ o + k ≤ j) → cells'[j]? = cells[j]?) ∧ (cells.all (·.oneCell') = true → cells'.all (·.oneCell') = true)
theorem Chg.refl (wb blk o : Nat) (w : World) : Chg wb blk o 0 w w := ⟨Oth.refl _ _, fun cells _ h _ => ⟨cells, h, rfl, fun _ _ => rfl, id⟩⟩
theorem Chg.of_oth {wb blk o k : Nat} {w w' : World} (h : Oth (· = wb) w w') (hne : blk ≠ wb) : Chg wb blk o k w w' :=
  ⟨h.more fun _ h => .inl h, fun cells t hc ht => ⟨cells, h.2 _ _ hc hne (fun c fz e => ht (by injection e)), rfl, fun _ _ => rfl, id⟩⟩
theorem Chg.step {wb blk o k m : Nat} {w w1 w2 : World} (h : Chg wb blk o k w w1) (h2 : Chg wb blk (o + k) m w1 w2) : Chg wb blk o (k + m) w w2 :=
  ⟨h.oth.trans h2.oth, fun cells t hc ht => by
    obtain ⟨c1, e1, e2, e3, e4⟩ := h.box cells t hc ht
    obtain ⟨c2, g1, g2, g3, g4⟩ := h2.box c1 t e1 ht
    exact ⟨c2, g1, g2.trans e2, fun j hj => (g3 j (by omega)).trans (e3 j (by omega)), fun h => g4 (e4 h)⟩⟩
theorem Bx.step {W0 w w' : World} {wb blk o k : Nat} {vs : List Value} (h : Bx W0 wb blk o vs w) (hc : Chg wb blk o k w w') : Bx W0 wb blk (o + k) (vs.drop k) w' := by
  obtain ⟨cells, t, h1, h2, h3⟩ := h.obj
  obtain ⟨c1, e1, _, e3, _⟩ := hc.box cells t h1 h2
  refine ⟨⟨c1, t, e1, h2, fun j v hj => ?_⟩, h.ne, h.ge⟩
  rw [List.getElem?_drop] at hj
  rw [e3 (o + k + j) (by omega), Nat.add_assoc]
  exact h3 _ _ hj

end Go.Proofs.YtkgkipohalekmaaDoor
