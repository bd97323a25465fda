/-
  Laws for lists of whatever elements: a whole element read, a new variable, a slice of one, a row of one's own that stands.
-/
import Derived.Test.YtkgkipohalekmaaDoorBv
import Derived.Test.YtkgkipohalekmaaDoorGa
import Derived.Great.BuildSlice
import Derived.Deep.MidRow
namespace Go.Proofs.YtkgkipohalekmaaDoor
open Go.RowKit Go.Shelf
section
variable {P : Program}
theorem run_loadVar_at (w : World) (ad : Addr) (ty : TypeId) (cs : List Value) (d : TypeDesc) (hc : ∀ j v, cs[j]? = some v → w.cell? (ad.add j) = some v)
    (hu : P.underlying ty = some d) (hd : d.isRow = true) (hi : (P.info? ty).map (·.size) = some cs.length) :
    (loadVar ty ad).run P w = .ok (.agg cs.toArray) w := by
  have hl : (loadCells ad cs.length).run P w = .ok cs.toArray w := run_loadCells_list (P := P) w ad cs hc
  cases hq : P.info? ty with
  | none => simp [hq] at hi
  | some i =>
    have hs : i.size = cs.length := by simpa [hq] using hi
    have hagg : (isAgg ty).run P w = .ok true w := by
      unfold isAgg
      rw [Sem.run_bind, run_underlying hu w]
      cases d <;> simp_all
    simp [loadVar, Sem.run_bind, hagg, sizeOf, typeInfo, hq, hs, hl]
theorem wp_load_at {op : Oper} {a : Act} {w : World} {K : Act → World → Prop} {Q : Exit → Act → World → Prop} (ty : TypeId) (x : Operand) (ho : op.op = .load ty x)
    (ad : Addr) (hx : a.eval x = .pointer (some ad)) (cs : List Value) (d : TypeDesc) (hc : ∀ j v, cs[j]? = some v → w.cell? (ad.add j) = some v)
    (hu : P.underlying ty = some d) (hd : d.isRow = true) (hi : (P.info? ty).map (·.size) = some cs.length)
    (h : K (a.put op.dst (.agg cs.toArray)) w) : op.wp P a w K Q := by
  unfold Oper.wp execOp
  simp only [ho, hx, Instr.loadAt, Instr.sureAddr, Sem.run_bind, Sem.run_pure, Result.andThen_ok, run_loadVar_at w ad ty cs d hc hu hd hi]
  exact h
theorem wpList_load_at {ops : Array Oper} {rest : List Oper} {op : Oper} {a : Act} {w : World} {Q : Exit → Act → World → Prop} (hgd : op.guard = none) (ty : TypeId) (x : Operand) (ho : op.op = .load ty x)
    (ad : Addr) (hx : a.eval x = .pointer (some ad)) (cs : List Value) (d : TypeDesc) (hc : ∀ j v, cs[j]? = some v → w.cell? (ad.add j) = some v)
    (hu : P.underlying ty = some d) (hd : d.isRow = true) (hi : (P.info? ty).map (·.size) = some cs.length)
    (h : wpList P ops Q rest (a.put op.dst (.agg cs.toArray)) w) : wpList P ops Q (op :: rest) a w :=
  wpList_plain hgd fun _ hK => wp_load_at ty x ho ad hx cs d hc hu hd hi (hK _ _ h)
theorem wpList_alloc_row {ops : Array Oper} {rest : List Oper} {op : Oper} {a : Act} {w : World} {Q : Exit → Act → World → Prop} (hgd : op.guard = none) (ty : TypeId) (ho : op.op = .alloc ty)
    (zs : Array Value) (hz : ∀ w, (zeroValue ty).run P w = .ok (.agg zs) w)
    (h : wpList P ops Q rest (a.put op.dst (.pointer (some ⟨w.heap.size, 0, none⟩))) (w.alloc (.cells zs ty))) : wpList P ops Q (op :: rest) a w := by
  refine wpList_plain hgd fun K hK => ?_
  unfold Oper.wp execOp
  simp only [ho, Instr.alloc, Sem.run_bind, hz, Result.andThen_ok]
  exact hK _ _ h
theorem wpList_build_one {ops : Array Oper} {rest : List Oper} {op : Oper} {a : Act} {w : World} {Q : Exit → Act → World → Prop} (hgd : op.guard = none) (t e : TypeId) (x : Operand) (ho : op.op = .buildSlice t 1 #[(0, x)])
    (cells : Array Value) (hx : a.eval x = .agg cells) (ie : TypeInfo) (z : Value) (hu : P.underlying t = some (.slice e)) (hie : P.info? e = some ie) (hz : ie.zero = some z) (hsz : ie.size = cells.size) (hpos : 0 < cells.size) (hsm : cells.size ≤ 16777216)
    (h : wpList P ops Q rest (a.put op.dst (.slice (some ⟨w.heap.size, 0, none⟩) 1 1)) (w.alloc (.cells cells e))) : wpList P ops Q (op :: rest) a w := by
  refine wpList_buildSlice hgd t e 1 #[(0, x)] ho cells ie z hu hie hz (by rw [hsz]; omega) (by rw [hsz]; omega) ?_ h
  have h1 := Great.fill_whole (s := ie.size) (by rw [hsz]; exact hpos) [.agg cells] ((Array.range (1 * ie.size)).map (z.cells[· % z.cells.size]!)) (by intro v hv; rw [List.mem_singleton] at hv; rw [hv]; exact hsz.symm) (by simp)
  have h2 : ([Value.agg cells].flatMap fun v => v.cells.toList).toArray = cells := by simp [Value.cells]
  rw [h2] at h1
  simpa [hx] using h1
theorem wpList_build_val {ops : Array Oper} {rest : List Oper} {op : Oper} {a : Act} {w : World} {Q : Exit → Act → World → Prop} (hgd : op.guard = none) (t e : TypeId) (x : Operand) (ho : op.op = .buildSlice t 1 #[(0, x)])
    (v : Value) (hx : a.eval x = v) (hv : v.cells = #[v]) (ie : TypeInfo) (z : Value) (hu : P.underlying t = some (.slice e)) (hie : P.info? e = some ie) (hz : ie.zero = some z) (hsz : ie.size = 1)
    (h : wpList P ops Q rest (a.put op.dst (.slice (some ⟨w.heap.size, 0, none⟩) 1 1)) (w.alloc (.cells #[v] e))) : wpList P ops Q (op :: rest) a w := by
  refine wpList_buildSlice hgd t e 1 #[(0, x)] ho #[v] ie z hu hie hz (by rw [hsz]; decide) (by rw [hsz]; decide) ?_ h
  have h1 := Great.fill_whole (s := ie.size) (by rw [hsz]; decide) [v] ((Array.range (1 * ie.size)).map (z.cells[· % z.cells.size]!)) (by intro u hv2; rw [List.mem_singleton] at hv2; rw [hv2, hv, hsz]; rfl) (by simp)
  have h2 : ([v].flatMap fun v => v.cells.toList).toArray = #[v] := by simp [hv]
  rw [h2] at h1
  simpa [hx] using h1
end
theorem one_cells {v : Value} (h : v.oneCell' = true) : v.cells = #[v] := by
  cases v <;> first | rfl | (cases h)
theorem zero_row {P : Program} {t : TypeId} {k : Nat} (h : (P.info? t).map (fun i => match i.zero with | some (.agg zs) => (zs.size, i.size, i.bytes) | _ => (0, 0, 0)) = some (k, k, P.bytesOf t)) (hk : 0 < k) :
    ∃ (ie : TypeInfo) (zs : Array Value), P.info? t = some ie ∧ ie.zero = some (.agg zs) ∧ ie.size = k ∧ ie.bytes = P.bytesOf t ∧ zs.size = k ∧ ∀ w, (zeroValue t).run P w = .ok (.agg zs) w := by
  cases hi : P.info? t with
  | none => rw [hi] at h; cases h
  | some ie =>
    rw [hi] at h
    simp only [Option.map_some, Option.some.injEq] at h
    split at h
    · rename_i zs hz
      simp only [Prod.mk.injEq] at h
      exact ⟨ie, zs, rfl, hz, h.2.1, h.2.2, h.1, fun w => by simp [zeroValue, typeInfo, hi, hz]⟩
    · simp only [Prod.mk.injEq] at h
      omega
theorem St.grown {W0 w w' : World} {wb : Nat} {s : List UInt8} (h : St W0 wb s w) {base n size : Nat} {e : TypeId} {v : Value} (hg : w.grownBy w' v.ownBlock) (hown : ∃ xs, w.ownsRow base e size v n xs) (he : e ≠ 5) (hwb : wb < base) (hB : W0.heap.size ≤ base) : St W0 wb s w' := by
  obtain ⟨xs, hl, hv⟩ := hown
  have key : ∀ g, v.ownBlock = some g → base ≤ g ∧ ∃ cur fz, w.heap[g]? = some (.cells cur e fz) := fun g hgv => by
    rcases hv with ⟨rfl, _⟩ | ⟨g', cap, cur, rfl, h2, h3, _⟩
    · cases hgv
    · injection hgv with hgv
      subst hgv
      exact ⟨h2, cur, _, h3⟩
  refine ⟨?_, h.hb.grown hg h.hb.size (fun g hgv => Nat.le_trans hB (key g hgv).1)⟩
  have hwu := h.wu
  unfold Wu Lib.IsBuilderF at hwu ⊢
  have keep : ∀ {q : Value}, Lib.BuilderAtF 82 5 W0.heap.size wb q (Lib.byteCells s) w → Lib.BuilderAtF 82 5 W0.heap.size wb q (Lib.byteCells s) w' := fun {q} ⟨hB, u, h1, h2, h3⟩ => by
    refine ⟨hB, u, (hg.block wb (Array.getElem?_eq_some_iff.1 h1).1 (fun e' => by have := (key wb e'.symm).1; omega)).trans h1, ⟨h2.1, ?_⟩, h3⟩
    rcases h2.2 with hz | ⟨g, cap, cur, fz, hu, hb, hc, hr⟩
    · exact .inl hz
    · refine .inr ⟨g, cap, cur, fz, hu, hb, (hg.block g (Array.getElem?_eq_some_iff.1 hc).1 (fun e' => ?_)).trans hc, hr⟩
      obtain ⟨_, cur', fz', hc'⟩ := key g e'.symm
      rw [hc] at hc'
      injection hc' with hc'
      injection hc' with _ hc' _
      exact he hc'.symm
  rcases hwu with hwu | hwu
  · exact .inl (keep hwu)
  · exact .inr (keep hwu)
theorem St.setCell {W0 w : World} {wb blk p : Nat} {s : List UInt8} (h : St W0 wb s w) (hne : blk ≠ wb) (hB : W0.heap.size ≤ blk) {cells : Array Value} {t : TypeId} (hc : w.heap[blk]? = some (.cells cells t (0, 0))) (ht : t ≠ 5) (v : Value) : St W0 wb s (w.setCell ⟨blk, p, none⟩ v) := by
  refine ⟨?_, h.hb.setCell (p := ⟨blk, p, none⟩) hB v⟩
  have hwu := h.wu
  unfold Wu Lib.IsBuilderF at hwu ⊢
  have keep : ∀ {q : Value}, Lib.BuilderAtF 82 5 W0.heap.size wb q (Lib.byteCells s) w → Lib.BuilderAtF 82 5 W0.heap.size wb q (Lib.byteCells s) (w.setCell ⟨blk, p, none⟩ v) := fun {q} ⟨hB, u, h1, h2, h3⟩ => by
    refine ⟨hB, u, (heap_setCell_other w ⟨blk, p, none⟩ wb v (fun e => hne e.symm)).trans h1, ⟨h2.1, ?_⟩, h3⟩
    rcases h2.2 with hz | ⟨g, cap, cur, fz, hu, hb, hc', hr⟩
    · exact .inl hz
    · refine .inr ⟨g, cap, cur, fz, hu, hb, (heap_setCell_other w ⟨blk, p, none⟩ g v (fun e => ?_)).trans hc', hr⟩
      subst e
      rw [hc] at hc'
      injection hc' with hc'
      injection hc' with _ hc' _
      exact ht hc'
  rcases hwu with hwu | hwu
  · exact .inl (keep hwu)
  · exact .inr (keep hwu)
theorem own_oth {X : Nat → Prop} {w w' : World} {base n size : Nat} {e : TypeId} {v : Value} (h : ∃ xs, w.ownsRow base e size v n xs) (ho : Oth X w w') (hx : ∀ g, base ≤ g → g < w.heap.size → ¬ X g) (he : e ≠ 5) : ∃ xs, w'.ownsRow base e size v n xs := by
  obtain ⟨xs, hl, h | ⟨g, cap, cur, h1, h2, h3, h4⟩⟩ := h
  · exact ⟨xs, hl, .inl h⟩
  · exact ⟨xs, hl, .inr ⟨g, cap, cur, h1, h2, ho.2 _ _ h3 (hx g h2 (Array.getElem?_eq_some_iff.1 h3).1) (fun c fz e' => he (by injection e')), h4⟩⟩
theorem oth_grown {w w' : World} {row : Option Nat} {N : Nat} (h : w.grownBy w' row) (hr : ∀ g, row = some g → N ≤ g) (wb : Nat) {w0 : World} (h0 : Oth (· = wb) w0 w) (hN : w0.heap.size ≤ N) : Oth (· = wb) w0 w' :=
  ⟨Nat.le_trans h0.1 h.size, fun i o hi hx ho => by
    have h1 := h0.2 i o hi hx ho
    have hlt := (Array.getElem?_eq_some_iff.1 hi).1
    refine (h.block i (Array.getElem?_eq_some_iff.1 h1).1 fun e => ?_).trans h1
    have := hr i (by rw [e])
    omega⟩

end Go.Proofs.YtkgkipohalekmaaDoor
