/-
  Arguments that are slices, of strings or of pairs, opened: they read as lists; what the bound gives.
-/
import Derived.Test.YtcefnglmacpehaaEx7
import Derived.SliceStrings
import Derived.Deep.Slices
import Derived.Deep.Fields
import Derived.ChangeSame
namespace Go.Proofs.Ytcefnglmacpehaa
open Go.ChangeShapes Go.WideShapes Go.Deep

namespace Op
theorem one_le {H : Type} (d : DataW H) : 1 ≤ Rows.uptoBulk d := by
  cases d with
  | lit l => cases l <;> simp [Rows.uptoBulk]
  | nil => simp [Rows.uptoBulk]
  | ptr d => simp [Rows.uptoBulk]
  | slice elems spare => simp [Rows.uptoBulk]
  | agg parts => simp [Rows.uptoBulk]
  | iface t d => simp [Rows.uptoBulk]
  | map entries => simp [Rows.uptoBulk]
  | held h => simp [Rows.uptoBulk]
theorem part_le {H : Type} {d : DataW H} {l : List (DataW H)} (h : d ∈ l) : Rows.uptoBulk d ≤ Rows.uptoBulkAll l := by
  induction l with
  | nil => cases h
  | cons x r ih =>
    simp only [Rows.uptoBulkAll]
    cases List.mem_cons.1 h with
    | inl e => subst e; omega
    | inr e => have := ih e; omega
theorem len_le {H : Type} (l : List (DataW H)) : l.length ≤ Rows.uptoBulkAll l := by
  induction l with
  | nil => simp
  | cons x r ih =>
    have := one_le x
    simp only [Rows.uptoBulkAll, List.length_cons]
    omega

section
variable {H : Type} {enc : TypeId × Value → H} {P : Program} {w : World} {base : Nat} {spare : Nat → Bool} {held : Bool}
theorem open_slice_fields {t e : TypeId} {fs : Array Field} {fuel : Nat} {cs : List Value} {x : DataW H × List MemPlace} (ht : P.underlying t = some (.slice e)) (he : P.underlying e = some (.struct fs))
    (hone : oneCellFields P fs = true) (hC : P.cellsOf e = fs.size) (h : DataW.trod enc P w base spare held fuel t cs = some x) :
    (cs = [.slice none 0 0] ∧ x = (.nil, [])) ∨
    ∃ (a : Addr) (len cap m : Nat) (D : Nat → DataW H) (Pl : Nat → List MemPlace), cs = [.slice (some a) len cap] ∧ base ≤ a.block ∧ len ≤ cap ∧ cap ≤ maxLen ∧ m = (if spare a.block then cap else len) ∧
      x = (.slice ((List.range len).map D) ((List.range (m - len)).map fun j => D (len + j)), MemPlace.row a (m * fs.size) ++ (List.range m).flatMap Pl) ∧
      ∀ i, i < m → ∃ (ys : List (DataW H × List MemPlace)) (n : Nat), D i = .agg (ys.map (·.1)) ∧ Pl i = ys.flatMap (·.2) ∧ ys.length = fs.size ∧
        ∀ (j : Nat) (f : Field), fs[j]? = some f → ∃ (v : Value) (y : DataW H × List MemPlace), w.cell? (a.add (i * fs.size + j)) = some v ∧ ys[j]? = some y ∧ DataW.trod enc P w base spare held n f.type [v] = some y := by
  rcases open_slice ht h with h0 | ⟨a, len, cap, m, n, D, Pl, hcs, hb, hl, hm, hmm, hx, hi⟩
  · exact .inl h0
  · refine .inr ⟨a, len, cap, m, D, Pl, hcs, hb, hl, hm, hmm, by rw [hC] at hx; exact hx, fun i him => ?_⟩
    obtain ⟨cs', hc, ht'⟩ := hi i him
    rw [hC] at hc
    obtain ⟨ys, n', hn', hy, hlen, hyl, hf⟩ := DataW.trod_struct he ht'
    obtain ⟨_, hcl, hat⟩ := World.cells?_some hc
    simp only [Prod.mk.injEq] at hy
    refine ⟨ys, n', hy.1, hy.2, hyl, fun j f hj => ?_⟩
    obtain ⟨ho, hk⟩ := hone_of hone j f hj
    have hjl : j < fs.size := (Array.getElem?_eq_some_iff.1 hj).1
    have hcell := hat j hjl
    have hv : cs'[j]? = some (cs'[j]'(by omega)) := List.getElem?_eq_getElem (by omega)
    have h1 := hf j f hj
    rw [ho, hk] at h1
    have hone' : (cs'.drop j).take 1 = [cs'[j]'(by omega)] := by
      rw [List.drop_eq_getElem_cons (by omega)]
      rfl
    rw [hone'] at h1
    have hys : ys[j]? = some (ys[j]'(by omega)) := List.getElem?_eq_getElem (by omega)
    refine ⟨_, _, ?_, hys, h1.trans hys⟩
    rw [← Go.Deep.add_add, hcell, hv]
end
section
variable {H : Type} {enc : TypeId × Value → H} {P : Program} {w : World} {r : Reach} {b0 : Nat} {v : Value} {d : DataW H} {p : List MemPlace} {t e : TypeId}
/-- the slice holds these strings -/
def StrIs (w : World) (d : DataW H) (v : Value) : Prop := ∃ (A : Option Addr) (n c : Nat) (ls : List ByteArray), v = .slice A n c ∧ Rd w w.heap.size 1 A n (strCells ls) ∧ n ≤ Rows.uptoBulk d ∧ ∀ b ∈ ls, b.size ≤ Rows.uptoBulk d
def PairIs (w : World) (d : DataW H) (v : Value) : Prop := ∃ (A : Option Addr) (n c : Nat) (env : List (ByteArray × ByteArray)), v = .slice A n c ∧ Rd w w.heap.size 2 A n (pairCells env) ∧ n ≤ Rows.uptoBulk d ∧ ∀ q ∈ env, q.1.size ≤ Rows.uptoBulk d ∧ q.2.size ≤ Rows.uptoBulk d

theorem strs_is (ht : P.underlying t = some (.slice e)) (he : P.underlying e = some .string) (hc : P.cellsOf e = 1) (hok : Value.okWide P w r b0 t v) (h : DataW.Trod enc P w 0 (fun _ => true) true t v d p) (hp : ∀ x ∈ p, x.block < w.heap.size) : StrIs w d v := by
  obtain ⟨a0, len, cap, rfl⟩ := okWide_slice ht hok
  obtain ⟨fuel, hf⟩ := h
  rcases open_strings ht he hc hf with ⟨hcs, hx⟩ | ⟨a, len', cap', ss, hcs, _, hl, hm, hz, hx, hcell, hws⟩
  · simp [Value.cells] at hcs
    obtain ⟨rfl, rfl, rfl⟩ := hcs
    exact ⟨none, 0, 0, [], rfl, Rd.empty, Nat.zero_le _, by simp⟩
  · simp [Value.cells] at hcs
    obtain ⟨rfl, rfl, rfl⟩ := hcs
    simp only [Prod.mk.injEq] at hx
    obtain ⟨rfl, rfl⟩ := hx
    simp only [if_true] at hz
    have hb : Rows.uptoBulkAll (strs (H := H) (ss.take len)) ≤ Rows.uptoBulk (DataW.slice (strs (H := H) (ss.take len)) (strs (ss.drop len))) := by simp only [Rows.uptoBulk]; omega
    refine ⟨some a, len, cap, ss.take len, rfl, ⟨by simp [strCells]; omega, fun hn => ⟨a, rfl, ?_, ?_⟩⟩, ?_, ?_⟩
    · exact hp _ (MemPlace.mem_row.2 ⟨0, by omega, rfl⟩)
    · intro j u hu
      simp only [strCells, List.getElem?_map, Option.map_eq_some_iff] at hu
      obtain ⟨b, hb1, rfl⟩ := hu
      have hjl : j < len := by have := (List.getElem?_eq_some_iff.1 hb1).1; simp at this; omega
      rw [hcell j (by omega)]
      rw [List.getElem?_take] at hb1
      simp only [hjl, if_true] at hb1
      simp [hb1]
    · have := len_le (strs (H := H) (ss.take len))
      simp only [strs, List.length_map, List.length_take] at this hb ⊢
      omega
    · intro b hb1
      have h1 : (DataW.lit (H := H) (.string b.data.toList)) ∈ strs (H := H) (ss.take len) := List.mem_map.2 ⟨b, hb1, rfl⟩
      have h2 := part_le h1
      simp only [Rows.uptoBulk] at h2 hb ⊢
      have h3 : b.data.toList.length = b.size := by rw [Array.length_toList]; rfl
      omega
theorem pick {α : Type} {R : Nat → α → Prop} : ∀ n, (∀ i, i < n → ∃ q, R i q) → ∃ l : List α, l.length = n ∧ ∀ i q, l[i]? = some q → R i q
  | 0, _ => ⟨[], rfl, fun i q h => by simp at h⟩
  | n + 1, h => by
    obtain ⟨l, hl, hr⟩ := pick n fun i hi => h i (by omega)
    obtain ⟨q, hq⟩ := h n (by omega)
    refine ⟨l ++ [q], by simp [hl], fun i x hx => ?_⟩
    by_cases hi : i < l.length
    · rw [List.getElem?_append_left hi] at hx; exact hr i x hx
    · have h1 : i = n := by have := (List.getElem?_eq_some_iff.1 hx).1; simp at this; omega
      subst h1
      rw [List.getElem?_append_right (by omega)] at hx
      simp [hl] at hx
      subst hx; exact hq
theorem pairCells_get (env : List (ByteArray × ByteArray)) (j : Nat) (u : Value) (h : (pairCells env)[j]? = some u) : ∃ i q, env[i]? = some q ∧ ((j = i * 2 ∧ u = .string q.1) ∨ (j = i * 2 + 1 ∧ u = .string q.2)) := by
  have hj : j < env.length * 2 := by have := (List.getElem?_eq_some_iff.1 h).1; rw [pairCells_len] at this; exact this
  have hi : j / 2 < env.length := by omega
  obtain ⟨p1, p2⟩ := pairCells_at env (j / 2) hi
  refine ⟨j / 2, env[j / 2], List.getElem?_eq_getElem hi, ?_⟩
  rcases Nat.mod_two_eq_zero_or_one j with hm | hm
  · have e : j = j / 2 * 2 := by omega
    rw [← e] at p1
    rw [p1] at h
    exact .inl ⟨e, (Option.some.inj h).symm⟩
  · have e : j = j / 2 * 2 + 1 := by omega
    rw [← e] at p2
    rw [p2] at h
    exact .inr ⟨e, (Option.some.inj h).symm⟩
theorem pairs_is {f0 f1 : Field} (ht : P.underlying t = some (.slice e)) (he : P.underlying e = some (.struct #[f0, f1])) (hone : oneCellFields P #[f0, f1] = true) (hc : P.cellsOf e = 2) (h0 : P.underlying f0.type = some .string) (h1 : P.underlying f1.type = some .string)
    (hok : Value.okWide P w r b0 t v) (h : DataW.Trod enc P w 0 (fun _ => true) true t v d p) (hp : ∀ x ∈ p, x.block < w.heap.size) : PairIs w d v := by
  obtain ⟨a0, len, cap, rfl⟩ := okWide_slice ht hok
  obtain ⟨fuel, hf⟩ := h
  rcases open_slice_fields ht he hone hc hf with ⟨hcs, hx⟩ | ⟨a, len', cap', m, D, Pl, hcs, _, hl, _, hm, hx, hi⟩
  · simp [Value.cells] at hcs
    obtain ⟨rfl, rfl, rfl⟩ := hcs
    exact ⟨none, 0, 0, [], rfl, Rd.empty, Nat.zero_le _, by simp⟩
  · simp [Value.cells] at hcs
    obtain ⟨rfl, rfl, rfl⟩ := hcs
    simp only [Prod.mk.injEq] at hx
    obtain ⟨rfl, rfl⟩ := hx
    simp only [if_true] at hm
    obtain ⟨env, hel, her⟩ := pick (R := fun i (q : ByteArray × ByteArray) => w.cell? (a.add (i * 2)) = some (.string q.1) ∧ w.cell? (a.add (i * 2 + 1)) = some (.string q.2) ∧ D i = .agg [.lit (.string q.1.data.toList), .lit (.string q.2.data.toList)]) len (by
      intro i hil
      obtain ⟨ys, n, hD, _, hyl, hg⟩ := hi i (by omega)
      obtain ⟨v0, y0, c0, e0, t0⟩ := hg 0 f0 rfl
      obtain ⟨v1, y1, c1, e1, t1⟩ := hg 1 f1 rfl
      obtain ⟨s0, hs0, rfl, _⟩ := DataW.trod_string h0 t0
      obtain ⟨s1, hs1, rfl, _⟩ := DataW.trod_string h1 t1
      simp only [List.cons.injEq, and_true] at hs0 hs1
      subst hs0; subst hs1
      refine ⟨(s0, s1), c0, c1, ?_⟩
      rw [hD]
      match ys, hyl with
      | [x0, x1], _ =>
        simp at e0 e1
        rw [e0, e1]; rfl)
    have hmem : ∀ q ∈ env, (DataW.agg (H := H) [.lit (.string q.1.data.toList), .lit (.string q.2.data.toList)]) ∈ (List.range len).map D := by
      intro q hq
      obtain ⟨i, hiq⟩ := List.getElem?_of_mem hq
      have h2 := (her i q hiq).2.2
      have h3 : i < len := by have := (List.getElem?_eq_some_iff.1 hiq).1; omega
      exact List.mem_map.2 ⟨i, by simpa using h3, h2⟩
    refine ⟨some a, len, cap, env, rfl, ⟨by rw [pairCells_len, hel], fun hn => ⟨a, rfl, ?_, ?_⟩⟩, ?_, ?_⟩
    · refine hp (.cell a.block (a.off + 0)) (List.mem_append_left _ (MemPlace.mem_row.2 ⟨0, ?_, rfl⟩))
      simp; omega
    · intro j u hu
      obtain ⟨i, q, hiq, ⟨rfl, rfl⟩ | ⟨rfl, rfl⟩⟩ := pairCells_get env j u hu
      · exact (her i q hiq).1
      · exact (her i q hiq).2.1
    · have := len_le ((List.range len).map D)
      simp only [List.length_map, List.length_range] at this
      simp only [Rows.uptoBulk]; omega
    · intro q hq
      have h2 := part_le (hmem q hq)
      have e1 : q.1.data.toList.length = q.1.size := by rw [Array.length_toList]; rfl
      have e2 : q.2.data.toList.length = q.2.size := by rw [Array.length_toList]; rfl
      simp only [Rows.uptoBulk, Rows.uptoBulkAll] at h2 ⊢
      omega
end
end Op

end Go.Proofs.Ytcefnglmacpehaa
