/-
  What comes in by value, opened: a struct of fields of one cell each; a slice of such structs as a list; what the reach gives of each.
-/
import Derived.Test.YtijfeeiplljnjaaGreatDoorMem
import Derived.SliceStrings
import Derived.Deep.Slices
import Derived.Deep.Fields
import Derived.ChangeSame
import Derived.SizedLaws
import Derived.Lib.SmallJoins
namespace Go.Proofs.YtijfeeiplljnjaaGreatDoor
open Go.ChangeShapes Go.WideShapes Go.Deep Go.RowKit Go.Joins

theorem reach_le : reachBytes ≤ 140737488351232 := by decide
theorem weights_all {H : Type} {P : Program} {e : TypeId} {ds : List (DataW H)} {d : DataW H} (h : d ∈ ds) {m : Nat} (hm : m ∈ d.weights P e) : m ∈ DataW.weightsAll P e ds := by
  induction ds with
  | nil => cases h
  | cons x r ih =>
    simp only [DataW.weightsAll, List.mem_append]
    cases List.mem_cons.1 h with
    | inl q => subst q; exact .inl hm
    | inr q => exact .inr (ih q)
theorem weights_slice {H : Type} {P : Program} {t e : TypeId} (ht : P.underlying t = some (.slice e)) {es sp : List (DataW H)} {d : DataW H} (h : d ∈ es) {m : Nat} (hm : m ∈ d.weights P e) : m ∈ (DataW.slice es sp).weights P t := by
  simp only [DataW.weights, ht, List.mem_cons, List.mem_append]
  exact .inr (.inl (weights_all h hm))
theorem weights_agg {H : Type} {P : Program} {t : TypeId} {fs : Array Field} (ht : P.underlying t = some (.struct fs)) {ds : List (DataW H)} {j : Nat} {f : Field} {d : DataW H} (hf : fs[j]? = some f) (hd : ds[j]? = some d) {m : Nat} (hm : m ∈ d.weights P f.type) : m ∈ (DataW.agg ds).weights P t := by
  simp only [DataW.weights, ht]
  exact DataW.weights_mem_each (by rw [List.getElem?_map, Array.getElem?_toList, hf]; rfl) hd m hm

theorem pick {α : Type} {R : Nat → α → Prop} : ∀ n, (∀ i, i < n → ∃ q, R i q) → ∃ l : List α, l.length = n ∧ ∀ i q, l[i]? = some q → R i q
  | 0, _ => ⟨[], rfl, fun i q h => by simp at h⟩
  | n + 1, h => by
    obtain ⟨l, hl, hr⟩ := pick n fun i hi => h i (by omega)
    obtain ⟨q, hq⟩ := h n (by omega)
    refine ⟨l ++ [q], by simp [hl], fun i x hx => ?_⟩
    by_cases hi : i < l.length
    · rw [List.getElem?_append_left hi] at hx; exact hr i x hx
    · have h1 : i = n := by have := (List.getElem?_eq_some_iff.1 hx).1; simp at this; omega
      subst h1
      rw [List.getElem?_append_right (by omega)] at hx
      simp [hl] at hx
      subst hx; exact hq
theorem flat_len {α : Type} (C : α → List Value) (k : Nat) (hk : ∀ q, (C q).length = k) (l : List α) : (l.flatMap C).length = l.length * k := by
  induction l with
  | nil => simp
  | cons p r ih => simp only [List.flatMap_cons, List.length_append, List.length_cons, ih, hk, Nat.add_mul, Nat.one_mul]; omega
theorem flat_at {α : Type} (C : α → List Value) (k : Nat) (hk : ∀ q, (C q).length = k) (l : List α) (i j : Nat) (q : α) (hi : l[i]? = some q) (hj : j < k) : (l.flatMap C)[i * k + j]? = (C q)[j]? := by
  induction l generalizing i with
  | nil => simp at hi
  | cons p r ih =>
    cases i with
    | zero =>
      simp only [List.getElem?_cons_zero, Option.some.injEq] at hi
      subst hi
      rw [List.flatMap_cons, Nat.zero_mul, Nat.zero_add, List.getElem?_append_left (by rw [hk]; exact hj)]
    | succ i =>
      simp only [List.getElem?_cons_succ] at hi
      rw [List.flatMap_cons, show (i + 1) * k + j = (i * k + j) + (C p).length from by rw [hk, Nat.add_mul, Nat.one_mul]; omega, List.getElem?_append_right (by omega), Nat.add_sub_cancel]
      exact ih i hi

section
variable {H : Type} {enc : TypeId × Value → H} {P : Program} {w : World} {base : Nat} {spare : Nat → Bool} {held : Bool}
theorem open_slice_fields {t e : TypeId} {fs : Array Field} {fuel : Nat} {cs : List Value} {x : DataW H × List MemPlace} (ht : P.underlying t = some (.slice e)) (he : P.underlying e = some (.struct fs))
    (hone : oneCellFields P fs = true) (hC : P.cellsOf e = fs.size) (h : DataW.trod enc P w base spare held fuel t cs = some x) :
    (cs = [.slice none 0 0] ∧ x = (.nil, [])) ∨
    ∃ (a : Addr) (len cap m : Nat) (D : Nat → DataW H) (Pl : Nat → List MemPlace), cs = [.slice (some a) len cap] ∧ base ≤ a.block ∧ len ≤ cap ∧ cap ≤ maxLen ∧ m = (if spare a.block then cap else len) ∧
      x = (.slice ((List.range len).map D) ((List.range (m - len)).map fun j => D (len + j)), MemPlace.row a (m * fs.size) ++ (List.range m).flatMap Pl) ∧
      ∀ i, i < m → ∃ (ys : List (DataW H × List MemPlace)) (n : Nat), D i = .agg (ys.map (·.1)) ∧ Pl i = ys.flatMap (·.2) ∧ ys.length = fs.size ∧
        ∀ (j : Nat) (f : Field), fs[j]? = some f → ∃ (v : Value) (y : DataW H × List MemPlace), w.cell? (a.add (i * fs.size + j)) = some v ∧ ys[j]? = some y ∧ DataW.trod enc P w base spare held n f.type [v] = some y := by
  rcases open_slice ht h with h0 | ⟨a, len, cap, m, n, D, Pl, hcs, hb, hl, hm, hmm, hx, hi⟩
  · exact .inl h0
  · refine .inr ⟨a, len, cap, m, D, Pl, hcs, hb, hl, hm, hmm, by rw [hC] at hx; exact hx, fun i him => ?_⟩
    obtain ⟨cs', hc, ht'⟩ := hi i him
    rw [hC] at hc
    obtain ⟨ys, n', hn', hy, hlen, hyl, hf⟩ := DataW.trod_struct he ht'
    obtain ⟨_, hcl, hat⟩ := World.cells?_some hc
    simp only [Prod.mk.injEq] at hy
    refine ⟨ys, n', hy.1, hy.2, hyl, fun j f hj => ?_⟩
    obtain ⟨ho, hk⟩ := hone_of hone j f hj
    have hjl : j < fs.size := (Array.getElem?_eq_some_iff.1 hj).1
    have hcell := hat j hjl
    have hv : cs'[j]? = some (cs'[j]'(by omega)) := List.getElem?_eq_getElem (by omega)
    have h1 := hf j f hj
    rw [ho, hk] at h1
    have hone' : (cs'.drop j).take 1 = [cs'[j]'(by omega)] := by
      rw [List.drop_eq_getElem_cons (by omega)]
      rfl
    rw [hone'] at h1
    have hys : ys[j]? = some (ys[j]'(by omega)) := List.getElem?_eq_getElem (by omega)
    refine ⟨_, _, ?_, hys, h1.trans hys⟩
    rw [← Go.Deep.add_add, hcell, hv]

/-- a slice of structs that came in, as a list -/
theorem rows_is {α : Type} (C : α → List Value) (G : α → Prop) {t e : TypeId} {fs : Array Field} {fuel : Nat} {v : Value} {x : DataW H × List MemPlace} (ht : P.underlying t = some (.slice e)) (he : P.underlying e = some (.struct fs))
    (hone : oneCellFields P fs = true) (hC : P.cellsOf e = fs.size) (hk : ∀ q, (C q).length = fs.size) (hpos : 0 < fs.size)
    (hdec : ∀ (ys : List (DataW H × List MemPlace)) (n : Nat) (vs : Nat → Value), ys.length = fs.size → (∀ j f, fs[j]? = some f → ∃ y, ys[j]? = some y ∧ DataW.trod enc P w base (fun _ => true) held n f.type [vs j] = some y ∧ (∀ p ∈ y.2, p.block < w.heap.size) ∧ ∀ m ∈ y.1.weights P f.type, m ≤ reachBytes) →
      ∃ q, (∀ j, j < fs.size → (C q)[j]? = some (vs j)) ∧ G q)
    (h : DataW.trod enc P w base (fun _ => true) held fuel t [v] = some x) (hp : ∀ p ∈ x.2, p.block < w.heap.size) (hw : ∀ m ∈ x.1.weights P t, m ≤ reachBytes) :
    ∃ (A : Option Addr) (n c : Nat) (l : List α), v = .slice A n c ∧ Rd w w.heap.size fs.size A n (l.flatMap C) ∧ n ≤ c ∧ n * P.bytesOf e ≤ reachBytes ∧ ∀ q ∈ l, G q := by
  rcases open_slice_fields ht he hone hC h with ⟨hcs, hx⟩ | ⟨a, len, cap, m, D, Pl, hcs, _, hl, _, hm, hx, hi⟩
  · obtain rfl : v = .slice none 0 0 := by simpa using hcs
    exact ⟨none, 0, 0, [], rfl, Rd.empty, Nat.zero_le _, by simp, by simp⟩
  · obtain rfl : v = .slice (some a) len cap := by simpa using hcs
    subst hx
    simp only [if_true] at hm
    subst hm
    have hbytes : len * P.bytesOf e ≤ reachBytes := by
      have h1 := hw _ (by simp only [DataW.weights, ht]; exact List.mem_cons_self)
      simp only [List.length_map, List.length_range] at h1
      refine Nat.le_trans (Nat.mul_le_mul_right _ ?_) h1
      omega
    obtain ⟨l, hll, hr⟩ := pick (R := fun i (q : α) => (∀ j, j < fs.size → w.cell? (a.add (i * fs.size + j)) = (C q)[j]?) ∧ G q) len (by
      intro i hil
      obtain ⟨ys, n, hD, hPl, hyl, hf⟩ := hi i (by omega)
      have hmem : D i ∈ (List.range len).map D := List.mem_map.2 ⟨i, by simpa using hil, rfl⟩
      have hex : ∃ vs : Nat → Value, ∀ j f, fs[j]? = some f → ∃ y, w.cell? (a.add (i * fs.size + j)) = some (vs j) ∧ ys[j]? = some y ∧ DataW.trod enc P w base (fun _ => true) held n f.type [vs j] = some y := by
        refine ⟨fun j => (w.cell? (a.add (i * fs.size + j))).getD undef, fun j f hj => ?_⟩
        obtain ⟨v, y, c, e1, e2⟩ := hf j f hj
        have hv : (w.cell? (a.add (i * fs.size + j))).getD undef = v := by rw [c]; rfl
        exact ⟨y, by simp only [hv]; exact c, e1, by simp only [hv]; exact e2⟩
      obtain ⟨vs, hvs⟩ := hex
      obtain ⟨q, hq, hG⟩ := hdec ys n vs hyl (fun j f hj => by
        obtain ⟨y, _, e1, e2⟩ := hvs j f hj
        have hyin : y ∈ ys := List.mem_of_getElem? e1
        refine ⟨y, e1, e2, fun p hpy => hp p ?_, fun m hm => hw m ?_⟩
        · refine List.mem_append_right _ (List.mem_flatMap.2 ⟨i, by simp; omega, ?_⟩)
          rw [hPl]
          exact List.mem_flatMap.2 ⟨y, hyin, hpy⟩
        · refine weights_slice ht hmem ?_
          rw [hD]
          exact weights_agg he hj (by rw [List.getElem?_map, e1]; rfl) hm)
      refine ⟨q, fun j hj => ?_, hG⟩
      obtain ⟨y, c, _, _⟩ := hvs j fs[j] (Array.getElem?_eq_getElem hj)
      rw [c, hq j hj])
    refine ⟨some a, len, m, l, rfl, ⟨by rw [flat_len C _ hk, hll], fun hn => ⟨a, rfl, ?_, ?_⟩⟩, hl, hbytes, fun q hq => ?_⟩
    · refine hp (.cell a.block (a.off + 0)) (List.mem_append_left _ (MemPlace.mem_row.2 ⟨0, ?_, rfl⟩))
      exact Nat.mul_pos (by omega) hpos
    · intro j u hu
      have hj : j < l.length * fs.size := by have := (List.getElem?_eq_some_iff.1 hu).1; rwa [flat_len C _ hk] at this
      have hi2 : j / fs.size < l.length := Nat.div_lt_of_lt_mul (by rw [Nat.mul_comm]; exact hj)
      have e1 : j = j / fs.size * fs.size + j % fs.size := by have := Nat.div_add_mod j fs.size; rw [Nat.mul_comm] at this; exact this.symm
      have hq := List.getElem?_eq_getElem hi2
      have h1 := (hr _ _ hq).1 (j % fs.size) (Nat.mod_lt _ hpos)
      have h2 := flat_at C _ hk l _ (j % fs.size) _ hq (Nat.mod_lt _ hpos)
      rw [← e1] at h1 h2
      rw [h1, ← h2, hu]
    · obtain ⟨i, hiq⟩ := List.getElem?_of_mem hq
      exact (hr i q hiq).2

/-- a struct that came in by value -/
theorem open_fields {r : Reach} {b0 : Nat} {t : TypeId} {fs : Array Field} {v : Value} {d : DataW H} {p : List MemPlace} (hs : P.underlying t = some (.struct fs)) (hone : oneCellFields P fs = true) (hC : P.cellsOf t = fs.size)
    (hv : Value.okWide P w r b0 t v) (h : DataW.Trod enc P w base spare held t v d p) :
    ∃ (vs : List Value) (ys : List (DataW H × List MemPlace)) (n : Nat), v = .agg vs.toArray ∧ d = .agg (ys.map (·.1)) ∧ p = ys.flatMap (·.2) ∧ vs.length = fs.size ∧ ys.length = fs.size ∧
      ∀ (j : Nat) (f : Field), fs[j]? = some f → ∃ (u : Value) (y : DataW H × List MemPlace), vs[j]? = some u ∧ ys[j]? = some y ∧ DataW.trod enc P w base spare held n f.type [u] = some y := by
  obtain ⟨cs, rfl, hsz⟩ := okWide_struct hs hv
  obtain ⟨fuel, hf⟩ := h
  obtain ⟨ys, n, _, hy, hlen, hyl, hg⟩ := DataW.trod_struct hs hf
  simp only [Prod.mk.injEq] at hy
  refine ⟨cs.toList, ys, n, rfl, hy.1, hy.2, by simpa using hsz.trans hC, hyl, fun j f hj => ?_⟩
  obtain ⟨ho, hk⟩ := hone_of hone j f hj
  have hjl : j < fs.size := (Array.getElem?_eq_some_iff.1 hj).1
  have hjc : j < cs.toList.length := by simpa using (by omega : j < cs.size)
  have h1 := hg j f hj
  rw [ho, hk] at h1
  have e : ((Value.agg cs).cells.toList.drop j).take 1 = [cs.toList[j]] := by
    show (cs.toList.drop j).take 1 = _
    rw [List.drop_eq_getElem_cons hjc]
    rfl
  rw [e] at h1
  have hys : ys[j]? = some (ys[j]'(by omega)) := List.getElem?_eq_getElem (by omega)
  exact ⟨_, _, List.getElem?_eq_getElem hjc, hys, h1.trans hys⟩
end

end Go.Proofs.YtijfeeiplljnjaaGreatDoor
