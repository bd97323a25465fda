/-
  What comes in by value, opened (filters, rows); the law over it; what the listed variables give.
-/
import Derived.Test.YtkgbmeppflnejaaGreatDoorUn
import Derived.Test.YtkgbmeppflnejaaGreatDoorGr
import Derived.Test.YtkgbmeppflnejaaGreatDoorRows
import Derived.SliceStrings
import Derived.ChangeSlices
import Derived.ChangeShapes
import Derived.Deep.Slices
import Derived.Deep.Fields
import Derived.ChangeSame
import Derived.Test.YtkgbmeppflnejaaGreatDoorYb
import Derived.Test.YtkgbmeppflnejaaGreatDoorRc
import Derived.Lib.LaidTab
import Derived.Lib.ItoaNum
import Derived.Lib.AppendIntMem
import Derived.Stop.LaidErr
import Derived.Deep.DeepLaidRun
import Derived.MakeChecks
import Derived.WideWitness
import Derived.Shelf.Vars
namespace Go.Proofs.YtkgbmeppflnejaaGreatDoor
section
open Go.ChangeShapes Go.WideShapes Go.Deep Go.RowKit Go.Shelf

namespace Uz
theorem one_le {H : Type} (d : DataW H) : 1 ≤ Rows.uptoBulk d := by
  cases d with
  | lit l => cases l <;> simp [Rows.uptoBulk]
  | nil => simp [Rows.uptoBulk]
  | ptr d => simp [Rows.uptoBulk]
  | slice elems spare => simp [Rows.uptoBulk]
  | agg parts => simp [Rows.uptoBulk]
  | iface t d => simp [Rows.uptoBulk]
  | map entries => simp [Rows.uptoBulk]
  | held h => simp [Rows.uptoBulk]
theorem part_le {H : Type} {d : DataW H} {l : List (DataW H)} (h : d ∈ l) : Rows.uptoBulk d ≤ Rows.uptoBulkAll l := by
  induction l with
  | nil => cases h
  | cons x r ih =>
    simp only [Rows.uptoBulkAll]
    cases List.mem_cons.1 h with
    | inl e => subst e; omega
    | inr e => have := ih e; omega
theorem len_le {H : Type} (l : List (DataW H)) : l.length ≤ Rows.uptoBulkAll l := by
  induction l with
  | nil => simp
  | cons x r ih =>
    have := one_le x
    simp only [Rows.uptoBulkAll, List.length_cons]
    omega
end Uz

section
variable {H : Type} {enc : TypeId × Value → H} {w : World} {base : Nat} {held : Bool}
theorem intsb_raw {fuel : Nat} {v : Value} {x : DataW H × List MemPlace} (h : DataW.trod enc Tryz.prog w base (fun _ => true) held fuel 24 [v] = some x) (hp : ∀ p ∈ x.2, p.block < w.heap.size) :
    ∃ (A : Option Addr) (c : Nat) (l : List Int), v = .slice A l.length c ∧ Rd w w.heap.size 1 A l.length (intsV l) ∧ l.length ≤ Rows.uptoBulk x.1 := by
  rcases open_ints Tryz.underlying24 Tryz.underlying3 (by kernel_rfl) h with ⟨hcs, hx⟩ | ⟨a, len, cap, zs, hcs, _, hl, _, hz, hx, hc, _⟩
  · obtain rfl : v = .slice none 0 0 := by simpa using hcs
    exact ⟨none, 0, [], rfl, Rd.empty, Nat.zero_le _⟩
  · obtain rfl : v = .slice (some a) len cap := by simpa using hcs
    simp only [if_true] at hz
    subst hx
    have hlen : (zs.take len).length = len := by simp; omega
    refine ⟨some a, cap, zs.take len, by rw [hlen], ⟨by simp [intsV], fun hn => ⟨a, rfl, ?_, ?_⟩⟩, ?_⟩
    · exact hp (.cell a.block (a.off + 0)) (MemPlace.mem_row.2 ⟨0, by omega, rfl⟩)
    · intro j u hu
      unfold intsV at hu
      rw [List.getElem?_map, List.getElem?_take] at hu
      split at hu
      case isTrue hj =>
        have hj2 : j < zs.length := by omega
        rw [List.getElem?_eq_getElem hj2] at hu
        injection hu with hu
        subst hu
        have h9 := hc j hj2
        rw [List.getD_eq_getElem?_getD, List.getElem?_eq_getElem hj2, Option.getD_some] at h9
        exact h9
      case isFalse => cases hu
    · have h1 := Uz.len_le (lits (H := H) .i64 (zs.take len))
      simp only [lits, List.length_map] at h1
      simp only [Rows.uptoBulk, lits]
      omega
theorem strsb_raw {fuel : Nat} {v : Value} {x : DataW H × List MemPlace} (h : DataW.trod enc Tryz.prog w base (fun _ => true) held fuel 23 [v] = some x) (hp : ∀ p ∈ x.2, p.block < w.heap.size) :
    ∃ (A : Option Addr) (c : Nat) (l : List ByteArray), v = .slice A l.length c ∧ Rd w w.heap.size 1 A l.length (strsV l) ∧ l.length ≤ Rows.uptoBulk x.1 ∧ ∀ b ∈ l, b.size ≤ Rows.uptoBulk x.1 := by
  rcases open_strings Tryz.underlying23 Tryz.underlying9 (by kernel_rfl) h with ⟨hcs, hx⟩ | ⟨a, len, cap, ss, hcs, _, hl, _, hz, hx, hc, _⟩
  · obtain rfl : v = .slice none 0 0 := by simpa using hcs
    exact ⟨none, 0, [], rfl, Rd.empty, Nat.zero_le _, by simp⟩
  · obtain rfl : v = .slice (some a) len cap := by simpa using hcs
    simp only [if_true] at hz
    subst hx
    have hlen : (ss.take len).length = len := by simp; omega
    have hb : Rows.uptoBulkAll (strs (H := H) (ss.take len)) ≤ Rows.uptoBulk (DataW.slice (strs (H := H) (ss.take len)) (strs (ss.drop len))) := by simp only [Rows.uptoBulk]; omega
    refine ⟨some a, cap, ss.take len, by rw [hlen], ⟨by simp [strsV], fun hn => ⟨a, rfl, ?_, ?_⟩⟩, ?_, ?_⟩
    · exact hp (.cell a.block (a.off + 0)) (MemPlace.mem_row.2 ⟨0, by omega, rfl⟩)
    · intro j u hu
      simp only [strsV, List.getElem?_map, Option.map_eq_some_iff] at hu
      obtain ⟨b, hb1, rfl⟩ := hu
      have hjl : j < len := by have := (List.getElem?_eq_some_iff.1 hb1).1; omega
      rw [hc j (by omega)]
      rw [List.getElem?_take] at hb1
      simp only [hjl, if_true] at hb1
      simp [hb1]
    · have := Uz.len_le (strs (H := H) (ss.take len))
      simp only [strs, List.length_map] at this hb ⊢
      omega
    · intro b hb1
      have h1 : (DataW.lit (H := H) (.string b.data.toList)) ∈ strs (H := H) (ss.take len) := List.mem_map.2 ⟨b, hb1, rfl⟩
      have h2 := Uz.part_le h1
      simp only [Rows.uptoBulk] at h2 hb ⊢
      have h3 : b.data.toList.length = b.size := by rw [Array.length_toList]; rfl
      omega
/-- a filter's value -/
structure FiltS where
  f : Sp.FD
  UA : Option Addr
  uc : Nat
  KA : Option Addr
  kc : Nat
def FiltS.val (D : FiltS) : Value := filtV D.f D.UA D.uc D.KA D.kc
def FiltGood (w : World) (D : FiltS) (n : Nat) : Prop := n ≤ 1048576 → FGood D.f D.UA D.KA w.heap.size w
set_option maxRecDepth 100000 in
theorem filt_is {v : Value} {r : Reach} {b0 : Nat} {d : DataW H} {p : List MemPlace} (hok : Value.okWide Tryz.prog w r b0 26 v)
    (h : DataW.Trod enc Tryz.prog w base (fun _ => true) held 26 v d p) (hp : ∀ x ∈ p, x.block < w.heap.size) (_hw : ∀ m ∈ d.weights Tryz.prog 26, m ≤ reachBytes) :
    ∃ D : FiltS, v = D.val ∧ FiltGood w D (Rows.uptoBulk d) := by
  obtain ⟨vs, ys, n, rfl, rfl, rfl, hv, hy, hf⟩ := open_fields Tryz.underlying26 (by kernel_rfl) (by kernel_rfl) hok h
  obtain ⟨u0, y0, e0, i0, t0⟩ := hf 0 _ rfl
  obtain ⟨u1, y1, e1, i1, t1⟩ := hf 1 _ rfl
  obtain ⟨u2, y2, e2, i2, t2⟩ := hf 2 _ rfl
  obtain ⟨u3, y3, e3, i3, t3⟩ := hf 3 _ rfl
  obtain ⟨u4, y4, e4, i4, t4⟩ := hf 4 _ rfl
  have pp : ∀ {y : DataW H × List MemPlace} {j : Nat}, ys[j]? = some y → ∀ q ∈ y.2, q.block < w.heap.size := fun hi q hq => hp q (List.mem_flatMap.2 ⟨_, List.mem_of_getElem? hi, hq⟩)
  have bb : ∀ {y : DataW H × List MemPlace} {j : Nat}, ys[j]? = some y → Rows.uptoBulk y.1 ≤ Rows.uptoBulk (DataW.agg (ys.map (·.1))) := fun hi => by
    have := Uz.part_le (List.mem_map.2 ⟨_, List.mem_of_getElem? hi, rfl⟩ : _ ∈ ys.map (·.1))
    simp only [Rows.uptoBulk]
    omega
  obtain ⟨A0, c0, l0, rfl, r0, k0, s0⟩ := strsb_raw t0 (pp i0)
  obtain ⟨A1, c1, l1, rfl, r1, k1⟩ := intsb_raw t1 (pp i1)
  obtain ⟨n2, h2, _, _⟩ := DataW.trod_int Tryz.underlying3 t2
  obtain ⟨n3, h3, _, _⟩ := DataW.trod_int Tryz.underlying3 t3
  obtain ⟨s4, h4, z4, _⟩ := DataW.trod_string Tryz.underlying9 t4
  have e2' : u2 = .int .i64 n2 := by simpa using h2
  have e3' : u3 = .int .i64 n3 := by simpa using h3
  have e4' : u4 = .string s4 := by simpa using h4
  have b0 := bb i0
  have b1 := bb i1
  have b4 := bb i4
  subst e2' e3' e4' z4
  match vs, hv with
  | [v0, v1, v2, v3, v4], _ =>
    simp only [List.getElem?_cons_zero, List.getElem?_cons_succ, Option.some.injEq] at e0 e1 e2 e3 e4
    subst e0 e1 e2 e3 e4
    refine ⟨⟨⟨l0, l1, n2, n3, s4⟩, A0, c0, A1, c1⟩, rfl, fun hn => ⟨r0, r1, ?_, ?_, fun u hu => ?_, ?_⟩⟩
    · dsimp only; omega
    · dsimp only; omega
    · have := s0 u hu; omega
    · dsimp only at b4 ⊢
      simp only [Rows.uptoBulk] at b4 hn
      have h3 : s4.data.toList.length = s4.size := by rw [Array.length_toList]; rfl
      omega
end
end

section
open Go.ChangeShapes Go.WideShapes Go.Deep Go.RowKit Go.Shelf

section
variable {H : Type} {enc : TypeId × Value → H} {P : Program} {w : World} {base : Nat} {held : Bool}
/-- a slice of structs that came in, as a list, with its bulk -/
theorem rowsb_is {α : Type} (C : α → List Value) (G : α → Prop) (K : Nat) {t e : TypeId} {fs : Array Field} {fuel : Nat} {v : Value} {x : DataW H × List MemPlace} (ht : P.underlying t = some (.slice e)) (he : P.underlying e = some (.struct fs))
    (hone : oneCellFields P fs = true) (hC : P.cellsOf e = fs.size) (hk : ∀ q, (C q).length = fs.size) (hpos : 0 < fs.size)
    (hdec : ∀ (ys : List (DataW H × List MemPlace)) (n : Nat) (vs : Nat → Value), ys.length = fs.size → (∀ j f, fs[j]? = some f → ∃ y, ys[j]? = some y ∧ DataW.trod enc P w base (fun _ => true) held n f.type [vs j] = some y ∧ Rows.uptoBulk y.1 ≤ K) →
      ∃ q, (∀ j, j < fs.size → (C q)[j]? = some (vs j)) ∧ G q)
    (h : DataW.trod enc P w base (fun _ => true) held fuel t [v] = some x) (hp : ∀ p ∈ x.2, p.block < w.heap.size) (hw : Rows.uptoBulk x.1 ≤ K) :
    ∃ (A : Option Addr) (n c : Nat) (l : List α), v = .slice A n c ∧ Rd w w.heap.size fs.size A n (l.flatMap C) ∧ ∀ q ∈ l, G q := by
  rcases open_slice_fields ht he hone hC h with ⟨hcs, hx⟩ | ⟨a, len, cap, m, D, Pl, hcs, _, hl, _, hm, hx, hi⟩
  · obtain rfl : v = .slice none 0 0 := by simpa using hcs
    exact ⟨none, 0, 0, [], rfl, Rd.empty, by simp⟩
  · obtain rfl : v = .slice (some a) len cap := by simpa using hcs
    subst hx
    simp only [if_true] at hm
    subst hm
    obtain ⟨l, hll, hr⟩ := pick (R := fun i (q : α) => (∀ j, j < fs.size → w.cell? (a.add (i * fs.size + j)) = (C q)[j]?) ∧ G q) len (by
      intro i hil
      obtain ⟨ys, n, hD, hPl, hyl, hf⟩ := hi i (by omega)
      have hmem : D i ∈ (List.range len).map D := List.mem_map.2 ⟨i, by simpa using hil, rfl⟩
      have hex : ∃ vs : Nat → Value, ∀ j f, fs[j]? = some f → ∃ y, w.cell? (a.add (i * fs.size + j)) = some (vs j) ∧ ys[j]? = some y ∧ DataW.trod enc P w base (fun _ => true) held n f.type [vs j] = some y := by
        refine ⟨fun j => (w.cell? (a.add (i * fs.size + j))).getD undef, fun j f hj => ?_⟩
        obtain ⟨v, y, c, e1, e2⟩ := hf j f hj
        have hv : (w.cell? (a.add (i * fs.size + j))).getD undef = v := by rw [c]; rfl
        exact ⟨y, by simp only [hv]; exact c, e1, by simp only [hv]; exact e2⟩
      obtain ⟨vs, hvs⟩ := hex
      obtain ⟨q, hq, hG⟩ := hdec ys n vs hyl (fun j f hj => by
        obtain ⟨y, _, e1, e2⟩ := hvs j f hj
        refine ⟨y, e1, e2, ?_⟩
        have h1 := Uz.part_le hmem
        have h2 := Uz.part_le (List.mem_map.2 ⟨y, List.mem_of_getElem? e1, rfl⟩ : y.1 ∈ ys.map (·.1))
        rw [hD] at h1
        simp only [Rows.uptoBulk] at h1 hw
        omega)
      refine ⟨q, fun j hj => ?_, hG⟩
      obtain ⟨y, c, _, _⟩ := hvs j fs[j] (Array.getElem?_eq_getElem hj)
      rw [c, hq j hj])
    refine ⟨some a, len, m, l, rfl, ⟨by rw [flat_len C _ hk, hll], fun hn => ⟨a, rfl, ?_, ?_⟩⟩, fun q hq => ?_⟩
    · refine hp (.cell a.block (a.off + 0)) (List.mem_append_left _ (MemPlace.mem_row.2 ⟨0, ?_, rfl⟩))
      exact Nat.mul_pos (by omega) hpos
    · intro j u hu
      have hj : j < l.length * fs.size := by have := (List.getElem?_eq_some_iff.1 hu).1; rwa [flat_len C _ hk] at this
      have hi2 : j / fs.size < l.length := Nat.div_lt_of_lt_mul (by rw [Nat.mul_comm]; exact hj)
      have e1 : j = j / fs.size * fs.size + j % fs.size := by have := Nat.div_add_mod j fs.size; rw [Nat.mul_comm] at this; exact this.symm
      have hq := List.getElem?_eq_getElem hi2
      have h1 := (hr _ _ hq).1 (j % fs.size) (Nat.mod_lt _ hpos)
      have h2 := flat_at C _ hk l _ (j % fs.size) _ hq (Nat.mod_lt _ hpos)
      rw [← e1] at h1 h2
      rw [h1, ← h2, hu]
    · obtain ⟨i, hiq⟩ := List.getElem?_of_mem hq
      exact (hr i q hiq).2
end
section
variable {H : Type} {enc : TypeId × Value → H} {w : World} {base : Nat} {held : Bool}
/-- rows' value -/
structure RowsS where
  A : Option Addr
  n : Nat
  c : Nat
  l : List RowD
def RowsS.val (D : RowsS) : Value := .slice D.A D.n D.c
def RowsSGood (w : World) (D : RowsS) (k : Nat) : Prop := k ≤ 1048576 → Rd w w.heap.size 5 D.A D.n (rowsC D.l) ∧ ∀ r ∈ D.l, r.text.size ≤ 4294967280
set_option maxRecDepth 100000 in
theorem rowsb_in {r : Reach} {b0 : Nat} {v : Value} {d : DataW H} {p : List MemPlace} (hok : Value.okWide Tryz.prog w r b0 35 v) (h : DataW.Trod enc Tryz.prog w base (fun _ => true) held 35 v d p) (hp : ∀ x ∈ p, x.block < w.heap.size) (_hw : ∀ m ∈ d.weights Tryz.prog 35, m ≤ reachBytes) :
    ∃ D : RowsS, v = D.val ∧ RowsSGood w D (Rows.uptoBulk d) := by
  obtain ⟨a0, len0, cap0, rfl⟩ := okWide_slice Tryz.underlying35 hok
  obtain ⟨fuel, h⟩ := h
  have h' : DataW.trod enc Tryz.prog w base (fun _ => true) held fuel 35 [.slice a0 len0 cap0] = some (d, p) := by simpa [Value.cells] using h
  obtain ⟨A, n, c, l, h1, h2, h5⟩ := rowsb_is rowC (fun q => q.text.size ≤ Rows.uptoBulk d) (Rows.uptoBulk d) Tryz.underlying35 Tryz.underlying37 (by kernel_rfl) (by kernel_rfl) (fun _ => rfl) (by decide) (by
    intro ys n vs hyl hf
    obtain ⟨y0, e0, t0, w0⟩ := hf 0 _ rfl
    obtain ⟨y1, e1, t1, w1⟩ := hf 1 _ rfl
    obtain ⟨y2, e2, t2, w2⟩ := hf 2 _ rfl
    obtain ⟨y3, e3, t3, w3⟩ := hf 3 _ rfl
    obtain ⟨y4, e4, t4, w4⟩ := hf 4 _ rfl
    obtain ⟨n0, hn0, rfl, _⟩ := DataW.trod_int Tryz.underlying3 t0
    obtain ⟨s1, hs1, rfl, _⟩ := DataW.trod_string Tryz.underlying9 t1
    obtain ⟨n2, hn2, rfl, _⟩ := DataW.trod_int Tryz.underlying3 t2
    obtain ⟨n3, hn3, rfl, _⟩ := DataW.trod_int Tryz.underlying3 t3
    obtain ⟨s4, hs4, rfl, _⟩ := DataW.trod_string Tryz.underlying9 t4
    simp only [Rows.uptoBulk] at w4
    have k4 : s4.data.toList.length = s4.size := by rw [Array.length_toList]; rfl
    refine ⟨⟨n0, s1, n2, n3, s4⟩, fun j hj => ?_, by dsimp only; omega⟩
    have e0' : vs 0 = .int .i64 n0 := by simpa using hn0
    have e1' : vs 1 = .string s1 := by simpa using hs1
    have e2' : vs 2 = .int .i64 n2 := by simpa using hn2
    have e3' : vs 3 = .int .i64 n3 := by simpa using hn3
    have e4' : vs 4 = .string s4 := by simpa using hs4
    have hj5 : j < 5 := hj
    match j, hj5 with
    | 0, _ => rw [e0']; rfl
    | 1, _ => rw [e1']; rfl
    | 2, _ => rw [e2']; rfl
    | 3, _ => rw [e3']; rfl
    | 4, _ => rw [e4']; rfl) h' hp (Nat.le_refl _)
  exact ⟨⟨A, n, c, l⟩, h1, fun hk => ⟨h2, fun r hr => by have := h5 r hr; omega⟩⟩
end
theorem filterboth_r (D0 D1 : FiltS) (D2 : RowsS) (u : ByteArray) (by' : Int) (w : World) (g0 : FGood D0.f D0.UA D0.KA w.heap.size w) (g1 : FGood D1.f D1.UA D1.KA w.heap.size w) (g2 : Rd w w.heap.size 5 D2.A D2.n (rowsC D2.l) ∧ ∀ r ∈ D2.l, r.text.size ≤ 4294967280) (hu : u.size ≤ 1048576) (E : Env w) :
    Calls Tryz.prog 6 #[D0.val, D1.val, D2.val, .string u, .int .i64 by'] w fun e w' => e = .returned (.bool true) ∧ Below w.heap.size w w' :=
  filterboth_any D0.f D1.f D0.UA D0.KA D1.UA D1.KA D0.uc D0.kc D1.uc D1.kc D2.l D2.A D2.n D2.c u by' w g0 g1 g2.1 g2.2 (Nat.le_trans hu (by decide)) E
end

section
open Go Go.RowKit

/-- the list that each row bears -/
def laidAll : List (String × DataW Unit) := [("math/bits.deBruijn32tab", Rows.laid_math_bits_deBruijn32tab), ("math/bits.deBruijn64tab", Rows.laid_math_bits_deBruijn64tab), ("internal/strconv.uint64pow10", Rows.laid_internal_strconv_uint64pow10), ("strconv.ErrRange", Rows.laid_strconv_ErrRange), ("strconv.ErrSyntax", Rows.laid_strconv_ErrSyntax)]
theorem gTab : Tryz.prog.globalNamed "internal/strconv.uint64pow10" = some 1 := by kernel_rfl
theorem gTabType : (Tryz.prog.globals[1]?).map (·.type) = some 145 := by kernel_rfl
theorem cellsTab : Tryz.prog.cellsOf 145 = 20 := by kernel_rfl
theorem cellsOne : Tryz.prog.cellsOf 128 = 1 := by kernel_rfl
theorem pow10_eq : Lib.pow10Tab = [1, 10, 100, 1000, 10000, 100000, 1000000, 10000000, 100000000, 1000000000, 10000000000, 100000000000, 1000000000000, 10000000000000, 100000000000000, 1000000000000000, 10000000000000000, 100000000000000000, 1000000000000000000, 10000000000000000000] := by decide +kernel
theorem laid_plain {W : World} (h : laidMetH Tryz.prog laidAll W) : laidMet Tryz.prog laidAll W := by
  rw [MakeChecks.laidMetH_plain _ _ _ (by kernel_rfl)] at h
  exact h
theorem table {W : World} (h : laidMetH Tryz.prog laidAll W) : Lib.TabIs Tryz.prog W "internal/strconv.uint64pow10" .u64 Lib.pow10Tab := by
  have h := laid_plain h
  rw [pow10_eq]
  exact Lib.tabIs_of_head gTab gTabType Tryz.underlying145 Tryz.underlying128 cellsOne cellsTab h.tail.tail
theorem below_cell {W w' : World} {p : Addr} {v : Value} (h : W.cell? p = some v) (hb : Below W.heap.size W w') : w'.cell? p = some v := by
  have hlt : p.block < W.heap.size := by
    unfold World.cell? at h
    split at h
    · rename_i hx; exact (Array.getElem?_eq_some_iff.1 hx).1
    · cases h
  exact (hb.cell hlt).trans h
theorem iface_in {P : Program} {W : World} {n nm : String} {x : DataW Unit} {r : List (String × DataW Unit)} {g : Nat} {ti : TypeId} {ms : Array (String × TypeId)}
    (h : laidMet P ((n, .iface nm (.ptr x)) :: r) W) (hg : P.globalNamed n = some g) (ht : (P.globals[g]?).map (·.type) = some ti) (hi : P.underlying ti = some (.interface ms)) : ∃ t p, W.cell? ⟨g, 0, none⟩ = some (.iface t p) := by
  obtain ⟨ps, ⟨g0, t0, cs0, f0, p0, q0, hg0, ht0, hv0, hd0, _, e0⟩, _, _⟩ := h
  obtain rfl := Option.some.inj (hg.symm.trans hg0)
  obtain rfl := Option.some.inj (ht.symm.trans ht0)
  obtain ⟨l0⟩ := cs0
  obtain ⟨f1, u, v, rfl, _, _⟩ := Go.iface_of_trod hi hd0
  exact ⟨u, v, by rw [World.var?_cell hg0 hv0 0]; rfl⟩
theorem env_of {W : World} (h : laidMetH Tryz.prog laidAll W) (hS : W.ShapedOpen Tryz.prog) : Env W := by
  have h1 := laid_plain h
  obtain ⟨ts, ps, hs⟩ := iface_in h1.tail.tail.tail.tail (g := 2) (by kernel_rfl) (by kernel_rfl) Tryz.underlying107
  obtain ⟨tr, pr, hr⟩ := iface_in h1.tail.tail.tail (g := 3) (by kernel_rfl) (by kernel_rfl) Tryz.underlying107
  obtain ⟨m, hm⟩ := cell_of_shapedOpen_int (g := 0) (zero := #[.int .i64 0]) (t := 3) hS (of_decide_eq_true (by kernel_rfl)) (by kernel_rfl) rfl (by kernel_rfl) (by kernel_rfl) Tryz.underlying3
  intro w' hb
  exact ⟨Lib.tabBelow_of_tabIs (table h) w' hb, ⟨ts, ps, below_cell hs hb⟩, ⟨tr, pr, below_cell hr hb⟩, ⟨m, below_cell hm hb⟩⟩

/-- the values of a table -/
def flatVals (d : DataW Unit) : List Value := match d with
  | .agg ds => ds.flatMap fun x => match x with | .lit l => [l.value] | .agg es => es.map (fun y => match y with | .lit l => l.value | _ => undef) | _ => [undef]
  | _ => []
noncomputable def low : Nat := (World.holding Tryz.prog default ⟨#[], #[], []⟩).heap.size
def setB (vs : Array Value) : Obj → Obj
  | .cells _ t frozen => .cells vs t frozen
  | o => o
noncomputable def laidWorld (os : Os) : World :=
  let w0 := World.holding Tryz.prog os ⟨#[.cells #[.string ⟨#[118, 97, 108, 117, 101, 32, 111, 117, 116, 32, 111, 102, 32, 114, 97, 110, 103, 101]⟩] 165, .cells #[.string ⟨#[105, 110, 118, 97, 108, 105, 100, 32, 115, 121, 110, 116, 97, 120]⟩] 165], #[], []⟩
  { w0 with heap := ((((w0.heap.modify 4 (setB (flatVals Rows.laid_math_bits_deBruijn32tab).toArray)).modify 5 (setB (flatVals Rows.laid_math_bits_deBruijn64tab).toArray)).modify 1 (setB (flatVals Rows.laid_internal_strconv_uint64pow10).toArray)).modify
      3 (setB #[.iface 163 (.pointer (some ⟨low, 0, none⟩))])).modify 2 (setB #[.iface 163 (.pointer (some ⟨low + 1, 0, none⟩))]) }
theorem laid_met (os : Os) (args : Array Value) : laidMet Tryz.prog laidAll ((laidWorld os).forCall (fun _ _ => 0) ⟨#[], args, []⟩).memory :=
  laidMet_of_run3 8 (by kernel_rfl) (by kernel_rfl) (by kernel_rfl)
end

end Go.Proofs.YtkgbmeppflnejaaGreatDoor
