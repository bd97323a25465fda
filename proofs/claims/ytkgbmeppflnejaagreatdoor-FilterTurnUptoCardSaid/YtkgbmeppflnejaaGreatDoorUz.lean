/-
  A filter that comes in by value, opened; the law's walk over it.
-/
import Derived.Test.YtkgbmeppflnejaaGreatDoorUy
import Derived.Test.YtkgbmeppflnejaaGreatDoorGr
import Derived.Test.YtkgbmeppflnejaaGreatDoorRows
import Derived.SliceStrings
import Derived.ChangeSlices
import Derived.ChangeShapes
import Derived.Deep.Slices
import Derived.Deep.Fields
import Derived.ChangeSame
namespace Go.Proofs.YtkgbmeppflnejaaGreatDoor
open Go.ChangeShapes Go.WideShapes Go.Deep Go.RowKit Go.Shelf

namespace Uz
theorem one_le {H : Type} (d : DataW H) : 1 ≤ Rows.uptoBulk d := by
  cases d with
  | lit l => cases l <;> simp [Rows.uptoBulk]
  | nil => simp [Rows.uptoBulk]
  | ptr d => simp [Rows.uptoBulk]
  | slice elems spare => simp [Rows.uptoBulk]
  | agg parts => simp [Rows.uptoBulk]
  | iface t d => simp [Rows.uptoBulk]
  | map entries => simp [Rows.uptoBulk]
  | held h => simp [Rows.uptoBulk]
theorem part_le {H : Type} {d : DataW H} {l : List (DataW H)} (h : d ∈ l) : Rows.uptoBulk d ≤ Rows.uptoBulkAll l := by
  induction l with
  | nil => cases h
  | cons x r ih =>
    simp only [Rows.uptoBulkAll]
    cases List.mem_cons.1 h with
    | inl e => subst e; omega
    | inr e => have := ih e; omega
theorem len_le {H : Type} (l : List (DataW H)) : l.length ≤ Rows.uptoBulkAll l := by
  induction l with
  | nil => simp
  | cons x r ih =>
    have := one_le x
    simp only [Rows.uptoBulkAll, List.length_cons]
    omega
end Uz

section
variable {H : Type} {enc : TypeId × Value → H} {w : World} {base : Nat} {held : Bool}
theorem intsb_raw {fuel : Nat} {v : Value} {x : DataW H × List MemPlace} (h : DataW.trod enc Tryz.prog w base (fun _ => true) held fuel 24 [v] = some x) (hp : ∀ p ∈ x.2, p.block < w.heap.size) :
    ∃ (A : Option Addr) (c : Nat) (l : List Int), v = .slice A l.length c ∧ Rd w w.heap.size 1 A l.length (intsV l) ∧ l.length ≤ Rows.uptoBulk x.1 := by
  rcases open_ints Tryz.underlying24 Tryz.underlying3 (by kernel_rfl) h with ⟨hcs, hx⟩ | ⟨a, len, cap, zs, hcs, _, hl, _, hz, hx, hc, _⟩
  · obtain rfl : v = .slice none 0 0 := by simpa using hcs
    exact ⟨none, 0, [], rfl, Rd.empty, Nat.zero_le _⟩
  · obtain rfl : v = .slice (some a) len cap := by simpa using hcs
    simp only [if_true] at hz
    subst hx
    have hlen : (zs.take len).length = len := by simp; omega
    refine ⟨some a, cap, zs.take len, by rw [hlen], ⟨by simp [intsV], fun hn => ⟨a, rfl, ?_, ?_⟩⟩, ?_⟩
    · exact hp (.cell a.block (a.off + 0)) (MemPlace.mem_row.2 ⟨0, by omega, rfl⟩)
    · intro j u hu
      unfold intsV at hu
      rw [List.getElem?_map, List.getElem?_take] at hu
      split at hu
      case isTrue hj =>
        have hj2 : j < zs.length := by omega
        rw [List.getElem?_eq_getElem hj2] at hu
        injection hu with hu
        subst hu
        have h9 := hc j hj2
        rw [List.getD_eq_getElem?_getD, List.getElem?_eq_getElem hj2, Option.getD_some] at h9
        exact h9
      case isFalse => cases hu
    · have h1 := Uz.len_le (lits (H := H) .i64 (zs.take len))
      simp only [lits, List.length_map] at h1
      simp only [Rows.uptoBulk, lits]
      omega
theorem strsb_raw {fuel : Nat} {v : Value} {x : DataW H × List MemPlace} (h : DataW.trod enc Tryz.prog w base (fun _ => true) held fuel 23 [v] = some x) (hp : ∀ p ∈ x.2, p.block < w.heap.size) :
    ∃ (A : Option Addr) (c : Nat) (l : List ByteArray), v = .slice A l.length c ∧ Rd w w.heap.size 1 A l.length (strsV l) ∧ l.length ≤ Rows.uptoBulk x.1 ∧ ∀ b ∈ l, b.size ≤ Rows.uptoBulk x.1 := by
  rcases open_strings Tryz.underlying23 Tryz.underlying9 (by kernel_rfl) h with ⟨hcs, hx⟩ | ⟨a, len, cap, ss, hcs, _, hl, _, hz, hx, hc, _⟩
  · obtain rfl : v = .slice none 0 0 := by simpa using hcs
    exact ⟨none, 0, [], rfl, Rd.empty, Nat.zero_le _, by simp⟩
  · obtain rfl : v = .slice (some a) len cap := by simpa using hcs
    simp only [if_true] at hz
    subst hx
    have hlen : (ss.take len).length = len := by simp; omega
    have hb : Rows.uptoBulkAll (strs (H := H) (ss.take len)) ≤ Rows.uptoBulk (DataW.slice (strs (H := H) (ss.take len)) (strs (ss.drop len))) := by simp only [Rows.uptoBulk]; omega
    refine ⟨some a, cap, ss.take len, by rw [hlen], ⟨by simp [strsV], fun hn => ⟨a, rfl, ?_, ?_⟩⟩, ?_, ?_⟩
    · exact hp (.cell a.block (a.off + 0)) (MemPlace.mem_row.2 ⟨0, by omega, rfl⟩)
    · intro j u hu
      simp only [strsV, List.getElem?_map, Option.map_eq_some_iff] at hu
      obtain ⟨b, hb1, rfl⟩ := hu
      have hjl : j < len := by have := (List.getElem?_eq_some_iff.1 hb1).1; omega
      rw [hc j (by omega)]
      rw [List.getElem?_take] at hb1
      simp only [hjl, if_true] at hb1
      simp [hb1]
    · have := Uz.len_le (strs (H := H) (ss.take len))
      simp only [strs, List.length_map] at this hb ⊢
      omega
    · intro b hb1
      have h1 : (DataW.lit (H := H) (.string b.data.toList)) ∈ strs (H := H) (ss.take len) := List.mem_map.2 ⟨b, hb1, rfl⟩
      have h2 := Uz.part_le h1
      simp only [Rows.uptoBulk] at h2 hb ⊢
      have h3 : b.data.toList.length = b.size := by rw [Array.length_toList]; rfl
      omega
/-- a filter's value -/
structure FiltS where
  f : Sp.FD
  UA : Option Addr
  uc : Nat
  KA : Option Addr
  kc : Nat
def FiltS.val (D : FiltS) : Value := filtV D.f D.UA D.uc D.KA D.kc
def FiltGood (w : World) (D : FiltS) (n : Nat) : Prop := n ≤ 1048576 → FGood D.f D.UA D.KA w.heap.size w
set_option maxRecDepth 100000 in
theorem filt_is {v : Value} {r : Reach} {b0 : Nat} {d : DataW H} {p : List MemPlace} (hok : Value.okWide Tryz.prog w r b0 26 v)
    (h : DataW.Trod enc Tryz.prog w base (fun _ => true) held 26 v d p) (hp : ∀ x ∈ p, x.block < w.heap.size) (_hw : ∀ m ∈ d.weights Tryz.prog 26, m ≤ reachBytes) :
    ∃ D : FiltS, v = D.val ∧ FiltGood w D (Rows.uptoBulk d) := by
  obtain ⟨vs, ys, n, rfl, rfl, rfl, hv, hy, hf⟩ := open_fields Tryz.underlying26 (by kernel_rfl) (by kernel_rfl) hok h
  obtain ⟨u0, y0, e0, i0, t0⟩ := hf 0 _ rfl
  obtain ⟨u1, y1, e1, i1, t1⟩ := hf 1 _ rfl
  obtain ⟨u2, y2, e2, i2, t2⟩ := hf 2 _ rfl
  obtain ⟨u3, y3, e3, i3, t3⟩ := hf 3 _ rfl
  obtain ⟨u4, y4, e4, i4, t4⟩ := hf 4 _ rfl
  have pp : ∀ {y : DataW H × List MemPlace} {j : Nat}, ys[j]? = some y → ∀ q ∈ y.2, q.block < w.heap.size := fun hi q hq => hp q (List.mem_flatMap.2 ⟨_, List.mem_of_getElem? hi, hq⟩)
  have bb : ∀ {y : DataW H × List MemPlace} {j : Nat}, ys[j]? = some y → Rows.uptoBulk y.1 ≤ Rows.uptoBulk (DataW.agg (ys.map (·.1))) := fun hi => by
    have := Uz.part_le (List.mem_map.2 ⟨_, List.mem_of_getElem? hi, rfl⟩ : _ ∈ ys.map (·.1))
    simp only [Rows.uptoBulk]
    omega
  obtain ⟨A0, c0, l0, rfl, r0, k0, s0⟩ := strsb_raw t0 (pp i0)
  obtain ⟨A1, c1, l1, rfl, r1, k1⟩ := intsb_raw t1 (pp i1)
  obtain ⟨n2, h2, _, _⟩ := DataW.trod_int Tryz.underlying3 t2
  obtain ⟨n3, h3, _, _⟩ := DataW.trod_int Tryz.underlying3 t3
  obtain ⟨s4, h4, z4, _⟩ := DataW.trod_string Tryz.underlying9 t4
  have e2' : u2 = .int .i64 n2 := by simpa using h2
  have e3' : u3 = .int .i64 n3 := by simpa using h3
  have e4' : u4 = .string s4 := by simpa using h4
  have b0 := bb i0
  have b1 := bb i1
  have b4 := bb i4
  subst e2' e3' e4' z4
  match vs, hv with
  | [v0, v1, v2, v3, v4], _ =>
    simp only [List.getElem?_cons_zero, List.getElem?_cons_succ, Option.some.injEq] at e0 e1 e2 e3 e4
    subst e0 e1 e2 e3 e4
    refine ⟨⟨⟨l0, l1, n2, n3, s4⟩, A0, c0, A1, c1⟩, rfl, fun hn => ⟨r0, r1, ?_, ?_, fun u hu => ?_, ?_⟩⟩
    · dsimp only; omega
    · dsimp only; omega
    · have := s0 u hu; omega
    · dsimp only at b4 ⊢
      simp only [Rows.uptoBulk] at b4 hn
      have h3 : s4.data.toList.length = s4.size := by rw [Array.length_toList]; rfl
      omega
end
theorem filterturn_r (D : FiltS) (s : ByteArray) (w : World) (g : FGood D.f D.UA D.KA w.heap.size w) (hs : s.size ≤ 1048576) (E : Env w) :
    Calls Tryz.prog 4 #[D.val, .string s] w fun e w' => e = .returned (.bool true) ∧ Below w.heap.size w w' :=
  filterturn_any D.f D.UA D.KA D.uc D.kc s w g hs E

end Go.Proofs.YtkgbmeppflnejaaGreatDoor
