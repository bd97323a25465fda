/-
  The walk of the law that a word whose dollar signs are doubled stands for itself.
-/
import Derived.Test.YtcefnglmacpehaaLw1
namespace Go.Proofs.Ytcefnglmacpehaa
open Go.RowKit

/-- where a loop stands that writes each sign c twice -/
def DblRel (c : UInt8) (s : ByteArray) (k : Nat) (ob : ByteArray) : Prop := ob.data.toList = Sp.dbl c (s.data.toList.take k) ∧ ob.size ≤ 2 * k
theorem DblRel.start (c : UInt8) (s : ByteArray) : DblRel c s 0 ⟨#[]⟩ := ⟨by simp [Sp.dbl], by simp [ByteArray.size]⟩
theorem take_one (s : ByteArray) (k : Nat) (h : k < s.size) : s.data.toList.take (k + 1) = s.data.toList.take k ++ [s[k]] := by
  rw [List.take_succ_eq_append_getElem (by simpa using h)]; simp [ByteArray.getElem_eq_getElem_data]
theorem DblRel.plain {c : UInt8} {s : ByteArray} {k : Nat} {ob ob2 : ByteArray} (h : DblRel c s k ob) (hk : k < s.size) (hc : s[k] ≠ c) (he : ob2.data.toList = ob.data.toList ++ [s[k]]) : DblRel c s (k + 1) ob2 := by
  have e1 : ob2.data.toList.length = ob2.size := by rw [Array.length_toList]; rfl
  have e2 : ob.data.toList.length = ob.size := by rw [Array.length_toList]; rfl
  have h2 := h.2
  refine ⟨by rw [he, h.1, take_one s k hk, Sp.dbl_snoc, if_neg hc], ?_⟩
  rw [← e1, he]
  simp only [List.length_append, List.length_singleton]
  omega
theorem DblRel.two {c : UInt8} {s : ByteArray} {k : Nat} {ob ob2 : ByteArray} (h : DblRel c s k ob) (hk : k < s.size) (hc : s[k] = c) (he : ob2.data.toList = ob.data.toList ++ [s[k]] ++ [c]) : DblRel c s (k + 1) ob2 := by
  have e1 : ob2.data.toList.length = ob2.size := by rw [Array.length_toList]; rfl
  have e2 : ob.data.toList.length = ob.size := by rw [Array.length_toList]; rfl
  have h2 := h.2
  refine ⟨by rw [he, h.1, take_one s k hk, Sp.dbl_snoc, if_pos hc, hc]; simp, ?_⟩
  rw [← e1, he]
  simp only [List.length_append, List.length_singleton]
  omega
theorem DblRel.done {c : UInt8} {s : ByteArray} {k : Nat} {ob : ByteArray} (h : DblRel c s k ob) (hk : ¬ k < s.size) : ob.data.toList = Sp.dbl c s.data.toList := by
  rw [h.1, List.take_of_length_le (by simp; omega)]

theorem rsame_new (w : World) (A : Option Addr) (c : Nat) (l : List ByteArray) (s : ByteArray) (t : TypeId) (h : Rd w w.heap.size 1 A l.length (strCells l)) (hl : l.length ≤ 140737488355328) :
    Calls Try.prog 11 #[.slice A l.length c, .slice (some ⟨w.heap.size, 0, none⟩) 1 1] (w.alloc (.cells #[.string s] t)) fun e w' => e = .returned (.bool (sameB l [s])) ∧ Below w.heap.size w w' := by
  have h3 : Rd (w.alloc (.cells #[.string s] t)) (w.heap.size + 1) 1 (some ⟨w.heap.size, 0, none⟩) 1 (strCells [s]) := Rd.fresh w #[.string s] t 1 1 rfl
  have h1 := (h.alloc (Nat.le_refl _) (.cells #[.string s] t)).more (show w.heap.size ≤ w.heap.size + 1 by omega)
  have hb := (Below.refl w.heap.size w).alloc (Nat.le_refl _) (.cells #[.string s] t)
  generalize w.alloc (.cells #[.string s] t) = w2 at *
  refine (rsame_any A _ l.length 1 c 1 (w.heap.size + 1) l [s] w2 h1 h3 hl (by omega)).mono ?_
  rintro e w5 ⟨rfl, n, rfl⟩
  exact ⟨rfl, belowQ hb _⟩

theorem expandPlain_u (s : ByteArray) (A2 : Option Addr) (n2 c2 : Nat) (env : List (ByteArray × ByteArray)) (w : World) (hs : s.size ≤ 1048576) (h2 : Rd w w.heap.size 2 A2 n2 (pairCells env)) (hn2 : n2 ≤ 1048576) (hv : ∀ p ∈ env, p.2.size ≤ 1048576) :
    Calls Try.prog 7 #[.string s, .slice A2 n2 c2] w fun e w' => e = .returned (.bool true) ∧ Below w.heap.size w w' := by
  have hv2 : ∀ p ∈ env, p.2.size ≤ 2097152 := fun b hb => Nat.le_trans (hv b hb) (by omega)
  go_enter Try.func7, Try.ntmps7
  go_wp2_with fail
  refine (shown_any _).mono ?_
  rintro e w1 ⟨rfl, hb1⟩
  go_wp2_with fail
  go_loop [5, 6] (fun d j => ∃ (k : Nat) (ob : ByteArray), k ≤ s.size ∧ d = .string ob ∧ j = .int .i64 k ∧ Hid (DblRel 36 s k ob)) (fun _ j => s.size - (intOf j).toNat)
  case atStart => exact ⟨0, ⟨#[]⟩, Nat.zero_le _, rfl, rfl, Lib.hid (DblRel.start _ _)⟩
  case round =>
    obtain ⟨k, ob, hk, rfl, rfl, HR⟩ := hrel
    have hac : ob.size ≤ 2 * k := HR.out.2
    by_cases hlt : k < s.size
    · have x1 : (0 : Int) ≤ (k : Int) + 1 := by omega
      have x2 : (k : Int) + 1 ≤ (s.size : Int) := by omega
      have x3 : (k : Int) ≤ (k : Int) + 1 := by omega
      have HX := Lib.hid (Sp.ext_one s k hlt)
      by_cases hc : (s[k].toNat : Int) = 36
      · have hcb : ((s[k].toNat : Int) == 36) = true := by simpa using hc
        have HC : Hid (s[k] = 36) := Lib.hid (UInt8.toNat_inj.1 (by simpa using (by omega : s[k].toNat = 36)))
        clear hc
        go_wp2
        go_round
        case rel => exact ⟨k + 1, _, by omega, rfl, by go_num, Lib.hid (HR.out.two hlt HC.out (by have hx := HX.out; simp at hx; simp [hx]))⟩
        case measure => first | (simp [intOf]; done) | (simp [intOf]; omega)
      · have hcb : ((s[k].toNat : Int) == 36) = false := by simpa using hc
        have HC : Hid (s[k] ≠ 36) := Lib.hid (fun h => hc (by rw [h]; rfl))
        clear hc
        go_wp2
        go_round
        case rel => exact ⟨k + 1, _, by omega, rfl, by go_num, Lib.hid (HR.out.plain hlt HC.out (by have hx := HX.out; simp at hx; simp [hx]))⟩
        case measure => first | (simp [intOf]; done) | (simp [intOf]; omega)
    · have HD := Lib.hid (HR.out.done hlt)
      have hbs := hb1.size
      have hos : ob.size ≤ 2097152 := by omega
      go_wp2_with fail
      refine (vars_row _ A2 1 1 n2 c2 (w1.heap.size + 1) [ob] env _ (Rd.fresh w1 #[.string ob] _ 1 1 rfl) (((h2.below hb1).alloc hbs _).more (by omega)) (by simp) (by omega) (by omega) (by simpa using hos) hv2).mono ?_
      rintro e w3 ⟨A3, c3, l3, rfl, hl3, hr3, hb3, hq3⟩
      have hl4 : l3.map (fun b => b.data.toList) = [s.data.toList] := by
        rw [hl3]
        simp only [List.map_cons, List.map_nil, HD.out]
        exact Sp.vars_dbl _ _
      have hll : l3.length ≤ 2 := by have : l3.length = 1 := by simpa using congrArg List.length hl4
                                     omega
      have hb4 := (hb1.alloc hbs _).trans (hb3.mono (by simp; omega))
      have hsame : sameB l3 [s] = true := by unfold sameB; rw [hl4]; simp
      clear hl3 hl4 hq3 hb3
      have hb4s := hb4.size
      go_wp2_with fail
      refine (rsame_new w3 A3 c3 l3 s _ hr3 (by omega)).mono ?_
      rintro e w5 ⟨rfl, hb5⟩
      rw [hsame]
      go_wp2
      go_ret
      exact ⟨rfl, hb4.trans (hb5.mono hb4s)⟩

end Go.Proofs.Ytcefnglmacpehaa
