/-
  The walks that look for an act in a row of acts.
-/
import Derived.Test.YtkfeicgeobhccaaWd
namespace Go.Proofs.Ytkfeicgeobhccaa
open Go.RowKit

/-- the cells of some acts -/
def actCells (l : List ActD) : List Value := l.flatMap actC
theorem actC_len (a : ActD) : (actC a).length = 9 := rfl
theorem actCells_len (l : List ActD) : (actCells l).length = l.length * 9 := by
  induction l with
  | nil => rfl
  | cons p r ih => simp only [actCells, List.flatMap_cons, List.length_append, actC_len, List.length_cons] at ih ⊢; omega
theorem actCells_at (l : List ActD) (k : Nat) (h : k < l.length) (j : Nat) (hj : j < 9) : (actCells l)[k * 9 + j]? = (actC l[k])[j]? := by
  induction l generalizing k with
  | nil => simp at h
  | cons p r ih =>
    cases k with
    | zero =>
      simp only [actCells, List.flatMap_cons, Nat.zero_mul, Nat.zero_add, List.getElem_cons_zero]
      rw [List.getElem?_append_left (by rw [actC_len]; exact hj)]
    | succ k =>
      have h2 := ih k (by simpa using h)
      simp only [actCells, List.flatMap_cons, List.getElem_cons_succ] at h2 ⊢
      rw [show (k + 1) * 9 + j = (k * 9 + j) + 9 from by omega, List.getElem?_append_right (by rw [actC_len]; omega)]
      rw [actC_len, show k * 9 + j + 9 - 9 = k * 9 + j from by omega]
      exact h2
/-- an act's nine cells at an address -/
def ActAt (w : World) (ad : Addr) (a : ActD) : Prop :=
  w.cell? ad = some (.string a.unit) ∧ w.cell? { block := ad.block, off := ad.off + 1 } = some (.int .i64 a.part) ∧ w.cell? { block := ad.block, off := ad.off + 2 } = some (.int .i64 a.num) ∧ w.cell? { block := ad.block, off := ad.off + 3 } = some (.int .i64 a.att) ∧ w.cell? { block := ad.block, off := ad.off + 4 } = some (.int .i64 a.lasts) ∧
  w.cell? { block := ad.block, off := ad.off + 5 } = some (.int .i64 a.code) ∧ w.cell? { block := ad.block, off := ad.off + 6 } = some (.int .i64 a.ready) ∧ w.cell? { block := ad.block, off := ad.off + 7 } = some (.int .i64 a.dies) ∧ w.cell? { block := ad.block, off := ad.off + 8 } = some (.slice a.sA a.sn a.sc)
theorem ActAt.below {w w' : World} {ad : Addr} {a : ActD} {B : Nat} (h : ActAt w ad a) (hb : Below B w w') (hB : ad.block < B) : ActAt w' ad a := by
  obtain ⟨h0, h1, h2, h3, h4, h5, h6, h7, h8⟩ := h
  exact ⟨(hb.cell hB).trans h0, (hb.cell (p := { block := ad.block, off := ad.off + 1 }) hB).trans h1, (hb.cell (p := { block := ad.block, off := ad.off + 2 }) hB).trans h2, (hb.cell (p := { block := ad.block, off := ad.off + 3 }) hB).trans h3, (hb.cell (p := { block := ad.block, off := ad.off + 4 }) hB).trans h4, (hb.cell (p := { block := ad.block, off := ad.off + 5 }) hB).trans h5, (hb.cell (p := { block := ad.block, off := ad.off + 6 }) hB).trans h6, (hb.cell (p := { block := ad.block, off := ad.off + 7 }) hB).trans h7, (hb.cell (p := { block := ad.block, off := ad.off + 8 }) hB).trans h8⟩
theorem acts_here {w : World} {B n : Nat} {A : Option Addr} {l : List ActD} (h : Rd w B 9 A n (actCells l)) (k : Nat) (hk : k < n) : ∃ ad, A = some ad ∧ (ad.add (k * 9)).block < B ∧ ∃ hk2 : k < l.length, ActAt w (ad.add (k * 9)) l[k] := by
  have hl : l.length = n := by have h1 := h.1; rw [actCells_len] at h1; omega
  obtain ⟨ad, e, hb, hc⟩ := h.here (by omega)
  have hk2 : k < l.length := by omega
  have g : ∀ j, j < 9 → ∀ v, (actC l[k])[j]? = some v → w.cell? (ad.add (k * 9 + j)) = some v := fun j hj v hv => hc _ _ (by rw [actCells_at l k hk2 j hj]; exact hv)
  refine ⟨ad, e, by rw [Mem.add_block]; exact hb, hk2, g 0 (by omega) _ rfl, ?_, ?_, ?_, ?_, ?_, ?_, ?_, ?_⟩
  · rw [← Mem.add_field ad (k * 9) 1 (by omega)]; exact g 1 (by omega) _ rfl
  · rw [← Mem.add_field ad (k * 9) 2 (by omega)]; exact g 2 (by omega) _ rfl
  · rw [← Mem.add_field ad (k * 9) 3 (by omega)]; exact g 3 (by omega) _ rfl
  · rw [← Mem.add_field ad (k * 9) 4 (by omega)]; exact g 4 (by omega) _ rfl
  · rw [← Mem.add_field ad (k * 9) 5 (by omega)]; exact g 5 (by omega) _ rfl
  · rw [← Mem.add_field ad (k * 9) 6 (by omega)]; exact g 6 (by omega) _ rfl
  · rw [← Mem.add_field ad (k * 9) 7 (by omega)]; exact g 7 (by omega) _ rfl
  · rw [← Mem.add_field ad (k * 9) 8 (by omega)]; exact g 8 (by omega) _ rfl

set_option maxHeartbeats 1000000 in
theorem may1_any (x a : ActD) (b : Nat) (w : World) (h : ActAt w ⟨b, 0, none⟩ a) (hb : b < w.heap.size) :
    Calls Try.prog 28 #[actV x, .pointer (some ⟨b, 0, none⟩)] w fun e w' => e = .returned (.bool (ofB x a.unit a.part a.num a.att)) ∧ Below w.heap.size w w' := by
  have hof := fun w => wof_any x a.unit a.part a.num a.att w
  obtain ⟨un, pa, nu, at_, la, co, re, di, sA, sn, sc, sy⟩ := x
  obtain ⟨h0, h1, h2, h3, h4, h5, h6, h7, h8⟩ := h.below ((Below.refl w.heap.size w).alloc (Nat.le_refl _) (.cells #[.string un, .int .i64 pa, .int .i64 nu, .int .i64 at_, .int .i64 la, .int .i64 co, .int .i64 re, .int .i64 di, .slice sA sn sc] 38)) hb
  simp only [Nat.zero_add] at h1 h2 h3
  show Calls Try.prog 28 #[.agg #[.string un, .int .i64 pa, .int .i64 nu, .int .i64 at_, .int .i64 la, .int .i64 co, .int .i64 re, .int .i64 di, .slice sA sn sc], .pointer (some ⟨b, 0, none⟩)] w _
  have HOF := Lib.hid hof
  clear hof h4 h5 h6 h7 h8
  generalize hr : ofB ⟨un, pa, nu, at_, la, co, re, di, sA, sn, sc, sy⟩ a.unit a.part a.num a.att = r at *
  go_enter Try.func28, Try.ntmps28
  go_wp2_with fail
  refine (HOF.out _).mono ?_
  rintro e w' ⟨rfl, hb2⟩
  have hb3 := ((Below.refl w.heap.size w).alloc (Nat.le_refl _) (.cells #[.string un, .int .i64 pa, .int .i64 nu, .int .i64 at_, .int .i64 la, .int .i64 co, .int .i64 re, .int .i64 di, .slice sA sn sc] 38)).trans (hb2.mono (by simp))
  go_wp2
  go_ret
  exact ⟨rfl, hb3⟩

/-- is there one such among them? -/
def anyOf (l : List ActD) (a : ActD) : Bool := l.any fun x => ofB x a.unit a.part a.num a.att
theorem anyOf_take (l : List ActD) (a : ActD) (k : Nat) (h : k < l.length) : anyOf (l.take (k + 1)) a = (anyOf (l.take k) a || ofB l[k] a.unit a.part a.num a.att) := by
  unfold anyOf
  rw [List.take_succ_eq_append_getElem h]; simp only [List.any_append, List.any_cons, List.any_nil, Bool.or_false]

set_option maxHeartbeats 2000000 in
theorem idx_any (A : Option Addr) (n c B : Nat) (l : List ActD) (a : ActD) (b : Nat) (w : World) (h : Rd w B 9 A n (actCells l)) (hB : B ≤ w.heap.size) (ha : ActAt w ⟨b, 0, none⟩ a) (hb : b < w.heap.size) (hn : n ≤ 140737488355328) :
    Calls Try.prog 43 #[.slice A n c, .func (.func 28) #[] #[.pointer (some ⟨b, 0, none⟩)]] w fun e w' => ∃ r : Int, e = .returned (.int .i64 r) ∧ decide (0 ≤ r) = anyOf l a ∧ Below w.heap.size w w' := by
  have hl : l.length = n := by have h1 := h.1; rw [actCells_len] at h1; omega
  have HL := Lib.hid hl
  clear hl
  go_enter Try.func43, Try.ntmps43
  go_wp2_with fail
  go_loopw [8] (fun iv wr => ∃ k : Nat, k ≤ n ∧ iv = .int .i64 k ∧ Below w.heap.size w wr ∧ Hid (anyOf (l.take k) a = false)) (fun iv _ => n - (intOf iv).toNat)
  case atStart => exact ⟨0, Nat.zero_le _, rfl, Below.refl _ _, Lib.hid rfl⟩
  case round =>
    obtain ⟨k, hk, rfl, hbl, HK⟩ := hrel
    by_cases hlt : k < n
    · obtain ⟨ad, rfl, hadB, hkl, h0, h1, h2, h3, h4, h5, h6, h7, h8⟩ := acts_here (h.below (hbl.mono hB)) k hlt
      have HT := Lib.hid (anyOf_take l a k hkl)
      have hm := fun w => may1_any l[k] a b w
      generalize hx : l[k] = x at *
      obtain ⟨un, pa, nu, at_, la, co, re, di, sA, sn, sc, sy⟩ := x
      dsimp only at h0 h1 h2 h3 h4 h5 h6 h7 h8
      have HM := Lib.hid hm
      clear hx hm
      have x1 : (0 : Int) ≤ (k : Int) := by omega
      have x2 : (k : Int) < (n : Int) := by omega
      go_wp2_with fail
      refine (HM.out _ (ha.below hbl hb) (Nat.lt_of_lt_of_le hb hbl.size)).mono ?_
      rintro e w2 ⟨rfl, hb2⟩
      have hb3 := hbl.trans (hb2.mono hbl.size)
      cases hof : ofB ⟨un, pa, nu, at_, la, co, re, di, sA, sn, sc, sy⟩ a.unit a.part a.num a.att with
      | true =>
        have HN : Hid (anyOf l a = true) := Lib.hid (by
          have h9 : anyOf (l.take (k + 1)) a = true := by rw [HT.out, hof, Bool.or_true]
          unfold anyOf at h9 ⊢
          rw [List.any_eq_true] at h9 ⊢
          obtain ⟨y, hy, hy2⟩ := h9
          exact ⟨y, List.mem_of_mem_take hy, hy2⟩)
        clear hof
        go_wp2
        go_ret
        exact ⟨k, rfl, by rw [HN.out]; simp, hb3⟩
      | false =>
        have HN : Hid (anyOf (l.take (k + 1)) a = false) := Lib.hid (by rw [HT.out, HK.out, hof]; rfl)
        clear hof
        go_wp2
        go_roundw
        case rel => exact ⟨k + 1, by omega, by go_num, hb3, HN⟩
        case measure => first | (simp [intOf]; done) | (simp [intOf]; omega)
    · have HN : Hid (anyOf l a = false) := Lib.hid (by have := HK.out; rw [List.take_of_length_le (by rw [HL.out]; omega)] at this; exact this)
      have x1 : ¬ (k : Int) < (n : Int) := by omega
      go_wp2
      go_ret
      exact ⟨-1, rfl, by rw [HN.out]; simp, hbl⟩

theorem cont_any (A : Option Addr) (n c B : Nat) (l : List ActD) (a : ActD) (b : Nat) (w : World) (h : Rd w B 9 A n (actCells l)) (hB : B ≤ w.heap.size) (ha : ActAt w ⟨b, 0, none⟩ a) (hb : b < w.heap.size) (hn : n ≤ 140737488355328) :
    Calls Try.prog 27 #[.slice A n c, .func (.func 28) #[] #[.pointer (some ⟨b, 0, none⟩)]] w fun e w' => e = .returned (.bool (anyOf l a)) ∧ Below w.heap.size w w' := by
  go_enter Try.func27, Try.ntmps27
  go_wp2_with fail
  refine (idx_any A n c B l a b w h hB ha hb hn).mono ?_
  rintro e w2 ⟨r, rfl, hr, hb2⟩
  have HR := Lib.hid hr
  clear hr
  go_wp2
  go_ret
  exact ⟨ret_bool HR.out, hb2⟩

end Go.Proofs.Ytkfeicgeobhccaa
