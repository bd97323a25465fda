/-
  The walk of NameAll.
-/
import Derived.Test.YtgflmoejdhfecaaNm12
import Derived.Test.YtgflmoejdhfecaaSp3
namespace Go.Proofs.Ytgflmoejdhfecaa
open Go.RowKit

/-- a text's kind and parts, as values -/
structure Pieces (l : List UInt8) (k : Int) (p i : ByteArray) (a : Bool) : Prop where
  kind : Sp.kindL l = k
  parts : Sp.partsL l = (p.data.toList, i.data.toList, a)
  np : p.size ≤ 60
  ni : i.size ≤ 60

theorem pieces_ex (l : List UInt8) : ∃ (k : Int) (p i : ByteArray) (a : Bool), Pieces l k p i a :=
  ⟨Sp.kindL l, ⟨(Sp.partsL l).1.toArray⟩, ⟨(Sp.partsL l).2.1.toArray⟩, (Sp.partsL l).2.2, rfl, rfl, (Sp.partsL_len60 l).1, (Sp.partsL_len60 l).2⟩

theorem of_p (s : ByteArray) (w : World) (k : Int) (p i : ByteArray) (a : Bool) (h : Pieces s.data.toList k p i a) :
    Calls Try.prog 10 #[.string s] w fun e w' => e = .returned (.agg #[.int .i64 k, .string p, .string i, .bool a]) ∧ Below w.heap.size w w' :=
  of_as s w k p i a (Lib.hid (by rw [Sp.ofL_eq, h.kind, h.parts]))

theorem parts_p (s : ByteArray) (w : World) (hs : s.size ≤ 281474976710656) (k : Int) (p i : ByteArray) (a : Bool) (h : Pieces s.data.toList k p i a) :
    Calls Try.prog 11 #[.string s] w fun e w' => e = .returned (.tuple #[.string p, .string i, .bool a]) ∧ Below w.heap.size w w' := by
  refine (parts_any s w hs).mono fun e w' ⟨h1, h2⟩ => ⟨?_, h2⟩
  rw [h1, h.parts]

theorem may_p (s : ByteArray) (w : World) (hs : s.size ≤ 281474976710656) (k : Int) (p i : ByteArray) (a : Bool) (h : Pieces s.data.toList k p i a) :
    Calls Try.prog 12 #[.string s] w fun e w' => e = .returned (.bool (decide (0 < k))) ∧ Below w.heap.size w w' := by
  refine (may_any s w hs).mono fun e w' ⟨h1, h2⟩ => ⟨?_, h2⟩
  rw [h1, Sp.may_iff, Sp.ofL_eq, h.kind]

theorem kind_p (s : ByteArray) (w : World) (hs : s.size ≤ 281474976710656) (k : Int) (p i : ByteArray) (a : Bool) (h : Pieces s.data.toList k p i a) :
    Calls Try.prog 13 #[.string s] w fun e w' => e = .returned (.int .i64 k) ∧ Below w.heap.size w w' := by
  refine (kind_any s w hs).mono fun e w' ⟨h1, h2⟩ => ⟨?_, h2⟩
  rw [h1, h.kind]

theorem rtemplate_p (s : ByteArray) (w : World) :
    Calls Try.prog 15 #[.string s] w fun e w' => e = .returned (.string ⟨(Sp.templateL s.data.toList).toArray⟩) ∧ Below w.heap.size w w' := by
  refine (rtemplate_any s w).mono fun e w' ⟨h1, h2⟩ => ⟨?_, h2⟩
  rw [h1, Sp.template_eq]

set_option maxHeartbeats 2000000 in
set_option maxRecDepth 100000 in
theorem nameAll_any (s : ByteArray) (w : World) (hs : s.size ≤ 281474976710656) :
    Calls Try.prog 3 #[.string s] w fun e w' => e = .returned (.bool true) ∧ Below w.heap.size w w' := by
  obtain ⟨k, p, i, a, HP⟩ := pieces_ex s.data.toList
  generalize ht : Sp.templateL s.data.toList = t
  have HT := Lib.hid ht
  clear ht
  go_enter Try.func3, Try.ntmps3
  go_wp2_with fail
  refine (shown_any _).mono ?_
  rintro e w1 ⟨rfl, hb⟩
  go_wp2_with fail
  refine (of_p _ _ k p i a HP).mono ?_
  rintro e w2 ⟨rfl, hb2⟩
  have hb3 := hb.trans (hb2.mono hb.size)
  clear hb hb2
  go_wp2_with fail
  refine (parts_p _ _ hs k p i a HP).mono ?_
  rintro e w3 ⟨rfl, hb4⟩
  have hw := hb3.size
  have q0 : Below w.heap.size w w3.drew ∧ w2.heap.size < w3.drew.heap.size ∧ w.heap.size ≤ w3.drew.heap.size ∧ w3.drew.cell? ⟨w2.heap.size, 0, none⟩ = some (.int .i64 k) ∧ w3.drew.cell? ⟨w2.heap.size, 1, none⟩ = some (.string p) ∧ w3.drew.cell? ⟨w2.heap.size, 2, none⟩ = some (.string i) ∧ w3.drew.cell? ⟨w2.heap.size, 3, none⟩ = some (.bool a) := by
    refine held_after ⟨hb3.alloc hw (.cells #[.int .i64 k, .string p, .string i, .bool a] 24), by simp, by simp; omega, ?_, ?_, ?_, ?_⟩ (hb4.mono (Nat.le_refl _)).drew <;> go_simp
  clear hb4 hb3 hw
  go_wp2_with fail
  go_region_held3 (fun W => Below w.heap.size w W ∧ w2.heap.size < W.heap.size ∧ w.heap.size ≤ W.heap.size ∧ W.cell? ⟨w2.heap.size, 0, none⟩ = some (.int .i64 k) ∧ W.cell? ⟨w2.heap.size, 1, none⟩ = some (.string p) ∧ W.cell? ⟨w2.heap.size, 2, none⟩ = some (.string i) ∧ W.cell? ⟨w2.heap.size, 3, none⟩ = some (.bool a)) (assumption)
    (first
      | (go_at_call 12; refine (may_p _ _ hs k p i a HP).mono ?_; rintro e w4 ⟨rfl, hb6⟩; have q1 := held_after ‹_› hb6)
      | (go_at_call 13; refine (kind_p _ _ hs k p i a HP).mono ?_; rintro e w4 ⟨rfl, hb6⟩; have q1 := held_after ‹_› hb6)
      | (go_at_call 14; refine (template_any _ _ hs).mono ?_; rintro e w4 ⟨rfl, hb6⟩; rw [HT.out]; have q1 := held_after ‹_› hb6)
      | (go_at_call 15; refine (rtemplate_p _ _).mono ?_; rintro e w4 ⟨rfl, hb6⟩; rw [HT.out]; have q1 := held_after ‹_› hb6))
  all_goals
    go_wp2
    go_ret
    exact ⟨rfl, held_below ‹_›⟩
theorem nameAll_r (s : ByteArray) (w : World) (hs : s.size ≤ 140737488351232) :
    Calls Try.prog 3 #[.string s] w fun e w' => e = .returned (.bool true) ∧ Below w.heap.size w w' := nameAll_any s w (by omega)
end Go.Proofs.Ytgflmoejdhfecaa
