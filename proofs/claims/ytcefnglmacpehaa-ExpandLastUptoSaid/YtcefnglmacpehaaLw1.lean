/-
  The walks of the laws that the code and the document agree on what stands for something.
-/
import Derived.Test.YtcefnglmacpehaaSh
import Derived.Test.YtcefnglmacpehaaEx4
import Derived.Test.YtcefnglmacpehaaEx12
import Derived.Test.YtcefnglmacpehaaOp
namespace Go.Proofs.Ytcefnglmacpehaa
open Go.RowKit

theorem expandSpec_u (s u : ByteArray) (w : World) (hs : s.size ≤ 1048576) (hu : u.size ≤ 1048576) :
    Calls Try.prog 3 #[.string s, .string u] w fun e w' => e = .returned (.bool true) ∧ Below w.heap.size w w' := by
  go_enter Try.func3, Try.ntmps3
  go_wp2_with fail
  refine (shown_any _).mono ?_
  rintro e w1 ⟨rfl, hb1⟩
  go_wp2_with fail
  refine (spec_any s u _ (by omega) (by omega)).mono ?_
  rintro e w2 ⟨rfl, hb2⟩
  go_wp2_with fail
  refine (rspec_any s u _ (by omega)).mono ?_
  rintro e w3 ⟨rfl, hb3⟩
  have hb := (hb1.trans (hb2.mono hb1.size)).trans (hb3.mono (Nat.le_trans hb1.size hb2.size))
  clear hb1 hb2 hb3
  generalize Sp.specL s.data.toList u.data.toList = r
  obtain ⟨r1, r2⟩ := r
  have x1 : (r1 == r1) = true := by simp
  have x2 : (r2 == r2) = true := by simp
  go_wp2
  go_ret
  exact ⟨rfl, hb⟩

theorem expandVars_u (A : Option Addr) (n c : Nat) (ls : List ByteArray) (A2 : Option Addr) (n2 c2 : Nat) (env : List (ByteArray × ByteArray)) (w : World) (h : Rd w w.heap.size 1 A n (strCells ls)) (hn : n ≤ 1048576) (hwz : ∀ b ∈ ls, b.size ≤ 1048576)
    (h2 : Rd w w.heap.size 2 A2 n2 (pairCells env)) (hn2 : n2 ≤ 1048576) (hv : ∀ p ∈ env, p.2.size ≤ 1048576) :
    Calls Try.prog 4 #[.slice A n c, .slice A2 n2 c2] w fun e w' => e = .returned (.bool true) ∧ Below w.heap.size w w' := by
  have hw2 : ∀ b ∈ ls, b.size ≤ 2097152 := fun b hb => Nat.le_trans (hwz b hb) (by omega)
  have hv2 : ∀ p ∈ env, p.2.size ≤ 2097152 := fun b hb => Nat.le_trans (hv b hb) (by omega)
  go_enter Try.func4, Try.ntmps4
  go_wp2_with fail
  refine (shown_any _).mono ?_
  rintro e w1 ⟨rfl, hb1⟩
  go_wp2_with fail
  refine (vars_row A A2 n c n2 c2 w.heap.size ls env w1 (h.below hb1) (h2.below hb1) hb1.size (by omega) (by omega) hw2 hv2).mono ?_
  rintro e w2 ⟨A3, c3, l3, rfl, hl3, hr3, hb2, hq3⟩
  have hbb := hb1.trans (hb2.mono hb1.size)
  go_wp2_with fail
  refine (rvars_row A A2 n c n2 c2 w.heap.size ls env w2 (h.below hbb) (h2.below hbb) hbb.size (by omega) (by omega) hw2 hv2).mono ?_
  rintro e w4 ⟨A4, c4, l4, rfl, hl4, hr4, hb4, hq4⟩
  have hb := hbb.trans (hb4.mono hbb.size)
  have hs : sameB l3 l4 = true := by unfold sameB; rw [hl3, hl4]; simp
  have hl : l3.length ≤ 2199023255552 := by omega
  have hl' : l4.length ≤ 2199023255552 := by omega
  clear hb1 hb2 hbb hq3 hq4 hl3 hl4
  go_wp2_with fail
  refine (rsame_any A3 A4 l3.length l4.length c3 c4 w4.heap.size l3 l4 w4 ((hr3.below hb4).more hb4.size) hr4 (by omega) (by omega)).mono ?_
  rintro e w5 ⟨rfl, k, rfl⟩
  rw [hs]
  go_wp2
  go_ret
  exact ⟨rfl, belowQ hb _⟩

end Go.Proofs.Ytcefnglmacpehaa
