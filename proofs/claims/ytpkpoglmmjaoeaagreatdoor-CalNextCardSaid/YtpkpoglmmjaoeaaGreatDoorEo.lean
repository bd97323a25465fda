/-
  What comes next, told twice: the law's walk.
-/
import Derived.Test.YtpkpoglmmjaoeaaGreatDoorEn
import Derived.Test.YtpkpoglmmjaoeaaGreatDoorDo
namespace Go.Proofs.YtpkpoglmmjaoeaaGreatDoor
open Go.RowKit Go.Shelf
set_option maxRecDepth 100000 in
set_option maxHeartbeats 16000000 in
theorem calnext_any (s : CalS) (after : Int) (w : World) (h : CalGood w s) (ha1 : -9223372036854775808 ≤ after) (ha2 : after ≤ 9223372036854775807) (E : Env w) :
    Calls Tryz.prog 3 #[calV s, .int .i64 after] w fun e w' => e = .returned (.bool true) ∧ Below w.heap.size w w' := by
  have HG := Lib.hid h
  have HNX : Hid (∀ W : World, Below w.heap.size w W → Calls Tryz.prog 5 #[calV s, .int .i64 after] W fun e w' => (∃ v ok, e = .returned (.tuple #[.int .i64 v, .bool ok]) ∧ Sp.NextIs s.cal after v ok) ∧ Below W.heap.size W w') := Lib.hid (fun W hW => next_any s after W (HG.out.on hW) ha1)
  have HRX : Hid (∀ W : World, Below w.heap.size w W → Calls Tryz.prog 6 #[calV s, .int .i64 after] W fun e w' => (∃ v ok, e = .returned (.tuple #[.int .i64 v, .bool ok]) ∧ Sp.NextIs s.cal after v ok) ∧ Below W.heap.size W w') := Lib.hid (fun W hW => rnext_any s after W (HG.out.on hW) ⟨ha1, ha2⟩)
  obtain ⟨⟨dA, dn, dc⟩, ⟨A0, n0, c0⟩, ⟨A1, n1, c1⟩, ⟨A2, n2, c2⟩, ⟨A3, n3, c3⟩, ⟨A4, n4, c4⟩, ⟨A5, n5, c5⟩, cal⟩ := s
  have hA : Below w.heap.size w (w.alloc (.cells #[.slice dA dn dc, .slice A0 n0 c0, .slice A1 n1 c1, .slice A2 n2 c2, .slice A3 n3 c3, .slice A4 n4 c4, .slice A5 n5 c5] 25)) := (Below.refl _ w).alloc (Nat.le_refl _) _
  have hcb := CBox.new w ⟨⟨dA, dn, dc⟩, ⟨A0, n0, c0⟩, ⟨A1, n1, c1⟩, ⟨A2, n2, c2⟩, ⟨A3, n3, c3⟩, ⟨A4, n4, c4⟩, ⟨A5, n5, c5⟩, cal⟩
  have hlt : w.heap.size < (w.alloc (.cells #[.slice dA dn dc, .slice A0 n0 c0, .slice A1 n1 c1, .slice A2 n2 c2, .slice A3 n3 c3, .slice A4 n4 c4, .slice A5 n5 c5] 25)).heap.size := by simp
  have HSH := Lib.hid (shown_any _ (E.on hA))
  simp only [calV, slV] at hcb HSH HNX HRX ⊢
  clear h E HG
  go_enter Tryz.func3, Tryz.ntmps3
  go_wp2_with fail
  refine HSH.out.mono ?_
  rintro e w1 ⟨rfl, hb1'⟩
  have HC1 : Hid (CBox w1 w.heap.size ⟨⟨dA, dn, dc⟩, ⟨A0, n0, c0⟩, ⟨A1, n1, c1⟩, ⟨A2, n2, c2⟩, ⟨A3, n3, c3⟩, ⟨A4, n4, c4⟩, ⟨A5, n5, c5⟩, cal⟩) := Lib.hid (CBox.on hcb hb1' hlt)
  have HW1 := Lib.hid (hA.trans (hb1'.mono hA.size))
  have hl1 : w.heap.size < w1.heap.size := Nat.lt_of_lt_of_le hlt hb1'.size
  clear hA hcb hlt HSH hb1'
  obtain ⟨k0, k1, k2, k3, k4, k5, k6⟩ := HC1.out
  simp only [slV] at k0 k1 k2 k3 k4 k5 k6
  go_wp2_with fail
  refine (HNX.out w1 HW1.out).mono ?_
  rintro e w2 ⟨⟨v, ok, rfl, hnx⟩, hb2⟩
  have HN := Lib.hid hnx
  have HC2 := Lib.hid (CBox.on HC1.out hb2 hl1)
  have HW2 := Lib.hid (HW1.out.trans (hb2.mono HW1.out.size))
  have hl2 : w.heap.size < w2.heap.size := Nat.lt_of_lt_of_le hl1 hb2.size
  clear hb2 k0 k1 k2 k3 k4 k5 k6 hnx HC1 HNX
  obtain ⟨k0, k1, k2, k3, k4, k5, k6⟩ := HC2.out
  simp only [slV] at k0 k1 k2 k3 k4 k5 k6
  go_wp2_with fail
  refine (HRX.out w2 HW2.out).mono ?_
  rintro e w3 ⟨⟨v', ok', rfl, hnx⟩, hb3⟩
  obtain ⟨rfl, rfl⟩ := Sp.NextIs.unique HN.out hnx
  have HW3 := Lib.hid (HW2.out.trans (hb3.mono HW2.out.size))
  clear hb3 k0 k1 k2 k3 k4 k5 k6 hnx HC2 HRX HN
  have hvv : (v == v) = true := by simp
  cases ok with
  | true =>
    go_wp2
    go_ret
    exact ⟨rfl, HW3.out⟩
  | false =>
    go_wp2
    go_ret
    exact ⟨rfl, HW3.out⟩

end Go.Proofs.YtpkpoglmmjaoeaaGreatDoor
