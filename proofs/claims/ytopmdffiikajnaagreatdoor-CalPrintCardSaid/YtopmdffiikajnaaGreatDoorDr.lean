/-
  One behind the other: the law's walk.
-/
import Derived.Test.YtopmdffiikajnaaGreatDoorDo
namespace Go.Proofs.YtopmdffiikajnaaGreatDoor
open Go.RowKit Go.Shelf

theorem next_true {c : Sp.CalD} {a v : Int} (h : Sp.NextIs c a v true) : a < v ∧ 0 ≤ v ∧ v < 6311433600 := by
  rcases h with ⟨_, h1, h2, _⟩ | ⟨h, _⟩
  · exact ⟨h1, Sp.match_time h2⟩
  · cases h
set_option maxRecDepth 100000 in
set_option maxHeartbeats 16000000 in
theorem calrow_any (s : CalS) (after back : Int) (w : World) (h : CalGood w s) (ha1 : -9223372036854775808 ≤ after) (ha2 : after ≤ 9223372036854775807) (hb1 : -9223372036854775808 ≤ back) (hb2 : back ≤ 9223372036854775807) (E : Env w) :
    Calls Tryz.prog 8 #[calV s, .int .i64 after, .int .i64 back] w fun e w' => e = .returned (.bool true) ∧ Below w.heap.size w w' := by
  obtain ⟨⟨dA, dn, dc⟩, ⟨A0, n0, c0⟩, ⟨A1, n1, c1⟩, ⟨A2, n2, c2⟩, ⟨A3, n3, c3⟩, ⟨A4, n4, c4⟩, ⟨A5, n5, c5⟩, cal⟩ := s
  have hA : Below w.heap.size w (w.alloc (.cells #[.slice dA dn dc, .slice A0 n0 c0, .slice A1 n1 c1, .slice A2 n2 c2, .slice A3 n3 c3, .slice A4 n4 c4, .slice A5 n5 c5] 26)) := (Below.refl _ w).alloc (Nat.le_refl _) _
  have hcb := CBox.new w ⟨⟨dA, dn, dc⟩, ⟨A0, n0, c0⟩, ⟨A1, n1, c1⟩, ⟨A2, n2, c2⟩, ⟨A3, n3, c3⟩, ⟨A4, n4, c4⟩, ⟨A5, n5, c5⟩, cal⟩
  have hlt : w.heap.size < (w.alloc (.cells #[.slice dA dn dc, .slice A0 n0 c0, .slice A1 n1 c1, .slice A2 n2 c2, .slice A3 n3 c3, .slice A4 n4 c4, .slice A5 n5 c5] 26)).heap.size := by simp
  have HSH := Lib.hid (shown_any _ (E.on hA))
  have HG := Lib.hid h
  simp only [calV, slV] at hcb HSH ⊢
  clear h E
  go_enter Tryz.func8, Tryz.ntmps8
  go_wp2_with fail
  refine HSH.out.mono ?_
  rintro e w1 ⟨rfl, hb1'⟩
  have HC1 : Hid (CBox w1 w.heap.size ⟨⟨dA, dn, dc⟩, ⟨A0, n0, c0⟩, ⟨A1, n1, c1⟩, ⟨A2, n2, c2⟩, ⟨A3, n3, c3⟩, ⟨A4, n4, c4⟩, ⟨A5, n5, c5⟩, cal⟩) := Lib.hid (CBox.on hcb hb1' hlt)
  have HW1 := Lib.hid (hA.trans (hb1'.mono hA.size))
  have hl1 : w.heap.size < w1.heap.size := Nat.lt_of_lt_of_le hlt hb1'.size
  have HNX : Hid (∀ (z : Int) (W : World), -9223372036854775808 ≤ z → Below w1.heap.size w1 W → Calls Tryz.prog 23 #[.agg #[.slice dA dn dc, .slice A0 n0 c0, .slice A1 n1 c1, .slice A2 n2 c2, .slice A3 n3 c3, .slice A4 n4 c4, .slice A5 n5 c5], .int .i64 z] W fun e w' => (∃ v ok, e = .returned (.tuple #[.int .i64 v, .bool ok]) ∧ Sp.NextIs cal z v ok) ∧ Below W.heap.size W w') := Lib.hid (fun z W hz hW => next_any ⟨⟨dA, dn, dc⟩, ⟨A0, n0, c0⟩, ⟨A1, n1, c1⟩, ⟨A2, n2, c2⟩, ⟨A3, n3, c3⟩, ⟨A4, n4, c4⟩, ⟨A5, n5, c5⟩, cal⟩ z W (HG.out.on (HW1.out.trans (hW.mono HW1.out.size))) hz)
  clear hA hcb hlt HSH hb1'
  go_wp2_with fail
  go_loopw [8, 7] (fun iv zv wr => ∃ (k : Nat) (z : Int), k ≤ 5 ∧ iv = .int .i64 k ∧ zv = .int .i64 z ∧ (-9223372036854775808 ≤ z ∧ z ≤ 9223372036854775807) ∧ Hid (Below w1.heap.size w1 wr)) (fun iv _ _ => 5 - (intOf iv).toNat)
  case atStart => exact ⟨0, after, by decide, rfl, rfl, ⟨ha1, ha2⟩, Lib.hid (Below.refl _ _)⟩
  case round =>
    obtain ⟨k, z, hk, rfl, rfl, hz, HB⟩ := hrel
    by_cases hlt : k < 5
    · have hx2 : (k : Int) < 5 := by omega
      have v1 : IntKind.i64.wrap ((k : Int) + 1) = ((k + 1 : Nat) : Int) := by rw [IntKind.wrap_i64]; omega
      obtain ⟨k0, k1, k2, k3, k4, k5, k6⟩ := HC1.out.on HB.out hl1
      simp only [slV] at k0 k1 k2 k3 k4 k5 k6
      go_wp2_with fail
      refine (HNX.out z wr hz.1 HB.out).mono ?_
      rintro e w2 ⟨⟨v, ok, rfl, hnx⟩, hb2'⟩
      have HB2 := Lib.hid (HB.out.trans (hb2'.mono HB.out.size))
      clear hb2' k0 k1 k2 k3 k4 k5 k6
      cases ok with
      | false =>
        have HF := Lib.hid (HW1.out.trans (HB2.out.mono HW1.out.size))
        clear hnx
        go_wp2
        go_ret
        exact ⟨rfl, HF.out⟩
      | true =>
        obtain ⟨g1, g2, g3⟩ := next_true hnx
        have HNXT := Lib.hid hnx
        have ht : ¬ v ≤ z := by omega
        clear hnx
        by_cases h1 : 0 < back
        · by_cases h2 : 0 ≤ z
          · have v2 : IntKind.i64.wrap (v - z) = v - z := by rw [IntKind.wrap_i64]; omega
            by_cases h3 : back ≤ v - z
            · have v3 : IntKind.i64.wrap (v - back) = v - back := by rw [IntKind.wrap_i64]; omega
              obtain ⟨k0, k1, k2, k3, k4, k5, k6⟩ := HC1.out.on HB2.out hl1
              simp only [slV] at k0 k1 k2 k3 k4 k5 k6
              have HLT := Lib.hid (HNXT.out.later (x := v - back) (by omega) (by omega))
              have hvb : -9223372036854775808 ≤ v - back := by omega
              go_wp2_with fail
              refine (HNX.out (v - back) w2 hvb HB2.out).mono ?_
              rintro e w3 ⟨⟨v', ok', rfl, hnx2⟩, hb3⟩
              obtain ⟨rfl, rfl⟩ := Sp.NextIs.unique hnx2 HLT.out
              have HB3 := Lib.hid (HB2.out.trans (hb3.mono HB2.out.size))
              clear hnx2 hb3 k0 k1 k2 k3 k4 k5 k6
              go_wp2
              go_roundw
              case rel => exact ⟨k + 1, _, by omega, rfl, rfl, ⟨by omega, by omega⟩, HB3⟩
              case measure => simp [intOf]; omega
            · go_wp2
              go_roundw
              case rel => exact ⟨k + 1, v, by omega, rfl, rfl, ⟨by omega, by omega⟩, HB2⟩
              case measure => simp [intOf]; omega
          · go_wp2
            go_roundw
            case rel => exact ⟨k + 1, v, by omega, rfl, rfl, ⟨by omega, by omega⟩, HB2⟩
            case measure => simp [intOf]; omega
        · go_wp2
          go_roundw
          case rel => exact ⟨k + 1, v, by omega, rfl, rfl, ⟨by omega, by omega⟩, HB2⟩
          case measure => simp [intOf]; omega
    · obtain rfl : k = 5 := by omega
      have HF := Lib.hid (HW1.out.trans (HB.out.mono HW1.out.size))
      go_wp2
      go_ret
      exact ⟨rfl, HF.out⟩

end Go.Proofs.YtopmdffiikajnaaGreatDoor
