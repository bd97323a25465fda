/-
  What comes next is the least: the law's walk.
-/
import Derived.Test.YtopmdffiikajnaaGreatDoorDr
import Derived.Test.YtopmdffiikajnaaGreatDoorDp
namespace Go.Proofs.YtopmdffiikajnaaGreatDoor
open Go.RowKit Go.Shelf

/-- a list of ints that comes in by value -/
structure IntsS where
  A : Option Addr
  n : Nat
  c : Nat
  l : List Int
def intsV (s : IntsS) : Value := .slice s.A s.n s.c
structure IntsGood (w : World) (s : IntsS) : Prop where
  rd : Rd w w.heap.size 1 s.A s.n (intsC s.l)
  bd : s.n ≤ 9223372036854775807
open Go.ChangeShapes Go.WideShapes Go.Deep Go.Joins in
set_option maxRecDepth 100000 in
theorem ints_raw2 {H : Type} {enc : TypeId × Value → H} {w : World} {base : Nat} {held : Bool} {r : Reach} {b0 : Nat} {v : Value} {d : DataW H} {p : List MemPlace} (hok : Value.okWide Tryz.prog w r b0 23 v)
    (h : DataW.Trod enc Tryz.prog w base (fun _ => true) held 23 v d p) (hp : ∀ x ∈ p, x.block < w.heap.size) (hw : ∀ m ∈ d.weights Tryz.prog 23, m ≤ reachBytes) : ∃ D : IntsS, v = intsV D ∧ IntsGood w D := by
  obtain ⟨a0, len0, cap0, rfl⟩ := okWide_slice Tryz.underlying23 hok
  obtain ⟨fuel, h⟩ := h
  have h' : DataW.trod enc Tryz.prog w base (fun _ => true) held fuel 23 [.slice a0 len0 cap0] = some (d, p) := by simpa [Value.cells] using h
  obtain ⟨A, n, c, l, h1, h2, h3, h4⟩ := ints_raw h' hp hw
  have hr := reach_le
  exact ⟨⟨A, n, c, l⟩, h1, h2, by dsimp only; omega⟩
theorem next_between {c : Sp.CalD} {a v : Int} (h : Sp.NextIs c a v true) (x : Int) (h1 : a < x) (h2 : x < v) : Sp.matchB c x = false := by
  rcases h with ⟨_, _, _, h3⟩ | ⟨h, _⟩
  · exact h3 x h1 h2
  · cases h
theorem next_nothing {c : Sp.CalD} {a v : Int} (h : Sp.NextIs c a v false) (x : Int) (h1 : a < x) : Sp.matchB c x = false := by
  rcases h with ⟨h, _⟩ | ⟨_, _, h3⟩
  · cases h
  · exact h3 x h1
theorem next_has {c : Sp.CalD} {a v : Int} (h : Sp.NextIs c a v true) : Sp.matchB c v = true := by
  rcases h with ⟨_, _, h2, _⟩ | ⟨h, _⟩
  · exact h2
  · cases h
set_option maxRecDepth 100000 in
set_option maxHeartbeats 16000000 in
theorem calleast_any (s : CalS) (after : Int) (D : IntsS) (w : World) (h : CalGood w s) (ha1 : -9223372036854775808 ≤ after) (ha2 : after ≤ 9223372036854775807) (g : IntsGood w D) (E : Env w) :
    Calls Tryz.prog 7 #[calV s, .int .i64 after, intsV D] w fun e w' => e = .returned (.bool true) ∧ Below w.heap.size w w' := by
  obtain ⟨A, n, c, l⟩ := D
  obtain ⟨hrd, hbd⟩ := g
  dsimp only at hrd hbd
  have HL : Hid (l.length = n) := Lib.hid (by have := hrd.1; rw [intsC_len] at this; omega)
  have HROW := Lib.hid (fun k hk => Rd.intAt hrd k hk)
  clear hrd
  simp only [intsV]
  obtain ⟨⟨dA, dn, dc⟩, ⟨A0, n0, c0⟩, ⟨A1, n1, c1⟩, ⟨A2, n2, c2⟩, ⟨A3, n3, c3⟩, ⟨A4, n4, c4⟩, ⟨A5, n5, c5⟩, cal⟩ := s
  have hA : Below w.heap.size w (w.alloc (.cells #[.slice dA dn dc, .slice A0 n0 c0, .slice A1 n1 c1, .slice A2 n2 c2, .slice A3 n3 c3, .slice A4 n4 c4, .slice A5 n5 c5] 26)) := (Below.refl _ w).alloc (Nat.le_refl _) _
  have hcb := CBox.new w ⟨⟨dA, dn, dc⟩, ⟨A0, n0, c0⟩, ⟨A1, n1, c1⟩, ⟨A2, n2, c2⟩, ⟨A3, n3, c3⟩, ⟨A4, n4, c4⟩, ⟨A5, n5, c5⟩, cal⟩
  have hlt : w.heap.size < (w.alloc (.cells #[.slice dA dn dc, .slice A0 n0 c0, .slice A1 n1 c1, .slice A2 n2 c2, .slice A3 n3 c3, .slice A4 n4 c4, .slice A5 n5 c5] 26)).heap.size := by simp
  have HSH := Lib.hid (shown_any _ (E.on hA))
  have HG := Lib.hid h
  simp only [calV, slV] at hcb HSH ⊢
  clear h E
  go_enter Tryz.func7, Tryz.ntmps7
  go_wp2_with fail
  refine HSH.out.mono ?_
  rintro e w1 ⟨rfl, hb1'⟩
  have HC1 : Hid (CBox w1 w.heap.size ⟨⟨dA, dn, dc⟩, ⟨A0, n0, c0⟩, ⟨A1, n1, c1⟩, ⟨A2, n2, c2⟩, ⟨A3, n3, c3⟩, ⟨A4, n4, c4⟩, ⟨A5, n5, c5⟩, cal⟩) := Lib.hid (CBox.on hcb hb1' hlt)
  have HW1 := Lib.hid (hA.trans (hb1'.mono hA.size))
  have hl1 : w.heap.size < w1.heap.size := Nat.lt_of_lt_of_le hlt hb1'.size
  have HNX : Hid (∀ (z : Int) (W : World), -9223372036854775808 ≤ z → Below w1.heap.size w1 W → Calls Tryz.prog 23 #[.agg #[.slice dA dn dc, .slice A0 n0 c0, .slice A1 n1 c1, .slice A2 n2 c2, .slice A3 n3 c3, .slice A4 n4 c4, .slice A5 n5 c5], .int .i64 z] W fun e w' => (∃ v ok, e = .returned (.tuple #[.int .i64 v, .bool ok]) ∧ Sp.NextIs cal z v ok) ∧ Below W.heap.size W w') := Lib.hid (fun z W hz hW => next_any ⟨⟨dA, dn, dc⟩, ⟨A0, n0, c0⟩, ⟨A1, n1, c1⟩, ⟨A2, n2, c2⟩, ⟨A3, n3, c3⟩, ⟨A4, n4, c4⟩, ⟨A5, n5, c5⟩, cal⟩ z W (HG.out.on (HW1.out.trans (hW.mono HW1.out.size))) hz)
  have HMT : Hid (∀ (z : Int) (W : World), -9223372036854775808 ≤ z → z ≤ 9223372036854775807 → Below w1.heap.size w1 W → Calls Tryz.prog 21 #[.agg #[.slice dA dn dc, .slice A0 n0 c0, .slice A1 n1 c1, .slice A2 n2 c2, .slice A3 n3 c3, .slice A4 n4 c4, .slice A5 n5 c5], .int .i64 z] W fun e w' => e = .returned (.bool (Sp.matchB cal z)) ∧ Below W.heap.size W w') := Lib.hid (fun z W hz hz2 hW => match_any ⟨⟨dA, dn, dc⟩, ⟨A0, n0, c0⟩, ⟨A1, n1, c1⟩, ⟨A2, n2, c2⟩, ⟨A3, n3, c3⟩, ⟨A4, n4, c4⟩, ⟨A5, n5, c5⟩, cal⟩ z W (HG.out.on (HW1.out.trans (hW.mono HW1.out.size))) ⟨hz, hz2⟩)
  clear hA hcb hlt HSH hb1'
  obtain ⟨k0, k1, k2, k3, k4, k5, k6⟩ := HC1.out.on (Below.refl _ _) hl1
  simp only [slV] at k0 k1 k2 k3 k4 k5 k6
  go_wp2_with fail
  refine (HNX.out after w1 ha1 (Below.refl _ _)).mono ?_
  rintro e w2 ⟨⟨v, ok, rfl, hnx⟩, hb2⟩
  have HB2 := Lib.hid hb2
  clear hb2 k0 k1 k2 k3 k4 k5 k6
  cases ok with
  | true =>
    obtain ⟨g1, g2, g3⟩ := next_true hnx
    have HN := Lib.hid hnx
    have ht : ¬ v ≤ after := by omega
    have hv1 : -9223372036854775808 ≤ v := by omega
    have hv2 : v ≤ 9223372036854775807 := by omega
    have HM := HMT.out v w2 hv1 hv2 HB2.out
    rw [next_has hnx] at HM
    have HM := Lib.hid HM
    clear hnx
    obtain ⟨k0, k1, k2, k3, k4, k5, k6⟩ := HC1.out.on HB2.out hl1
    simp only [slV] at k0 k1 k2 k3 k4 k5 k6
    go_wp2_with fail
    refine HM.out.mono ?_
    rintro e w3 ⟨rfl, hb3⟩
    have HB3 := Lib.hid (HB2.out.trans (hb3.mono HB2.out.size))
    clear hb3 k0 k1 k2 k3 k4 k5 k6

    have HEND : Hid (∀ x : Int, after < x → x < v → Sp.matchB cal x = false) := Lib.hid (fun x h1 h2 => next_between HN.out x h1 h2)
    have hend : (0 : Int) ≤ v ∧ (v : Int) ≤ 6311433600 := ⟨by omega, by omega⟩
    clear HN
    go_wp2_with fail
    go_loopw [10] (fun iv wr => ∃ k : Nat, k ≤ n ∧ k ≤ 60 ∧ iv = .int .i64 k ∧ Hid (Below w1.heap.size w1 wr)) (fun iv _ => 60 - (intOf iv).toNat)
    case atStart => exact ⟨0, Nat.zero_le _, by decide, rfl, HB3⟩
    case round =>
      obtain ⟨k, hk, hk60, rfl, HB⟩ := hrel
      have v1 : IntKind.i64.wrap ((k : Int) + 1) = ((k + 1 : Nat) : Int) := by rw [IntKind.wrap_i64]; omega
      by_cases hkn : k < n
      · have hx1 : (k : Int) < (n : Int) := by omega
        by_cases hk6 : k < 60
        · have hx2 : (k : Int) < 60 := by omega
          have hx0 : (0 : Int) ≤ (k : Int) := by omega
          have hkl : k < l.length := by rw [HL.out]; exact hkn
          obtain ⟨ad, rfl, hc⟩ := HROW.out k hkl
          have c0 := hc wr (HW1.out.trans (HB.out.mono HW1.out.size))
          clear hc
          generalize l[k] = y at *
          by_cases h1 : after < y
          · by_cases h2 : y < v
            · have hy1 : -9223372036854775808 ≤ y := by omega
              have hy2 : y ≤ 9223372036854775807 := by omega
              have HM := HMT.out y wr hy1 hy2 HB.out
              rw [HEND.out y h1 h2] at HM
              have HM := Lib.hid HM
              obtain ⟨k0, k1, k2, k3, k4, k5, k6⟩ := HC1.out.on HB.out hl1
              simp only [slV] at k0 k1 k2 k3 k4 k5 k6
              go_wp2_with fail
              refine HM.out.mono ?_
              rintro e w4 ⟨rfl, hb4⟩
              have HB4 := Lib.hid (HB.out.trans (hb4.mono HB.out.size))
              clear hb4 k0 k1 k2 k3 k4 k5 k6 c0
              go_wp2
              go_roundw
              case rel => exact ⟨k + 1, by omega, by omega, rfl, HB4⟩
              case measure => simp [intOf]; omega
            · go_wp2
              go_roundw
              case rel => exact ⟨k + 1, by omega, by omega, rfl, HB⟩
              case measure => simp [intOf]; omega
          · go_wp2
            go_roundw
            case rel => exact ⟨k + 1, by omega, by omega, rfl, HB⟩
            case measure => simp [intOf]; omega
        · have hx2 : ¬ (k : Int) < 60 := by omega
          go_wp2_with fail
          have HE := HB
          clear HB
          go_loopw [12] (fun iv wr => ∃ k : Nat, 1 ≤ k ∧ k ≤ 61 ∧ iv = .int .i64 k ∧ Hid (Below w1.heap.size w1 wr)) (fun iv _ => 61 - (intOf iv).toNat)
          case atStart => exact ⟨1, by decide, by decide, rfl, HE⟩
          case round =>
            obtain ⟨j, hj1, hj2, rfl, HB⟩ := hrel
            have v2 : IntKind.i64.wrap ((j : Int) + 1) = ((j + 1 : Nat) : Int) := by rw [IntKind.wrap_i64]; omega
            by_cases hj : j ≤ 60
            · have hx3 : (j : Int) ≤ 60 := by omega
              by_cases h3 : -1 ≤ after
              · have v3 : IntKind.i64.wrap (v - (j : Int)) = v - (j : Int) := by rw [IntKind.wrap_i64]; omega
                by_cases h4 : after < v - (j : Int)
                · have v4 : IntKind.i64.wrap (after + (j : Int)) = after + (j : Int) := by rw [IntKind.wrap_i64]; omega
                  have hy1 : -9223372036854775808 ≤ after + (j : Int) := by omega
                  have hy2 : after + (j : Int) ≤ 9223372036854775807 := by omega
                  have HM := HMT.out (after + (j : Int)) _ hy1 hy2 HB.out
                  rw [HEND.out (after + (j : Int)) (by omega) (by omega)] at HM
                  have HM := Lib.hid HM
                  obtain ⟨k0, k1, k2, k3, k4, k5, k6⟩ := HC1.out.on HB.out hl1
                  simp only [slV] at k0 k1 k2 k3 k4 k5 k6
                  go_wp2_with fail
                  refine HM.out.mono ?_
                  rintro e w5 ⟨rfl, hb5⟩
                  have HB5 := Lib.hid (HB.out.trans (hb5.mono HB.out.size))
                  clear hb5 k0 k1 k2 k3 k4 k5 k6
                  go_wp2
                  go_roundw
                  case rel => exact ⟨j + 1, by omega, by omega, rfl, HB5⟩
                  case measure => simp [intOf]; omega
                · go_wp2
                  go_roundw
                  case rel => exact ⟨j + 1, by omega, by omega, rfl, HB⟩
                  case measure => simp [intOf]; omega
              · go_wp2
                go_roundw
                case rel => exact ⟨j + 1, by omega, by omega, rfl, HB⟩
                case measure => simp [intOf]; omega
            · have hx3 : ¬ (j : Int) ≤ 60 := by omega
              have HF := Lib.hid (HW1.out.trans (HB.out.mono HW1.out.size))
              go_wp2
              go_ret
              exact ⟨rfl, HF.out⟩
      · have hx1 : ¬ (k : Int) < (n : Int) := by omega
        go_wp2_with fail
        have HE := HB
        clear HB
        go_loopw [12] (fun iv wr => ∃ k : Nat, 1 ≤ k ∧ k ≤ 61 ∧ iv = .int .i64 k ∧ Hid (Below w1.heap.size w1 wr)) (fun iv _ => 61 - (intOf iv).toNat)
        case atStart => exact ⟨1, by decide, by decide, rfl, HE⟩
        case round =>
          obtain ⟨j, hj1, hj2, rfl, HB⟩ := hrel
          have v2 : IntKind.i64.wrap ((j : Int) + 1) = ((j + 1 : Nat) : Int) := by rw [IntKind.wrap_i64]; omega
          by_cases hj : j ≤ 60
          · have hx3 : (j : Int) ≤ 60 := by omega
            by_cases h3 : -1 ≤ after
            · have v3 : IntKind.i64.wrap (v - (j : Int)) = v - (j : Int) := by rw [IntKind.wrap_i64]; omega
              by_cases h4 : after < v - (j : Int)
              · have v4 : IntKind.i64.wrap (after + (j : Int)) = after + (j : Int) := by rw [IntKind.wrap_i64]; omega
                have hy1 : -9223372036854775808 ≤ after + (j : Int) := by omega
                have hy2 : after + (j : Int) ≤ 9223372036854775807 := by omega
                have HM := HMT.out (after + (j : Int)) _ hy1 hy2 HB.out
                rw [HEND.out (after + (j : Int)) (by omega) (by omega)] at HM
                have HM := Lib.hid HM
                obtain ⟨k0, k1, k2, k3, k4, k5, k6⟩ := HC1.out.on HB.out hl1
                simp only [slV] at k0 k1 k2 k3 k4 k5 k6
                go_wp2_with fail
                refine HM.out.mono ?_
                rintro e w5 ⟨rfl, hb5⟩
                have HB5 := Lib.hid (HB.out.trans (hb5.mono HB.out.size))
                clear hb5 k0 k1 k2 k3 k4 k5 k6
                go_wp2
                go_roundw
                case rel => exact ⟨j + 1, by omega, by omega, rfl, HB5⟩
                case measure => simp [intOf]; omega
              · go_wp2
                go_roundw
                case rel => exact ⟨j + 1, by omega, by omega, rfl, HB⟩
                case measure => simp [intOf]; omega
            · go_wp2
              go_roundw
              case rel => exact ⟨j + 1, by omega, by omega, rfl, HB⟩
              case measure => simp [intOf]; omega
          · have hx3 : ¬ (j : Int) ≤ 60 := by omega
            have HF := Lib.hid (HW1.out.trans (HB.out.mono HW1.out.size))
            go_wp2
            go_ret
            exact ⟨rfl, HF.out⟩

  | false =>
    have HN := Lib.hid hnx
    clear hnx

    have HEND : Hid (∀ x : Int, after < x → x < 6311433600 → Sp.matchB cal x = false) := Lib.hid (fun x h1 _ => next_nothing HN.out x h1)
    have hend : (0 : Int) ≤ 6311433600 ∧ (6311433600 : Int) ≤ 6311433600 := ⟨by decide, by decide⟩
    clear HN
    go_wp2_with fail
    go_loopw [10] (fun iv wr => ∃ k : Nat, k ≤ n ∧ k ≤ 60 ∧ iv = .int .i64 k ∧ Hid (Below w1.heap.size w1 wr)) (fun iv _ => 60 - (intOf iv).toNat)
    case atStart => exact ⟨0, Nat.zero_le _, by decide, rfl, HB2⟩
    case round =>
      obtain ⟨k, hk, hk60, rfl, HB⟩ := hrel
      have v1 : IntKind.i64.wrap ((k : Int) + 1) = ((k + 1 : Nat) : Int) := by rw [IntKind.wrap_i64]; omega
      by_cases hkn : k < n
      · have hx1 : (k : Int) < (n : Int) := by omega
        by_cases hk6 : k < 60
        · have hx2 : (k : Int) < 60 := by omega
          have hx0 : (0 : Int) ≤ (k : Int) := by omega
          have hkl : k < l.length := by rw [HL.out]; exact hkn
          obtain ⟨ad, rfl, hc⟩ := HROW.out k hkl
          have c0 := hc wr (HW1.out.trans (HB.out.mono HW1.out.size))
          clear hc
          generalize l[k] = y at *
          by_cases h1 : after < y
          · by_cases h2 : y < 6311433600
            · have hy1 : -9223372036854775808 ≤ y := by omega
              have hy2 : y ≤ 9223372036854775807 := by omega
              have HM := HMT.out y wr hy1 hy2 HB.out
              rw [HEND.out y h1 h2] at HM
              have HM := Lib.hid HM
              obtain ⟨k0, k1, k2, k3, k4, k5, k6⟩ := HC1.out.on HB.out hl1
              simp only [slV] at k0 k1 k2 k3 k4 k5 k6
              go_wp2_with fail
              refine HM.out.mono ?_
              rintro e w4 ⟨rfl, hb4⟩
              have HB4 := Lib.hid (HB.out.trans (hb4.mono HB.out.size))
              clear hb4 k0 k1 k2 k3 k4 k5 k6 c0
              go_wp2
              go_roundw
              case rel => exact ⟨k + 1, by omega, by omega, rfl, HB4⟩
              case measure => simp [intOf]; omega
            · go_wp2
              go_roundw
              case rel => exact ⟨k + 1, by omega, by omega, rfl, HB⟩
              case measure => simp [intOf]; omega
          · go_wp2
            go_roundw
            case rel => exact ⟨k + 1, by omega, by omega, rfl, HB⟩
            case measure => simp [intOf]; omega
        · have hx2 : ¬ (k : Int) < 60 := by omega
          go_wp2_with fail
          have HE := HB
          clear HB
          go_loopw [12] (fun iv wr => ∃ k : Nat, 1 ≤ k ∧ k ≤ 61 ∧ iv = .int .i64 k ∧ Hid (Below w1.heap.size w1 wr)) (fun iv _ => 61 - (intOf iv).toNat)
          case atStart => exact ⟨1, by decide, by decide, rfl, HE⟩
          case round =>
            obtain ⟨j, hj1, hj2, rfl, HB⟩ := hrel
            have v2 : IntKind.i64.wrap ((j : Int) + 1) = ((j + 1 : Nat) : Int) := by rw [IntKind.wrap_i64]; omega
            by_cases hj : j ≤ 60
            · have hx3 : (j : Int) ≤ 60 := by omega
              by_cases h3 : -1 ≤ after
              · have v3 : IntKind.i64.wrap (6311433600 - (j : Int)) = 6311433600 - (j : Int) := by rw [IntKind.wrap_i64]; omega
                by_cases h4 : after < 6311433600 - (j : Int)
                · have v4 : IntKind.i64.wrap (after + (j : Int)) = after + (j : Int) := by rw [IntKind.wrap_i64]; omega
                  have hy1 : -9223372036854775808 ≤ after + (j : Int) := by omega
                  have hy2 : after + (j : Int) ≤ 9223372036854775807 := by omega
                  have HM := HMT.out (after + (j : Int)) _ hy1 hy2 HB.out
                  rw [HEND.out (after + (j : Int)) (by omega) (by omega)] at HM
                  have HM := Lib.hid HM
                  obtain ⟨k0, k1, k2, k3, k4, k5, k6⟩ := HC1.out.on HB.out hl1
                  simp only [slV] at k0 k1 k2 k3 k4 k5 k6
                  go_wp2_with fail
                  refine HM.out.mono ?_
                  rintro e w5 ⟨rfl, hb5⟩
                  have HB5 := Lib.hid (HB.out.trans (hb5.mono HB.out.size))
                  clear hb5 k0 k1 k2 k3 k4 k5 k6
                  go_wp2
                  go_roundw
                  case rel => exact ⟨j + 1, by omega, by omega, rfl, HB5⟩
                  case measure => simp [intOf]; omega
                · go_wp2
                  go_roundw
                  case rel => exact ⟨j + 1, by omega, by omega, rfl, HB⟩
                  case measure => simp [intOf]; omega
              · go_wp2
                go_roundw
                case rel => exact ⟨j + 1, by omega, by omega, rfl, HB⟩
                case measure => simp [intOf]; omega
            · have hx3 : ¬ (j : Int) ≤ 60 := by omega
              have HF := Lib.hid (HW1.out.trans (HB.out.mono HW1.out.size))
              go_wp2
              go_ret
              exact ⟨rfl, HF.out⟩
      · have hx1 : ¬ (k : Int) < (n : Int) := by omega
        go_wp2_with fail
        have HE := HB
        clear HB
        go_loopw [12] (fun iv wr => ∃ k : Nat, 1 ≤ k ∧ k ≤ 61 ∧ iv = .int .i64 k ∧ Hid (Below w1.heap.size w1 wr)) (fun iv _ => 61 - (intOf iv).toNat)
        case atStart => exact ⟨1, by decide, by decide, rfl, HE⟩
        case round =>
          obtain ⟨j, hj1, hj2, rfl, HB⟩ := hrel
          have v2 : IntKind.i64.wrap ((j : Int) + 1) = ((j + 1 : Nat) : Int) := by rw [IntKind.wrap_i64]; omega
          by_cases hj : j ≤ 60
          · have hx3 : (j : Int) ≤ 60 := by omega
            by_cases h3 : -1 ≤ after
            · have v3 : IntKind.i64.wrap (6311433600 - (j : Int)) = 6311433600 - (j : Int) := by rw [IntKind.wrap_i64]; omega
              by_cases h4 : after < 6311433600 - (j : Int)
              · have v4 : IntKind.i64.wrap (after + (j : Int)) = after + (j : Int) := by rw [IntKind.wrap_i64]; omega
                have hy1 : -9223372036854775808 ≤ after + (j : Int) := by omega
                have hy2 : after + (j : Int) ≤ 9223372036854775807 := by omega
                have HM := HMT.out (after + (j : Int)) _ hy1 hy2 HB.out
                rw [HEND.out (after + (j : Int)) (by omega) (by omega)] at HM
                have HM := Lib.hid HM
                obtain ⟨k0, k1, k2, k3, k4, k5, k6⟩ := HC1.out.on HB.out hl1
                simp only [slV] at k0 k1 k2 k3 k4 k5 k6
                go_wp2_with fail
                refine HM.out.mono ?_
                rintro e w5 ⟨rfl, hb5⟩
                have HB5 := Lib.hid (HB.out.trans (hb5.mono HB.out.size))
                clear hb5 k0 k1 k2 k3 k4 k5 k6
                go_wp2
                go_roundw
                case rel => exact ⟨j + 1, by omega, by omega, rfl, HB5⟩
                case measure => simp [intOf]; omega
              · go_wp2
                go_roundw
                case rel => exact ⟨j + 1, by omega, by omega, rfl, HB⟩
                case measure => simp [intOf]; omega
            · go_wp2
              go_roundw
              case rel => exact ⟨j + 1, by omega, by omega, rfl, HB⟩
              case measure => simp [intOf]; omega
          · have hx3 : ¬ (j : Int) ≤ 60 := by omega
            have HF := Lib.hid (HW1.out.trans (HB.out.mono HW1.out.size))
            go_wp2
            go_ret
            exact ⟨rfl, HF.out⟩

end Go.Proofs.YtopmdffiikajnaaGreatDoor
