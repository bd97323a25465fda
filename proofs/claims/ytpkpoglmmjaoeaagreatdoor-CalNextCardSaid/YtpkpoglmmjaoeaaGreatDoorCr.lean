/-
  Whether a calendar may be: the program's walk.
-/
import Derived.Test.YtpkpoglmmjaoeaaGreatDoorCq
namespace Go.Proofs.YtpkpoglmmjaoeaaGreatDoor
open Go.RowKit Go.Shelf

namespace Sp
theorem mayDays_at (l : List Int) (k : Nat) (h : k < l.length) (last : Int) : mayDays last (l.drop k) = if l[k] ≤ last ∨ 7 < l[k] then false else mayDays l[k] (l.drop (k + 1)) := by
  rw [List.drop_eq_getElem_cons h, mayDays]
end Sp
theorem index_lists (b : Nat) (W : World) (i : Nat) (h : i < 6) : (Instr.index 65 (listsV b) (.int .i64 i)).run Tryz.prog W = .ok (.pointer (some ⟨b, i + 1, none⟩)) W := by
  have e : i = 0 ∨ i = 1 ∨ i = 2 ∨ i = 3 ∨ i = 4 ∨ i = 5 := by omega
  rcases e with rfl | rfl | rfl | rfl | rfl | rfl
  all_goals simp [Instr.index, run_underlying Tryz.underlying65, asIntOf, listsV, go_sem]
set_option maxRecDepth 100000 in
set_option maxHeartbeats 16000000 in
theorem may_any (s : CalS) (w : World) (h : CalGood w s) : Calls Tryz.prog 12 #[calV s] w fun e w' => e = .returned (.bool (Sp.mayCal s.cal)) ∧ Below w.heap.size w w' := by
  have hb0 : Below w.heap.size w (w.alloc (.cells #[slV s.d, slV s.f0, slV s.f1, slV s.f2, slV s.f3, slV s.f4, slV s.f5] 25)) := (Below.refl _ _).alloc (Nat.le_refl _) _
  have hlt : w.heap.size < (w.alloc (.cells #[slV s.d, slV s.f0, slV s.f1, slV s.f2, slV s.f3, slV s.f4, slV s.f5] 25)).heap.size := by simp
  have HG := Lib.hid (h.on hb0)
  have hc : ∀ j v, (#[slV s.d, slV s.f0, slV s.f1, slV s.f2, slV s.f3, slV s.f4, slV s.f5] : Array Value)[j]? = some v → (w.alloc (.cells #[slV s.d, slV s.f0, slV s.f1, slV s.f2, slV s.f3, slV s.f4, slV s.f5] 25)).cell? ⟨w.heap.size, j, none⟩ = some v := fun j v hv => by simp [hv]
  have HC := Lib.hid hc
  clear hc h
  obtain ⟨⟨dA, dn, dc⟩, ⟨A0, n0, c0⟩, ⟨A1, n1, c1⟩, ⟨A2, n2, c2⟩, ⟨A3, n3, c3⟩, ⟨A4, n4, c4⟩, ⟨A5, n5, c5⟩, cal⟩ := s
  simp only [slV] at hb0 hlt HG HC
  show Calls Tryz.prog 12 #[.agg #[.slice dA dn dc, .slice A0 n0 c0, .slice A1 n1 c1, .slice A2 n2 c2, .slice A3 n3 c3, .slice A4 n4 c4, .slice A5 n5 c5]] w fun e w' => e = .returned (.bool (Sp.mayCal cal)) ∧ Below w.heap.size w w'
  obtain ⟨MB, hMB⟩ : ∃ MB, MB = Sp.mayCal cal := ⟨_, rfl⟩
  rw [← hMB]
  have HMB := Lib.hid hMB
  clear hMB
  go_enter Tryz.func12, Tryz.ntmps12
  go_upto_region 1 with fail
  generalize (w.alloc (.cells #[.slice dA dn dc, .slice A0 n0 c0, .slice A1 n1 c1, .slice A2 n2 c2, .slice A3 n3 c3, .slice A4 n4 c4, .slice A5 n5 c5] 25)) = w1 at *
  generalize hbs : w.heap.size = b1 at *
  have HBS := Lib.hid hbs
  have HB := Lib.hid hb0
  clear hbs hb0
  have HK0 := Lib.hid (HC.out 0 _ rfl)
  have HDN : Hid (cal.days.length = dn) := Lib.hid (by have h1 := HG.out.rd.1; rw [intsC_len] at h1; dsimp only at h1; omega)
  have HROW := Lib.hid (fun k hk => Rd.intAt HG.out.rd k hk)
  have hd0 := HK0.out
  have hdn : dn ≤ 9223372036854775807 := HG.out.bd
  go_wp2_with fail
  go_loopw [3, 11] (fun lv iv wr => w1 = wr ∧ ∃ (k : Nat) (last : Int), k ≤ dn ∧ iv = .int .i64 k ∧ lv = .int .i64 last ∧ Hid (Sp.mayDays 0 cal.days = Sp.mayDays last (cal.days.drop k))) (fun _ iv _ => dn - (intOf iv).toNat)
  case atStart => exact ⟨rfl, 0, 0, Nat.zero_le _, rfl, rfl, Lib.hid (by rw [List.drop_zero])⟩
  case round =>
    obtain ⟨rfl, k, last, hk, rfl, rfl, HM⟩ := hrel
    by_cases hl : k < dn
    · have hkl : k < cal.days.length := by rw [HDN.out]; exact hl
      obtain ⟨ad, rfl, hcd⟩ := HROW.out k hkl
      have g0 := hcd w1 (Below.refl _ _)
      have HST := Lib.hid (Sp.mayDays_at cal.days k hkl last)
      clear hcd
      generalize cal.days[k] = x at *
      have x1 : (0 : Int) ≤ (k : Int) := by omega
      have x2 : (k : Int) < (dn : Int) := by omega
      by_cases h1 : x ≤ last
      · have HF : Hid (MB = false) := Lib.hid (by rw [HMB.out]; unfold Sp.mayCal; rw [HM.out, HST.out, if_pos (.inl h1)]; rfl)
        go_wp2
        rw [HF.out]
        go_ret
        rw [HBS.out]
        exact ⟨rfl, HB.out⟩
      · by_cases h2 : x > 7
        · have HF : Hid (MB = false) := Lib.hid (by rw [HMB.out]; unfold Sp.mayCal; rw [HM.out, HST.out, if_pos (.inr h2)]; rfl)
          go_wp2
          rw [HF.out]
          go_ret
          rw [HBS.out]
          exact ⟨rfl, HB.out⟩
        · have HN : Hid (Sp.mayDays 0 cal.days = Sp.mayDays x (cal.days.drop (k + 1))) := Lib.hid (by rw [HM.out, HST.out, if_neg (by omega)])
          go_wp2
          go_roundw
          case rel => exact ⟨by first | rfl | trivial, k + 1, x, by omega, by go_num, rfl, HN⟩
          case measure => simp [intOf]; omega
    · have HDT : Hid (Sp.mayDays 0 cal.days = true) := Lib.hid (by rw [HM.out, List.drop_of_length_le (by rw [HDN.out]; omega)]; rfl)
      have x2 : ¬ (k : Int) < (dn : Int) := by omega
      clear HROW HM hd0
      go_wp2_with fail
      refine (lists_any b1 w1).mono ?_
      rintro e w2 ⟨rfl, hb2⟩
      have HB2 := Lib.hid hb2
      clear hb2
      simp only [listsV]
      go_wp2_with fail
      go_loopw [25] (fun iv wr => ∃ k : Nat, k ≤ 6 ∧ iv = .int .i64 k ∧ Hid (Below w1.heap.size w1 wr) ∧ Hid (∀ i, i < k → Sp.mayList (cal.field i) i = true)) (fun iv _ => 6 - (intOf iv).toNat)
      case atStart => exact ⟨0, Nat.zero_le _, rfl, HB2, Lib.hid (fun i hi => absurd hi (by omega))⟩
      case round =>
        obtain ⟨k, hk, rfl, HBR, HA⟩ := hrel
        have HGR := Lib.hid (HG.out.on HBR.out)
        have HBT := Lib.hid (HB.out.trans (HBR.out.mono (Nat.le_of_lt hlt)))
        have hsr := HBR.out.size
        have hcell : Hid (∀ j v, (#[.slice dA dn dc, .slice A0 n0 c0, .slice A1 n1 c1, .slice A2 n2 c2, .slice A3 n3 c3, .slice A4 n4 c4, .slice A5 n5 c5] : Array Value)[j]? = some v → wr.cell? ⟨b1, j, none⟩ = some v) := Lib.hid (fun j v hv => (HBR.out.cell (p := ⟨b1, j, none⟩) hlt).trans (HC.out j v hv))
        generalize hsw : wr.heap.size = bx at *
        have HSW := Lib.hid hsw
        clear hsw
        have hk7 : k = 0 ∨ k = 1 ∨ k = 2 ∨ k = 3 ∨ k = 4 ∨ k = 5 ∨ k = 6 := by omega
        rcases hk7 with rfl | rfl | rfl | rfl | rfl | rfl | rfl
        · rw [show ((0 : Nat) : Int) = 0 from rfl]
          have q0 : wr.cell? ⟨b1, 1, none⟩ = some (.slice A0 n0 c0) := hcell.out 1 _ rfl
          have q1 : (wr.alloc (.cells #[.int .i64 0] 3)).cell? ⟨b1, 1, none⟩ = some (.slice A0 n0 c0) := (((Below.refl wr.heap.size wr).alloc (Nat.le_refl _) (.cells #[.int .i64 0] 3)).cell (p := ⟨b1, 1, none⟩) (by rw [HSW.out]; show b1 < bx; omega)).trans q0
          have HLEN : Hid (cal.year.length = n0) := Lib.hid (by have h1 := (HGR.out.rf 0 (by decide)).1; rw [partsC_len] at h1; simp only [CalS.sl, Sp.CalD.field] at h1; omega)
          have HCF : Hid (Calls Tryz.prog 39 #[.slice A0 n0 c0, .func (.func 40) #[] #[.pointer (some ⟨bx, 0, none⟩)]] (wr.alloc (.cells #[.int .i64 0] 3)) fun e w' => e = .returned (.bool (cal.year.any fun q => !Sp.mayPartB q 0)) ∧ Below (wr.alloc (.cells #[.int .i64 0] 3)).heap.size (wr.alloc (.cells #[.int .i64 0] 3)) w') := Lib.hid (by
            have hba : Below wr.heap.size wr (wr.alloc (.cells #[.int .i64 0] 3)) := (Below.refl _ _).alloc (Nat.le_refl _) _
            have hbz : bx < (wr.alloc (.cells #[.int .i64 0] 3)).heap.size := by rw [← HSW.out]; simp
            have hbc : (wr.alloc (.cells #[.int .i64 0] 3)).cell? ⟨bx, 0, none⟩ = some (.int .i64 0) := by rw [← HSW.out]; simp
            refine contains_any (fun q => !Sp.mayPartB q 0) 40 _ (enters_of Tryz.func40 (by kernel_rfl) rfl) cal.year A0 n0 c0 _ ((((HGR.out.rf 0 (by decide)).below hba)).more hba.size) (HGR.out.bf 0) ?_
            intro W x hx hW
            exact may1_any x 0 bx W ((hW.cell (p := ⟨bx, 0, none⟩) hbz).trans hbc) (by have := hW.size; omega))
          have HBA : Hid (Below w1.heap.size w1 (wr.alloc (.cells #[.int .i64 0] 3))) := Lib.hid (HBR.out.alloc HBR.out.size _)
          have HBB : Hid (Below b1 w (wr.alloc (.cells #[.int .i64 0] 3))) := Lib.hid (HBT.out.alloc (by rw [HSW.out]; omega) _)
          have HML : Hid (Sp.mayList cal.year 0 = (decide (1 ≤ n0) && decide (n0 ≤ 4) && !(cal.year.any fun q => !Sp.mayPartB q 0))) := Lib.hid (by
            unfold Sp.mayList
            rw [HLEN.out]
            congr 1
            rw [List.not_any_eq_all_not]
            simp)
          have HFA : Hid (Sp.mayList cal.year 0 = false → MB = false) := Lib.hid (fun hh => by
            rw [HMB.out]; unfold Sp.mayCal; rw [hh]; simp)
          generalize (cal.year.any fun q => !Sp.mayPartB q 0) = any at *
          have hix : ∀ W, (Instr.index 65 (.agg #[.pointer (some ⟨b1, 1, none⟩), .pointer (some ⟨b1, 2, none⟩), .pointer (some ⟨b1, 3, none⟩), .pointer (some ⟨b1, 4, none⟩), .pointer (some ⟨b1, 5, none⟩), .pointer (some ⟨b1, 6, none⟩)]) (.int .i64 0)).run Tryz.prog W = .ok (.pointer (some ⟨b1, 1, none⟩)) W := fun W => index_lists b1 W 0 (by decide)
          go_upto_region 12 with fail
          rw [HSW.out]
          generalize (wr.alloc (.cells #[.int .i64 0] 3)) = wa at *
          clear q0
          by_cases h1 : n0 < 1
          · have z1 : (n0 : Int) < 1 := by omega
            have HF := Lib.hid (HFA.out (by rw [HML.out, decide_eq_false (by omega)]; rfl))
            clear h1
            go_wp2
            rw [HF.out]
            go_ret
            rw [HBS.out]
            exact ⟨rfl, HBB.out⟩
          · have z1 : ¬ (n0 : Int) < 1 := by omega
            by_cases h2 : n0 > 4
            · have z2 : (n0 : Int) > 4 := by omega
              have HF := Lib.hid (HFA.out (by rw [HML.out, decide_eq_false (show ¬ n0 ≤ 4 by omega), Bool.and_false]; rfl))
              clear h2
              go_wp2
              rw [HF.out]
              go_ret
              rw [HBS.out]
              exact ⟨rfl, HBB.out⟩
            · have z2 : ¬ (n0 : Int) > 4 := by omega
              have HNN : Hid (1 ≤ n0 ∧ n0 ≤ 4) := Lib.hid (by omega)
              clear h1 h2
              go_wp2_with fail
              refine HCF.out.mono ?_
              rintro e w3 ⟨rfl, hb3⟩
              have HB3 : Hid (Below w1.heap.size w1 w3) := Lib.hid (HBA.out.trans (hb3.mono HBA.out.size))
              have HB4 : Hid (Below b1 w w3) := Lib.hid (HBB.out.trans (hb3.mono (by have := HBA.out.size; omega)))
              clear hb3 HCF
              cases any with
              | true =>
                have HF := Lib.hid (HFA.out (by rw [HML.out]; simp))
                go_wp2
                rw [HF.out]
                go_ret
                rw [HBS.out]
                exact ⟨rfl, HB4.out⟩
              | false =>
                have HOK : Hid (Sp.mayList cal.year 0 = true) := Lib.hid (by rw [HML.out, decide_eq_true HNN.out.1, decide_eq_true HNN.out.2]; rfl)
                go_wp2
                go_roundw
                case rel => exact ⟨1, by omega, by first | rfl | go_num, HB3, Lib.hid (fun j hj => by
                  by_cases e : j = 0
                  · subst e; exact HOK.out
                  · exact HA.out j (by omega))⟩
                case measure => simp [intOf]
        · rw [show ((1 : Nat) : Int) = 1 from rfl]
          have q0 : wr.cell? ⟨b1, 2, none⟩ = some (.slice A1 n1 c1) := hcell.out 2 _ rfl
          have q1 : (wr.alloc (.cells #[.int .i64 1] 3)).cell? ⟨b1, 2, none⟩ = some (.slice A1 n1 c1) := (((Below.refl wr.heap.size wr).alloc (Nat.le_refl _) (.cells #[.int .i64 1] 3)).cell (p := ⟨b1, 2, none⟩) (by rw [HSW.out]; show b1 < bx; omega)).trans q0
          have HLEN : Hid (cal.month.length = n1) := Lib.hid (by have h1 := (HGR.out.rf 1 (by decide)).1; rw [partsC_len] at h1; simp only [CalS.sl, Sp.CalD.field] at h1; omega)
          have HCF : Hid (Calls Tryz.prog 39 #[.slice A1 n1 c1, .func (.func 40) #[] #[.pointer (some ⟨bx, 0, none⟩)]] (wr.alloc (.cells #[.int .i64 1] 3)) fun e w' => e = .returned (.bool (cal.month.any fun q => !Sp.mayPartB q 1)) ∧ Below (wr.alloc (.cells #[.int .i64 1] 3)).heap.size (wr.alloc (.cells #[.int .i64 1] 3)) w') := Lib.hid (by
            have hba : Below wr.heap.size wr (wr.alloc (.cells #[.int .i64 1] 3)) := (Below.refl _ _).alloc (Nat.le_refl _) _
            have hbz : bx < (wr.alloc (.cells #[.int .i64 1] 3)).heap.size := by rw [← HSW.out]; simp
            have hbc : (wr.alloc (.cells #[.int .i64 1] 3)).cell? ⟨bx, 0, none⟩ = some (.int .i64 1) := by rw [← HSW.out]; simp
            refine contains_any (fun q => !Sp.mayPartB q 1) 40 _ (enters_of Tryz.func40 (by kernel_rfl) rfl) cal.month A1 n1 c1 _ ((((HGR.out.rf 1 (by decide)).below hba)).more hba.size) (HGR.out.bf 1) ?_
            intro W x hx hW
            exact may1_any x 1 bx W ((hW.cell (p := ⟨bx, 0, none⟩) hbz).trans hbc) (by have := hW.size; omega))
          have HBA : Hid (Below w1.heap.size w1 (wr.alloc (.cells #[.int .i64 1] 3))) := Lib.hid (HBR.out.alloc HBR.out.size _)
          have HBB : Hid (Below b1 w (wr.alloc (.cells #[.int .i64 1] 3))) := Lib.hid (HBT.out.alloc (by rw [HSW.out]; omega) _)
          have HML : Hid (Sp.mayList cal.month 1 = (decide (1 ≤ n1) && decide (n1 ≤ 4) && !(cal.month.any fun q => !Sp.mayPartB q 1))) := Lib.hid (by
            unfold Sp.mayList
            rw [HLEN.out]
            congr 1
            rw [List.not_any_eq_all_not]
            simp)
          have HFA : Hid (Sp.mayList cal.month 1 = false → MB = false) := Lib.hid (fun hh => by
            rw [HMB.out]; unfold Sp.mayCal; rw [hh]; simp)
          generalize (cal.month.any fun q => !Sp.mayPartB q 1) = any at *
          have hix : ∀ W, (Instr.index 65 (.agg #[.pointer (some ⟨b1, 1, none⟩), .pointer (some ⟨b1, 2, none⟩), .pointer (some ⟨b1, 3, none⟩), .pointer (some ⟨b1, 4, none⟩), .pointer (some ⟨b1, 5, none⟩), .pointer (some ⟨b1, 6, none⟩)]) (.int .i64 1)).run Tryz.prog W = .ok (.pointer (some ⟨b1, 2, none⟩)) W := fun W => index_lists b1 W 1 (by decide)
          go_upto_region 12 with fail
          rw [HSW.out]
          generalize (wr.alloc (.cells #[.int .i64 1] 3)) = wa at *
          clear q0
          by_cases h1 : n1 < 1
          · have z1 : (n1 : Int) < 1 := by omega
            have HF := Lib.hid (HFA.out (by rw [HML.out, decide_eq_false (by omega)]; rfl))
            clear h1
            go_wp2
            rw [HF.out]
            go_ret
            rw [HBS.out]
            exact ⟨rfl, HBB.out⟩
          · have z1 : ¬ (n1 : Int) < 1 := by omega
            by_cases h2 : n1 > 4
            · have z2 : (n1 : Int) > 4 := by omega
              have HF := Lib.hid (HFA.out (by rw [HML.out, decide_eq_false (show ¬ n1 ≤ 4 by omega), Bool.and_false]; rfl))
              clear h2
              go_wp2
              rw [HF.out]
              go_ret
              rw [HBS.out]
              exact ⟨rfl, HBB.out⟩
            · have z2 : ¬ (n1 : Int) > 4 := by omega
              have HNN : Hid (1 ≤ n1 ∧ n1 ≤ 4) := Lib.hid (by omega)
              clear h1 h2
              go_wp2_with fail
              refine HCF.out.mono ?_
              rintro e w3 ⟨rfl, hb3⟩
              have HB3 : Hid (Below w1.heap.size w1 w3) := Lib.hid (HBA.out.trans (hb3.mono HBA.out.size))
              have HB4 : Hid (Below b1 w w3) := Lib.hid (HBB.out.trans (hb3.mono (by have := HBA.out.size; omega)))
              clear hb3 HCF
              cases any with
              | true =>
                have HF := Lib.hid (HFA.out (by rw [HML.out]; simp))
                go_wp2
                rw [HF.out]
                go_ret
                rw [HBS.out]
                exact ⟨rfl, HB4.out⟩
              | false =>
                have HOK : Hid (Sp.mayList cal.month 1 = true) := Lib.hid (by rw [HML.out, decide_eq_true HNN.out.1, decide_eq_true HNN.out.2]; rfl)
                go_wp2
                go_roundw
                case rel => exact ⟨2, by omega, by first | rfl | go_num, HB3, Lib.hid (fun j hj => by
                  by_cases e : j = 1
                  · subst e; exact HOK.out
                  · exact HA.out j (by omega))⟩
                case measure => simp [intOf]
        · rw [show ((2 : Nat) : Int) = 2 from rfl]
          have q0 : wr.cell? ⟨b1, 3, none⟩ = some (.slice A2 n2 c2) := hcell.out 3 _ rfl
          have q1 : (wr.alloc (.cells #[.int .i64 2] 3)).cell? ⟨b1, 3, none⟩ = some (.slice A2 n2 c2) := (((Below.refl wr.heap.size wr).alloc (Nat.le_refl _) (.cells #[.int .i64 2] 3)).cell (p := ⟨b1, 3, none⟩) (by rw [HSW.out]; show b1 < bx; omega)).trans q0
          have HLEN : Hid (cal.day.length = n2) := Lib.hid (by have h1 := (HGR.out.rf 2 (by decide)).1; rw [partsC_len] at h1; simp only [CalS.sl, Sp.CalD.field] at h1; omega)
          have HCF : Hid (Calls Tryz.prog 39 #[.slice A2 n2 c2, .func (.func 40) #[] #[.pointer (some ⟨bx, 0, none⟩)]] (wr.alloc (.cells #[.int .i64 2] 3)) fun e w' => e = .returned (.bool (cal.day.any fun q => !Sp.mayPartB q 2)) ∧ Below (wr.alloc (.cells #[.int .i64 2] 3)).heap.size (wr.alloc (.cells #[.int .i64 2] 3)) w') := Lib.hid (by
            have hba : Below wr.heap.size wr (wr.alloc (.cells #[.int .i64 2] 3)) := (Below.refl _ _).alloc (Nat.le_refl _) _
            have hbz : bx < (wr.alloc (.cells #[.int .i64 2] 3)).heap.size := by rw [← HSW.out]; simp
            have hbc : (wr.alloc (.cells #[.int .i64 2] 3)).cell? ⟨bx, 0, none⟩ = some (.int .i64 2) := by rw [← HSW.out]; simp
            refine contains_any (fun q => !Sp.mayPartB q 2) 40 _ (enters_of Tryz.func40 (by kernel_rfl) rfl) cal.day A2 n2 c2 _ ((((HGR.out.rf 2 (by decide)).below hba)).more hba.size) (HGR.out.bf 2) ?_
            intro W x hx hW
            exact may1_any x 2 bx W ((hW.cell (p := ⟨bx, 0, none⟩) hbz).trans hbc) (by have := hW.size; omega))
          have HBA : Hid (Below w1.heap.size w1 (wr.alloc (.cells #[.int .i64 2] 3))) := Lib.hid (HBR.out.alloc HBR.out.size _)
          have HBB : Hid (Below b1 w (wr.alloc (.cells #[.int .i64 2] 3))) := Lib.hid (HBT.out.alloc (by rw [HSW.out]; omega) _)
          have HML : Hid (Sp.mayList cal.day 2 = (decide (1 ≤ n2) && decide (n2 ≤ 4) && !(cal.day.any fun q => !Sp.mayPartB q 2))) := Lib.hid (by
            unfold Sp.mayList
            rw [HLEN.out]
            congr 1
            rw [List.not_any_eq_all_not]
            simp)
          have HFA : Hid (Sp.mayList cal.day 2 = false → MB = false) := Lib.hid (fun hh => by
            rw [HMB.out]; unfold Sp.mayCal; rw [hh]; simp)
          generalize (cal.day.any fun q => !Sp.mayPartB q 2) = any at *
          have hix : ∀ W, (Instr.index 65 (.agg #[.pointer (some ⟨b1, 1, none⟩), .pointer (some ⟨b1, 2, none⟩), .pointer (some ⟨b1, 3, none⟩), .pointer (some ⟨b1, 4, none⟩), .pointer (some ⟨b1, 5, none⟩), .pointer (some ⟨b1, 6, none⟩)]) (.int .i64 2)).run Tryz.prog W = .ok (.pointer (some ⟨b1, 3, none⟩)) W := fun W => index_lists b1 W 2 (by decide)
          go_upto_region 12 with fail
          rw [HSW.out]
          generalize (wr.alloc (.cells #[.int .i64 2] 3)) = wa at *
          clear q0
          by_cases h1 : n2 < 1
          · have z1 : (n2 : Int) < 1 := by omega
            have HF := Lib.hid (HFA.out (by rw [HML.out, decide_eq_false (by omega)]; rfl))
            clear h1
            go_wp2
            rw [HF.out]
            go_ret
            rw [HBS.out]
            exact ⟨rfl, HBB.out⟩
          · have z1 : ¬ (n2 : Int) < 1 := by omega
            by_cases h2 : n2 > 4
            · have z2 : (n2 : Int) > 4 := by omega
              have HF := Lib.hid (HFA.out (by rw [HML.out, decide_eq_false (show ¬ n2 ≤ 4 by omega), Bool.and_false]; rfl))
              clear h2
              go_wp2
              rw [HF.out]
              go_ret
              rw [HBS.out]
              exact ⟨rfl, HBB.out⟩
            · have z2 : ¬ (n2 : Int) > 4 := by omega
              have HNN : Hid (1 ≤ n2 ∧ n2 ≤ 4) := Lib.hid (by omega)
              clear h1 h2
              go_wp2_with fail
              refine HCF.out.mono ?_
              rintro e w3 ⟨rfl, hb3⟩
              have HB3 : Hid (Below w1.heap.size w1 w3) := Lib.hid (HBA.out.trans (hb3.mono HBA.out.size))
              have HB4 : Hid (Below b1 w w3) := Lib.hid (HBB.out.trans (hb3.mono (by have := HBA.out.size; omega)))
              clear hb3 HCF
              cases any with
              | true =>
                have HF := Lib.hid (HFA.out (by rw [HML.out]; simp))
                go_wp2
                rw [HF.out]
                go_ret
                rw [HBS.out]
                exact ⟨rfl, HB4.out⟩
              | false =>
                have HOK : Hid (Sp.mayList cal.day 2 = true) := Lib.hid (by rw [HML.out, decide_eq_true HNN.out.1, decide_eq_true HNN.out.2]; rfl)
                go_wp2
                go_roundw
                case rel => exact ⟨3, by omega, by first | rfl | go_num, HB3, Lib.hid (fun j hj => by
                  by_cases e : j = 2
                  · subst e; exact HOK.out
                  · exact HA.out j (by omega))⟩
                case measure => simp [intOf]
        · rw [show ((3 : Nat) : Int) = 3 from rfl]
          have q0 : wr.cell? ⟨b1, 4, none⟩ = some (.slice A3 n3 c3) := hcell.out 4 _ rfl
          have q1 : (wr.alloc (.cells #[.int .i64 3] 3)).cell? ⟨b1, 4, none⟩ = some (.slice A3 n3 c3) := (((Below.refl wr.heap.size wr).alloc (Nat.le_refl _) (.cells #[.int .i64 3] 3)).cell (p := ⟨b1, 4, none⟩) (by rw [HSW.out]; show b1 < bx; omega)).trans q0
          have HLEN : Hid (cal.hour.length = n3) := Lib.hid (by have h1 := (HGR.out.rf 3 (by decide)).1; rw [partsC_len] at h1; simp only [CalS.sl, Sp.CalD.field] at h1; omega)
          have HCF : Hid (Calls Tryz.prog 39 #[.slice A3 n3 c3, .func (.func 40) #[] #[.pointer (some ⟨bx, 0, none⟩)]] (wr.alloc (.cells #[.int .i64 3] 3)) fun e w' => e = .returned (.bool (cal.hour.any fun q => !Sp.mayPartB q 3)) ∧ Below (wr.alloc (.cells #[.int .i64 3] 3)).heap.size (wr.alloc (.cells #[.int .i64 3] 3)) w') := Lib.hid (by
            have hba : Below wr.heap.size wr (wr.alloc (.cells #[.int .i64 3] 3)) := (Below.refl _ _).alloc (Nat.le_refl _) _
            have hbz : bx < (wr.alloc (.cells #[.int .i64 3] 3)).heap.size := by rw [← HSW.out]; simp
            have hbc : (wr.alloc (.cells #[.int .i64 3] 3)).cell? ⟨bx, 0, none⟩ = some (.int .i64 3) := by rw [← HSW.out]; simp
            refine contains_any (fun q => !Sp.mayPartB q 3) 40 _ (enters_of Tryz.func40 (by kernel_rfl) rfl) cal.hour A3 n3 c3 _ ((((HGR.out.rf 3 (by decide)).below hba)).more hba.size) (HGR.out.bf 3) ?_
            intro W x hx hW
            exact may1_any x 3 bx W ((hW.cell (p := ⟨bx, 0, none⟩) hbz).trans hbc) (by have := hW.size; omega))
          have HBA : Hid (Below w1.heap.size w1 (wr.alloc (.cells #[.int .i64 3] 3))) := Lib.hid (HBR.out.alloc HBR.out.size _)
          have HBB : Hid (Below b1 w (wr.alloc (.cells #[.int .i64 3] 3))) := Lib.hid (HBT.out.alloc (by rw [HSW.out]; omega) _)
          have HML : Hid (Sp.mayList cal.hour 3 = (decide (1 ≤ n3) && decide (n3 ≤ 4) && !(cal.hour.any fun q => !Sp.mayPartB q 3))) := Lib.hid (by
            unfold Sp.mayList
            rw [HLEN.out]
            congr 1
            rw [List.not_any_eq_all_not]
            simp)
          have HFA : Hid (Sp.mayList cal.hour 3 = false → MB = false) := Lib.hid (fun hh => by
            rw [HMB.out]; unfold Sp.mayCal; rw [hh]; simp)
          generalize (cal.hour.any fun q => !Sp.mayPartB q 3) = any at *
          have hix : ∀ W, (Instr.index 65 (.agg #[.pointer (some ⟨b1, 1, none⟩), .pointer (some ⟨b1, 2, none⟩), .pointer (some ⟨b1, 3, none⟩), .pointer (some ⟨b1, 4, none⟩), .pointer (some ⟨b1, 5, none⟩), .pointer (some ⟨b1, 6, none⟩)]) (.int .i64 3)).run Tryz.prog W = .ok (.pointer (some ⟨b1, 4, none⟩)) W := fun W => index_lists b1 W 3 (by decide)
          go_upto_region 12 with fail
          rw [HSW.out]
          generalize (wr.alloc (.cells #[.int .i64 3] 3)) = wa at *
          clear q0
          by_cases h1 : n3 < 1
          · have z1 : (n3 : Int) < 1 := by omega
            have HF := Lib.hid (HFA.out (by rw [HML.out, decide_eq_false (by omega)]; rfl))
            clear h1
            go_wp2
            rw [HF.out]
            go_ret
            rw [HBS.out]
            exact ⟨rfl, HBB.out⟩
          · have z1 : ¬ (n3 : Int) < 1 := by omega
            by_cases h2 : n3 > 4
            · have z2 : (n3 : Int) > 4 := by omega
              have HF := Lib.hid (HFA.out (by rw [HML.out, decide_eq_false (show ¬ n3 ≤ 4 by omega), Bool.and_false]; rfl))
              clear h2
              go_wp2
              rw [HF.out]
              go_ret
              rw [HBS.out]
              exact ⟨rfl, HBB.out⟩
            · have z2 : ¬ (n3 : Int) > 4 := by omega
              have HNN : Hid (1 ≤ n3 ∧ n3 ≤ 4) := Lib.hid (by omega)
              clear h1 h2
              go_wp2_with fail
              refine HCF.out.mono ?_
              rintro e w3 ⟨rfl, hb3⟩
              have HB3 : Hid (Below w1.heap.size w1 w3) := Lib.hid (HBA.out.trans (hb3.mono HBA.out.size))
              have HB4 : Hid (Below b1 w w3) := Lib.hid (HBB.out.trans (hb3.mono (by have := HBA.out.size; omega)))
              clear hb3 HCF
              cases any with
              | true =>
                have HF := Lib.hid (HFA.out (by rw [HML.out]; simp))
                go_wp2
                rw [HF.out]
                go_ret
                rw [HBS.out]
                exact ⟨rfl, HB4.out⟩
              | false =>
                have HOK : Hid (Sp.mayList cal.hour 3 = true) := Lib.hid (by rw [HML.out, decide_eq_true HNN.out.1, decide_eq_true HNN.out.2]; rfl)
                go_wp2
                go_roundw
                case rel => exact ⟨4, by omega, by first | rfl | go_num, HB3, Lib.hid (fun j hj => by
                  by_cases e : j = 3
                  · subst e; exact HOK.out
                  · exact HA.out j (by omega))⟩
                case measure => simp [intOf]
        · rw [show ((4 : Nat) : Int) = 4 from rfl]
          have q0 : wr.cell? ⟨b1, 5, none⟩ = some (.slice A4 n4 c4) := hcell.out 5 _ rfl
          have q1 : (wr.alloc (.cells #[.int .i64 4] 3)).cell? ⟨b1, 5, none⟩ = some (.slice A4 n4 c4) := (((Below.refl wr.heap.size wr).alloc (Nat.le_refl _) (.cells #[.int .i64 4] 3)).cell (p := ⟨b1, 5, none⟩) (by rw [HSW.out]; show b1 < bx; omega)).trans q0
          have HLEN : Hid (cal.min.length = n4) := Lib.hid (by have h1 := (HGR.out.rf 4 (by decide)).1; rw [partsC_len] at h1; simp only [CalS.sl, Sp.CalD.field] at h1; omega)
          have HCF : Hid (Calls Tryz.prog 39 #[.slice A4 n4 c4, .func (.func 40) #[] #[.pointer (some ⟨bx, 0, none⟩)]] (wr.alloc (.cells #[.int .i64 4] 3)) fun e w' => e = .returned (.bool (cal.min.any fun q => !Sp.mayPartB q 4)) ∧ Below (wr.alloc (.cells #[.int .i64 4] 3)).heap.size (wr.alloc (.cells #[.int .i64 4] 3)) w') := Lib.hid (by
            have hba : Below wr.heap.size wr (wr.alloc (.cells #[.int .i64 4] 3)) := (Below.refl _ _).alloc (Nat.le_refl _) _
            have hbz : bx < (wr.alloc (.cells #[.int .i64 4] 3)).heap.size := by rw [← HSW.out]; simp
            have hbc : (wr.alloc (.cells #[.int .i64 4] 3)).cell? ⟨bx, 0, none⟩ = some (.int .i64 4) := by rw [← HSW.out]; simp
            refine contains_any (fun q => !Sp.mayPartB q 4) 40 _ (enters_of Tryz.func40 (by kernel_rfl) rfl) cal.min A4 n4 c4 _ ((((HGR.out.rf 4 (by decide)).below hba)).more hba.size) (HGR.out.bf 4) ?_
            intro W x hx hW
            exact may1_any x 4 bx W ((hW.cell (p := ⟨bx, 0, none⟩) hbz).trans hbc) (by have := hW.size; omega))
          have HBA : Hid (Below w1.heap.size w1 (wr.alloc (.cells #[.int .i64 4] 3))) := Lib.hid (HBR.out.alloc HBR.out.size _)
          have HBB : Hid (Below b1 w (wr.alloc (.cells #[.int .i64 4] 3))) := Lib.hid (HBT.out.alloc (by rw [HSW.out]; omega) _)
          have HML : Hid (Sp.mayList cal.min 4 = (decide (1 ≤ n4) && decide (n4 ≤ 4) && !(cal.min.any fun q => !Sp.mayPartB q 4))) := Lib.hid (by
            unfold Sp.mayList
            rw [HLEN.out]
            congr 1
            rw [List.not_any_eq_all_not]
            simp)
          have HFA : Hid (Sp.mayList cal.min 4 = false → MB = false) := Lib.hid (fun hh => by
            rw [HMB.out]; unfold Sp.mayCal; rw [hh]; simp)
          generalize (cal.min.any fun q => !Sp.mayPartB q 4) = any at *
          have hix : ∀ W, (Instr.index 65 (.agg #[.pointer (some ⟨b1, 1, none⟩), .pointer (some ⟨b1, 2, none⟩), .pointer (some ⟨b1, 3, none⟩), .pointer (some ⟨b1, 4, none⟩), .pointer (some ⟨b1, 5, none⟩), .pointer (some ⟨b1, 6, none⟩)]) (.int .i64 4)).run Tryz.prog W = .ok (.pointer (some ⟨b1, 5, none⟩)) W := fun W => index_lists b1 W 4 (by decide)
          go_upto_region 12 with fail
          rw [HSW.out]
          generalize (wr.alloc (.cells #[.int .i64 4] 3)) = wa at *
          clear q0
          by_cases h1 : n4 < 1
          · have z1 : (n4 : Int) < 1 := by omega
            have HF := Lib.hid (HFA.out (by rw [HML.out, decide_eq_false (by omega)]; rfl))
            clear h1
            go_wp2
            rw [HF.out]
            go_ret
            rw [HBS.out]
            exact ⟨rfl, HBB.out⟩
          · have z1 : ¬ (n4 : Int) < 1 := by omega
            by_cases h2 : n4 > 4
            · have z2 : (n4 : Int) > 4 := by omega
              have HF := Lib.hid (HFA.out (by rw [HML.out, decide_eq_false (show ¬ n4 ≤ 4 by omega), Bool.and_false]; rfl))
              clear h2
              go_wp2
              rw [HF.out]
              go_ret
              rw [HBS.out]
              exact ⟨rfl, HBB.out⟩
            · have z2 : ¬ (n4 : Int) > 4 := by omega
              have HNN : Hid (1 ≤ n4 ∧ n4 ≤ 4) := Lib.hid (by omega)
              clear h1 h2
              go_wp2_with fail
              refine HCF.out.mono ?_
              rintro e w3 ⟨rfl, hb3⟩
              have HB3 : Hid (Below w1.heap.size w1 w3) := Lib.hid (HBA.out.trans (hb3.mono HBA.out.size))
              have HB4 : Hid (Below b1 w w3) := Lib.hid (HBB.out.trans (hb3.mono (by have := HBA.out.size; omega)))
              clear hb3 HCF
              cases any with
              | true =>
                have HF := Lib.hid (HFA.out (by rw [HML.out]; simp))
                go_wp2
                rw [HF.out]
                go_ret
                rw [HBS.out]
                exact ⟨rfl, HB4.out⟩
              | false =>
                have HOK : Hid (Sp.mayList cal.min 4 = true) := Lib.hid (by rw [HML.out, decide_eq_true HNN.out.1, decide_eq_true HNN.out.2]; rfl)
                go_wp2
                go_roundw
                case rel => exact ⟨5, by omega, by first | rfl | go_num, HB3, Lib.hid (fun j hj => by
                  by_cases e : j = 4
                  · subst e; exact HOK.out
                  · exact HA.out j (by omega))⟩
                case measure => simp [intOf]
        · rw [show ((5 : Nat) : Int) = 5 from rfl]
          have q0 : wr.cell? ⟨b1, 6, none⟩ = some (.slice A5 n5 c5) := hcell.out 6 _ rfl
          have q1 : (wr.alloc (.cells #[.int .i64 5] 3)).cell? ⟨b1, 6, none⟩ = some (.slice A5 n5 c5) := (((Below.refl wr.heap.size wr).alloc (Nat.le_refl _) (.cells #[.int .i64 5] 3)).cell (p := ⟨b1, 6, none⟩) (by rw [HSW.out]; show b1 < bx; omega)).trans q0
          have HLEN : Hid (cal.sec.length = n5) := Lib.hid (by have h1 := (HGR.out.rf 5 (by decide)).1; rw [partsC_len] at h1; simp only [CalS.sl, Sp.CalD.field] at h1; omega)
          have HCF : Hid (Calls Tryz.prog 39 #[.slice A5 n5 c5, .func (.func 40) #[] #[.pointer (some ⟨bx, 0, none⟩)]] (wr.alloc (.cells #[.int .i64 5] 3)) fun e w' => e = .returned (.bool (cal.sec.any fun q => !Sp.mayPartB q 5)) ∧ Below (wr.alloc (.cells #[.int .i64 5] 3)).heap.size (wr.alloc (.cells #[.int .i64 5] 3)) w') := Lib.hid (by
            have hba : Below wr.heap.size wr (wr.alloc (.cells #[.int .i64 5] 3)) := (Below.refl _ _).alloc (Nat.le_refl _) _
            have hbz : bx < (wr.alloc (.cells #[.int .i64 5] 3)).heap.size := by rw [← HSW.out]; simp
            have hbc : (wr.alloc (.cells #[.int .i64 5] 3)).cell? ⟨bx, 0, none⟩ = some (.int .i64 5) := by rw [← HSW.out]; simp
            refine contains_any (fun q => !Sp.mayPartB q 5) 40 _ (enters_of Tryz.func40 (by kernel_rfl) rfl) cal.sec A5 n5 c5 _ ((((HGR.out.rf 5 (by decide)).below hba)).more hba.size) (HGR.out.bf 5) ?_
            intro W x hx hW
            exact may1_any x 5 bx W ((hW.cell (p := ⟨bx, 0, none⟩) hbz).trans hbc) (by have := hW.size; omega))
          have HBA : Hid (Below w1.heap.size w1 (wr.alloc (.cells #[.int .i64 5] 3))) := Lib.hid (HBR.out.alloc HBR.out.size _)
          have HBB : Hid (Below b1 w (wr.alloc (.cells #[.int .i64 5] 3))) := Lib.hid (HBT.out.alloc (by rw [HSW.out]; omega) _)
          have HML : Hid (Sp.mayList cal.sec 5 = (decide (1 ≤ n5) && decide (n5 ≤ 4) && !(cal.sec.any fun q => !Sp.mayPartB q 5))) := Lib.hid (by
            unfold Sp.mayList
            rw [HLEN.out]
            congr 1
            rw [List.not_any_eq_all_not]
            simp)
          have HFA : Hid (Sp.mayList cal.sec 5 = false → MB = false) := Lib.hid (fun hh => by
            rw [HMB.out]; unfold Sp.mayCal; rw [hh]; simp)
          generalize (cal.sec.any fun q => !Sp.mayPartB q 5) = any at *
          have hix : ∀ W, (Instr.index 65 (.agg #[.pointer (some ⟨b1, 1, none⟩), .pointer (some ⟨b1, 2, none⟩), .pointer (some ⟨b1, 3, none⟩), .pointer (some ⟨b1, 4, none⟩), .pointer (some ⟨b1, 5, none⟩), .pointer (some ⟨b1, 6, none⟩)]) (.int .i64 5)).run Tryz.prog W = .ok (.pointer (some ⟨b1, 6, none⟩)) W := fun W => index_lists b1 W 5 (by decide)
          go_upto_region 12 with fail
          rw [HSW.out]
          generalize (wr.alloc (.cells #[.int .i64 5] 3)) = wa at *
          clear q0
          by_cases h1 : n5 < 1
          · have z1 : (n5 : Int) < 1 := by omega
            have HF := Lib.hid (HFA.out (by rw [HML.out, decide_eq_false (by omega)]; rfl))
            clear h1
            go_wp2
            rw [HF.out]
            go_ret
            rw [HBS.out]
            exact ⟨rfl, HBB.out⟩
          · have z1 : ¬ (n5 : Int) < 1 := by omega
            by_cases h2 : n5 > 4
            · have z2 : (n5 : Int) > 4 := by omega
              have HF := Lib.hid (HFA.out (by rw [HML.out, decide_eq_false (show ¬ n5 ≤ 4 by omega), Bool.and_false]; rfl))
              clear h2
              go_wp2
              rw [HF.out]
              go_ret
              rw [HBS.out]
              exact ⟨rfl, HBB.out⟩
            · have z2 : ¬ (n5 : Int) > 4 := by omega
              have HNN : Hid (1 ≤ n5 ∧ n5 ≤ 4) := Lib.hid (by omega)
              clear h1 h2
              go_wp2_with fail
              refine HCF.out.mono ?_
              rintro e w3 ⟨rfl, hb3⟩
              have HB3 : Hid (Below w1.heap.size w1 w3) := Lib.hid (HBA.out.trans (hb3.mono HBA.out.size))
              have HB4 : Hid (Below b1 w w3) := Lib.hid (HBB.out.trans (hb3.mono (by have := HBA.out.size; omega)))
              clear hb3 HCF
              cases any with
              | true =>
                have HF := Lib.hid (HFA.out (by rw [HML.out]; simp))
                go_wp2
                rw [HF.out]
                go_ret
                rw [HBS.out]
                exact ⟨rfl, HB4.out⟩
              | false =>
                have HOK : Hid (Sp.mayList cal.sec 5 = true) := Lib.hid (by rw [HML.out, decide_eq_true HNN.out.1, decide_eq_true HNN.out.2]; rfl)
                go_wp2
                go_roundw
                case rel => exact ⟨6, by omega, by first | rfl | go_num, HB3, Lib.hid (fun j hj => by
                  by_cases e : j = 5
                  · subst e; exact HOK.out
                  · exact HA.out j (by omega))⟩
                case measure => simp [intOf]
        · rw [show ((6 : Nat) : Int) = 6 from rfl]
          have HT : Hid (MB = true) := Lib.hid (by
            rw [HMB.out]
            unfold Sp.mayCal
            rw [HDT.out, show Sp.mayList cal.year 0 = true from HA.out 0 (by decide), show Sp.mayList cal.month 1 = true from HA.out 1 (by decide), show Sp.mayList cal.day 2 = true from HA.out 2 (by decide), show Sp.mayList cal.hour 3 = true from HA.out 3 (by decide), show Sp.mayList cal.min 4 = true from HA.out 4 (by decide), show Sp.mayList cal.sec 5 = true from HA.out 5 (by decide)]
            rfl)
          go_wp2
          rw [HT.out]
          go_ret
          rw [HBS.out]
          exact ⟨rfl, HBT.out⟩

end Go.Proofs.YtpkpoglmmjaoeaaGreatDoor
