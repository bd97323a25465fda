/-
  The walk that says whether an act may be.
-/
import Derived.Test.YtkfeicgeobhccaaWc
import Derived.Test.YtkfeicgeobhccaaNm4
namespace Go.Proofs.Ytkfeicgeobhccaa
open Go.RowKit

/-- may an act be? -/
def actB (a : ActD) : Bool :=
  (Sp.kindL a.unit.data.toList == 1) && (decide (1 ≤ a.part) && (decide (a.part ≤ 5) && (decide (-1 ≤ a.num) && (decide (a.num ≤ 15) && (decide (0 ≤ a.att) && (decide (a.att ≤ 1000) && (spanB a.lasts && (spanB a.ready && (spanB a.dies && (decide (0 ≤ a.code) && (decide (a.code ≤ 256) && saysB a.says)))))))))))
/-- the act's texts lie there -/
def ActIn (w : World) (B : Nat) (a : ActD) : Prop := Rd w B 2 a.sA a.sn (sayCells a.says) ∧ a.sn ≤ 140737488355328 ∧ a.unit.size ≤ 140737488355328 ∧ ∀ p ∈ a.says, p.2.size ≤ 140737488355328

set_option maxRecDepth 100000 in
set_option maxHeartbeats 8000000 in
theorem mayact_any (a : ActD) (w : World) (B : Nat) (h : ActIn w B a) (hB : B ≤ w.heap.size) :
    Calls Try.prog 26 #[actV a] w fun e w' => e = .returned (.bool (actB a)) ∧ Below w.heap.size w w' := by
  obtain ⟨un, pa, nu, at_, la, co, re, di, sA, sn, sc, sy⟩ := a
  obtain ⟨hr, hsn, hun, hsy⟩ := h
  dsimp only at hr hsn hun hsy
  have HSY := Lib.hid hsy
  have HR := Lib.hid hr
  clear hsy hr
  have HA : Hid (∀ kd, Sp.kindL un.data.toList = kd → actB ⟨un, pa, nu, at_, la, co, re, di, sA, sn, sc, sy⟩ = ((kd == 1) && (decide (1 ≤ pa) && (decide (pa ≤ 5) && (decide (-1 ≤ nu) && (decide (nu ≤ 15) && (decide (0 ≤ at_) && (decide (at_ ≤ 1000) && (spanB la && (spanB re && (spanB di && (decide (0 ≤ co) && (decide (co ≤ 256) && saysB sy))))))))))))) := Lib.hid (by intro kd hk; subst hk; rfl)
  show Calls Try.prog 26 #[.agg #[.string un, .int .i64 pa, .int .i64 nu, .int .i64 at_, .int .i64 la, .int .i64 co, .int .i64 re, .int .i64 di, .slice sA sn sc]] w _
  generalize hres : actB ⟨un, pa, nu, at_, la, co, re, di, sA, sn, sc, sy⟩ = res at *
  generalize hkd : Sp.kindL un.data.toList = kd at *
  have HKD := Lib.hid hkd
  have HV : Hid (res = ((kd == 1) && (decide (1 ≤ pa) && (decide (pa ≤ 5) && (decide (-1 ≤ nu) && (decide (nu ≤ 15) && (decide (0 ≤ at_) && (decide (at_ ≤ 1000) && (spanB la && (spanB re && (spanB di && (decide (0 ≤ co) && (decide (co ≤ 256) && saysB sy))))))))))))) := Lib.hid (HA.out kd rfl)
  clear hkd hres HA
  cases c0 : (kd == 1) with
  | false =>
    have HRES : Hid (res = false) := Lib.hid (by rw [HV.out]; simp [c0])
    clear HV
    go_enter Try.func26, Try.ntmps26
    go_wp2_with fail
    refine (kind_any un _ (by omega)).mono ?_
    rintro e w1 ⟨rfl, hb1⟩
    rw [HKD.out]
    have b0 : w1.cell? ⟨w.heap.size, 0, none⟩ = some (.string un) := (hb1.cell (p := ⟨w.heap.size, 0, none⟩) (by simp)).trans (by go_simp)
    have b1 : w1.cell? ⟨w.heap.size, 1, none⟩ = some (.int .i64 pa) := (hb1.cell (p := ⟨w.heap.size, 1, none⟩) (by simp)).trans (by go_simp)
    have b2 : w1.cell? ⟨w.heap.size, 2, none⟩ = some (.int .i64 nu) := (hb1.cell (p := ⟨w.heap.size, 2, none⟩) (by simp)).trans (by go_simp)
    have b3 : w1.cell? ⟨w.heap.size, 3, none⟩ = some (.int .i64 at_) := (hb1.cell (p := ⟨w.heap.size, 3, none⟩) (by simp)).trans (by go_simp)
    have b4 : w1.cell? ⟨w.heap.size, 4, none⟩ = some (.int .i64 la) := (hb1.cell (p := ⟨w.heap.size, 4, none⟩) (by simp)).trans (by go_simp)
    have b5 : w1.cell? ⟨w.heap.size, 5, none⟩ = some (.int .i64 co) := (hb1.cell (p := ⟨w.heap.size, 5, none⟩) (by simp)).trans (by go_simp)
    have b6 : w1.cell? ⟨w.heap.size, 6, none⟩ = some (.int .i64 re) := (hb1.cell (p := ⟨w.heap.size, 6, none⟩) (by simp)).trans (by go_simp)
    have b7 : w1.cell? ⟨w.heap.size, 7, none⟩ = some (.int .i64 di) := (hb1.cell (p := ⟨w.heap.size, 7, none⟩) (by simp)).trans (by go_simp)
    have b8 : w1.cell? ⟨w.heap.size, 8, none⟩ = some (.slice sA sn sc) := (hb1.cell (p := ⟨w.heap.size, 8, none⟩) (by simp)).trans (by go_simp)
    have hbb := ((Below.refl w.heap.size w).alloc (Nat.le_refl _) (.cells #[.string un, .int .i64 pa, .int .i64 nu, .int .i64 at_, .int .i64 la, .int .i64 co, .int .i64 re, .int .i64 di, .slice sA sn sc] 38)).trans (hb1.mono (by simp))
    clear hb1
    go_wp2
    go_ret
    exact ⟨ret_bool HRES.out.symm, hbb⟩
  | true =>
    by_cases c1 : (1 : Int) ≤ pa
    · skip
      by_cases c2 : pa ≤ 5
      · skip
        by_cases c3 : (-1 : Int) ≤ nu
        · skip
          by_cases c4 : nu ≤ 15
          · skip
            by_cases c5 : (0 : Int) ≤ at_
            · skip
              by_cases c6 : at_ ≤ 1000
              · skip
                cases c7 : spanB la with
                | false =>
                  have HRES : Hid (res = false) := Lib.hid (by rw [HV.out]; simp [c0, c1, c2, c3, c4, c5, c6, c7])
                  clear HV
                  have Hla := Lib.hid c7
                  clear c7
                  go_enter Try.func26, Try.ntmps26
                  go_wp2_with fail
                  refine (kind_any un _ (by omega)).mono ?_
                  rintro e w1 ⟨rfl, hb1⟩
                  rw [HKD.out]
                  have b0 : w1.cell? ⟨w.heap.size, 0, none⟩ = some (.string un) := (hb1.cell (p := ⟨w.heap.size, 0, none⟩) (by simp)).trans (by go_simp)
                  have b1 : w1.cell? ⟨w.heap.size, 1, none⟩ = some (.int .i64 pa) := (hb1.cell (p := ⟨w.heap.size, 1, none⟩) (by simp)).trans (by go_simp)
                  have b2 : w1.cell? ⟨w.heap.size, 2, none⟩ = some (.int .i64 nu) := (hb1.cell (p := ⟨w.heap.size, 2, none⟩) (by simp)).trans (by go_simp)
                  have b3 : w1.cell? ⟨w.heap.size, 3, none⟩ = some (.int .i64 at_) := (hb1.cell (p := ⟨w.heap.size, 3, none⟩) (by simp)).trans (by go_simp)
                  have b4 : w1.cell? ⟨w.heap.size, 4, none⟩ = some (.int .i64 la) := (hb1.cell (p := ⟨w.heap.size, 4, none⟩) (by simp)).trans (by go_simp)
                  have b5 : w1.cell? ⟨w.heap.size, 5, none⟩ = some (.int .i64 co) := (hb1.cell (p := ⟨w.heap.size, 5, none⟩) (by simp)).trans (by go_simp)
                  have b6 : w1.cell? ⟨w.heap.size, 6, none⟩ = some (.int .i64 re) := (hb1.cell (p := ⟨w.heap.size, 6, none⟩) (by simp)).trans (by go_simp)
                  have b7 : w1.cell? ⟨w.heap.size, 7, none⟩ = some (.int .i64 di) := (hb1.cell (p := ⟨w.heap.size, 7, none⟩) (by simp)).trans (by go_simp)
                  have b8 : w1.cell? ⟨w.heap.size, 8, none⟩ = some (.slice sA sn sc) := (hb1.cell (p := ⟨w.heap.size, 8, none⟩) (by simp)).trans (by go_simp)
                  have hbb := ((Below.refl w.heap.size w).alloc (Nat.le_refl _) (.cells #[.string un, .int .i64 pa, .int .i64 nu, .int .i64 at_, .int .i64 la, .int .i64 co, .int .i64 re, .int .i64 di, .slice sA sn sc] 38)).trans (hb1.mono (by simp))
                  clear hb1
                  go_wp2_with fail
                  refine (span_any la _).mono ?_
                  rintro e w' ⟨rfl, rfl⟩
                  rw [Hla.out]
                  go_wp2
                  go_ret
                  exact ⟨ret_bool HRES.out.symm, hbb⟩
                | true =>
                  have Hla := Lib.hid c7
                  cases c8 : spanB re with
                  | false =>
                    have HRES : Hid (res = false) := Lib.hid (by rw [HV.out]; simp [c0, c1, c2, c3, c4, c5, c6, c7, c8])
                    clear HV
                    have Hre := Lib.hid c8
                    clear c8
                    clear c7
                    go_enter Try.func26, Try.ntmps26
                    go_wp2_with fail
                    refine (kind_any un _ (by omega)).mono ?_
                    rintro e w1 ⟨rfl, hb1⟩
                    rw [HKD.out]
                    have b0 : w1.cell? ⟨w.heap.size, 0, none⟩ = some (.string un) := (hb1.cell (p := ⟨w.heap.size, 0, none⟩) (by simp)).trans (by go_simp)
                    have b1 : w1.cell? ⟨w.heap.size, 1, none⟩ = some (.int .i64 pa) := (hb1.cell (p := ⟨w.heap.size, 1, none⟩) (by simp)).trans (by go_simp)
                    have b2 : w1.cell? ⟨w.heap.size, 2, none⟩ = some (.int .i64 nu) := (hb1.cell (p := ⟨w.heap.size, 2, none⟩) (by simp)).trans (by go_simp)
                    have b3 : w1.cell? ⟨w.heap.size, 3, none⟩ = some (.int .i64 at_) := (hb1.cell (p := ⟨w.heap.size, 3, none⟩) (by simp)).trans (by go_simp)
                    have b4 : w1.cell? ⟨w.heap.size, 4, none⟩ = some (.int .i64 la) := (hb1.cell (p := ⟨w.heap.size, 4, none⟩) (by simp)).trans (by go_simp)
                    have b5 : w1.cell? ⟨w.heap.size, 5, none⟩ = some (.int .i64 co) := (hb1.cell (p := ⟨w.heap.size, 5, none⟩) (by simp)).trans (by go_simp)
                    have b6 : w1.cell? ⟨w.heap.size, 6, none⟩ = some (.int .i64 re) := (hb1.cell (p := ⟨w.heap.size, 6, none⟩) (by simp)).trans (by go_simp)
                    have b7 : w1.cell? ⟨w.heap.size, 7, none⟩ = some (.int .i64 di) := (hb1.cell (p := ⟨w.heap.size, 7, none⟩) (by simp)).trans (by go_simp)
                    have b8 : w1.cell? ⟨w.heap.size, 8, none⟩ = some (.slice sA sn sc) := (hb1.cell (p := ⟨w.heap.size, 8, none⟩) (by simp)).trans (by go_simp)
                    have hbb := ((Below.refl w.heap.size w).alloc (Nat.le_refl _) (.cells #[.string un, .int .i64 pa, .int .i64 nu, .int .i64 at_, .int .i64 la, .int .i64 co, .int .i64 re, .int .i64 di, .slice sA sn sc] 38)).trans (hb1.mono (by simp))
                    clear hb1
                    go_wp2_with fail
                    refine (span_any la _).mono ?_
                    rintro e w' ⟨rfl, rfl⟩
                    rw [Hla.out]
                    go_wp2_with fail
                    refine (span_any re _).mono ?_
                    rintro e w' ⟨rfl, rfl⟩
                    rw [Hre.out]
                    go_wp2
                    go_ret
                    exact ⟨ret_bool HRES.out.symm, hbb⟩
                  | true =>
                    have Hre := Lib.hid c8
                    cases c9 : spanB di with
                    | false =>
                      have HRES : Hid (res = false) := Lib.hid (by rw [HV.out]; simp [c0, c1, c2, c3, c4, c5, c6, c7, c8, c9])
                      clear HV
                      have Hdi := Lib.hid c9
                      clear c9
                      clear c7 c8
                      go_enter Try.func26, Try.ntmps26
                      go_wp2_with fail
                      refine (kind_any un _ (by omega)).mono ?_
                      rintro e w1 ⟨rfl, hb1⟩
                      rw [HKD.out]
                      have b0 : w1.cell? ⟨w.heap.size, 0, none⟩ = some (.string un) := (hb1.cell (p := ⟨w.heap.size, 0, none⟩) (by simp)).trans (by go_simp)
                      have b1 : w1.cell? ⟨w.heap.size, 1, none⟩ = some (.int .i64 pa) := (hb1.cell (p := ⟨w.heap.size, 1, none⟩) (by simp)).trans (by go_simp)
                      have b2 : w1.cell? ⟨w.heap.size, 2, none⟩ = some (.int .i64 nu) := (hb1.cell (p := ⟨w.heap.size, 2, none⟩) (by simp)).trans (by go_simp)
                      have b3 : w1.cell? ⟨w.heap.size, 3, none⟩ = some (.int .i64 at_) := (hb1.cell (p := ⟨w.heap.size, 3, none⟩) (by simp)).trans (by go_simp)
                      have b4 : w1.cell? ⟨w.heap.size, 4, none⟩ = some (.int .i64 la) := (hb1.cell (p := ⟨w.heap.size, 4, none⟩) (by simp)).trans (by go_simp)
                      have b5 : w1.cell? ⟨w.heap.size, 5, none⟩ = some (.int .i64 co) := (hb1.cell (p := ⟨w.heap.size, 5, none⟩) (by simp)).trans (by go_simp)
                      have b6 : w1.cell? ⟨w.heap.size, 6, none⟩ = some (.int .i64 re) := (hb1.cell (p := ⟨w.heap.size, 6, none⟩) (by simp)).trans (by go_simp)
                      have b7 : w1.cell? ⟨w.heap.size, 7, none⟩ = some (.int .i64 di) := (hb1.cell (p := ⟨w.heap.size, 7, none⟩) (by simp)).trans (by go_simp)
                      have b8 : w1.cell? ⟨w.heap.size, 8, none⟩ = some (.slice sA sn sc) := (hb1.cell (p := ⟨w.heap.size, 8, none⟩) (by simp)).trans (by go_simp)
                      have hbb := ((Below.refl w.heap.size w).alloc (Nat.le_refl _) (.cells #[.string un, .int .i64 pa, .int .i64 nu, .int .i64 at_, .int .i64 la, .int .i64 co, .int .i64 re, .int .i64 di, .slice sA sn sc] 38)).trans (hb1.mono (by simp))
                      clear hb1
                      go_wp2_with fail
                      refine (span_any la _).mono ?_
                      rintro e w' ⟨rfl, rfl⟩
                      rw [Hla.out]
                      go_wp2_with fail
                      refine (span_any re _).mono ?_
                      rintro e w' ⟨rfl, rfl⟩
                      rw [Hre.out]
                      go_wp2_with fail
                      refine (span_any di _).mono ?_
                      rintro e w' ⟨rfl, rfl⟩
                      rw [Hdi.out]
                      go_wp2
                      go_ret
                      exact ⟨ret_bool HRES.out.symm, hbb⟩
                    | true =>
                      have Hdi := Lib.hid c9
                      by_cases c10 : (0 : Int) ≤ co
                      · skip
                        by_cases c11 : co ≤ 256
                        · skip
                          cases c12 : saysB sy with
                          | false =>
                            have HRES : Hid (res = false) := Lib.hid (by rw [HV.out]; simp [c0, c1, c2, c3, c4, c5, c6, c7, c8, c9, c10, c11, c12])
                            clear HV
                            have Hsays := Lib.hid c12
                            clear c12
                            clear c7 c8 c9
                            go_enter Try.func26, Try.ntmps26
                            go_wp2_with fail
                            refine (kind_any un _ (by omega)).mono ?_
                            rintro e w1 ⟨rfl, hb1⟩
                            rw [HKD.out]
                            have b0 : w1.cell? ⟨w.heap.size, 0, none⟩ = some (.string un) := (hb1.cell (p := ⟨w.heap.size, 0, none⟩) (by simp)).trans (by go_simp)
                            have b1 : w1.cell? ⟨w.heap.size, 1, none⟩ = some (.int .i64 pa) := (hb1.cell (p := ⟨w.heap.size, 1, none⟩) (by simp)).trans (by go_simp)
                            have b2 : w1.cell? ⟨w.heap.size, 2, none⟩ = some (.int .i64 nu) := (hb1.cell (p := ⟨w.heap.size, 2, none⟩) (by simp)).trans (by go_simp)
                            have b3 : w1.cell? ⟨w.heap.size, 3, none⟩ = some (.int .i64 at_) := (hb1.cell (p := ⟨w.heap.size, 3, none⟩) (by simp)).trans (by go_simp)
                            have b4 : w1.cell? ⟨w.heap.size, 4, none⟩ = some (.int .i64 la) := (hb1.cell (p := ⟨w.heap.size, 4, none⟩) (by simp)).trans (by go_simp)
                            have b5 : w1.cell? ⟨w.heap.size, 5, none⟩ = some (.int .i64 co) := (hb1.cell (p := ⟨w.heap.size, 5, none⟩) (by simp)).trans (by go_simp)
                            have b6 : w1.cell? ⟨w.heap.size, 6, none⟩ = some (.int .i64 re) := (hb1.cell (p := ⟨w.heap.size, 6, none⟩) (by simp)).trans (by go_simp)
                            have b7 : w1.cell? ⟨w.heap.size, 7, none⟩ = some (.int .i64 di) := (hb1.cell (p := ⟨w.heap.size, 7, none⟩) (by simp)).trans (by go_simp)
                            have b8 : w1.cell? ⟨w.heap.size, 8, none⟩ = some (.slice sA sn sc) := (hb1.cell (p := ⟨w.heap.size, 8, none⟩) (by simp)).trans (by go_simp)
                            have hbb := ((Below.refl w.heap.size w).alloc (Nat.le_refl _) (.cells #[.string un, .int .i64 pa, .int .i64 nu, .int .i64 at_, .int .i64 la, .int .i64 co, .int .i64 re, .int .i64 di, .slice sA sn sc] 38)).trans (hb1.mono (by simp))
                            clear hb1
                            go_wp2_with fail
                            refine (span_any la _).mono ?_
                            rintro e w' ⟨rfl, rfl⟩
                            rw [Hla.out]
                            go_wp2_with fail
                            refine (span_any re _).mono ?_
                            rintro e w' ⟨rfl, rfl⟩
                            rw [Hre.out]
                            go_wp2_with fail
                            refine (span_any di _).mono ?_
                            rintro e w' ⟨rfl, rfl⟩
                            rw [Hdi.out]
                            go_wp2_with fail
                            refine (says_any sA sn sc B sy w1 (HR.out.below (hbb.mono hB)) (Nat.le_trans hB hbb.size) HSY.out hsn).mono ?_
                            rintro e w2 ⟨rfl, hb2⟩
                            rw [Hsays.out]
                            have hbb2 := hbb.trans (hb2.mono hbb.size)
                            go_wp2
                            go_ret
                            exact ⟨ret_bool HRES.out.symm, hbb2⟩
                          | true =>
                            have Hsays := Lib.hid c12
                            have HRES : Hid (res = true) := Lib.hid (by rw [HV.out]; simp [c0, c1, c2, c3, c4, c5, c6, c7, c8, c9, c10, c11, c12])
                            clear HV
                            clear c7 c8 c9 c12
                            go_enter Try.func26, Try.ntmps26
                            go_wp2_with fail
                            refine (kind_any un _ (by omega)).mono ?_
                            rintro e w1 ⟨rfl, hb1⟩
                            rw [HKD.out]
                            have b0 : w1.cell? ⟨w.heap.size, 0, none⟩ = some (.string un) := (hb1.cell (p := ⟨w.heap.size, 0, none⟩) (by simp)).trans (by go_simp)
                            have b1 : w1.cell? ⟨w.heap.size, 1, none⟩ = some (.int .i64 pa) := (hb1.cell (p := ⟨w.heap.size, 1, none⟩) (by simp)).trans (by go_simp)
                            have b2 : w1.cell? ⟨w.heap.size, 2, none⟩ = some (.int .i64 nu) := (hb1.cell (p := ⟨w.heap.size, 2, none⟩) (by simp)).trans (by go_simp)
                            have b3 : w1.cell? ⟨w.heap.size, 3, none⟩ = some (.int .i64 at_) := (hb1.cell (p := ⟨w.heap.size, 3, none⟩) (by simp)).trans (by go_simp)
                            have b4 : w1.cell? ⟨w.heap.size, 4, none⟩ = some (.int .i64 la) := (hb1.cell (p := ⟨w.heap.size, 4, none⟩) (by simp)).trans (by go_simp)
                            have b5 : w1.cell? ⟨w.heap.size, 5, none⟩ = some (.int .i64 co) := (hb1.cell (p := ⟨w.heap.size, 5, none⟩) (by simp)).trans (by go_simp)
                            have b6 : w1.cell? ⟨w.heap.size, 6, none⟩ = some (.int .i64 re) := (hb1.cell (p := ⟨w.heap.size, 6, none⟩) (by simp)).trans (by go_simp)
                            have b7 : w1.cell? ⟨w.heap.size, 7, none⟩ = some (.int .i64 di) := (hb1.cell (p := ⟨w.heap.size, 7, none⟩) (by simp)).trans (by go_simp)
                            have b8 : w1.cell? ⟨w.heap.size, 8, none⟩ = some (.slice sA sn sc) := (hb1.cell (p := ⟨w.heap.size, 8, none⟩) (by simp)).trans (by go_simp)
                            have hbb := ((Below.refl w.heap.size w).alloc (Nat.le_refl _) (.cells #[.string un, .int .i64 pa, .int .i64 nu, .int .i64 at_, .int .i64 la, .int .i64 co, .int .i64 re, .int .i64 di, .slice sA sn sc] 38)).trans (hb1.mono (by simp))
                            clear hb1
                            go_wp2_with fail
                            refine (span_any la _).mono ?_
                            rintro e w' ⟨rfl, rfl⟩
                            rw [Hla.out]
                            go_wp2_with fail
                            refine (span_any re _).mono ?_
                            rintro e w' ⟨rfl, rfl⟩
                            rw [Hre.out]
                            go_wp2_with fail
                            refine (span_any di _).mono ?_
                            rintro e w' ⟨rfl, rfl⟩
                            rw [Hdi.out]
                            go_wp2_with fail
                            refine (says_any sA sn sc B sy w1 (HR.out.below (hbb.mono hB)) (Nat.le_trans hB hbb.size) HSY.out hsn).mono ?_
                            rintro e w2 ⟨rfl, hb2⟩
                            rw [Hsays.out]
                            have hbb2 := hbb.trans (hb2.mono hbb.size)
                            go_wp2
                            go_ret
                            exact ⟨ret_bool HRES.out.symm, hbb2⟩
                        · skip
                          have HRES : Hid (res = false) := Lib.hid (by rw [HV.out]; simp [c0, c1, c2, c3, c4, c5, c6, c7, c8, c9, c10, c11])
                          clear HV
                          clear c7 c8 c9
                          go_enter Try.func26, Try.ntmps26
                          go_wp2_with fail
                          refine (kind_any un _ (by omega)).mono ?_
                          rintro e w1 ⟨rfl, hb1⟩
                          rw [HKD.out]
                          have b0 : w1.cell? ⟨w.heap.size, 0, none⟩ = some (.string un) := (hb1.cell (p := ⟨w.heap.size, 0, none⟩) (by simp)).trans (by go_simp)
                          have b1 : w1.cell? ⟨w.heap.size, 1, none⟩ = some (.int .i64 pa) := (hb1.cell (p := ⟨w.heap.size, 1, none⟩) (by simp)).trans (by go_simp)
                          have b2 : w1.cell? ⟨w.heap.size, 2, none⟩ = some (.int .i64 nu) := (hb1.cell (p := ⟨w.heap.size, 2, none⟩) (by simp)).trans (by go_simp)
                          have b3 : w1.cell? ⟨w.heap.size, 3, none⟩ = some (.int .i64 at_) := (hb1.cell (p := ⟨w.heap.size, 3, none⟩) (by simp)).trans (by go_simp)
                          have b4 : w1.cell? ⟨w.heap.size, 4, none⟩ = some (.int .i64 la) := (hb1.cell (p := ⟨w.heap.size, 4, none⟩) (by simp)).trans (by go_simp)
                          have b5 : w1.cell? ⟨w.heap.size, 5, none⟩ = some (.int .i64 co) := (hb1.cell (p := ⟨w.heap.size, 5, none⟩) (by simp)).trans (by go_simp)
                          have b6 : w1.cell? ⟨w.heap.size, 6, none⟩ = some (.int .i64 re) := (hb1.cell (p := ⟨w.heap.size, 6, none⟩) (by simp)).trans (by go_simp)
                          have b7 : w1.cell? ⟨w.heap.size, 7, none⟩ = some (.int .i64 di) := (hb1.cell (p := ⟨w.heap.size, 7, none⟩) (by simp)).trans (by go_simp)
                          have b8 : w1.cell? ⟨w.heap.size, 8, none⟩ = some (.slice sA sn sc) := (hb1.cell (p := ⟨w.heap.size, 8, none⟩) (by simp)).trans (by go_simp)
                          have hbb := ((Below.refl w.heap.size w).alloc (Nat.le_refl _) (.cells #[.string un, .int .i64 pa, .int .i64 nu, .int .i64 at_, .int .i64 la, .int .i64 co, .int .i64 re, .int .i64 di, .slice sA sn sc] 38)).trans (hb1.mono (by simp))
                          clear hb1
                          go_wp2_with fail
                          refine (span_any la _).mono ?_
                          rintro e w' ⟨rfl, rfl⟩
                          rw [Hla.out]
                          go_wp2_with fail
                          refine (span_any re _).mono ?_
                          rintro e w' ⟨rfl, rfl⟩
                          rw [Hre.out]
                          go_wp2_with fail
                          refine (span_any di _).mono ?_
                          rintro e w' ⟨rfl, rfl⟩
                          rw [Hdi.out]
                          go_wp2
                          go_ret
                          exact ⟨ret_bool HRES.out.symm, hbb⟩
                      · skip
                        have HRES : Hid (res = false) := Lib.hid (by rw [HV.out]; simp [c0, c1, c2, c3, c4, c5, c6, c7, c8, c9, c10])
                        clear HV
                        clear c7 c8 c9
                        go_enter Try.func26, Try.ntmps26
                        go_wp2_with fail
                        refine (kind_any un _ (by omega)).mono ?_
                        rintro e w1 ⟨rfl, hb1⟩
                        rw [HKD.out]
                        have b0 : w1.cell? ⟨w.heap.size, 0, none⟩ = some (.string un) := (hb1.cell (p := ⟨w.heap.size, 0, none⟩) (by simp)).trans (by go_simp)
                        have b1 : w1.cell? ⟨w.heap.size, 1, none⟩ = some (.int .i64 pa) := (hb1.cell (p := ⟨w.heap.size, 1, none⟩) (by simp)).trans (by go_simp)
                        have b2 : w1.cell? ⟨w.heap.size, 2, none⟩ = some (.int .i64 nu) := (hb1.cell (p := ⟨w.heap.size, 2, none⟩) (by simp)).trans (by go_simp)
                        have b3 : w1.cell? ⟨w.heap.size, 3, none⟩ = some (.int .i64 at_) := (hb1.cell (p := ⟨w.heap.size, 3, none⟩) (by simp)).trans (by go_simp)
                        have b4 : w1.cell? ⟨w.heap.size, 4, none⟩ = some (.int .i64 la) := (hb1.cell (p := ⟨w.heap.size, 4, none⟩) (by simp)).trans (by go_simp)
                        have b5 : w1.cell? ⟨w.heap.size, 5, none⟩ = some (.int .i64 co) := (hb1.cell (p := ⟨w.heap.size, 5, none⟩) (by simp)).trans (by go_simp)
                        have b6 : w1.cell? ⟨w.heap.size, 6, none⟩ = some (.int .i64 re) := (hb1.cell (p := ⟨w.heap.size, 6, none⟩) (by simp)).trans (by go_simp)
                        have b7 : w1.cell? ⟨w.heap.size, 7, none⟩ = some (.int .i64 di) := (hb1.cell (p := ⟨w.heap.size, 7, none⟩) (by simp)).trans (by go_simp)
                        have b8 : w1.cell? ⟨w.heap.size, 8, none⟩ = some (.slice sA sn sc) := (hb1.cell (p := ⟨w.heap.size, 8, none⟩) (by simp)).trans (by go_simp)
                        have hbb := ((Below.refl w.heap.size w).alloc (Nat.le_refl _) (.cells #[.string un, .int .i64 pa, .int .i64 nu, .int .i64 at_, .int .i64 la, .int .i64 co, .int .i64 re, .int .i64 di, .slice sA sn sc] 38)).trans (hb1.mono (by simp))
                        clear hb1
                        go_wp2_with fail
                        refine (span_any la _).mono ?_
                        rintro e w' ⟨rfl, rfl⟩
                        rw [Hla.out]
                        go_wp2_with fail
                        refine (span_any re _).mono ?_
                        rintro e w' ⟨rfl, rfl⟩
                        rw [Hre.out]
                        go_wp2_with fail
                        refine (span_any di _).mono ?_
                        rintro e w' ⟨rfl, rfl⟩
                        rw [Hdi.out]
                        go_wp2
                        go_ret
                        exact ⟨ret_bool HRES.out.symm, hbb⟩
              · skip
                have HRES : Hid (res = false) := Lib.hid (by rw [HV.out]; simp [c0, c1, c2, c3, c4, c5, c6])
                clear HV
                go_enter Try.func26, Try.ntmps26
                go_wp2_with fail
                refine (kind_any un _ (by omega)).mono ?_
                rintro e w1 ⟨rfl, hb1⟩
                rw [HKD.out]
                have b0 : w1.cell? ⟨w.heap.size, 0, none⟩ = some (.string un) := (hb1.cell (p := ⟨w.heap.size, 0, none⟩) (by simp)).trans (by go_simp)
                have b1 : w1.cell? ⟨w.heap.size, 1, none⟩ = some (.int .i64 pa) := (hb1.cell (p := ⟨w.heap.size, 1, none⟩) (by simp)).trans (by go_simp)
                have b2 : w1.cell? ⟨w.heap.size, 2, none⟩ = some (.int .i64 nu) := (hb1.cell (p := ⟨w.heap.size, 2, none⟩) (by simp)).trans (by go_simp)
                have b3 : w1.cell? ⟨w.heap.size, 3, none⟩ = some (.int .i64 at_) := (hb1.cell (p := ⟨w.heap.size, 3, none⟩) (by simp)).trans (by go_simp)
                have b4 : w1.cell? ⟨w.heap.size, 4, none⟩ = some (.int .i64 la) := (hb1.cell (p := ⟨w.heap.size, 4, none⟩) (by simp)).trans (by go_simp)
                have b5 : w1.cell? ⟨w.heap.size, 5, none⟩ = some (.int .i64 co) := (hb1.cell (p := ⟨w.heap.size, 5, none⟩) (by simp)).trans (by go_simp)
                have b6 : w1.cell? ⟨w.heap.size, 6, none⟩ = some (.int .i64 re) := (hb1.cell (p := ⟨w.heap.size, 6, none⟩) (by simp)).trans (by go_simp)
                have b7 : w1.cell? ⟨w.heap.size, 7, none⟩ = some (.int .i64 di) := (hb1.cell (p := ⟨w.heap.size, 7, none⟩) (by simp)).trans (by go_simp)
                have b8 : w1.cell? ⟨w.heap.size, 8, none⟩ = some (.slice sA sn sc) := (hb1.cell (p := ⟨w.heap.size, 8, none⟩) (by simp)).trans (by go_simp)
                have hbb := ((Below.refl w.heap.size w).alloc (Nat.le_refl _) (.cells #[.string un, .int .i64 pa, .int .i64 nu, .int .i64 at_, .int .i64 la, .int .i64 co, .int .i64 re, .int .i64 di, .slice sA sn sc] 38)).trans (hb1.mono (by simp))
                clear hb1
                go_wp2
                go_ret
                exact ⟨ret_bool HRES.out.symm, hbb⟩
            · skip
              have HRES : Hid (res = false) := Lib.hid (by rw [HV.out]; simp [c0, c1, c2, c3, c4, c5])
              clear HV
              go_enter Try.func26, Try.ntmps26
              go_wp2_with fail
              refine (kind_any un _ (by omega)).mono ?_
              rintro e w1 ⟨rfl, hb1⟩
              rw [HKD.out]
              have b0 : w1.cell? ⟨w.heap.size, 0, none⟩ = some (.string un) := (hb1.cell (p := ⟨w.heap.size, 0, none⟩) (by simp)).trans (by go_simp)
              have b1 : w1.cell? ⟨w.heap.size, 1, none⟩ = some (.int .i64 pa) := (hb1.cell (p := ⟨w.heap.size, 1, none⟩) (by simp)).trans (by go_simp)
              have b2 : w1.cell? ⟨w.heap.size, 2, none⟩ = some (.int .i64 nu) := (hb1.cell (p := ⟨w.heap.size, 2, none⟩) (by simp)).trans (by go_simp)
              have b3 : w1.cell? ⟨w.heap.size, 3, none⟩ = some (.int .i64 at_) := (hb1.cell (p := ⟨w.heap.size, 3, none⟩) (by simp)).trans (by go_simp)
              have b4 : w1.cell? ⟨w.heap.size, 4, none⟩ = some (.int .i64 la) := (hb1.cell (p := ⟨w.heap.size, 4, none⟩) (by simp)).trans (by go_simp)
              have b5 : w1.cell? ⟨w.heap.size, 5, none⟩ = some (.int .i64 co) := (hb1.cell (p := ⟨w.heap.size, 5, none⟩) (by simp)).trans (by go_simp)
              have b6 : w1.cell? ⟨w.heap.size, 6, none⟩ = some (.int .i64 re) := (hb1.cell (p := ⟨w.heap.size, 6, none⟩) (by simp)).trans (by go_simp)
              have b7 : w1.cell? ⟨w.heap.size, 7, none⟩ = some (.int .i64 di) := (hb1.cell (p := ⟨w.heap.size, 7, none⟩) (by simp)).trans (by go_simp)
              have b8 : w1.cell? ⟨w.heap.size, 8, none⟩ = some (.slice sA sn sc) := (hb1.cell (p := ⟨w.heap.size, 8, none⟩) (by simp)).trans (by go_simp)
              have hbb := ((Below.refl w.heap.size w).alloc (Nat.le_refl _) (.cells #[.string un, .int .i64 pa, .int .i64 nu, .int .i64 at_, .int .i64 la, .int .i64 co, .int .i64 re, .int .i64 di, .slice sA sn sc] 38)).trans (hb1.mono (by simp))
              clear hb1
              go_wp2
              go_ret
              exact ⟨ret_bool HRES.out.symm, hbb⟩
          · skip
            have HRES : Hid (res = false) := Lib.hid (by rw [HV.out]; simp [c0, c1, c2, c3, c4])
            clear HV
            go_enter Try.func26, Try.ntmps26
            go_wp2_with fail
            refine (kind_any un _ (by omega)).mono ?_
            rintro e w1 ⟨rfl, hb1⟩
            rw [HKD.out]
            have b0 : w1.cell? ⟨w.heap.size, 0, none⟩ = some (.string un) := (hb1.cell (p := ⟨w.heap.size, 0, none⟩) (by simp)).trans (by go_simp)
            have b1 : w1.cell? ⟨w.heap.size, 1, none⟩ = some (.int .i64 pa) := (hb1.cell (p := ⟨w.heap.size, 1, none⟩) (by simp)).trans (by go_simp)
            have b2 : w1.cell? ⟨w.heap.size, 2, none⟩ = some (.int .i64 nu) := (hb1.cell (p := ⟨w.heap.size, 2, none⟩) (by simp)).trans (by go_simp)
            have b3 : w1.cell? ⟨w.heap.size, 3, none⟩ = some (.int .i64 at_) := (hb1.cell (p := ⟨w.heap.size, 3, none⟩) (by simp)).trans (by go_simp)
            have b4 : w1.cell? ⟨w.heap.size, 4, none⟩ = some (.int .i64 la) := (hb1.cell (p := ⟨w.heap.size, 4, none⟩) (by simp)).trans (by go_simp)
            have b5 : w1.cell? ⟨w.heap.size, 5, none⟩ = some (.int .i64 co) := (hb1.cell (p := ⟨w.heap.size, 5, none⟩) (by simp)).trans (by go_simp)
            have b6 : w1.cell? ⟨w.heap.size, 6, none⟩ = some (.int .i64 re) := (hb1.cell (p := ⟨w.heap.size, 6, none⟩) (by simp)).trans (by go_simp)
            have b7 : w1.cell? ⟨w.heap.size, 7, none⟩ = some (.int .i64 di) := (hb1.cell (p := ⟨w.heap.size, 7, none⟩) (by simp)).trans (by go_simp)
            have b8 : w1.cell? ⟨w.heap.size, 8, none⟩ = some (.slice sA sn sc) := (hb1.cell (p := ⟨w.heap.size, 8, none⟩) (by simp)).trans (by go_simp)
            have hbb := ((Below.refl w.heap.size w).alloc (Nat.le_refl _) (.cells #[.string un, .int .i64 pa, .int .i64 nu, .int .i64 at_, .int .i64 la, .int .i64 co, .int .i64 re, .int .i64 di, .slice sA sn sc] 38)).trans (hb1.mono (by simp))
            clear hb1
            go_wp2
            go_ret
            exact ⟨ret_bool HRES.out.symm, hbb⟩
        · skip
          have HRES : Hid (res = false) := Lib.hid (by rw [HV.out]; simp [c0, c1, c2, c3])
          clear HV
          go_enter Try.func26, Try.ntmps26
          go_wp2_with fail
          refine (kind_any un _ (by omega)).mono ?_
          rintro e w1 ⟨rfl, hb1⟩
          rw [HKD.out]
          have b0 : w1.cell? ⟨w.heap.size, 0, none⟩ = some (.string un) := (hb1.cell (p := ⟨w.heap.size, 0, none⟩) (by simp)).trans (by go_simp)
          have b1 : w1.cell? ⟨w.heap.size, 1, none⟩ = some (.int .i64 pa) := (hb1.cell (p := ⟨w.heap.size, 1, none⟩) (by simp)).trans (by go_simp)
          have b2 : w1.cell? ⟨w.heap.size, 2, none⟩ = some (.int .i64 nu) := (hb1.cell (p := ⟨w.heap.size, 2, none⟩) (by simp)).trans (by go_simp)
          have b3 : w1.cell? ⟨w.heap.size, 3, none⟩ = some (.int .i64 at_) := (hb1.cell (p := ⟨w.heap.size, 3, none⟩) (by simp)).trans (by go_simp)
          have b4 : w1.cell? ⟨w.heap.size, 4, none⟩ = some (.int .i64 la) := (hb1.cell (p := ⟨w.heap.size, 4, none⟩) (by simp)).trans (by go_simp)
          have b5 : w1.cell? ⟨w.heap.size, 5, none⟩ = some (.int .i64 co) := (hb1.cell (p := ⟨w.heap.size, 5, none⟩) (by simp)).trans (by go_simp)
          have b6 : w1.cell? ⟨w.heap.size, 6, none⟩ = some (.int .i64 re) := (hb1.cell (p := ⟨w.heap.size, 6, none⟩) (by simp)).trans (by go_simp)
          have b7 : w1.cell? ⟨w.heap.size, 7, none⟩ = some (.int .i64 di) := (hb1.cell (p := ⟨w.heap.size, 7, none⟩) (by simp)).trans (by go_simp)
          have b8 : w1.cell? ⟨w.heap.size, 8, none⟩ = some (.slice sA sn sc) := (hb1.cell (p := ⟨w.heap.size, 8, none⟩) (by simp)).trans (by go_simp)
          have hbb := ((Below.refl w.heap.size w).alloc (Nat.le_refl _) (.cells #[.string un, .int .i64 pa, .int .i64 nu, .int .i64 at_, .int .i64 la, .int .i64 co, .int .i64 re, .int .i64 di, .slice sA sn sc] 38)).trans (hb1.mono (by simp))
          clear hb1
          go_wp2
          go_ret
          exact ⟨ret_bool HRES.out.symm, hbb⟩
      · skip
        have HRES : Hid (res = false) := Lib.hid (by rw [HV.out]; simp [c0, c1, c2])
        clear HV
        go_enter Try.func26, Try.ntmps26
        go_wp2_with fail
        refine (kind_any un _ (by omega)).mono ?_
        rintro e w1 ⟨rfl, hb1⟩
        rw [HKD.out]
        have b0 : w1.cell? ⟨w.heap.size, 0, none⟩ = some (.string un) := (hb1.cell (p := ⟨w.heap.size, 0, none⟩) (by simp)).trans (by go_simp)
        have b1 : w1.cell? ⟨w.heap.size, 1, none⟩ = some (.int .i64 pa) := (hb1.cell (p := ⟨w.heap.size, 1, none⟩) (by simp)).trans (by go_simp)
        have b2 : w1.cell? ⟨w.heap.size, 2, none⟩ = some (.int .i64 nu) := (hb1.cell (p := ⟨w.heap.size, 2, none⟩) (by simp)).trans (by go_simp)
        have b3 : w1.cell? ⟨w.heap.size, 3, none⟩ = some (.int .i64 at_) := (hb1.cell (p := ⟨w.heap.size, 3, none⟩) (by simp)).trans (by go_simp)
        have b4 : w1.cell? ⟨w.heap.size, 4, none⟩ = some (.int .i64 la) := (hb1.cell (p := ⟨w.heap.size, 4, none⟩) (by simp)).trans (by go_simp)
        have b5 : w1.cell? ⟨w.heap.size, 5, none⟩ = some (.int .i64 co) := (hb1.cell (p := ⟨w.heap.size, 5, none⟩) (by simp)).trans (by go_simp)
        have b6 : w1.cell? ⟨w.heap.size, 6, none⟩ = some (.int .i64 re) := (hb1.cell (p := ⟨w.heap.size, 6, none⟩) (by simp)).trans (by go_simp)
        have b7 : w1.cell? ⟨w.heap.size, 7, none⟩ = some (.int .i64 di) := (hb1.cell (p := ⟨w.heap.size, 7, none⟩) (by simp)).trans (by go_simp)
        have b8 : w1.cell? ⟨w.heap.size, 8, none⟩ = some (.slice sA sn sc) := (hb1.cell (p := ⟨w.heap.size, 8, none⟩) (by simp)).trans (by go_simp)
        have hbb := ((Below.refl w.heap.size w).alloc (Nat.le_refl _) (.cells #[.string un, .int .i64 pa, .int .i64 nu, .int .i64 at_, .int .i64 la, .int .i64 co, .int .i64 re, .int .i64 di, .slice sA sn sc] 38)).trans (hb1.mono (by simp))
        clear hb1
        go_wp2
        go_ret
        exact ⟨ret_bool HRES.out.symm, hbb⟩
    · skip
      have HRES : Hid (res = false) := Lib.hid (by rw [HV.out]; simp [c0, c1])
      clear HV
      go_enter Try.func26, Try.ntmps26
      go_wp2_with fail
      refine (kind_any un _ (by omega)).mono ?_
      rintro e w1 ⟨rfl, hb1⟩
      rw [HKD.out]
      have b0 : w1.cell? ⟨w.heap.size, 0, none⟩ = some (.string un) := (hb1.cell (p := ⟨w.heap.size, 0, none⟩) (by simp)).trans (by go_simp)
      have b1 : w1.cell? ⟨w.heap.size, 1, none⟩ = some (.int .i64 pa) := (hb1.cell (p := ⟨w.heap.size, 1, none⟩) (by simp)).trans (by go_simp)
      have b2 : w1.cell? ⟨w.heap.size, 2, none⟩ = some (.int .i64 nu) := (hb1.cell (p := ⟨w.heap.size, 2, none⟩) (by simp)).trans (by go_simp)
      have b3 : w1.cell? ⟨w.heap.size, 3, none⟩ = some (.int .i64 at_) := (hb1.cell (p := ⟨w.heap.size, 3, none⟩) (by simp)).trans (by go_simp)
      have b4 : w1.cell? ⟨w.heap.size, 4, none⟩ = some (.int .i64 la) := (hb1.cell (p := ⟨w.heap.size, 4, none⟩) (by simp)).trans (by go_simp)
      have b5 : w1.cell? ⟨w.heap.size, 5, none⟩ = some (.int .i64 co) := (hb1.cell (p := ⟨w.heap.size, 5, none⟩) (by simp)).trans (by go_simp)
      have b6 : w1.cell? ⟨w.heap.size, 6, none⟩ = some (.int .i64 re) := (hb1.cell (p := ⟨w.heap.size, 6, none⟩) (by simp)).trans (by go_simp)
      have b7 : w1.cell? ⟨w.heap.size, 7, none⟩ = some (.int .i64 di) := (hb1.cell (p := ⟨w.heap.size, 7, none⟩) (by simp)).trans (by go_simp)
      have b8 : w1.cell? ⟨w.heap.size, 8, none⟩ = some (.slice sA sn sc) := (hb1.cell (p := ⟨w.heap.size, 8, none⟩) (by simp)).trans (by go_simp)
      have hbb := ((Below.refl w.heap.size w).alloc (Nat.le_refl _) (.cells #[.string un, .int .i64 pa, .int .i64 nu, .int .i64 at_, .int .i64 la, .int .i64 co, .int .i64 re, .int .i64 di, .slice sA sn sc] 38)).trans (hb1.mono (by simp))
      clear hb1
      go_wp2
      go_ret
      exact ⟨ret_bool HRES.out.symm, hbb⟩

end Go.Proofs.Ytkfeicgeobhccaa
