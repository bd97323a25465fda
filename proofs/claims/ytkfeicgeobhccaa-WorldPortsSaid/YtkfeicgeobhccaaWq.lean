/-
  The reference's walk that says whether a world may be.
-/
import Derived.Test.YtkfeicgeobhccaaWp
namespace Go.Proofs.Ytkfeicgeobhccaa
open Go.RowKit

/-- what the loops compare with -/
def CLast (l : List (Int × Int × Int)) (k : Nat) (last : Int) : Prop := (k = 0 ∧ last = 0) ∨ ∃ j, ∃ hj : j < l.length, k = j + 1 ∧ last = l[j].1
def KLast (l : List (Int × ByteArray × Int)) (k : Nat) (last : Int) : Prop := (k = 0 ∧ last = 0) ∨ ∃ j, ∃ hj : j < l.length, k = j + 1 ∧ last = l[j].1
theorem time_pos {n : Int} (h : timeB n = true) : 0 ≤ n := by
  unfold timeB at h
  simp at h
  omega
theorem ofB_flip (x a : ActD) : ofB x a.unit a.part a.num a.att = ((a.unit.toList == x.unit.toList) && (a.part == x.part) && (a.num == x.num) && (a.att == x.att)) := by
  unfold ofB
  rw [BEq.comm (a := x.unit.toList), BEq.comm (a := x.part), BEq.comm (a := x.num), BEq.comm (a := x.att)]
theorem anyOf_yes (l : List ActD) (a : ActD) (k j : Nat) (hk : k ≤ l.length) (hj : j < k) (hjl : j < l.length) (h : ofB l[j] a.unit a.part a.num a.att = true) : anyOf (l.take k) a = true := by
  unfold anyOf
  rw [List.any_eq_true]
  exact ⟨l[j], by rw [List.mem_take_iff_getElem]; exact ⟨j, by omega, rfl⟩, h⟩
theorem rmay2_any (s : ByteArray) (b : Bool) (h : Sp.mayL s.data.toList = b) (w : World) : Calls Try.prog 24 #[.string s] w fun e w' => e = .returned (.bool b) ∧ Below w.heap.size w w' := by
  have := rmay_any s w
  rwa [← Sp.may_iff, h] at this

set_option maxRecDepth 100000 in
set_option maxHeartbeats 16000000 in
theorem rmay_w_any (aA : Option Addr) (an ac : Nat) (cA : Option Addr) (cn cc : Nat) (kA : Option Addr) (kn kc : Nat) (l : List ActD) (lc : List (Int × Int × Int)) (lk : List (Int × ByteArray × Int)) (w : World) (B : Nat)
    (hr : Rd w B 9 aA an (actCells l)) (hin : ∀ a ∈ l, ActIn w B a) (hB : B ≤ w.heap.size) (hac : an ≤ ac) (hcr : Rd w B 3 cA cn (callCells lc)) (hkr : Rd w B 3 kA kn (askCells lk)) :
    Calls Try.prog 12 #[.agg #[.slice aA an ac, .slice cA cn cc, .slice kA kn kc]] w fun e w' => e = .returned (.bool (mayWB an cn kn l lc lk)) ∧ Below w.heap.size w w' := by
  have hl : l.length = an := by have h1 := hr.1; rw [actCells_len] at h1; omega
  have hl2 : lc.length = cn := by have h1 := hcr.1; rw [callCells_len] at h1; omega
  have hl3 : lk.length = kn := by have h1 := hkr.1; rw [askCells_len] at h1; omega
  have HL := Lib.hid hl
  have HL2 := Lib.hid hl2
  have HL3 := Lib.hid hl3
  have HIN := Lib.hid hin
  have HR := Lib.hid hr
  have HCR := Lib.hid hcr
  have HKR := Lib.hid hkr
  have hbW := (Below.refl w.heap.size w).alloc (Nat.le_refl _) (.cells #[.slice aA an ac, .slice cA cn cc, .slice kA kn kc] 26)
  clear hl hl2 hl3 hin hr hcr hkr
  have HV : Hid (mayWB an cn kn l lc lk = (decide (an ≤ 200) && (decide (cn ≤ 100) && (decide (kn ≤ 100) && (actsFrom [] l && (callsFrom 0 lc && aaskFrom 0 lk)))))) := Lib.hid rfl
  generalize mayWB an cn kn l lc lk = res at *
  by_cases n1 : an ≤ 200
  rotate_left
  · have HRES : Hid (res = false) := Lib.hid (by rw [HV.out]; simp [n1])
    have y0 : (200 : Int) < (an : Int) := by omega
    go_enter Try.func12, Try.ntmps12
    go_wp2
    go_ret
    exact ⟨ret_bool HRES.out.symm, hbW⟩
  · skip
    by_cases n2 : cn ≤ 100
    rotate_left
    · have HRES : Hid (res = false) := Lib.hid (by rw [HV.out]; simp [n2])
      have y1 : (100 : Int) < (cn : Int) := by omega
      have y0 : ¬ (200 : Int) < (an : Int) := by omega
      go_enter Try.func12, Try.ntmps12
      go_wp2
      go_ret
      exact ⟨ret_bool HRES.out.symm, hbW⟩
    · skip
      by_cases n3 : kn ≤ 100
      rotate_left
      · have HRES : Hid (res = false) := Lib.hid (by rw [HV.out]; simp [n3])
        have y2 : (100 : Int) < (kn : Int) := by omega
        have y0 : ¬ (200 : Int) < (an : Int) := by omega
        have y1 : ¬ (100 : Int) < (cn : Int) := by omega
        go_enter Try.func12, Try.ntmps12
        go_wp2
        go_ret
        exact ⟨ret_bool HRES.out.symm, hbW⟩
      · skip
        have y0 : ¬ (200 : Int) < (an : Int) := by omega
        have y1 : ¬ (100 : Int) < (cn : Int) := by omega
        have y2 : ¬ (100 : Int) < (kn : Int) := by omega
        go_enter Try.func12, Try.ntmps12
        go_wp2_with fail
        go_loopw [30] (fun iv wr => ∃ k : Nat, k ≤ an ∧ iv = .int .i64 k ∧ Below (w.heap.size + 1) (w.alloc (.cells #[.slice aA an ac, .slice cA cn cc, .slice kA kn kc] 26)) wr ∧ Hid (ActsAt l k)) (fun iv _ => an - (intOf iv).toNat)
        case atStart => exact ⟨0, Nat.zero_le _, rfl, Below.refl _ _, Lib.hid (ActsAt.start _)⟩
        case round =>
          obtain ⟨k, hk, rfl, hb, HS⟩ := hrel
          have hw0 : w.heap.size + 1 ≤ wr.heap.size := by have := hb.size; simp at this; omega
          have hbw : Below w.heap.size w wr := hbW.trans (hb.mono (by omega))
          by_cases hlt : k < an
          · skip
            obtain ⟨ad, rfl, hadB, hkl, h0, h1, h2, h3, h4, h5, h6, h7, h8⟩ := acts_here (HR.out.below (hbw.mono hB)) k hlt
            have hin := HIN.out _ (List.getElem_mem hkl)
            generalize hx : l[k] = x at *
            obtain ⟨un, pa, nu, at_, la, co, re, di, sA, sn, sc, sy⟩ := x
            dsimp only at h0 h1 h2 h3 h4 h5 h6 h7 h8 hin
            have HX := Lib.hid hx
            have HI := Lib.hid hin
            clear hx hin
            have x1 : (0 : Int) ≤ (k : Int) := by omega
            have x2 : (k : Int) < (an : Int) := by omega
            have x3 : (k : Int) ≤ (ac : Int) := by omega
            have hbA := hbw.alloc hbw.size (.cells #[.string un, .int .i64 pa, .int .i64 nu, .int .i64 at_, .int .i64 la, .int .i64 co, .int .i64 re, .int .i64 di, .slice sA sn sc] 38)
            have hbB := hb.alloc hw0 (.cells #[.string un, .int .i64 pa, .int .i64 nu, .int .i64 at_, .int .i64 la, .int .i64 co, .int .i64 re, .int .i64 di, .slice sA sn sc] 38)
            have hmay := rmayact_any ⟨un, pa, nu, at_, la, co, re, di, sA, sn, sc, sy⟩ (wr.alloc (.cells #[.string un, .int .i64 pa, .int .i64 nu, .int .i64 at_, .int .i64 la, .int .i64 co, .int .i64 re, .int .i64 di, .slice sA sn sc] 38)) B (HI.out.below (hbA.mono hB)) (Nat.le_trans hB hbA.size)
            simp only [actV, actC] at hmay
            have HMAY := Lib.hid hmay
            clear hmay
            cases hm : actB ⟨un, pa, nu, at_, la, co, re, di, sA, sn, sc, sy⟩ with
            | false =>
              have HNO := Lib.hid (HS.out.no1 hkl HX.out hm)
              have HRES : Hid (res = false) := Lib.hid (by rw [HV.out, HNO.out]; simp)
              have HM := Lib.hid hm
              go_wp2_with fail
              refine HMAY.out.mono ?_
              rintro e w2 ⟨rfl, hb2⟩
              rw [HM.out]
              have hbA2 := hbA.trans (hb2.mono (by have := hbw.size; simp; omega))
              have hbB2 := hbB.trans (hb2.mono (by simp; omega))
              clear hb2 HNO hm hbA hbB
              go_wp2
              go_ret
              exact ⟨ret_bool HRES.out.symm, hbA2⟩
            | true =>
              have HM := Lib.hid hm
              go_wp2_with fail
              refine HMAY.out.mono ?_
              rintro e w2 ⟨rfl, hb2⟩
              rw [HM.out]
              have hbA2 := hbA.trans (hb2.mono (by have := hbw.size; simp; omega))
              have hbB2 := hbB.trans (hb2.mono (by simp; omega))
              obtain ⟨g0, g1, g2, g3, g4, g5, g6, g7, g8⟩ := (actAt_new wr un pa nu at_ la co re di sA sn sc sy 38).below hb2 (by simp)
              simp only [Nat.zero_add] at g0 g1 g2 g3
              have qq : w2.cell? ⟨w.heap.size, 0, none⟩ = some (.slice (some ad) an ac) := (hbB2.cell (p := ⟨w.heap.size, 0, none⟩) (by simp)).trans (by go_simp)
              have hz2 : w.heap.size + 1 ≤ w2.heap.size := by have := hb2.size; simp at this; omega
              have hz3 : wr.heap.size + 1 ≤ w2.heap.size := by have := hb2.size; simpa using this
              clear hb2 hbA hbB h0 h1 h2 h3 h4 h5 h6 h7 h8 g4 g5 g6 g7 g8 HMAY hm
              go_wp2_with fail
              obtain ⟨W1, hW1⟩ : ∃ x, x = wr := ⟨wr, rfl⟩
              subst hW1
              go_loopw [43] (fun iv wr => ∃ j : Nat, j ≤ k ∧ iv = .int .i64 j ∧ Below w2.heap.size w2 wr ∧ Hid (anyOf (l.take j) ⟨un, pa, nu, at_, la, co, re, di, sA, sn, sc, sy⟩ = false)) (fun iv _ => k - (intOf iv).toNat)
              case atStart => exact ⟨0, Nat.zero_le _, rfl, Below.refl _ _, Lib.hid rfl⟩
              case round =>
                obtain ⟨j, hj, rfl, hbi, HJ⟩ := hrel
                have hwi : w2.heap.size ≤ wr.heap.size := hbi.size
                have hbwi : Below w.heap.size w wr := hbA2.trans (hbi.mono hbA2.size)
                have hbBi : Below (w.heap.size + 1) (w.alloc (.cells #[.slice (some ad) an ac, .slice cA cn cc, .slice kA kn kc] 26)) wr := hbB2.trans (hbi.mono hz2)
                by_cases hjt : j < k
                · skip
                  have p0 : ∀ o, (wr.alloc o).cell? ⟨W1.heap.size, 0, none⟩ = some (.string un) := fun o => (World.cell?_alloc_lt wr o ⟨W1.heap.size, 0, none⟩ (by simp; omega)).trans ((hbi.cell (p := ⟨W1.heap.size, 0, none⟩) (by simp; omega)).trans g0)
                  have p1 : ∀ o, (wr.alloc o).cell? ⟨W1.heap.size, 1, none⟩ = some (.int .i64 pa) := fun o => (World.cell?_alloc_lt wr o ⟨W1.heap.size, 1, none⟩ (by simp; omega)).trans ((hbi.cell (p := ⟨W1.heap.size, 1, none⟩) (by simp; omega)).trans g1)
                  have p2 : ∀ o, (wr.alloc o).cell? ⟨W1.heap.size, 2, none⟩ = some (.int .i64 nu) := fun o => (World.cell?_alloc_lt wr o ⟨W1.heap.size, 2, none⟩ (by simp; omega)).trans ((hbi.cell (p := ⟨W1.heap.size, 2, none⟩) (by simp; omega)).trans g2)
                  have p3 : ∀ o, (wr.alloc o).cell? ⟨W1.heap.size, 3, none⟩ = some (.int .i64 at_) := fun o => (World.cell?_alloc_lt wr o ⟨W1.heap.size, 3, none⟩ (by simp; omega)).trans ((hbi.cell (p := ⟨W1.heap.size, 3, none⟩) (by simp; omega)).trans g3)
                  have hjl : j < l.length := by rw [HL.out]; omega
                  obtain ⟨ad2, had2, hadB2, hjl2, h0, h1, h2, h3, h4, h5, h6, h7, h8⟩ := acts_here (HR.out.below (hbwi.mono hB)) j (by omega)
                  obtain rfl := Option.some.inj had2
                  have HYES := Lib.hid (fun h => anyOf_yes l ⟨un, pa, nu, at_, la, co, re, di, sA, sn, sc, sy⟩ k j (by rw [HL.out]; omega) hjt hjl h)
                  have HTK := Lib.hid (anyOf_take l ⟨un, pa, nu, at_, la, co, re, di, sA, sn, sc, sy⟩ j hjl)
                  have HFL := Lib.hid (ofB_flip l[j] ⟨un, pa, nu, at_, la, co, re, di, sA, sn, sc, sy⟩)
                  generalize hy : l[j] = y at *
                  obtain ⟨un', pa', nu', at', la', co', re', di', sA', sn', sc', sy'⟩ := y
                  dsimp only at h0 h1 h2 h3 h4 h5 h6 h7 h8 HYES HTK HFL
                  clear hy
                  have z1 : (0 : Int) ≤ (j : Int) := by omega
                  have z2 : (j : Int) < (k : Int) := by omega
                  have hbI := hbi.alloc hwi (.cells #[.string un', .int .i64 pa', .int .i64 nu', .int .i64 at', .int .i64 la', .int .i64 co', .int .i64 re', .int .i64 di', .slice sA' sn' sc'] 38)
                  have hbJ := hbwi.alloc hbwi.size (.cells #[.string un', .int .i64 pa', .int .i64 nu', .int .i64 at', .int .i64 la', .int .i64 co', .int .i64 re', .int .i64 di', .slice sA' sn' sc'] 38)
                  cases e0 : (un.toList == un'.toList) with
                  | false =>
                    have HN : Hid (anyOf (l.take (j + 1)) ⟨un, pa, nu, at_, la, co, re, di, sA, sn, sc, sy⟩ = false) := Lib.hid (by rw [HTK.out, HJ.out, HFL.out, e0]; simp)
                    clear HTK HFL HYES
                    go_wp2
                    go_roundw
                    case rel => exact ⟨j + 1, by omega, by go_num, hbI, HN⟩
                    case measure => first | (simp [intOf]; done) | (simp [intOf]; omega)
                  | true =>
                    cases e1 : (pa == pa') with
                    | false =>
                      have HN : Hid (anyOf (l.take (j + 1)) ⟨un, pa, nu, at_, la, co, re, di, sA, sn, sc, sy⟩ = false) := Lib.hid (by rw [HTK.out, HJ.out, HFL.out, e0, e1]; simp)
                      clear HTK HFL HYES
                      go_wp2
                      go_roundw
                      case rel => exact ⟨j + 1, by omega, by go_num, hbI, HN⟩
                      case measure => first | (simp [intOf]; done) | (simp [intOf]; omega)
                    | true =>
                      cases e2 : (nu == nu') with
                      | false =>
                        have HN : Hid (anyOf (l.take (j + 1)) ⟨un, pa, nu, at_, la, co, re, di, sA, sn, sc, sy⟩ = false) := Lib.hid (by rw [HTK.out, HJ.out, HFL.out, e0, e1, e2]; simp)
                        clear HTK HFL HYES
                        go_wp2
                        go_roundw
                        case rel => exact ⟨j + 1, by omega, by go_num, hbI, HN⟩
                        case measure => first | (simp [intOf]; done) | (simp [intOf]; omega)
                      | true =>
                        cases e3 : (at_ == at') with
                        | false =>
                          have HN : Hid (anyOf (l.take (j + 1)) ⟨un, pa, nu, at_, la, co, re, di, sA, sn, sc, sy⟩ = false) := Lib.hid (by rw [HTK.out, HJ.out, HFL.out, e0, e1, e2, e3]; simp)
                          clear HTK HFL HYES
                          go_wp2
                          go_roundw
                          case rel => exact ⟨j + 1, by omega, by go_num, hbI, HN⟩
                          case measure => first | (simp [intOf]; done) | (simp [intOf]; omega)
                        | true =>
                          have HANY := Lib.hid (HYES.out (by rw [HFL.out, e0, e1, e2, e3]; rfl))
                          have HNO := Lib.hid (HS.out.no2 hkl HX.out HANY.out)
                          have HRES : Hid (res = false) := Lib.hid (by rw [HV.out, HNO.out]; simp)
                          clear HNO HANY HTK HFL HYES
                          go_wp2
                          go_ret
                          exact ⟨ret_bool HRES.out.symm, hbJ⟩
                · have z2 : ¬ (j : Int) < (k : Int) := by omega
                  obtain rfl : j = k := by omega
                  have HNX := Lib.hid (HS.out.more hkl HX.out HM.out HJ.out)
                  clear HJ
                  go_wp2
                  go_roundw
                  case rel => exact ⟨j + 1, by omega, by go_num, hbBi, HNX⟩
                  case measure => first | (simp [intOf]; done) | (simp [intOf]; omega)
          · have HA := Lib.hid (HS.out.done (by rw [HL.out]; exact hlt))
            have x1 : ¬ (k : Int) < (an : Int) := by omega
            have q0 : wr.cell? ⟨w.heap.size, 0, none⟩ = some (.slice aA an ac) := (hb.cell (p := ⟨w.heap.size, 0, none⟩) (by simp)).trans (by go_simp)
            have q1 : wr.cell? ⟨w.heap.size, 1, none⟩ = some (.slice cA cn cc) := (hb.cell (p := ⟨w.heap.size, 1, none⟩) (by simp)).trans (by go_simp)
            have q2 : wr.cell? ⟨w.heap.size, 2, none⟩ = some (.slice kA kn kc) := (hb.cell (p := ⟨w.heap.size, 2, none⟩) (by simp)).trans (by go_simp)
            clear HS
            go_wp2_with fail
            go_loopw [78] (fun iv wr => ∃ (k : Nat) (last : Int), k ≤ cn ∧ iv = .int .i64 k ∧ Below (w.heap.size + 1) (w.alloc (.cells #[.slice aA an ac, .slice cA cn cc, .slice kA kn kc] 26)) wr ∧ Hid (CallsAt lc k last) ∧ Hid (CLast lc k last)) (fun iv _ => cn - (intOf iv).toNat)
            case atStart => exact ⟨0, 0, Nat.zero_le _, rfl, hb, Lib.hid (CallsAt.start _), Lib.hid (.inl ⟨rfl, rfl⟩)⟩
            case round =>
              clear hb hbw hw0 q0 q1 q2
              obtain ⟨k, last, hk, rfl, hb, HS, HLI⟩ := hrel
              have hw0 : w.heap.size + 1 ≤ wr.heap.size := by have := hb.size; simp at this; omega
              have hbw : Below w.heap.size w wr := hbW.trans (hb.mono (by omega))
              by_cases hlt : k < cn
              · skip
                have hke : k < lc.length := by rw [HL2.out]; exact hlt
                obtain ⟨ad, rfl, hadB, hc⟩ := (HCR.out.below (hbw.mono hB)).here (by omega)
                obtain ⟨p0, p1, p2⟩ := callCells_at lc k hke
                have c0 := hc _ _ p0
                have c1 := hc _ _ p1
                have c2 := hc _ _ p2
                rw [Mem.add_field _ _ 1 (by omega)] at c1
                rw [Mem.add_field _ _ 2 (by omega)] at c2
                generalize hp : lc[k] = p at *
                obtain ⟨pat, ppo, pta⟩ := p
                dsimp only at c0 c1 c2
                have HP := Lib.hid hp
                have HC := Lib.hid hc
                have x1 : (0 : Int) ≤ (k : Int) := by omega
                have x2 : (k : Int) < (cn : Int) := by omega
                clear p0 p1 p2 hp hc
                have hbA := hbw.alloc hbw.size (.cells #[.int .i64 pat, .int .i64 ppo, .int .i64 pta] 54)
                have hbB := hb.alloc hw0 (.cells #[.int .i64 pat, .int .i64 ppo, .int .i64 pta] 54)
                have qo1 : ∀ o, (wr.alloc o).cell? ⟨w.heap.size, 1, none⟩ = some (.slice (some ad) cn cc) := fun o => (World.cell?_alloc_lt wr o ⟨w.heap.size, 1, none⟩ (by simp; omega)).trans ((hb.cell (p := ⟨w.heap.size, 1, none⟩) (by simp)).trans (by go_simp))
                cases e0 : timeB pat with
                | false =>
                  have HNO := Lib.hid (HS.out.no (p := (pat, ppo, pta)) hke HP.out (by simp [callB, e0]))
                  have HRES : Hid (res = false) := Lib.hid (by rw [HV.out, HNO.out]; simp)
                  clear HNO
                  have HTM : Hid (∀ w, Calls Try.prog 34 #[.int .i64 pat] w fun e w' => e = .returned (.bool false) ∧ w = w') := Lib.hid (by intro w; have := rtime_any pat w; rwa [e0] at this)
                  clear e0
                  go_wp2_with fail
                  go_quiet (first | (go_at_call 34; exact quiet_same (HTM.out _)))
                  go_wp2
                  go_ret
                  exact ⟨ret_bool HRES.out.symm, belowQ hbA _⟩
                | true =>
                  have HTM : Hid (∀ w, Calls Try.prog 34 #[.int .i64 pat] w fun e w' => e = .returned (.bool true) ∧ w = w') := Lib.hid (by intro w; have := rtime_any pat w; rwa [e0] at this)
                  have hpos := time_pos e0
                  by_cases e2 : ppo < 1
                  · skip
                    have HNO := Lib.hid (HS.out.no (p := (pat, ppo, pta)) hke HP.out (by simp [callB, e2]))
                    have HRES : Hid (res = false) := Lib.hid (by rw [HV.out, HNO.out]; simp)
                    clear HNO
                    clear e0
                    go_wp2_with fail
                    go_quiet (first | (go_at_call 34; exact quiet_same (HTM.out _)))
                    go_wp2
                    go_ret
                    exact ⟨ret_bool HRES.out.symm, belowQ hbA _⟩
                  · skip
                    have g2 : decide (ppo < 1) = false := by simp; omega
                    by_cases e3 : 65535 < ppo
                    · skip
                      have HNO := Lib.hid (HS.out.no (p := (pat, ppo, pta)) hke HP.out (by simp [callB, e3]))
                      have HRES : Hid (res = false) := Lib.hid (by rw [HV.out, HNO.out]; simp)
                      clear HNO
                      clear e0
                      go_wp2_with fail
                      go_quiet (first | (go_at_call 34; exact quiet_same (HTM.out _)))
                      go_wp2
                      go_ret
                      exact ⟨ret_bool HRES.out.symm, belowQ hbA _⟩
                    · skip
                      have g3 : decide (65535 < ppo) = false := by simp; omega
                      cases e4 : spanB pta with
                      | false =>
                        have HNO := Lib.hid (HS.out.no (p := (pat, ppo, pta)) hke HP.out (by simp [callB, e4]))
                        have HRES : Hid (res = false) := Lib.hid (by rw [HV.out, HNO.out]; simp)
                        clear HNO
                        have HSP : Hid (∀ w, Calls Try.prog 35 #[.int .i64 pta] w fun e w' => e = .returned (.bool false) ∧ w = w') := Lib.hid (by intro w; have := rspan_any pta w; rwa [e4] at this)
                        clear e0 e4
                        go_wp2_with fail
                        go_quiet (first | (go_at_call 34; exact quiet_same (HTM.out _)) | (go_at_call 35; exact quiet_same (HSP.out _)))
                        go_wp2
                        go_ret
                        exact ⟨ret_bool HRES.out.symm, belowQ hbA _⟩
                      | true =>
                        have HSP : Hid (∀ w, Calls Try.prog 35 #[.int .i64 pta] w fun e w' => e = .returned (.bool true) ∧ w = w') := Lib.hid (by intro w; have := rspan_any pta w; rwa [e4] at this)
                        cases e5 : (pta == 1099511627776) with
                        | true =>
                          have HNO := Lib.hid (HS.out.no (p := (pat, ppo, pta)) hke HP.out (by unfold callB; dsimp only; rw [e5]; simp))
                          have HRES : Hid (res = false) := Lib.hid (by rw [HV.out, HNO.out]; simp)
                          clear HNO
                          clear e0 e4
                          go_wp2_with fail
                          go_quiet (first | (go_at_call 34; exact quiet_same (HTM.out _)) | (go_at_call 35; exact quiet_same (HSP.out _)))
                          go_wp2
                          go_ret
                          exact ⟨ret_bool HRES.out.symm, belowQ hbA _⟩
                        | false =>
                          rcases HLI.out with ⟨hk0, rfl⟩ | ⟨j, hj, rfl, hlj⟩
                          · have hng : ¬ pat < 0 := by omega
                            have HNX := Lib.hid (HS.out.more (p := (pat, ppo, pta)) hke HP.out (by unfold callB; dsimp only; rw [e0, e4, e5]; simp; omega))
                            clear e0 e4
                            have g0 : decide ((0 : Int) < (k : Int)) = false := by simp; omega
                            have g1 : decide (0 < k) = false := by simp; omega
                            clear hk0
                            go_wp2_with fail
                            go_quiet (first | (go_at_call 34; exact quiet_same (HTM.out _)) | (go_at_call 35; exact quiet_same (HSP.out _)))
                            go_wp2
                            go_roundw
                            case rel => exact ⟨k + 1, pat, by omega, by go_num, belowQ hbB _, HNX, Lib.hid (.inr ⟨k, hke, rfl, by rw [HP.out]⟩)⟩
                            case measure => first | (simp [intOf]; done) | (simp [intOf]; omega)
                          · skip
                            have hpj : (callCells lc)[j * 3]? = some (.int .i64 last) := by rw [hlj]; exact (callCells_at lc j hj).1
                            have d1 : ∀ o, (wr.alloc o).cell? (ad.add (j * 3)) = some (.int .i64 last) := fun o => (World.cell?_alloc_lt wr o _ (by rw [Mem.add_block]; omega)).trans (HC.out _ _ hpj)
                            clear hpj
                            have hwp : IntKind.i64.wrap (j : Int) = (j : Int) := by rw [IntKind.wrap_i64]; omega
                            have y0 : (0 : Int) ≤ (j : Int) := by omega
                            have y1 : (j : Int) < (cn : Int) := by omega
                            have y2 : (0 : Int) < (j : Int) + 1 := by omega
                            have y3 : (j : Int) + 1 < (cn : Int) := by omega
                            have y4 : (0 : Int) ≤ (j : Int) + 1 := by omega
                            have y5 : ((j : Int) + 1).toNat = j + 1 := by omega
                            by_cases hla : pat < last
                            · skip
                              have HNO := Lib.hid (HS.out.no (p := (pat, ppo, pta)) hke HP.out (by simp [callB, hla]))
                              have HRES : Hid (res = false) := Lib.hid (by rw [HV.out, HNO.out]; simp)
                              clear HNO
                              clear e0 e4
                              go_wp2_with fail
                              go_quiet (first | (go_at_call 34; exact quiet_same (HTM.out _)) | (go_at_call 35; exact quiet_same (HSP.out _)))
                              go_wp2
                              go_ret
                              exact ⟨ret_bool HRES.out.symm, belowQ hbA _⟩
                            · skip
                              have HNX := Lib.hid (HS.out.more (p := (pat, ppo, pta)) hke HP.out (by unfold callB; dsimp only; rw [e0, e4, e5]; simp; omega))
                              clear e0 e4
                              have g0 : decide (pat < last) = false := by simp; omega
                              go_wp2_with fail
                              go_quiet (first | (go_at_call 34; exact quiet_same (HTM.out _)) | (go_at_call 35; exact quiet_same (HSP.out _)))
                              go_wp2
                              go_roundw
                              case rel => exact ⟨(j + 1) + 1, pat, by omega, by go_num, belowQ hbB _, HNX, Lib.hid (.inr ⟨(j + 1), hke, rfl, by rw [HP.out]⟩)⟩
                              case measure => first | (simp [intOf]; done) | (simp [intOf]; omega)
              · have HC := Lib.hid (HS.out.done (by rw [HL2.out]; exact hlt))
                have x1 : ¬ (k : Int) < (cn : Int) := by omega
                have q0 : wr.cell? ⟨w.heap.size, 0, none⟩ = some (.slice aA an ac) := (hb.cell (p := ⟨w.heap.size, 0, none⟩) (by simp)).trans (by go_simp)
                have q1 : wr.cell? ⟨w.heap.size, 1, none⟩ = some (.slice cA cn cc) := (hb.cell (p := ⟨w.heap.size, 1, none⟩) (by simp)).trans (by go_simp)
                have q2 : wr.cell? ⟨w.heap.size, 2, none⟩ = some (.slice kA kn kc) := (hb.cell (p := ⟨w.heap.size, 2, none⟩) (by simp)).trans (by go_simp)
                clear HS HLI
                go_wp2_with fail
                go_loopw [128] (fun iv wr => ∃ (k : Nat) (last : Int), k ≤ kn ∧ iv = .int .i64 k ∧ Below (w.heap.size + 1) (w.alloc (.cells #[.slice aA an ac, .slice cA cn cc, .slice kA kn kc] 26)) wr ∧ Hid (AaskAt lk k last) ∧ Hid (KLast lk k last)) (fun iv _ => kn - (intOf iv).toNat)
                case atStart => exact ⟨0, 0, Nat.zero_le _, rfl, hb, Lib.hid (AaskAt.start _), Lib.hid (.inl ⟨rfl, rfl⟩)⟩
                case round =>
                  clear hb hbw hw0 q0 q1 q2
                  obtain ⟨k, last, hk, rfl, hb, HS, HLI⟩ := hrel
                  have hw0 : w.heap.size + 1 ≤ wr.heap.size := by have := hb.size; simp at this; omega
                  have hbw : Below w.heap.size w wr := hbW.trans (hb.mono (by omega))
                  by_cases hlt : k < kn
                  · skip
                    have hke : k < lk.length := by rw [HL3.out]; exact hlt
                    obtain ⟨ad, rfl, hadB, hc⟩ := (HKR.out.below (hbw.mono hB)).here (by omega)
                    obtain ⟨p0, p1, p2⟩ := askCells_at lk k hke
                    have c0 := hc _ _ p0
                    have c1 := hc _ _ p1
                    have c2 := hc _ _ p2
                    rw [Mem.add_field _ _ 1 (by omega)] at c1
                    rw [Mem.add_field _ _ 2 (by omega)] at c2
                    generalize hp : lk[k] = p at *
                    obtain ⟨pat, pun, pty⟩ := p
                    dsimp only at c0 c1 c2
                    have HP := Lib.hid hp
                    have HC := Lib.hid hc
                    have x1 : (0 : Int) ≤ (k : Int) := by omega
                    have x2 : (k : Int) < (kn : Int) := by omega
                    clear p0 p1 p2 hp hc
                    have hbA := hbw.alloc hbw.size (.cells #[.int .i64 pat, .string pun, .int .i64 pty] 51)
                    have hbB := hb.alloc hw0 (.cells #[.int .i64 pat, .string pun, .int .i64 pty] 51)
                    have k0 : ∀ p : Since (wr.heap.size + 1) (wr.alloc (.cells #[.int .i64 pat, .string pun, .int .i64 pty] 51)), p.w'.cell? ⟨wr.heap.size, 0, none⟩ = some (.int .i64 pat) := fun p => (p.hb.cell (p := ⟨wr.heap.size, 0, none⟩) (by simp)).trans (by go_simp)
                    have k1 : ∀ p : Since (wr.heap.size + 1) (wr.alloc (.cells #[.int .i64 pat, .string pun, .int .i64 pty] 51)), p.w'.cell? ⟨wr.heap.size, 1, none⟩ = some (.string pun) := fun p => (p.hb.cell (p := ⟨wr.heap.size, 1, none⟩) (by simp)).trans (by go_simp)
                    have k2 : ∀ p : Since (wr.heap.size + 1) (wr.alloc (.cells #[.int .i64 pat, .string pun, .int .i64 pty] 51)), p.w'.cell? ⟨wr.heap.size, 2, none⟩ = some (.int .i64 pty) := fun p => (p.hb.cell (p := ⟨wr.heap.size, 2, none⟩) (by simp)).trans (by go_simp)
                    have qo2 : ∀ o, (wr.alloc o).cell? ⟨w.heap.size, 2, none⟩ = some (.slice (some ad) kn kc) := fun o => (World.cell?_alloc_lt wr o ⟨w.heap.size, 2, none⟩ (by simp; omega)).trans ((hb.cell (p := ⟨w.heap.size, 2, none⟩) (by simp)).trans (by go_simp))
                    have k3 : ∀ p : Since (wr.heap.size + 1) (wr.alloc (.cells #[.int .i64 pat, .string pun, .int .i64 pty] 51)), p.w'.cell? ⟨w.heap.size, 2, none⟩ = some (.slice (some ad) kn kc) := fun p => (p.hb.cell (p := ⟨w.heap.size, 2, none⟩) (by simp; omega)).trans (qo2 _)
                    clear qo2
                    cases e0 : timeB pat with
                    | false =>
                      have HNO := Lib.hid (HS.out.no (p := (pat, pun, pty)) hke HP.out (by simp [askB, e0]))
                      have HRES : Hid (res = false) := Lib.hid (by rw [HV.out, HNO.out]; simp)
                      clear HNO
                      have HTM : Hid (∀ w, Calls Try.prog 34 #[.int .i64 pat] w fun e w' => e = .returned (.bool false) ∧ w = w') := Lib.hid (by intro w; have := rtime_any pat w; rwa [e0] at this)
                      clear e0
                      go_wp2_with fail
                      refine wp_region_since (wr.heap.size + 1) (by kernel_rfl) (by kernel_rfl) ?_
                      repeat (go_big_quiet_step (first | (go_at_call 34; exact Calls.since_same (HTM.out _))))
                      refine wpQuiet_nil ?_
                      intro _ hw'
                      obtain ⟨ps, hw''⟩ := hw'
                      subst hw''
                      have hps := ps.hb
                      generalize ps.w' = wq at *
                      go_wp2
                      go_ret
                      exact ⟨ret_bool HRES.out.symm, (hbA.trans (hps.mono (by omega)))⟩
                    | true =>
                      have HTM : Hid (∀ w, Calls Try.prog 34 #[.int .i64 pat] w fun e w' => e = .returned (.bool true) ∧ w = w') := Lib.hid (by intro w; have := rtime_any pat w; rwa [e0] at this)
                      have hpos := time_pos e0
                      cases e1 : Sp.mayL pun.data.toList with
                      | false =>
                        have HNO := Lib.hid (HS.out.no (p := (pat, pun, pty)) hke HP.out (by simp [askB, e1]))
                        have HRES : Hid (res = false) := Lib.hid (by rw [HV.out, HNO.out]; simp)
                        clear HNO
                        have HMY := Lib.hid (fun w => rmay2_any pun false e1 w)
                        clear e0 e1
                        go_wp2_with fail
                        refine wp_region_since (wr.heap.size + 1) (by kernel_rfl) (by kernel_rfl) ?_
                        repeat (go_big_quiet_step (first | (go_at_call 34; exact Calls.since_same (HTM.out _)) | (go_at_call 24; exact Calls.since_of (by simp) (HMY.out _))))
                        refine wpQuiet_nil ?_
                        intro _ hw'
                        obtain ⟨ps, hw''⟩ := hw'
                        subst hw''
                        have hps := ps.hb
                        generalize ps.w' = wq at *
                        go_wp2
                        go_ret
                        exact ⟨ret_bool HRES.out.symm, (hbA.trans (hps.mono (by omega)))⟩
                      | true =>
                        have HMY := Lib.hid (fun w => rmay2_any pun true e1 w)
                        by_cases e2 : pty < 1
                        · skip
                          have HNO := Lib.hid (HS.out.no (p := (pat, pun, pty)) hke HP.out (by simp [askB, e2]))
                          have HRES : Hid (res = false) := Lib.hid (by rw [HV.out, HNO.out]; simp)
                          clear HNO
                          clear e0 e1
                          go_wp2_with fail
                          refine wp_region_since (wr.heap.size + 1) (by kernel_rfl) (by kernel_rfl) ?_
                          repeat (go_big_quiet_step (first | (go_at_call 34; exact Calls.since_same (HTM.out _)) | (go_at_call 24; exact Calls.since_of (by simp) (HMY.out _))))
                          refine wpQuiet_nil ?_
                          intro _ hw'
                          obtain ⟨ps, hw''⟩ := hw'
                          subst hw''
                          have hps := ps.hb
                          generalize ps.w' = wq at *
                          go_wp2
                          go_ret
                          exact ⟨ret_bool HRES.out.symm, (hbA.trans (hps.mono (by omega)))⟩
                        · skip
                          have g2 : decide (pty < 1) = false := by simp; omega
                          by_cases e3 : 4 < pty
                          · skip
                            have HNO := Lib.hid (HS.out.no (p := (pat, pun, pty)) hke HP.out (by simp [askB, e3]))
                            have HRES : Hid (res = false) := Lib.hid (by rw [HV.out, HNO.out]; simp)
                            clear HNO
                            clear e0 e1
                            go_wp2_with fail
                            refine wp_region_since (wr.heap.size + 1) (by kernel_rfl) (by kernel_rfl) ?_
                            repeat (go_big_quiet_step (first | (go_at_call 34; exact Calls.since_same (HTM.out _)) | (go_at_call 24; exact Calls.since_of (by simp) (HMY.out _))))
                            refine wpQuiet_nil ?_
                            intro _ hw'
                            obtain ⟨ps, hw''⟩ := hw'
                            subst hw''
                            have hps := ps.hb
                            generalize ps.w' = wq at *
                            go_wp2
                            go_ret
                            exact ⟨ret_bool HRES.out.symm, (hbA.trans (hps.mono (by omega)))⟩
                          · skip
                            have g3 : decide (4 < pty) = false := by simp; omega
                            rcases HLI.out with ⟨hk0, rfl⟩ | ⟨j, hj, rfl, hlj⟩
                            · have hng : ¬ pat < 0 := by omega
                              have HNX := Lib.hid (HS.out.more (p := (pat, pun, pty)) hke HP.out (by unfold askB; dsimp only; rw [e0, e1]; simp; omega))
                              clear e0 e1
                              have g0 : decide ((0 : Int) < (k : Int)) = false := by simp; omega
                              have g1 : decide (0 < k) = false := by simp; omega
                              clear hk0
                              go_wp2_with fail
                              refine wp_region_since (wr.heap.size + 1) (by kernel_rfl) (by kernel_rfl) ?_
                              repeat (go_big_quiet_step (first | (go_at_call 34; exact Calls.since_same (HTM.out _)) | (go_at_call 24; exact Calls.since_of (by simp) (HMY.out _))))
                              refine wpQuiet_nil ?_
                              intro _ hw'
                              obtain ⟨ps, hw''⟩ := hw'
                              subst hw''
                              have hps := ps.hb
                              generalize ps.w' = wq at *
                              go_wp2
                              go_roundw
                              case rel => exact ⟨k + 1, pat, by omega, by go_num, hbB.trans (hps.mono (by omega)), HNX, Lib.hid (.inr ⟨k, hke, rfl, by rw [HP.out]⟩)⟩
                              case measure => first | (simp [intOf]; done) | (simp [intOf]; omega)
                            · skip
                              have hpj : (askCells lk)[j * 3]? = some (.int .i64 last) := by rw [hlj]; exact (askCells_at lk j hj).1
                              have d1 : ∀ p : Since (wr.heap.size + 1) (wr.alloc (.cells #[.int .i64 pat, .string pun, .int .i64 pty] 51)), p.w'.cell? (ad.add (j * 3)) = some (.int .i64 last) := fun p => (p.hb.cell (p := ad.add (j * 3)) (by rw [Mem.add_block]; omega)).trans ((World.cell?_alloc_lt wr _ _ (by rw [Mem.add_block]; omega)).trans (HC.out _ _ hpj))
                              clear hpj
                              have hwp : IntKind.i64.wrap (j : Int) = (j : Int) := by rw [IntKind.wrap_i64]; omega
                              have y0 : (0 : Int) ≤ (j : Int) := by omega
                              have y1 : (j : Int) < (kn : Int) := by omega
                              have y2 : (0 : Int) < (j : Int) + 1 := by omega
                              have y3 : (j : Int) + 1 < (kn : Int) := by omega
                              have y4 : (0 : Int) ≤ (j : Int) + 1 := by omega
                              have y5 : ((j : Int) + 1).toNat = j + 1 := by omega
                              by_cases hla : pat < last
                              · skip
                                have HNO := Lib.hid (HS.out.no (p := (pat, pun, pty)) hke HP.out (by simp [askB, hla]))
                                have HRES : Hid (res = false) := Lib.hid (by rw [HV.out, HNO.out]; simp)
                                clear HNO
                                clear e0 e1
                                go_wp2_with fail
                                refine wp_region_since (wr.heap.size + 1) (by kernel_rfl) (by kernel_rfl) ?_
                                repeat (go_big_quiet_step (first | (go_at_call 34; exact Calls.since_same (HTM.out _)) | (go_at_call 24; exact Calls.since_of (by simp) (HMY.out _))))
                                refine wpQuiet_nil ?_
                                intro _ hw'
                                obtain ⟨ps, hw''⟩ := hw'
                                subst hw''
                                have hps := ps.hb
                                generalize ps.w' = wq at *
                                go_wp2
                                go_ret
                                exact ⟨ret_bool HRES.out.symm, (hbA.trans (hps.mono (by omega)))⟩
                              · skip
                                have HNX := Lib.hid (HS.out.more (p := (pat, pun, pty)) hke HP.out (by unfold askB; dsimp only; rw [e0, e1]; simp; omega))
                                clear e0 e1
                                have g0 : decide (pat < last) = false := by simp; omega
                                go_wp2_with fail
                                refine wp_region_since (wr.heap.size + 1) (by kernel_rfl) (by kernel_rfl) ?_
                                repeat (go_big_quiet_step (first | (go_at_call 34; exact Calls.since_same (HTM.out _)) | (go_at_call 24; exact Calls.since_of (by simp) (HMY.out _))))
                                refine wpQuiet_nil ?_
                                intro _ hw'
                                obtain ⟨ps, hw''⟩ := hw'
                                subst hw''
                                have hps := ps.hb
                                generalize ps.w' = wq at *
                                go_wp2
                                go_roundw
                                case rel => exact ⟨(j + 1) + 1, pat, by omega, by go_num, hbB.trans (hps.mono (by omega)), HNX, Lib.hid (.inr ⟨(j + 1), hke, rfl, by rw [HP.out]⟩)⟩
                                case measure => first | (simp [intOf]; done) | (simp [intOf]; omega)
                  · have HD := Lib.hid (HS.out.done (by rw [HL3.out]; exact hlt))
                    have HRES : Hid (res = true) := Lib.hid (by rw [HV.out, HA.out, HC.out, HD.out]; simp; exact ⟨n1, n2, n3⟩)
                    have x1 : ¬ (k : Int) < (kn : Int) := by omega
                    go_wp2
                    go_ret
                    exact ⟨ret_bool HRES.out.symm, hbw⟩

end Go.Proofs.Ytkfeicgeobhccaa
