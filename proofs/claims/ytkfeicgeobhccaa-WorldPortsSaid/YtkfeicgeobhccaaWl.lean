/-
  The walk that says whether a world may be.
-/
import Derived.Test.YtkfeicgeobhccaaWj
import Derived.Test.YtkfeicgeobhccaaWe
namespace Go.Proofs.Ytkfeicgeobhccaa
open Go.RowKit

theorem callCells_len (l : List (Int × Int × Int)) : (callCells l).length = l.length * 3 := by
  induction l with
  | nil => rfl
  | cons p r ih => simp only [callCells, List.flatMap_cons, List.length_append, List.length_cons, List.length_nil] at ih ⊢; omega
theorem callCells_at (l : List (Int × Int × Int)) (k : Nat) (h : k < l.length) : (callCells l)[k * 3]? = some (.int .i64 l[k].1) ∧ (callCells l)[k * 3 + 1]? = some (.int .i64 l[k].2.1) ∧ (callCells l)[k * 3 + 2]? = some (.int .i64 l[k].2.2) := by
  induction l generalizing k with
  | nil => simp at h
  | cons p r ih =>
    cases k with
    | zero => simp [callCells]
    | succ k =>
      have := ih k (by simpa using h)
      simp only [callCells, List.flatMap_cons, List.getElem_cons_succ] at this ⊢
      rw [show (k + 1) * 3 = k * 3 + 3 from by omega, show k * 3 + 3 + 1 = (k * 3 + 1) + 3 from by omega, show k * 3 + 3 + 2 = (k * 3 + 2) + 3 from by omega]
      exact this
/-- may a call be, an ask be, behind one at that time? -/
def callB (last : Int) (p : Int × Int × Int) : Bool := timeB p.1 && (!decide (p.1 < last) && (!decide (p.2.1 < 1) && (!decide (65535 < p.2.1) && (spanB p.2.2 && !(p.2.2 == 1099511627776)))))
def callsFrom : Int → List (Int × Int × Int) → Bool
  | _, [] => true
  | last, p :: r => callB last p && callsFrom p.1 r
def askB (last : Int) (p : Int × ByteArray × Int) : Bool := timeB p.1 && (!decide (p.1 < last) && (Sp.mayL p.2.1.data.toList && (!decide (p.2.2 < 1) && !decide (4 < p.2.2))))
def aaskFrom : Int → List (Int × ByteArray × Int) → Bool
  | _, [] => true
  | last, p :: r => askB last p && aaskFrom p.1 r
def actsFrom : List ActD → List ActD → Bool
  | _, [] => true
  | pre, a :: r => (actB a && !anyOf pre a) && actsFrom (pre ++ [a]) r
def mayWB (na nc nk : Nat) (acts : List ActD) (calls : List (Int × Int × Int)) (asks : List (Int × ByteArray × Int)) : Bool :=
  decide (na ≤ 200) && (decide (nc ≤ 100) && (decide (nk ≤ 100) && (actsFrom [] acts && (callsFrom 0 calls && aaskFrom 0 asks))))
/-- where the loops stand -/
def ActsAt (l : List ActD) (k : Nat) : Prop := actsFrom [] l = actsFrom (l.take k) (l.drop k)
theorem ActsAt.start (l : List ActD) : ActsAt l 0 := by unfold ActsAt; simp
theorem ActsAt.more {l : List ActD} {k : Nat} (h : ActsAt l k) (hk : k < l.length) {a : ActD} (ha : l[k] = a) (h1 : actB a = true) (h2 : anyOf (l.take k) a = false) : ActsAt l (k + 1) := by
  unfold ActsAt at h ⊢
  rw [h, List.drop_eq_getElem_cons hk, ha, actsFrom, h1, h2, List.take_succ_eq_append_getElem hk, ha]; rfl
theorem ActsAt.no1 {l : List ActD} {k : Nat} (h : ActsAt l k) (hk : k < l.length) {a : ActD} (ha : l[k] = a) (h1 : actB a = false) : actsFrom [] l = false := by
  unfold ActsAt at h
  rw [h, List.drop_eq_getElem_cons hk, ha, actsFrom, h1]; rfl
theorem ActsAt.no2 {l : List ActD} {k : Nat} (h : ActsAt l k) (hk : k < l.length) {a : ActD} (ha : l[k] = a) (h2 : anyOf (l.take k) a = true) : actsFrom [] l = false := by
  unfold ActsAt at h
  rw [h, List.drop_eq_getElem_cons hk, ha, actsFrom, h2]; simp
theorem ActsAt.done {l : List ActD} {k : Nat} (h : ActsAt l k) (hk : ¬ k < l.length) : actsFrom [] l = true := by
  unfold ActsAt at h
  rw [h, List.drop_eq_nil_of_le (by omega), actsFrom]
def CallsAt (l : List (Int × Int × Int)) (k : Nat) (last : Int) : Prop := callsFrom 0 l = callsFrom last (l.drop k)
theorem CallsAt.start (l : List (Int × Int × Int)) : CallsAt l 0 0 := by unfold CallsAt; simp
theorem CallsAt.more {l : List (Int × Int × Int)} {k : Nat} {last : Int} (h : CallsAt l k last) (hk : k < l.length) {p : Int × Int × Int} (hp : l[k] = p) (hb : callB last p = true) : CallsAt l (k + 1) p.1 := by
  unfold CallsAt at h ⊢
  rw [h, List.drop_eq_getElem_cons hk, hp, callsFrom, hb, Bool.true_and]
theorem CallsAt.no {l : List (Int × Int × Int)} {k : Nat} {last : Int} (h : CallsAt l k last) (hk : k < l.length) {p : Int × Int × Int} (hp : l[k] = p) (hb : callB last p = false) : callsFrom 0 l = false := by
  unfold CallsAt at h
  rw [h, List.drop_eq_getElem_cons hk, hp, callsFrom, hb, Bool.false_and]
theorem CallsAt.done {l : List (Int × Int × Int)} {k : Nat} {last : Int} (h : CallsAt l k last) (hk : ¬ k < l.length) : callsFrom 0 l = true := by
  unfold CallsAt at h
  rw [h, List.drop_eq_nil_of_le (by omega), callsFrom]
def AaskAt (l : List (Int × ByteArray × Int)) (k : Nat) (last : Int) : Prop := aaskFrom 0 l = aaskFrom last (l.drop k)
theorem AaskAt.start (l : List (Int × ByteArray × Int)) : AaskAt l 0 0 := by unfold AaskAt; simp
theorem AaskAt.more {l : List (Int × ByteArray × Int)} {k : Nat} {last : Int} (h : AaskAt l k last) (hk : k < l.length) {p : Int × ByteArray × Int} (hp : l[k] = p) (hb : askB last p = true) : AaskAt l (k + 1) p.1 := by
  unfold AaskAt at h ⊢
  rw [h, List.drop_eq_getElem_cons hk, hp, aaskFrom, hb, Bool.true_and]
theorem AaskAt.no {l : List (Int × ByteArray × Int)} {k : Nat} {last : Int} (h : AaskAt l k last) (hk : k < l.length) {p : Int × ByteArray × Int} (hp : l[k] = p) (hb : askB last p = false) : aaskFrom 0 l = false := by
  unfold AaskAt at h
  rw [h, List.drop_eq_getElem_cons hk, hp, aaskFrom, hb, Bool.false_and]
theorem AaskAt.done {l : List (Int × ByteArray × Int)} {k : Nat} {last : Int} (h : AaskAt l k last) (hk : ¬ k < l.length) : aaskFrom 0 l = true := by
  unfold AaskAt at h
  rw [h, List.drop_eq_nil_of_le (by omega), aaskFrom]
theorem actCells_take (l : List ActD) (k : Nat) (h : k ≤ l.length) : (actCells (l.take k)) = (actCells l).take (k * 9) := by
  have e : l = l.take k ++ l.drop k := (List.take_append_drop k l).symm
  have e2 : actCells l = actCells (l.take k) ++ actCells (l.drop k) := by
    conv => lhs; rw [e]
    simp only [actCells, List.flatMap_append]
  have e3 : (actCells (l.take k)).length = k * 9 := by rw [actCells_len, List.length_take, Nat.min_eq_left h]
  rw [e2, ← e3, List.take_left']
  rfl
theorem acts_take {w : World} {B n : Nat} {A : Option Addr} {l : List ActD} (h : Rd w B 9 A n (actCells l)) (k : Nat) (hk : k ≤ n) : Rd w B 9 A k (actCells (l.take k)) := by
  have hl : l.length = n := by have h1 := h.1; rw [actCells_len] at h1; omega
  refine ⟨by rw [actCells_len, List.length_take, Nat.min_eq_left (by omega)], fun hk0 => ?_⟩
  obtain ⟨ad, e, hb, hc⟩ := h.2 (by omega)
  refine ⟨ad, e, hb, fun j u hj => hc j u ?_⟩
  rw [actCells_take l k (by omega), List.getElem?_take] at hj
  by_cases h2 : j < k * 9
  · rwa [if_pos h2] at hj
  · rw [if_neg h2] at hj; exact absurd hj (by simp)

set_option maxRecDepth 100000 in
set_option maxHeartbeats 4000000 in
/-- of a world that is too great: no -/
theorem may_big (aA : Option Addr) (an ac : Nat) (cA : Option Addr) (cn cc : Nat) (kA : Option Addr) (kn kc : Nat) (w : World) (h : 200 < an ∨ 100 < cn ∨ 100 < kn) :
    Calls Try.prog 11 #[.agg #[.slice aA an ac, .slice cA cn cc, .slice kA kn kc]] w fun e w' => e = .returned (.bool false) ∧ Below w.heap.size w w' := by
  have hbW := (Below.refl w.heap.size w).alloc (Nat.le_refl _) (.cells #[.slice aA an ac, .slice cA cn cc, .slice kA kn kc] 26)
  by_cases n1 : an ≤ 200
  · have y0 : ¬ (200 : Int) < (an : Int) := by omega
    by_cases n2 : cn ≤ 100
    · have y1 : ¬ (100 : Int) < (cn : Int) := by omega
      have y2 : (100 : Int) < (kn : Int) := by omega
      clear h
      go_enter Try.func11, Try.ntmps11
      go_wp2
      go_ret
      exact ⟨rfl, hbW⟩
    · have y1 : (100 : Int) < (cn : Int) := by omega
      clear h
      go_enter Try.func11, Try.ntmps11
      go_wp2
      go_ret
      exact ⟨rfl, hbW⟩
  · have y0 : (200 : Int) < (an : Int) := by omega
    clear h
    go_enter Try.func11, Try.ntmps11
    go_wp2
    go_ret
    exact ⟨rfl, hbW⟩

set_option maxRecDepth 100000 in
set_option maxHeartbeats 16000000 in
theorem may_w_any (aA : Option Addr) (an ac : Nat) (cA : Option Addr) (cn cc : Nat) (kA : Option Addr) (kn kc : Nat) (l : List ActD) (lc : List (Int × Int × Int)) (lk : List (Int × ByteArray × Int)) (w : World) (B : Nat)
    (hr : Rd w B 9 aA an (actCells l)) (hin : ∀ a ∈ l, ActIn w B a) (hB : B ≤ w.heap.size) (hac : an ≤ ac) (hcr : Rd w B 3 cA cn (callCells lc)) (hkr : Rd w B 3 kA kn (askCells lk)) (hkz : ∀ p ∈ lk, p.2.1.size ≤ 281474976710656) (hcn : cn ≤ 140737488355328) (hkn : kn ≤ 140737488355328) :
    Calls Try.prog 11 #[.agg #[.slice aA an ac, .slice cA cn cc, .slice kA kn kc]] w fun e w' => e = .returned (.bool (mayWB an cn kn l lc lk)) ∧ Below w.heap.size w w' := by
  have hl : l.length = an := by have h1 := hr.1; rw [actCells_len] at h1; omega
  have hl2 : lc.length = cn := by have h1 := hcr.1; rw [callCells_len] at h1; omega
  have hl3 : lk.length = kn := by have h1 := hkr.1; rw [askCells_len] at h1; omega
  have HL := Lib.hid hl
  have HL2 := Lib.hid hl2
  have HL3 := Lib.hid hl3
  have HIN := Lib.hid hin
  have HKZ := Lib.hid hkz
  have hbW := (Below.refl w.heap.size w).alloc (Nat.le_refl _) (.cells #[.slice aA an ac, .slice cA cn cc, .slice kA kn kc] 26)
  clear hl hl2 hl3 hin hkz
  have HV : Hid (mayWB an cn kn l lc lk = (decide (an ≤ 200) && (decide (cn ≤ 100) && (decide (kn ≤ 100) && (actsFrom [] l && (callsFrom 0 lc && aaskFrom 0 lk)))))) := Lib.hid rfl
  generalize mayWB an cn kn l lc lk = res at *
  by_cases n1 : an ≤ 200
  rotate_left
  · have HRES : Hid (res = false) := Lib.hid (by rw [HV.out]; simp [n1])
    have y0 : (200 : Int) < (an : Int) := by omega
    go_enter Try.func11, Try.ntmps11
    go_wp2
    go_ret
    exact ⟨ret_bool HRES.out.symm, hbW⟩
  · skip
    by_cases n2 : cn ≤ 100
    rotate_left
    · have HRES : Hid (res = false) := Lib.hid (by rw [HV.out]; simp [n2])
      have y1 : (100 : Int) < (cn : Int) := by omega
      have y0 : ¬ (200 : Int) < (an : Int) := by omega
      go_enter Try.func11, Try.ntmps11
      go_wp2
      go_ret
      exact ⟨ret_bool HRES.out.symm, hbW⟩
    · skip
      by_cases n3 : kn ≤ 100
      rotate_left
      · have HRES : Hid (res = false) := Lib.hid (by rw [HV.out]; simp [n3])
        have y2 : (100 : Int) < (kn : Int) := by omega
        have y0 : ¬ (200 : Int) < (an : Int) := by omega
        have y1 : ¬ (100 : Int) < (cn : Int) := by omega
        go_enter Try.func11, Try.ntmps11
        go_wp2
        go_ret
        exact ⟨ret_bool HRES.out.symm, hbW⟩
      · skip
        have y0 : ¬ (200 : Int) < (an : Int) := by omega
        have y1 : ¬ (100 : Int) < (cn : Int) := by omega
        have y2 : ¬ (100 : Int) < (kn : Int) := by omega
        go_enter Try.func11, Try.ntmps11
        go_wp2_with fail
        go_loopw [29] (fun iv wr => ∃ k : Nat, k ≤ an ∧ iv = .int .i64 k ∧ Below (w.heap.size + 1) (w.alloc (.cells #[.slice aA an ac, .slice cA cn cc, .slice kA kn kc] 26)) wr ∧ Hid (ActsAt l k)) (fun iv _ => an - (intOf iv).toNat)
        case atStart => exact ⟨0, Nat.zero_le _, rfl, Below.refl _ _, Lib.hid (ActsAt.start _)⟩
        case round =>
          obtain ⟨k, hk, rfl, hb, HS⟩ := hrel
          have hw0 : w.heap.size + 1 ≤ wr.heap.size := by have := hb.size; simp at this; omega
          have hbw : Below w.heap.size w wr := hbW.trans (hb.mono (by omega))
          by_cases hlt : k < an
          · skip
            obtain ⟨ad, rfl, hadB, hkl, h0, h1, h2, h3, h4, h5, h6, h7, h8⟩ := acts_here (hr.below (hbw.mono hB)) k hlt
            have hin := HIN.out _ (List.getElem_mem hkl)
            generalize hx : l[k] = x at *
            obtain ⟨un, pa, nu, at_, la, co, re, di, sA, sn, sc, sy⟩ := x
            dsimp only at h0 h1 h2 h3 h4 h5 h6 h7 h8 hin
            have HX := Lib.hid hx
            have HI := Lib.hid hin
            clear hx hin
            have x1 : (0 : Int) ≤ (k : Int) := by omega
            have x2 : (k : Int) < (an : Int) := by omega
            have x3 : (k : Int) ≤ (ac : Int) := by omega
            have hbA := hbw.alloc hbw.size (.cells #[.string un, .int .i64 pa, .int .i64 nu, .int .i64 at_, .int .i64 la, .int .i64 co, .int .i64 re, .int .i64 di, .slice sA sn sc] 38)
            have hbB := hb.alloc hw0 (.cells #[.string un, .int .i64 pa, .int .i64 nu, .int .i64 at_, .int .i64 la, .int .i64 co, .int .i64 re, .int .i64 di, .slice sA sn sc] 38)
            have hmay := mayact_any ⟨un, pa, nu, at_, la, co, re, di, sA, sn, sc, sy⟩ (wr.alloc (.cells #[.string un, .int .i64 pa, .int .i64 nu, .int .i64 at_, .int .i64 la, .int .i64 co, .int .i64 re, .int .i64 di, .slice sA sn sc] 38)) B (HI.out.below (hbA.mono hB)) (Nat.le_trans hB hbA.size)
            simp only [actV, actC] at hmay
            have HMAY := Lib.hid hmay
            clear hmay
            cases hm : actB ⟨un, pa, nu, at_, la, co, re, di, sA, sn, sc, sy⟩ with
            | false =>
              have HNO := Lib.hid (HS.out.no1 hkl HX.out hm)
              have HRES : Hid (res = false) := Lib.hid (by rw [HV.out, HNO.out]; simp)
              have HM := Lib.hid hm
              go_wp2_with fail
              refine HMAY.out.mono ?_
              rintro e w2 ⟨rfl, hb2⟩
              rw [HM.out]
              have hbA2 := hbA.trans (hb2.mono (by have := hbw.size; simp; omega))
              have hbB2 := hbB.trans (hb2.mono (by simp; omega))
              clear hb2 HNO hm hbA hbB
              go_wp2
              go_ret
              exact ⟨ret_bool HRES.out.symm, hbA2⟩
            | true =>
              cases hany : anyOf (l.take k) ⟨un, pa, nu, at_, la, co, re, di, sA, sn, sc, sy⟩ with
              | true =>
                have HANY := Lib.hid hany
                have HNO := Lib.hid (HS.out.no2 hkl HX.out hany)
                have HRES : Hid (res = false) := Lib.hid (by rw [HV.out, HNO.out]; simp)
                clear hany HNO
                have HM := Lib.hid hm
                go_wp2_with fail
                refine HMAY.out.mono ?_
                rintro e w2 ⟨rfl, hb2⟩
                rw [HM.out]
                have hbA2 := hbA.trans (hb2.mono (by have := hbw.size; simp; omega))
                have hbB2 := hbB.trans (hb2.mono (by simp; omega))
                have hat := (actAt_new wr un pa nu at_ la co re di sA sn sc sy 38).below hb2 (by simp)
                have HAT := Lib.hid hat
                have qq : w2.cell? ⟨w.heap.size, 0, none⟩ = some (.slice (some ad) an ac) := (hbB2.cell (p := ⟨w.heap.size, 0, none⟩) (by simp)).trans (by go_simp)
                have hcont := cont_any (some ad) k ac B (l.take k) ⟨un, pa, nu, at_, la, co, re, di, sA, sn, sc, sy⟩ wr.heap.size w2 (acts_take (hr.below (hbA2.mono hB)) k (by omega)) (Nat.le_trans hB hbA2.size) HAT.out (by have := hb2.size; simp at this; omega) (by omega)
                have HCO := Lib.hid hcont
                clear hcont hat hb2 hbA hbB h0 h1 h2 h3 h4 h5 h6 h7 h8
                go_wp2_with fail
                refine HCO.out.mono ?_
                rintro e w3 ⟨rfl, hb3⟩
                rw [HANY.out]
                have hbA3 := hbA2.trans (hb3.mono hbA2.size)
                have hbB3 := hbB2.trans (hb3.mono (Nat.le_trans (by simp) hbB2.size))
                clear hb3 hm
                go_wp2
                go_ret
                exact ⟨ret_bool HRES.out.symm, hbA3⟩
              | false =>
                have HANY := Lib.hid hany
                have HNX := Lib.hid (HS.out.more hkl HX.out hm hany)
                clear hany
                have HM := Lib.hid hm
                go_wp2_with fail
                refine HMAY.out.mono ?_
                rintro e w2 ⟨rfl, hb2⟩
                rw [HM.out]
                have hbA2 := hbA.trans (hb2.mono (by have := hbw.size; simp; omega))
                have hbB2 := hbB.trans (hb2.mono (by simp; omega))
                have hat := (actAt_new wr un pa nu at_ la co re di sA sn sc sy 38).below hb2 (by simp)
                have HAT := Lib.hid hat
                have qq : w2.cell? ⟨w.heap.size, 0, none⟩ = some (.slice (some ad) an ac) := (hbB2.cell (p := ⟨w.heap.size, 0, none⟩) (by simp)).trans (by go_simp)
                have hcont := cont_any (some ad) k ac B (l.take k) ⟨un, pa, nu, at_, la, co, re, di, sA, sn, sc, sy⟩ wr.heap.size w2 (acts_take (hr.below (hbA2.mono hB)) k (by omega)) (Nat.le_trans hB hbA2.size) HAT.out (by have := hb2.size; simp at this; omega) (by omega)
                have HCO := Lib.hid hcont
                clear hcont hat hb2 hbA hbB h0 h1 h2 h3 h4 h5 h6 h7 h8
                go_wp2_with fail
                refine HCO.out.mono ?_
                rintro e w3 ⟨rfl, hb3⟩
                rw [HANY.out]
                have hbA3 := hbA2.trans (hb3.mono hbA2.size)
                have hbB3 := hbB2.trans (hb3.mono (Nat.le_trans (by simp) hbB2.size))
                clear hb3 hm
                go_wp2
                go_roundw
                case rel => exact ⟨k + 1, by omega, by go_num, hbB3, HNX⟩
                case measure => first | (simp [intOf]; done) | (simp [intOf]; omega)
          · have HA := Lib.hid (HS.out.done (by rw [HL.out]; exact hlt))
            have x1 : ¬ (k : Int) < (an : Int) := by omega
            have q0 : wr.cell? ⟨w.heap.size, 0, none⟩ = some (.slice aA an ac) := (hb.cell (p := ⟨w.heap.size, 0, none⟩) (by simp)).trans (by go_simp)
            have q1 : wr.cell? ⟨w.heap.size, 1, none⟩ = some (.slice cA cn cc) := (hb.cell (p := ⟨w.heap.size, 1, none⟩) (by simp)).trans (by go_simp)
            have q2 : wr.cell? ⟨w.heap.size, 2, none⟩ = some (.slice kA kn kc) := (hb.cell (p := ⟨w.heap.size, 2, none⟩) (by simp)).trans (by go_simp)
            clear HS
            go_wp2_with fail
            go_loopw [5, 49] (fun lv iv wr => ∃ (k : Nat) (last : Int), k ≤ cn ∧ lv = .int .i64 last ∧ iv = .int .i64 k ∧ Below (w.heap.size + 1) (w.alloc (.cells #[.slice aA an ac, .slice cA cn cc, .slice kA kn kc] 26)) wr ∧ Hid (CallsAt lc k last)) (fun _ iv _ => cn - (intOf iv).toNat)
            case atStart => exact ⟨0, 0, Nat.zero_le _, rfl, rfl, hb, Lib.hid (CallsAt.start _)⟩
            case round =>
              clear hb hbw hw0
              obtain ⟨k, last, hk, rfl, rfl, hb, HS⟩ := hrel
              have hw0 : w.heap.size + 1 ≤ wr.heap.size := by have := hb.size; simp at this; omega
              have hbw : Below w.heap.size w wr := hbW.trans (hb.mono (by omega))
              by_cases hlt : k < cn
              · skip
                have hke : k < lc.length := by rw [HL2.out]; exact hlt
                obtain ⟨ad, rfl, hadB, hc⟩ := hcr.here (by omega)
                obtain ⟨p0, p1, p2⟩ := callCells_at lc k hke
                have c0 : wr.cell? (ad.add (k * 3)) = some (.int .i64 lc[k].1) := by rw [hbw.cell (p := ad.add (k * 3)) (by rw [Mem.add_block]; omega)]; exact hc _ _ p0
                have c1 : wr.cell? (ad.add (k * 3 + 1)) = some (.int .i64 lc[k].2.1) := by rw [hbw.cell (p := ad.add (k * 3 + 1)) (by rw [Mem.add_block]; omega)]; exact hc _ _ p1
                have c2 : wr.cell? (ad.add (k * 3 + 2)) = some (.int .i64 lc[k].2.2) := by rw [hbw.cell (p := ad.add (k * 3 + 2)) (by rw [Mem.add_block]; omega)]; exact hc _ _ p2
                rw [Mem.add_field _ _ 1 (by omega)] at c1
                rw [Mem.add_field _ _ 2 (by omega)] at c2
                generalize hp : lc[k] = p at *
                obtain ⟨pat, ppo, pta⟩ := p
                dsimp only at c0 c1 c2
                have HP := Lib.hid hp
                have x1 : (0 : Int) ≤ (k : Int) := by omega
                have x2 : (k : Int) < (cn : Int) := by omega
                clear p0 p1 p2 hp hc
                have hbA := hbw.alloc hbw.size (.cells #[.int .i64 pat, .int .i64 ppo, .int .i64 pta] 54)
                have hbB := hb.alloc hw0 (.cells #[.int .i64 pat, .int .i64 ppo, .int .i64 pta] 54)
                cases ez0 : timeB pat with
                | false =>
                  have HT := Lib.hid ez0
                  have HNO := Lib.hid (HS.out.no (p := (pat, ppo, pta)) hke HP.out (by simp [callB, ez0]))
                  have HRES : Hid (res = false) := Lib.hid (by rw [HV.out, HNO.out]; simp)
                  clear HNO
                  clear ez0
                  go_wp2_with fail
                  refine (time_any pat _).mono ?_
                  rintro e w' ⟨rfl, rfl⟩
                  rw [HT.out]
                  go_wp2
                  go_ret
                  exact ⟨ret_bool HRES.out.symm, hbA⟩
                | true =>
                  have HT := Lib.hid ez0
                  by_cases ez1 : pat < last
                  · skip
                    have HNO := Lib.hid (HS.out.no (p := (pat, ppo, pta)) hke HP.out (by simp [callB, ez0, ez1]))
                    have HRES : Hid (res = false) := Lib.hid (by rw [HV.out, HNO.out]; simp)
                    clear HNO
                    clear ez0
                    go_wp2_with fail
                    refine (time_any pat _).mono ?_
                    rintro e w' ⟨rfl, rfl⟩
                    rw [HT.out]
                    go_wp2
                    go_ret
                    exact ⟨ret_bool HRES.out.symm, hbA⟩
                  · skip
                    by_cases ez2 : ppo < 1
                    · skip
                      have HNO := Lib.hid (HS.out.no (p := (pat, ppo, pta)) hke HP.out (by simp [callB, ez0, ez1, ez2]))
                      have HRES : Hid (res = false) := Lib.hid (by rw [HV.out, HNO.out]; simp)
                      clear HNO
                      clear ez0
                      go_wp2_with fail
                      refine (time_any pat _).mono ?_
                      rintro e w' ⟨rfl, rfl⟩
                      rw [HT.out]
                      go_wp2
                      go_ret
                      exact ⟨ret_bool HRES.out.symm, hbA⟩
                    · skip
                      by_cases ez3 : 65535 < ppo
                      · skip
                        have HNO := Lib.hid (HS.out.no (p := (pat, ppo, pta)) hke HP.out (by simp [callB, ez0, ez1, ez2, ez3]))
                        have HRES : Hid (res = false) := Lib.hid (by rw [HV.out, HNO.out]; simp)
                        clear HNO
                        clear ez0
                        go_wp2_with fail
                        refine (time_any pat _).mono ?_
                        rintro e w' ⟨rfl, rfl⟩
                        rw [HT.out]
                        go_wp2
                        go_ret
                        exact ⟨ret_bool HRES.out.symm, hbA⟩
                      · skip
                        cases ez4 : spanB pta with
                        | false =>
                          have HM := Lib.hid ez4
                          have HNO := Lib.hid (HS.out.no (p := (pat, ppo, pta)) hke HP.out (by simp [callB, ez0, ez1, ez2, ez3, ez4]))
                          have HRES : Hid (res = false) := Lib.hid (by rw [HV.out, HNO.out]; simp)
                          clear HNO
                          clear ez0 ez4
                          go_wp2_with fail
                          refine (time_any pat _).mono ?_
                          rintro e w' ⟨rfl, rfl⟩
                          rw [HT.out]
                          go_wp2_with fail
                          refine (span_any pta _).mono ?_
                          rintro e w' ⟨rfl, rfl⟩
                          rw [HM.out]
                          go_wp2
                          go_ret
                          exact ⟨ret_bool HRES.out.symm, hbA⟩
                        | true =>
                          have HM := Lib.hid ez4
                          cases ez5 : (pta == 1099511627776) with
                          | true =>
                            have HNO := Lib.hid (HS.out.no (p := (pat, ppo, pta)) hke HP.out (by unfold callB; dsimp only; rw [ez5]; simp))
                            have HRES : Hid (res = false) := Lib.hid (by rw [HV.out, HNO.out]; simp)
                            clear HNO
                            clear ez0 ez4
                            go_wp2_with fail
                            refine (time_any pat _).mono ?_
                            rintro e w' ⟨rfl, rfl⟩
                            rw [HT.out]
                            go_wp2_with fail
                            refine (span_any pta _).mono ?_
                            rintro e w' ⟨rfl, rfl⟩
                            rw [HM.out]
                            go_wp2
                            go_ret
                            exact ⟨ret_bool HRES.out.symm, hbA⟩
                          | false =>
                            have HNX := Lib.hid (HS.out.more (p := (pat, ppo, pta)) hke HP.out (by unfold callB; dsimp only; rw [ez0, ez4, ez5]; simp [ez1, ez2, ez3]))
                            clear ez0 ez4
                            go_wp2_with fail
                            refine (time_any pat _).mono ?_
                            rintro e w' ⟨rfl, rfl⟩
                            rw [HT.out]
                            go_wp2_with fail
                            refine (span_any pta _).mono ?_
                            rintro e w' ⟨rfl, rfl⟩
                            rw [HM.out]
                            go_wp2
                            go_roundw
                            case rel => exact ⟨k + 1, pat, by omega, rfl, by go_num, hbB, HNX⟩
                            case measure => first | (simp [intOf]; done) | (simp [intOf]; omega)
              · have HC := Lib.hid (HS.out.done (by rw [HL2.out]; exact hlt))
                have x1 : ¬ (k : Int) < (cn : Int) := by omega
                have q0 : wr.cell? ⟨w.heap.size, 0, none⟩ = some (.slice aA an ac) := (hb.cell (p := ⟨w.heap.size, 0, none⟩) (by simp)).trans (by go_simp)
                have q1 : wr.cell? ⟨w.heap.size, 1, none⟩ = some (.slice cA cn cc) := (hb.cell (p := ⟨w.heap.size, 1, none⟩) (by simp)).trans (by go_simp)
                have q2 : wr.cell? ⟨w.heap.size, 2, none⟩ = some (.slice kA kn kc) := (hb.cell (p := ⟨w.heap.size, 2, none⟩) (by simp)).trans (by go_simp)
                clear HS
                go_wp2_with fail
                go_loopw [5, 90] (fun lv iv wr => ∃ (k : Nat) (last : Int), k ≤ kn ∧ lv = .int .i64 last ∧ iv = .int .i64 k ∧ Below (w.heap.size + 1) (w.alloc (.cells #[.slice aA an ac, .slice cA cn cc, .slice kA kn kc] 26)) wr ∧ Hid (AaskAt lk k last)) (fun _ iv _ => kn - (intOf iv).toNat)
                case atStart => exact ⟨0, 0, Nat.zero_le _, rfl, rfl, hb, Lib.hid (AaskAt.start _)⟩
                case round =>
                  clear hb hbw hw0
                  obtain ⟨k, last, hk, rfl, rfl, hb, HS⟩ := hrel
                  have hw0 : w.heap.size + 1 ≤ wr.heap.size := by have := hb.size; simp at this; omega
                  have hbw : Below w.heap.size w wr := hbW.trans (hb.mono (by omega))
                  by_cases hlt : k < kn
                  · skip
                    have hke : k < lk.length := by rw [HL3.out]; exact hlt
                    obtain ⟨ad, rfl, hadB, hc⟩ := hkr.here (by omega)
                    obtain ⟨p0, p1, p2⟩ := askCells_at lk k hke
                    have c0 : wr.cell? (ad.add (k * 3)) = some (.int .i64 lk[k].1) := by rw [hbw.cell (p := ad.add (k * 3)) (by rw [Mem.add_block]; omega)]; exact hc _ _ p0
                    have c1 : wr.cell? (ad.add (k * 3 + 1)) = some (.string lk[k].2.1) := by rw [hbw.cell (p := ad.add (k * 3 + 1)) (by rw [Mem.add_block]; omega)]; exact hc _ _ p1
                    have c2 : wr.cell? (ad.add (k * 3 + 2)) = some (.int .i64 lk[k].2.2) := by rw [hbw.cell (p := ad.add (k * 3 + 2)) (by rw [Mem.add_block]; omega)]; exact hc _ _ p2
                    rw [Mem.add_field _ _ 1 (by omega)] at c1
                    rw [Mem.add_field _ _ 2 (by omega)] at c2
                    have hsz := HKZ.out _ (List.getElem_mem hke)
                    generalize hp : lk[k] = p at *
                    obtain ⟨pat, pun, pty⟩ := p
                    dsimp only at c0 c1 c2 hsz
                    have HP := Lib.hid hp
                    have x1 : (0 : Int) ≤ (k : Int) := by omega
                    have x2 : (k : Int) < (kn : Int) := by omega
                    clear p0 p1 p2 hp hc
                    have hbA := hbw.alloc hbw.size (.cells #[.int .i64 pat, .string pun, .int .i64 pty] 51)
                    have hbB := hb.alloc hw0 (.cells #[.int .i64 pat, .string pun, .int .i64 pty] 51)
                    cases ez0 : timeB pat with
                    | false =>
                      have HT := Lib.hid ez0
                      have HNO := Lib.hid (HS.out.no (p := (pat, pun, pty)) hke HP.out (by simp [askB, ez0]))
                      have HRES : Hid (res = false) := Lib.hid (by rw [HV.out, HNO.out]; simp)
                      clear HNO
                      clear ez0
                      go_wp2_with fail
                      refine (time_any pat _).mono ?_
                      rintro e w' ⟨rfl, rfl⟩
                      rw [HT.out]
                      go_wp2
                      go_ret
                      exact ⟨ret_bool HRES.out.symm, hbA⟩
                    | true =>
                      have HT := Lib.hid ez0
                      by_cases ez1 : pat < last
                      · skip
                        have HNO := Lib.hid (HS.out.no (p := (pat, pun, pty)) hke HP.out (by simp [askB, ez0, ez1]))
                        have HRES : Hid (res = false) := Lib.hid (by rw [HV.out, HNO.out]; simp)
                        clear HNO
                        clear ez0
                        go_wp2_with fail
                        refine (time_any pat _).mono ?_
                        rintro e w' ⟨rfl, rfl⟩
                        rw [HT.out]
                        go_wp2
                        go_ret
                        exact ⟨ret_bool HRES.out.symm, hbA⟩
                      · skip
                        cases ez2 : Sp.mayL pun.data.toList with
                        | false =>
                          have HM := Lib.hid ez2
                          have HNO := Lib.hid (HS.out.no (p := (pat, pun, pty)) hke HP.out (by simp [askB, ez0, ez1, ez2]))
                          have HRES : Hid (res = false) := Lib.hid (by rw [HV.out, HNO.out]; simp)
                          clear HNO
                          clear ez0 ez2
                          go_wp2_with fail
                          refine (time_any pat _).mono ?_
                          rintro e w' ⟨rfl, rfl⟩
                          rw [HT.out]
                          go_wp2_with fail
                          refine (may_any pun _ hsz).mono ?_
                          rintro e w2 ⟨rfl, hb2⟩
                          rw [HM.out]
                          have b0 : w2.cell? ⟨wr.heap.size, 0, none⟩ = some (.int .i64 pat) := (hb2.cell (p := ⟨wr.heap.size, 0, none⟩) (by simp)).trans (by go_simp)
                          have b2 : w2.cell? ⟨wr.heap.size, 2, none⟩ = some (.int .i64 pty) := (hb2.cell (p := ⟨wr.heap.size, 2, none⟩) (by simp)).trans (by go_simp)
                          have hbA2 := hbA.trans (hb2.mono (by have := hbw.size; simp; omega))
                          have hbB2 := hbB.trans (hb2.mono (by simp; omega))
                          clear hb2 hsz hbA hbB
                          go_wp2
                          go_ret
                          exact ⟨ret_bool HRES.out.symm, hbA2⟩
                        | true =>
                          have HM := Lib.hid ez2
                          by_cases ez3 : pty < 1
                          · skip
                            have HNO := Lib.hid (HS.out.no (p := (pat, pun, pty)) hke HP.out (by simp [askB, ez0, ez1, ez2, ez3]))
                            have HRES : Hid (res = false) := Lib.hid (by rw [HV.out, HNO.out]; simp)
                            clear HNO
                            clear ez0 ez2
                            go_wp2_with fail
                            refine (time_any pat _).mono ?_
                            rintro e w' ⟨rfl, rfl⟩
                            rw [HT.out]
                            go_wp2_with fail
                            refine (may_any pun _ hsz).mono ?_
                            rintro e w2 ⟨rfl, hb2⟩
                            rw [HM.out]
                            have b0 : w2.cell? ⟨wr.heap.size, 0, none⟩ = some (.int .i64 pat) := (hb2.cell (p := ⟨wr.heap.size, 0, none⟩) (by simp)).trans (by go_simp)
                            have b2 : w2.cell? ⟨wr.heap.size, 2, none⟩ = some (.int .i64 pty) := (hb2.cell (p := ⟨wr.heap.size, 2, none⟩) (by simp)).trans (by go_simp)
                            have hbA2 := hbA.trans (hb2.mono (by have := hbw.size; simp; omega))
                            have hbB2 := hbB.trans (hb2.mono (by simp; omega))
                            clear hb2 hsz hbA hbB
                            go_wp2
                            go_ret
                            exact ⟨ret_bool HRES.out.symm, hbA2⟩
                          · skip
                            by_cases ez4 : 4 < pty
                            · skip
                              have HNO := Lib.hid (HS.out.no (p := (pat, pun, pty)) hke HP.out (by simp [askB, ez0, ez1, ez2, ez3, ez4]))
                              have HRES : Hid (res = false) := Lib.hid (by rw [HV.out, HNO.out]; simp)
                              clear HNO
                              clear ez0 ez2
                              go_wp2_with fail
                              refine (time_any pat _).mono ?_
                              rintro e w' ⟨rfl, rfl⟩
                              rw [HT.out]
                              go_wp2_with fail
                              refine (may_any pun _ hsz).mono ?_
                              rintro e w2 ⟨rfl, hb2⟩
                              rw [HM.out]
                              have b0 : w2.cell? ⟨wr.heap.size, 0, none⟩ = some (.int .i64 pat) := (hb2.cell (p := ⟨wr.heap.size, 0, none⟩) (by simp)).trans (by go_simp)
                              have b2 : w2.cell? ⟨wr.heap.size, 2, none⟩ = some (.int .i64 pty) := (hb2.cell (p := ⟨wr.heap.size, 2, none⟩) (by simp)).trans (by go_simp)
                              have hbA2 := hbA.trans (hb2.mono (by have := hbw.size; simp; omega))
                              have hbB2 := hbB.trans (hb2.mono (by simp; omega))
                              clear hb2 hsz hbA hbB
                              go_wp2
                              go_ret
                              exact ⟨ret_bool HRES.out.symm, hbA2⟩
                            · skip
                              have HNX := Lib.hid (HS.out.more (p := (pat, pun, pty)) hke HP.out (by simp [askB, ez0, ez1, ez2, ez3, ez4]))
                              clear ez0 ez2
                              go_wp2_with fail
                              refine (time_any pat _).mono ?_
                              rintro e w' ⟨rfl, rfl⟩
                              rw [HT.out]
                              go_wp2_with fail
                              refine (may_any pun _ hsz).mono ?_
                              rintro e w2 ⟨rfl, hb2⟩
                              rw [HM.out]
                              have b0 : w2.cell? ⟨wr.heap.size, 0, none⟩ = some (.int .i64 pat) := (hb2.cell (p := ⟨wr.heap.size, 0, none⟩) (by simp)).trans (by go_simp)
                              have b2 : w2.cell? ⟨wr.heap.size, 2, none⟩ = some (.int .i64 pty) := (hb2.cell (p := ⟨wr.heap.size, 2, none⟩) (by simp)).trans (by go_simp)
                              have hbA2 := hbA.trans (hb2.mono (by have := hbw.size; simp; omega))
                              have hbB2 := hbB.trans (hb2.mono (by simp; omega))
                              clear hb2 hsz hbA hbB
                              go_wp2
                              go_roundw
                              case rel => exact ⟨k + 1, pat, by omega, rfl, by go_num, hbB2, HNX⟩
                              case measure => first | (simp [intOf]; done) | (simp [intOf]; omega)
                  · have HD := Lib.hid (HS.out.done (by rw [HL3.out]; exact hlt))
                    have HRES : Hid (res = true) := Lib.hid (by rw [HV.out, HA.out, HC.out, HD.out]; simp; exact ⟨n1, n2, n3⟩)
                    have x1 : ¬ (k : Int) < (kn : Int) := by omega
                    go_wp2
                    go_ret
                    exact ⟨ret_bool HRES.out.symm, hbw⟩

end Go.Proofs.Ytkfeicgeobhccaa
