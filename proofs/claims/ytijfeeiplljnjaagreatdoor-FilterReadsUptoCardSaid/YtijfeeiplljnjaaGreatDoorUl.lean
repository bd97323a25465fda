/-
  Rows of texts and of numbers, read: do they rise, is one among them, is there one of which something is true: the program's walks.
-/
import Derived.Test.YtijfeeiplljnjaaGreatDoorUk
import Derived.Test.YtijfeeiplljnjaaGreatDoorUb
import Derived.Test.YtijfeeiplljnjaaGreatDoorRa
import Derived.Laws.ResultCell
import Derived.BigQuiet
namespace Go.Proofs.YtijfeeiplljnjaaGreatDoor
open Go.RowKit Go.Shelf

def strsV (l : List ByteArray) : List Value := l.map Value.string
def intsV (l : List Int) : List Value := l.map (Value.int .i64)
theorem strsV_len (l : List ByteArray) : (strsV l).length = l.length := by simp [strsV]
theorem intsV_len (l : List Int) : (intsV l).length = l.length := by simp [intsV]
theorem Rd.strAt {w : World} {B n : Nat} {A : Option Addr} {l : List ByteArray} (h : Rd w B 1 A n (strsV l)) (k : Nat) (hk : k < l.length) : ∃ ad, A = some ad ∧ ∀ W, Below B w W → W.cell? (ad.add k) = some (.string l[k]) := by
  have hl : l.length = n := by have := h.1; rw [strsV_len] at this; omega
  obtain ⟨ad, rfl, _, _⟩ := h.here (by omega)
  refine ⟨ad, rfl, fun W hW => ?_⟩
  obtain ⟨ad', e, _, hc⟩ := (h.below hW).here (by omega)
  injection e with e
  subst e
  exact hc k _ (by simp [strsV, hk])
theorem Rd.intAt {w : World} {B n : Nat} {A : Option Addr} {l : List Int} (h : Rd w B 1 A n (intsV l)) (k : Nat) (hk : k < l.length) : ∃ ad, A = some ad ∧ ∀ W, Below B w W → W.cell? (ad.add k) = some (.int .i64 l[k]) := by
  have hl : l.length = n := by have := h.1; rw [intsV_len] at this; omega
  obtain ⟨ad, rfl, _, _⟩ := h.here (by omega)
  refine ⟨ad, rfl, fun W hW => ?_⟩
  obtain ⟨ad', e, _, hc⟩ := (h.below hW).here (by omega)
  injection e with e
  subst e
  exact hc k _ (by simp [intsV, hk])
namespace Sp
theorem risesB_no : ∀ (l : List ByteArray) (q : Nat) (h : q + 1 < l.length), ltB l[q] l[q + 1] = false → risesB l = false
  | [], q, h, _ => by simp at h
  | [a], q, h, _ => by simp at h
  | a :: b :: r, 0, h, e => by rw [risesB, show ltB a b = false from e]; rfl
  | a :: b :: r, q + 1, h, e => by rw [risesB, risesB_no (b :: r) q (by simpa using h) (by simpa using e), Bool.and_false]
theorem risesB_yes : ∀ (l : List ByteArray), (∀ (q : Nat) (h : q + 1 < l.length), ltB l[q] l[q + 1] = true) → risesB l = true
  | [], _ => rfl
  | [a], _ => rfl
  | a :: b :: r, e => by
    rw [risesB, show ltB a b = true from e 0 (by simp), risesB_yes (b :: r) (fun q h => by have := e (q + 1) (by simpa using h); simpa using this)]; rfl
theorem risesI_no : ∀ (l : List Int) (q : Nat) (h : q + 1 < l.length), ¬ l[q] < l[q + 1] → risesI l = false
  | [], q, h, _ => by simp at h
  | [a], q, h, _ => by simp at h
  | a :: b :: r, 0, h, e => by rw [risesI, decide_eq_false (show ¬ a < b from e)]; rfl
  | a :: b :: r, q + 1, h, e => by rw [risesI, risesI_no (b :: r) q (by simpa using h) (by simpa using e), Bool.and_false]
theorem risesI_yes : ∀ (l : List Int), (∀ (q : Nat) (h : q + 1 < l.length), l[q] < l[q + 1]) → risesI l = true
  | [], _ => rfl
  | [a], _ => rfl
  | a :: b :: r, e => by
    rw [risesI, decide_eq_true (show a < b from e 0 (by simp)), risesI_yes (b :: r) (fun q h => by have := e (q + 1) (by simpa using h); simpa using this)]; rfl
end Sp

set_option maxHeartbeats 4000000 in
theorem rises_s (l : List ByteArray) (A : Option Addr) (n c B : Nat) (w : World) (h : Rd w B 1 A n (strsV l)) (hn : n ≤ 140737488355328) :
    Calls Tryz.prog 17 #[.slice A n c] w fun e w' => e = .returned (.bool (Sp.risesB l)) ∧ ∃ k, w' = w.drewN k := by
  have hlen : l.length = n := by have := h.1; rw [strsV_len] at this; omega
  have HL := Lib.hid hlen
  have HNO := Lib.hid (Sp.risesB_no l)
  have HYES := Lib.hid (Sp.risesB_yes l)
  have HROW := Lib.hid (fun k hk => Rd.strAt h k hk)
  clear hlen h
  go_enter Tryz.func17, Tryz.ntmps17
  go_wp2_with fail
  go_loopw [6] (fun iv wr => ∃ k : Nat, k ≤ n ∧ iv = .int .i64 k ∧ Hid (∃ m, wr = w.drewN m) ∧ Hid (∀ (q : Nat) (h : q + 1 < l.length), q + 1 < k → Sp.ltB l[q] l[q + 1] = true)) (fun iv _ => n - (intOf iv).toNat)
  case atStart => exact ⟨0, Nat.zero_le _, rfl, Lib.hid ⟨0, rfl⟩, Lib.hid fun q h hq => absurd hq (by omega)⟩
  case round =>
    obtain ⟨k, hk, rfl, HD, HK⟩ := hrel
    by_cases hlt : k < n
    · have hkl : k < l.length := by rw [HL.out]; exact hlt
      obtain ⟨ad, rfl, hc⟩ := HROW.out k hkl
      have c0 : wr.cell? (ad.add k) = some (.string l[k]) := by obtain ⟨m, hm⟩ := HD.out; rw [hm]; exact hc w (Below.refl _ _)
      have x1 : (0 : Int) ≤ (k : Int) := by omega
      have x2 : (k : Int) < (n : Int) := by omega
      clear hc
      rcases Nat.eq_zero_or_pos k with hk0 | hk0
      · subst hk0
        clear c0 HROW
        rw [show ((0 : Nat) : Int) = 0 from rfl] at x1 x2 ⊢
        go_wp2
        go_quiet (fail)
        have HD2 : Hid (∃ m, wr.drewN nq = w.drewN m) := Lib.hid (by obtain ⟨m, hm⟩ := HD.out; exact ⟨m + nq, by rw [hm, World.drewN_drewN]⟩)
        generalize wr.drewN nq = w2 at *
        go_wp2
        go_roundw
        case rel => exact ⟨1, by omega, by first | rfl | go_num, HD2, Lib.hid fun q h hq => absurd hq (by omega)⟩
        case measure => first | (simp [intOf]; done) | (simp [intOf]; omega)
      · obtain ⟨q, rfl⟩ : ∃ q, k = q + 1 := ⟨k - 1, by omega⟩
        have hql : q < l.length := by omega
        obtain ⟨ad', had, hcq⟩ := HROW.out q hql
        injection had with had
        subst had
        have d0 : wr.cell? (ad.add q) = some (.string l[q]) := by obtain ⟨m, hm⟩ := HD.out; rw [hm]; exact hcq w (Below.refl _ _)
        have c1 : wr.cell? ⟨ad.block, ad.off + (q + 1), none⟩ = some (.string l[q + 1]) := by
          have g := Mem.add_field ad 0 (q + 1) (by omega)
          rw [Nat.zero_add, show ad.add 0 = ad by simp [Addr.add]] at g
          rw [← g]; exact c0
        clear c0
        have HNK := Lib.hid (HNO.out q hkl)
        have HKK : Hid (Sp.ltB l[q] l[q + 1] = true → ∀ (p : Nat) (h : p + 1 < l.length), p + 1 < q + 1 + 1 → Sp.ltB l[p] l[p + 1] = true) := Lib.hid (fun e p h hp => by
          by_cases hpq : p = q
          · subst hpq; exact e
          · exact HK.out p h (by omega))
        clear hcq HROW HK HYES HNO
        generalize l[q + 1] = y at *
        generalize l[q] = p at *
        have y0 : ((q + 1 : Nat) : Int) = (q : Int) + 1 := by omega
        rw [y0]
        have y1 : (0 : Int) ≤ (q : Int) := by omega
        have y2 : (q : Int) < (n : Int) := by omega
        have y3 : (q : Int) + 1 < (n : Int) := by omega
        have y4 : (0 : Int) ≤ (q : Int) + 1 := by omega
        have y5 : (0 : Int) < (q : Int) + 1 := by omega
        have ep : ((q : Int) + 1).toNat = q + 1 := by omega
        have hwp : IntKind.i64.wrap (q : Int) = (q : Int) := by rw [IntKind.wrap_i64]; omega
        clear y0 x1 x2
        cases hls : Sp.ltB p y with
        | true =>
          have t1 : Op.bytesLess y.toList p.toList = false := Sp.ltB_asym hls
          have t2 : (y.toList == p.toList) = false := by
            rw [beq_eq_false_iff_ne]
            intro e
            unfold Sp.ltB at hls
            rw [e, Sp.bl_self] at hls
            cases hls
          have HKN := Lib.hid (HKK.out hls)
          clear hls
          go_wp2
          go_quiet (fail)
          have HD2 : Hid (∃ m, wr.drewN nq = w.drewN m) := Lib.hid (by obtain ⟨m, hm⟩ := HD.out; exact ⟨m + nq, by rw [hm, World.drewN_drewN]⟩)
          clear c1 d0
          generalize wr.drewN nq = w2 at *
          go_wp2
          go_roundw
          case rel => exact ⟨q + 1 + 1, by omega, by first | rfl | go_num, HD2, HKN⟩
          case measure => first | (simp [intOf]; done) | (simp [intOf]; omega)
        | false =>
          have tt : Op.bytesLess y.toList p.toList = true ∨ (Op.bytesLess y.toList p.toList = false ∧ (y.toList == p.toList) = true) := by
            cases hyp : Sp.ltB y p with
            | true => exact .inl hyp
            | false => exact .inr ⟨hyp, by rw [Sp.ltB_total hls hyp]; simp⟩
          have HR := Lib.hid (HNK.out hls)
          clear hls
          rcases tt with t1 | ⟨t1, t2⟩
          · go_wp2
            go_quiet (fail)
            have HD2 : Hid (∃ m, wr.drewN nq = w.drewN m) := Lib.hid (by obtain ⟨m, hm⟩ := HD.out; exact ⟨m + nq, by rw [hm, World.drewN_drewN]⟩)
            clear c1 d0
            generalize wr.drewN nq = w2 at *
            go_wp2
            rw [HR.out]
            go_ret
            exact ⟨rfl, HD2.out⟩

          · go_wp2
            go_quiet (fail)
            have HD2 : Hid (∃ m, wr.drewN nq = w.drewN m) := Lib.hid (by obtain ⟨m, hm⟩ := HD.out; exact ⟨m + nq, by rw [hm, World.drewN_drewN]⟩)
            clear c1 d0
            generalize wr.drewN nq = w2 at *
            go_wp2
            rw [HR.out]
            go_ret
            exact ⟨rfl, HD2.out⟩
    · have x2 : ¬ (k : Int) < (n : Int) := by omega
      have HR := Lib.hid (HYES.out fun q h => HK.out q h (by have := HL.out; omega))
      go_wp2
      rw [HR.out]
      go_ret
      exact ⟨rfl, HD.out⟩

set_option maxHeartbeats 4000000 in
theorem rises_i (l : List Int) (A : Option Addr) (n c B : Nat) (w : World) (h : Rd w B 1 A n (intsV l)) (hn : n ≤ 140737488355328) :
    Calls Tryz.prog 18 #[.slice A n c] w fun e w' => e = .returned (.bool (Sp.risesI l)) ∧ ∃ k, w' = w.drewN k := by
  have hlen : l.length = n := by have := h.1; rw [intsV_len] at this; omega
  have HL := Lib.hid hlen
  have HNO := Lib.hid (Sp.risesI_no l)
  have HYES := Lib.hid (Sp.risesI_yes l)
  have HROW := Lib.hid (fun k hk => Rd.intAt h k hk)
  clear hlen h
  go_enter Tryz.func18, Tryz.ntmps18
  go_wp2_with fail
  go_loopw [6] (fun iv wr => ∃ k : Nat, k ≤ n ∧ iv = .int .i64 k ∧ Hid (∃ m, wr = w.drewN m) ∧ Hid (∀ (q : Nat) (h : q + 1 < l.length), q + 1 < k → l[q] < l[q + 1])) (fun iv _ => n - (intOf iv).toNat)
  case atStart => exact ⟨0, Nat.zero_le _, rfl, Lib.hid ⟨0, rfl⟩, Lib.hid fun q h hq => absurd hq (by omega)⟩
  case round =>
    obtain ⟨k, hk, rfl, HD, HK⟩ := hrel
    by_cases hlt : k < n
    · have hkl : k < l.length := by rw [HL.out]; exact hlt
      obtain ⟨ad, rfl, hc⟩ := HROW.out k hkl
      have c0 : wr.cell? (ad.add k) = some (.int .i64 l[k]) := by obtain ⟨m, hm⟩ := HD.out; rw [hm]; exact hc w (Below.refl _ _)
      have x1 : (0 : Int) ≤ (k : Int) := by omega
      have x2 : (k : Int) < (n : Int) := by omega
      clear hc
      rcases Nat.eq_zero_or_pos k with hk0 | hk0
      · subst hk0
        clear c0 HROW
        rw [show ((0 : Nat) : Int) = 0 from rfl] at x1 x2 ⊢
        go_wp2
        go_quiet (fail)
        have HD2 : Hid (∃ m, wr.drewN nq = w.drewN m) := Lib.hid (by obtain ⟨m, hm⟩ := HD.out; exact ⟨m + nq, by rw [hm, World.drewN_drewN]⟩)
        generalize wr.drewN nq = w2 at *
        go_wp2
        go_roundw
        case rel => exact ⟨1, by omega, by first | rfl | go_num, HD2, Lib.hid fun q h hq => absurd hq (by omega)⟩
        case measure => first | (simp [intOf]; done) | (simp [intOf]; omega)
      · obtain ⟨q, rfl⟩ : ∃ q, k = q + 1 := ⟨k - 1, by omega⟩
        have hql : q < l.length := by omega
        obtain ⟨ad', had, hcq⟩ := HROW.out q hql
        injection had with had
        subst had
        have d0 : wr.cell? (ad.add q) = some (.int .i64 l[q]) := by obtain ⟨m, hm⟩ := HD.out; rw [hm]; exact hcq w (Below.refl _ _)
        have c1 : wr.cell? ⟨ad.block, ad.off + (q + 1), none⟩ = some (.int .i64 l[q + 1]) := by
          have g := Mem.add_field ad 0 (q + 1) (by omega)
          rw [Nat.zero_add, show ad.add 0 = ad by simp [Addr.add]] at g
          rw [← g]; exact c0
        clear c0
        have HNK := Lib.hid (HNO.out q hkl)
        have HKK : Hid (l[q] < l[q + 1] → ∀ (p : Nat) (h : p + 1 < l.length), p + 1 < q + 1 + 1 → l[p] < l[p + 1]) := Lib.hid (fun e p h hp => by
          by_cases hpq : p = q
          · subst hpq; exact e
          · exact HK.out p h (by omega))
        clear hcq HROW HK HYES HNO
        generalize l[q + 1] = y at *
        generalize l[q] = p at *
        have y0 : ((q + 1 : Nat) : Int) = (q : Int) + 1 := by omega
        rw [y0]
        have y1 : (0 : Int) ≤ (q : Int) := by omega
        have y2 : (q : Int) < (n : Int) := by omega
        have y3 : (q : Int) + 1 < (n : Int) := by omega
        have y4 : (0 : Int) ≤ (q : Int) + 1 := by omega
        have y5 : (0 : Int) < (q : Int) + 1 := by omega
        have ep : ((q : Int) + 1).toNat = q + 1 := by omega
        have hwp : IntKind.i64.wrap (q : Int) = (q : Int) := by rw [IntKind.wrap_i64]; omega
        clear y0 x1 x2
        by_cases hls : p < y
        · have t1 : decide (y ≤ p) = false := decide_eq_false (by omega)
          have HKN := Lib.hid (HKK.out hls)
          clear hls
          go_wp2
          go_quiet (fail)
          have HD2 : Hid (∃ m, wr.drewN nq = w.drewN m) := Lib.hid (by obtain ⟨m, hm⟩ := HD.out; exact ⟨m + nq, by rw [hm, World.drewN_drewN]⟩)
          clear c1 d0
          generalize wr.drewN nq = w2 at *
          go_wp2
          go_roundw
          case rel => exact ⟨q + 1 + 1, by omega, by first | rfl | go_num, HD2, HKN⟩
          case measure => first | (simp [intOf]; done) | (simp [intOf]; omega)
        · have t1 : decide (y ≤ p) = true := decide_eq_true (by omega)
          have HR := Lib.hid (HNK.out (by omega))
          clear hls
          go_wp2
          go_quiet (fail)
          have HD2 : Hid (∃ m, wr.drewN nq = w.drewN m) := Lib.hid (by obtain ⟨m, hm⟩ := HD.out; exact ⟨m + nq, by rw [hm, World.drewN_drewN]⟩)
          clear c1 d0
          generalize wr.drewN nq = w2 at *
          go_wp2
          rw [HR.out]
          go_ret
          exact ⟨rfl, HD2.out⟩
    · have x2 : ¬ (k : Int) < (n : Int) := by omega
      have HR := Lib.hid (HYES.out fun q h => HK.out q h (by have := HL.out; omega))
      go_wp2
      rw [HR.out]
      go_ret
      exact ⟨rfl, HD.out⟩

end Go.Proofs.YtijfeeiplljnjaaGreatDoor
