/-
  The reference: may a calendar be? The walks.
-/
import Derived.Test.YtpkpoglmmjaoeaaGreatDoorDv
import Derived.Test.YtpkpoglmmjaoeaaGreatDoorCr
import Derived.Test.YtpkpoglmmjaoeaaGreatDoorDg
namespace Go.Proofs.YtpkpoglmmjaoeaaGreatDoor
open Go.RowKit Go.Shelf
namespace Sp
theorem mayPart_val (fr tq st : Int) (f : Nat) (L H : Int) (hL : L = lowF f) (hH : H = highF f) {M : Bool} (h : M = true ↔ (0 ≤ st ∧ st ≤ 9999 ∧ ((fr = -1 ∧ tq = -1) ∨ (fr ≠ -1 ∧ L ≤ fr ∧ fr ≤ H ∧ (tq = -1 ∨ (fr ≤ tq ∧ tq ≤ H)))))) : M = mayPartB ⟨fr, tq, st⟩ f := by
  subst hL hH
  rw [Bool.eq_iff_iff, h]
  show _ ↔ (if st < 0 ∨ 9999 < st then false else if fr = -1 then decide (tq = -1) else if fr < lowF f ∨ highF f < fr then false else decide (tq = -1) || (decide (fr ≤ tq) && decide (tq ≤ highF f))) = true
  by_cases c1 : st < 0 ∨ 9999 < st
  · rw [if_pos c1]
    exact ⟨fun h => (by omega), fun h => (by cases h)⟩
  · rw [if_neg c1]
    by_cases c2 : fr = -1
    · rw [if_pos c2, decide_eq_true_eq]
      omega
    · rw [if_neg c2]
      by_cases c3 : fr < lowF f ∨ highF f < fr
      · rw [if_pos c3]
        exact ⟨fun h => (by omega), fun h => (by cases h)⟩
      · rw [if_neg c3, Bool.or_eq_true, Bool.and_eq_true, decide_eq_true_eq, decide_eq_true_eq, decide_eq_true_eq]
        omega
def mayFrom (c : CalD) (i : Nat) : Bool := ((List.range 6).drop i).all fun j => mayList (c.field j) j
theorem mayFrom_step (c : CalD) (i : Nat) (h : i < 6) : mayFrom c i = (mayList (c.field i) i && mayFrom c (i + 1)) := by
  have e : i = 0 ∨ i = 1 ∨ i = 2 ∨ i = 3 ∨ i = 4 ∨ i = 5 := by omega
  rcases e with rfl | rfl | rfl | rfl | rfl | rfl <;> rfl
theorem mayFrom_end (c : CalD) : mayFrom c 6 = true := rfl
theorem mayCal_from (c : CalD) : mayCal c = (mayDays 0 c.days && mayFrom c 0) := by
  show _ = (mayDays 0 c.days && (mayList c.year 0 && (mayList c.month 1 && (mayList c.day 2 && (mayList c.hour 3 && (mayList c.min 4 && (mayList c.sec 5 && true)))))))
  unfold mayCal
  simp only [Bool.and_true, Bool.and_assoc]
end Sp
set_option maxRecDepth 100000 in
set_option maxHeartbeats 2000000 in
theorem least_any (f : Nat) (hf : f < 6) (w : World) : Calls Tryz.prog 48 #[.int .i64 f] w fun e w' => e = .returned (.int .i64 (Sp.lowF f)) ∧ Below w.heap.size w w' := by
  have e : f = 0 ∨ f = 1 ∨ f = 2 ∨ f = 3 ∨ f = 4 ∨ f = 5 := by omega
  rcases e with rfl | rfl | rfl | rfl | rfl | rfl
  all_goals
    go_enter Tryz.func48, Tryz.ntmps48
    go_wp2
    go_ret
    exact ⟨rfl, (Below.refl _ _).alloc (Nat.le_refl _) _⟩
set_option maxRecDepth 100000 in
set_option maxHeartbeats 2000000 in
theorem most_any (f : Nat) (hf : f < 6) (w : World) : Calls Tryz.prog 49 #[.int .i64 f] w fun e w' => e = .returned (.int .i64 (Sp.highF f)) ∧ Below w.heap.size w w' := by
  have e : f = 0 ∨ f = 1 ∨ f = 2 ∨ f = 3 ∨ f = 4 ∨ f = 5 := by omega
  rcases e with rfl | rfl | rfl | rfl | rfl | rfl
  all_goals
    go_enter Tryz.func49, Tryz.ntmps49
    go_wp2
    go_ret
    exact ⟨rfl, (Below.refl _ _).alloc (Nat.le_refl _) _⟩
set_option maxRecDepth 100000 in
set_option maxHeartbeats 16000000 in
theorem rmaypart_any (q : Sp.PartD) (f : Nat) (hf : f < 6) (w : World) : Calls Tryz.prog 47 #[partV q, .int .i64 f] w fun e w' => e = .returned (.bool (Sp.mayPartB q f)) ∧ Below w.heap.size w w' := by
  obtain ⟨fr, tq, st⟩ := q
  have hle := least_any f hf
  have hmo := most_any f hf
  obtain ⟨L, hL⟩ : ∃ L, L = Sp.lowF f := ⟨_, rfl⟩
  obtain ⟨H, hH⟩ : ∃ H, H = Sp.highF f := ⟨_, rfl⟩
  rw [← hL] at hle
  rw [← hH] at hmo
  have HLH := Lib.hid (And.intro hL hH)
  have hpb := PB.new w fr tq st
  have hlt : w.heap.size < (w.alloc (.cells #[.int .i64 fr, .int .i64 tq, .int .i64 st] 62)).heap.size := by simp
  have HW : Hid (Below w.heap.size w (w.alloc (.cells #[.int .i64 fr, .int .i64 tq, .int .i64 st] 62))) := Lib.hid ((Below.refl _ _).alloc (Nat.le_refl _) _)
  have HLE : Hid (∀ p : Since (w.alloc (.cells #[.int .i64 fr, .int .i64 tq, .int .i64 st] 62)).heap.size (w.alloc (.cells #[.int .i64 fr, .int .i64 tq, .int .i64 st] 62)), Calls Tryz.prog 48 #[.int .i64 f] p.w' fun e w'' => e = .returned (.int .i64 L) ∧ ∃ r : Since (w.alloc (.cells #[.int .i64 fr, .int .i64 tq, .int .i64 st] 62)).heap.size (w.alloc (.cells #[.int .i64 fr, .int .i64 tq, .int .i64 st] 62)), w'' = r.w') := Lib.hid (fun p => Calls.since_of (Nat.le_refl _) (hle p.w'))
  have HMO : Hid (∀ p : Since (w.alloc (.cells #[.int .i64 fr, .int .i64 tq, .int .i64 st] 62)).heap.size (w.alloc (.cells #[.int .i64 fr, .int .i64 tq, .int .i64 st] 62)), Calls Tryz.prog 49 #[.int .i64 f] p.w' fun e w'' => e = .returned (.int .i64 H) ∧ ∃ r : Since (w.alloc (.cells #[.int .i64 fr, .int .i64 tq, .int .i64 st] 62)).heap.size (w.alloc (.cells #[.int .i64 fr, .int .i64 tq, .int .i64 st] 62)), w'' = r.w') := Lib.hid (fun p => Calls.since_of (Nat.le_refl _) (hmo p.w'))
  have XA := Lib.hid (fun (p : Since (w.alloc (.cells #[.int .i64 fr, .int .i64 tq, .int .i64 st] 62)).heap.size (w.alloc (.cells #[.int .i64 fr, .int .i64 tq, .int .i64 st] 62))) => PB.under hpb p.hb hlt)
  have k0 : ∀ p : Since (w.alloc (.cells #[.int .i64 fr, .int .i64 tq, .int .i64 st] 62)).heap.size (w.alloc (.cells #[.int .i64 fr, .int .i64 tq, .int .i64 st] 62)), p.w'.cell? ⟨w.heap.size, 0, none⟩ = some (.int .i64 fr) := fun p => (XA.out p).c0
  have k1 : ∀ p : Since (w.alloc (.cells #[.int .i64 fr, .int .i64 tq, .int .i64 st] 62)).heap.size (w.alloc (.cells #[.int .i64 fr, .int .i64 tq, .int .i64 st] 62)), p.w'.cell? ⟨w.heap.size, 1, none⟩ = some (.int .i64 tq) := fun p => (XA.out p).c1
  clear hle hmo hL hH hpb XA
  simp only [partV]
  go_enter Tryz.func47, Tryz.ntmps47
  by_cases g1 : 0 ≤ st
  · by_cases g2 : st ≤ 9999
    · by_cases g3 : fr = -1
      · subst g3
        by_cases g4 : tq = -1
        · subst g4
          go_wp2
          go_ret
          exact ⟨congrArg (fun b => Ending.returned (.bool b)) (Sp.mayPart_val _ _ _ _ _ _ HLH.out.1 HLH.out.2 (by first | omega | (simp; omega) | simp)), HW.out⟩
        · have q4 : (tq == -1) = false := by simpa using g4
          go_wp2
          go_ret
          exact ⟨congrArg (fun b => Ending.returned (.bool b)) (Sp.mayPart_val _ _ _ _ _ _ HLH.out.1 HLH.out.2 (by first | omega | (simp; omega) | simp)), HW.out⟩
      · have q3 : (fr == -1) = false := by simpa using g3
        go_upto_region 5 with fail
        generalize w.alloc (.cells #[.int .i64 fr, .int .i64 tq, .int .i64 st] 62) = w1 at *
        by_cases g5 : L ≤ fr
        · have g5t : decide (L ≤ fr) = true := decide_eq_true g5
          by_cases g6 : fr ≤ H
          · have g6t : decide (fr ≤ H) = true := decide_eq_true g6
            by_cases g4 : tq = -1
            · subst g4
              refine wp_region_since w1.heap.size (by kernel_rfl) (by kernel_rfl) ?_
              repeat (go_big_quiet_step (first | (go_at_call_of 48 (Value.int IntKind.i64 f); exact HLE.out _) | (go_at_call_of 49 (Value.int IntKind.i64 f); exact HMO.out _)))
              refine wpQuiet_nil ?_
              intro _ hw'
              obtain ⟨pz, hw''⟩ := hw'
              subst hw''
              have HZ : Hid (Below w.heap.size w pz.w') := Lib.hid (HW.out.trans (pz.hb.mono HW.out.size))
              go_wp2
              go_ret
              exact ⟨congrArg (fun b => Ending.returned (.bool b)) (Sp.mayPart_val _ _ _ _ _ _ HLH.out.1 HLH.out.2 (by first | omega | (simp; omega) | simp)), HZ.out⟩
            · have q4 : (tq == -1) = false := by simpa using g4
              by_cases g7 : fr ≤ tq
              · have g7t : decide (fr ≤ tq) = true := decide_eq_true g7
                by_cases g8 : tq ≤ H
                · have g8t : decide (tq ≤ H) = true := decide_eq_true g8
                  refine wp_region_since w1.heap.size (by kernel_rfl) (by kernel_rfl) ?_
                  repeat (go_big_quiet_step (first | (go_at_call_of 48 (Value.int IntKind.i64 f); exact HLE.out _) | (go_at_call_of 49 (Value.int IntKind.i64 f); exact HMO.out _)))
                  refine wpQuiet_nil ?_
                  intro _ hw'
                  obtain ⟨pz, hw''⟩ := hw'
                  subst hw''
                  have HZ : Hid (Below w.heap.size w pz.w') := Lib.hid (HW.out.trans (pz.hb.mono HW.out.size))
                  go_wp2
                  go_ret
                  exact ⟨congrArg (fun b => Ending.returned (.bool b)) (Sp.mayPart_val _ _ _ _ _ _ HLH.out.1 HLH.out.2 (by first | omega | (simp; omega) | simp)), HZ.out⟩
                · have g8t : decide (tq ≤ H) = false := decide_eq_false g8
                  refine wp_region_since w1.heap.size (by kernel_rfl) (by kernel_rfl) ?_
                  repeat (go_big_quiet_step (first | (go_at_call_of 48 (Value.int IntKind.i64 f); exact HLE.out _) | (go_at_call_of 49 (Value.int IntKind.i64 f); exact HMO.out _)))
                  refine wpQuiet_nil ?_
                  intro _ hw'
                  obtain ⟨pz, hw''⟩ := hw'
                  subst hw''
                  have HZ : Hid (Below w.heap.size w pz.w') := Lib.hid (HW.out.trans (pz.hb.mono HW.out.size))
                  go_wp2
                  go_ret
                  exact ⟨congrArg (fun b => Ending.returned (.bool b)) (Sp.mayPart_val _ _ _ _ _ _ HLH.out.1 HLH.out.2 (by first | omega | (simp; omega) | simp)), HZ.out⟩
              · have g7t : decide (fr ≤ tq) = false := decide_eq_false g7
                refine wp_region_since w1.heap.size (by kernel_rfl) (by kernel_rfl) ?_
                repeat (go_big_quiet_step (first | (go_at_call_of 48 (Value.int IntKind.i64 f); exact HLE.out _) | (go_at_call_of 49 (Value.int IntKind.i64 f); exact HMO.out _)))
                refine wpQuiet_nil ?_
                intro _ hw'
                obtain ⟨pz, hw''⟩ := hw'
                subst hw''
                have HZ : Hid (Below w.heap.size w pz.w') := Lib.hid (HW.out.trans (pz.hb.mono HW.out.size))
                go_wp2
                go_ret
                exact ⟨congrArg (fun b => Ending.returned (.bool b)) (Sp.mayPart_val _ _ _ _ _ _ HLH.out.1 HLH.out.2 (by first | omega | (simp; omega) | simp)), HZ.out⟩
          · have g6t : decide (fr ≤ H) = false := decide_eq_false g6
            refine wp_region_since w1.heap.size (by kernel_rfl) (by kernel_rfl) ?_
            repeat (go_big_quiet_step (first | (go_at_call_of 48 (Value.int IntKind.i64 f); exact HLE.out _) | (go_at_call_of 49 (Value.int IntKind.i64 f); exact HMO.out _)))
            refine wpQuiet_nil ?_
            intro _ hw'
            obtain ⟨pz, hw''⟩ := hw'
            subst hw''
            have HZ : Hid (Below w.heap.size w pz.w') := Lib.hid (HW.out.trans (pz.hb.mono HW.out.size))
            go_wp2
            go_ret
            exact ⟨congrArg (fun b => Ending.returned (.bool b)) (Sp.mayPart_val _ _ _ _ _ _ HLH.out.1 HLH.out.2 (by first | omega | (simp; omega) | simp)), HZ.out⟩
        · have g5t : decide (L ≤ fr) = false := decide_eq_false g5
          refine wp_region_since w1.heap.size (by kernel_rfl) (by kernel_rfl) ?_
          repeat (go_big_quiet_step (first | (go_at_call_of 48 (Value.int IntKind.i64 f); exact HLE.out _) | (go_at_call_of 49 (Value.int IntKind.i64 f); exact HMO.out _)))
          refine wpQuiet_nil ?_
          intro _ hw'
          obtain ⟨pz, hw''⟩ := hw'
          subst hw''
          have HZ : Hid (Below w.heap.size w pz.w') := Lib.hid (HW.out.trans (pz.hb.mono HW.out.size))
          go_wp2
          go_ret
          exact ⟨congrArg (fun b => Ending.returned (.bool b)) (Sp.mayPart_val _ _ _ _ _ _ HLH.out.1 HLH.out.2 (by first | omega | (simp; omega) | simp)), HZ.out⟩
    · go_wp2
      go_ret
      exact ⟨congrArg (fun b => Ending.returned (.bool b)) (Sp.mayPart_val _ _ _ _ _ _ HLH.out.1 HLH.out.2 (by first | omega | (simp; omega) | simp)), HW.out⟩
  · go_wp2
    go_ret
    exact ⟨congrArg (fun b => Ending.returned (.bool b)) (Sp.mayPart_val _ _ _ _ _ _ HLH.out.1 HLH.out.2 (by first | omega | (simp; omega) | simp)), HW.out⟩
set_option maxRecDepth 100000 in
set_option maxHeartbeats 16000000 in
theorem rmay_any (s : CalS) (w : World) (h : CalGood w s) : Calls Tryz.prog 16 #[calV s] w fun e w' => e = .returned (.bool (Sp.mayCal s.cal)) ∧ Below w.heap.size w w' := by
  obtain ⟨SA, SN, SC, hfa, hpa, hln, hbn⟩ : ∃ (SA : Nat → Option Addr) (SN SC : Nat → Nat), (∀ i : Nat, i < 6 → ∀ W, Calls Tryz.prog 18 #[calV s, .int .i64 i] W fun e w' => e = .returned (.slice (SA i) (SN i) (SC i)) ∧ Below W.heap.size W w') ∧
      (∀ i, i < 6 → Rd w w.heap.size 3 (SA i) (SN i) (partsC (s.cal.field i))) ∧ (∀ i, i < 6 → (s.cal.field i).length = SN i) ∧ (∀ i, SN i ≤ 9223372036854775807) := by
    refine ⟨fun i => (s.sl i).A, fun i => (s.sl i).n, fun i => (s.sl i).c, fun i hi W => field_any s i hi W, fun i hi => h.rf i hi, fun i hi => ?_, h.bf⟩
    have h1 := (h.rf i hi).1
    rw [partsC_len] at h1
    show (s.cal.field i).length = (s.sl i).n
    omega
  have hra := h.rd
  have hbd := h.bd
  have hdl : s.cal.days.length = s.d.n := by
    have h1 := h.rd.1
    rw [intsC_len] at h1
    omega
  clear h
  obtain ⟨⟨dA, dn, dc⟩, ⟨A0, n0, c0⟩, ⟨A1, n1, c1⟩, ⟨A2, n2, c2⟩, ⟨A3, n3, c3⟩, ⟨A4, n4, c4⟩, ⟨A5, n5, c5⟩, cal⟩ := s
  dsimp only at hra hbd hdl hpa hln
  obtain ⟨R, hR⟩ : ∃ R, R = Sp.mayCal cal := ⟨_, rfl⟩
  dsimp only
  rw [← hR]
  have HR : Hid (R = (Sp.mayDays 0 cal.days && Sp.mayFrom cal 0)) := Lib.hid (by rw [hR, Sp.mayCal_from])
  have HFA := Lib.hid hfa
  have HPA := Lib.hid (fun i hi k hk => Rd.partAt (hpa i hi) k hk)
  have HRA := Lib.hid (fun k hk => Rd.intAt hra k hk)
  have HLN := Lib.hid hln
  have HBN := Lib.hid hbn
  have HDL := Lib.hid hdl
  have HDA := Lib.hid (fun k hk last => Sp.mayDays_at cal.days k hk last)
  clear hfa hpa hln hbn hra hdl hR
  have hcb := CBox.new w ⟨⟨dA, dn, dc⟩, ⟨A0, n0, c0⟩, ⟨A1, n1, c1⟩, ⟨A2, n2, c2⟩, ⟨A3, n3, c3⟩, ⟨A4, n4, c4⟩, ⟨A5, n5, c5⟩, cal⟩
  have hw0 : Below w.heap.size w (w.alloc (.cells #[.slice dA dn dc, .slice A0 n0 c0, .slice A1 n1 c1, .slice A2 n2 c2, .slice A3 n3 c3, .slice A4 n4 c4, .slice A5 n5 c5] 25)) := (Below.refl _ _).alloc (Nat.le_refl _) _
  have hlt : w.heap.size < (w.alloc (.cells #[.slice dA dn dc, .slice A0 n0 c0, .slice A1 n1 c1, .slice A2 n2 c2, .slice A3 n3 c3, .slice A4 n4 c4, .slice A5 n5 c5] 25)).heap.size := by simp
  simp only [slV] at hcb
  simp only [calV, slV] at HFA ⊢
  go_enter Tryz.func16, Tryz.ntmps16
  go_upto_region 2 with fail
  generalize w.alloc (.cells #[.slice dA dn dc, .slice A0 n0 c0, .slice A1 n1 c1, .slice A2 n2 c2, .slice A3 n3 c3, .slice A4 n4 c4, .slice A5 n5 c5] 25) = w1 at *
  have HC1 := Lib.hid hcb
  have HW := Lib.hid hw0
  clear hw0
  have p0 := hcb.c0
  simp only [slV] at p0
  clear hcb
  go_wp2_with fail
  clear p0
  go_loopw [3, 13] (fun lv iv wr => ∃ (k : Nat) (last : Int), k ≤ dn ∧ iv = .int .i64 k ∧ lv = .int .i64 last ∧ Hid (Below w1.heap.size w1 wr) ∧ Hid (Sp.mayDays 0 cal.days = Sp.mayDays last (cal.days.drop k))) (fun _ iv _ => dn - (intOf iv).toNat)
  case atStart => exact ⟨0, 0, Nat.zero_le _, rfl, rfl, Lib.hid (Below.refl _ _), Lib.hid rfl⟩
  case round =>
    obtain ⟨k, last, hk, rfl, rfl, HB, HM⟩ := hrel
    by_cases hlt2 : k < dn
    · have hx1 : (k : Int) < (dn : Int) := by omega
      have hx0 : (0 : Int) ≤ (k : Int) := by omega
      have v1 : IntKind.i64.wrap ((k : Int) + 1) = ((k + 1 : Nat) : Int) := by rw [IntKind.wrap_i64]; omega
      have hkl : k < cal.days.length := by rw [HDL.out]; exact hlt2
      obtain ⟨a1, rfl, hc1⟩ := HRA.out k hkl
      have c0 := hc1 wr (HW.out.trans (HB.out.mono HW.out.size))
      have HST := Lib.hid (HDA.out k hkl last)
      clear hc1
      generalize cal.days[k] = y at *
      by_cases q1 : y ≤ last
      · have HF : Hid (R = false) := Lib.hid (by rw [HR.out, HM.out, HST.out, if_pos (.inl q1)]; rfl)
        have HZ := Lib.hid (HW.out.trans (HB.out.mono HW.out.size))
        go_wp2
        go_ret
        exact ⟨by rw [HF.out]; rfl, HZ.out⟩
      · by_cases q2 : 7 < y
        · have HF : Hid (R = false) := Lib.hid (by rw [HR.out, HM.out, HST.out, if_pos (.inr q2)]; rfl)
          have HZ := Lib.hid (HW.out.trans (HB.out.mono HW.out.size))
          go_wp2
          go_ret
          exact ⟨by rw [HF.out]; rfl, HZ.out⟩
        · have HM2 : Hid (Sp.mayDays 0 cal.days = Sp.mayDays y (cal.days.drop (k + 1))) := Lib.hid (by rw [HM.out, HST.out, if_neg (by omega)])
          go_wp2
          go_roundw
          case rel => exact ⟨k + 1, y, by omega, by first | rfl | go_num, by first | rfl | go_num, HB, HM2⟩
          case measure => simp [intOf]; omega
    · have hx1 : ¬ (k : Int) < (dn : Int) := by omega
      have HR2 : Hid (R = Sp.mayFrom cal 0) := Lib.hid (by
        rw [HR.out, HM.out, List.drop_of_length_le (by rw [HDL.out]; omega)]
        rfl)
      go_wp2_with fail
      have HE := HB
      clear HB HM hk hlt2 hx1
      go_loopw [6] (fun iv wr => ∃ i : Nat, i ≤ 6 ∧ iv = .int .i64 i ∧ Hid (Below w1.heap.size w1 wr) ∧ Hid (R = Sp.mayFrom cal i)) (fun iv _ => 6 - (intOf iv).toNat)
      case atStart => exact ⟨0, by decide, rfl, HE, HR2⟩
      case round =>
        obtain ⟨i, hi, rfl, HB, HRI⟩ := hrel
        by_cases hi6 : i < 6
        · have hy1 : (i : Int) < 6 := by omega
          have v2 : IntKind.i64.wrap ((i : Int) + 1) = ((i + 1 : Nat) : Int) := by rw [IntKind.wrap_i64]; omega
          obtain ⟨k0, k1, k2, k3, k4, k5, k6⟩ := CBox.on HC1.out HB.out hlt
          simp only [slV] at k0 k1 k2 k3 k4 k5 k6
          have HSP : Hid (R = (Sp.mayList (cal.field i) i && Sp.mayFrom cal (i + 1))) := Lib.hid (by rw [HRI.out, Sp.mayFrom_step cal i hi6])
          have HF1 := Lib.hid (HFA.out i hi6 wr)
          have HCL := Lib.hid (HLN.out i hi6)
          have HPA1 := Lib.hid (fun k hk => HPA.out i hi6 k hk)
          have HMP := Lib.hid (fun q W => rmaypart_any q i hi6 W)
          have hbi : SN i ≤ 9223372036854775807 := HBN.out i
          generalize SA i = A at *
          generalize SN i = n at *
          generalize SC i = C at *
          generalize cal.field i = l at *
          go_wp2_with fail
          refine HF1.out.mono ?_
          rintro e w2 ⟨rfl, hb2⟩
          have HB2 := Lib.hid (HB.out.trans (hb2.mono HB.out.size))
          clear hb2 HF1 k0 k1 k2 k3 k4 k5 k6
          by_cases hn1 : n < 1
          · have hx3 : (n : Int) < 1 := by omega
            have HF : Hid (R = false) := Lib.hid (by
              rw [HSP.out]
              unfold Sp.mayList
              rw [HCL.out, decide_eq_false (by omega)]
              rfl)
            have HZ := Lib.hid (HW.out.trans (HB2.out.mono HW.out.size))
            go_wp2
            go_ret
            exact ⟨by rw [HF.out]; rfl, HZ.out⟩
          · have hx3 : ¬ (n : Int) < 1 := by omega
            by_cases hn4 : 4 < n
            · have hx4 : 4 < (n : Int) := by omega
              have HF : Hid (R = false) := Lib.hid (by
                rw [HSP.out]
                unfold Sp.mayList
                rw [HCL.out, decide_eq_false (show ¬ n ≤ 4 by omega), Bool.and_false]
                rfl)
              have HZ := Lib.hid (HW.out.trans (HB2.out.mono HW.out.size))
              go_wp2
              go_ret
              exact ⟨by rw [HF.out]; rfl, HZ.out⟩
            · have hx4 : ¬ 4 < (n : Int) := by omega
              have HSP2 : Hid (R = ((l.all fun p => Sp.mayPartB p i) && Sp.mayFrom cal (i + 1))) := Lib.hid (by
                rw [HSP.out]
                unfold Sp.mayList
                rw [HCL.out, decide_eq_true (show 1 ≤ n by omega), decide_eq_true (show n ≤ 4 by omega)]
                rfl)
              go_wp2_with fail
              have HE2 := HB2
              clear HB2 HB HSP
              go_loopw [43] (fun iv wr => ∃ k : Nat, k ≤ n ∧ iv = .int .i64 k ∧ Hid (Below w1.heap.size w1 wr) ∧ Hid (((l.take k).all fun p => Sp.mayPartB p i) = true)) (fun iv _ => n - (intOf iv).toNat)
              case atStart => exact ⟨0, Nat.zero_le _, rfl, HE2, Lib.hid rfl⟩
              case round =>
                obtain ⟨k, hk, rfl, HB, HT⟩ := hrel
                by_cases hlt3 : k < n
                · have hx1 : (k : Int) < (n : Int) := by omega
                  have hx0 : (0 : Int) ≤ (k : Int) := by omega
                  have v1 : IntKind.i64.wrap ((k : Int) + 1) = ((k + 1 : Nat) : Int) := by rw [IntKind.wrap_i64]; omega
                  have hkl : k < l.length := by rw [HCL.out]; exact hlt3
                  obtain ⟨a1, rfl, hc1⟩ := HPA1.out k hkl
                  obtain ⟨c0, c1, c2⟩ := hc1 _ (HW.out.trans (HB.out.mono HW.out.size))
                  have HIN : Hid (l[k] ∈ l) := Lib.hid (List.getElem_mem hkl)
                  have HTK : Hid (((l.take (k + 1)).all fun p => Sp.mayPartB p i) = Sp.mayPartB l[k] i) := Lib.hid (by
                    rw [List.take_succ_eq_append_getElem hkl, List.all_append, HT.out]
                    simp)
                  have HM1 := Lib.hid (HMP.out l[k])
                  clear hc1
                  generalize l[k] = r at *
                  obtain ⟨r0, r1, r2⟩ := r
                  dsimp only at c0 c1 c2
                  obtain ⟨mp, hmp⟩ : ∃ mp, mp = Sp.mayPartB ⟨r0, r1, r2⟩ i := ⟨_, rfl⟩
                  simp only [partV, ← hmp] at HM1
                  have HMP2 := Lib.hid hmp
                  have hba := HB.out.alloc HB.out.size (.cells #[.int .i64 r0, .int .i64 r1, .int .i64 r2] 62)
                  have HBA := Lib.hid hba
                  clear hmp hba
                  go_wp2_with fail
                  refine (HM1.out _).mono ?_
                  rintro e w3 ⟨rfl, hb3⟩
                  have HB3 := Lib.hid (HBA.out.trans (hb3.mono HBA.out.size))
                  clear hb3 c0 c1 c2
                  cases mp with
                  | false =>
                    have HF : Hid (R = false) := Lib.hid (by
                      rw [HSP2.out]
                      have e : (l.all fun p => Sp.mayPartB p i) = false := by
                        rw [List.all_eq_false]
                        exact ⟨_, HIN.out, by rw [← HMP2.out]; decide⟩
                      rw [e]; rfl)
                    have HZ := Lib.hid (HW.out.trans (HB3.out.mono HW.out.size))
                    go_wp2
                    go_ret
                    exact ⟨by rw [HF.out]; rfl, HZ.out⟩
                  | true =>
                    have HT2 : Hid (((l.take (k + 1)).all fun p => Sp.mayPartB p i) = true) := Lib.hid (by rw [HTK.out, ← HMP2.out])
                    go_wp2
                    go_roundw
                    case rel => exact ⟨k + 1, by omega, by first | rfl | go_num, HB3, HT2⟩
                    case measure => simp [intOf]; omega
                · have hx1 : ¬ (k : Int) < (n : Int) := by omega
                  have HR3 : Hid (R = Sp.mayFrom cal (i + 1)) := Lib.hid (by
                    have h := HT.out
                    rw [List.take_of_length_le (by rw [HCL.out]; omega)] at h
                    rw [HSP2.out, h]
                    rfl)
                  go_wp2
                  go_roundw
                  case rel => exact ⟨i + 1, by omega, by first | rfl | go_num, HB, HR3⟩
                  case measure => simp [intOf]; omega
        · obtain rfl : i = 6 := by omega
          have HF := Lib.hid (HW.out.trans (HB.out.mono HW.out.size))
          have HT : Hid (R = true) := Lib.hid (by rw [HRI.out]; rfl)
          go_wp2
          go_ret
          exact ⟨by rw [HT.out]; rfl, HF.out⟩

end Go.Proofs.YtpkpoglmmjaoeaaGreatDoor
