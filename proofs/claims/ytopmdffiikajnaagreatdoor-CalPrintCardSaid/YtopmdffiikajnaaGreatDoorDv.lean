/-
  Two calendars that are alike: the walk of matinsref3.Same.
-/
import Derived.Test.YtopmdffiikajnaaGreatDoorDd
import Derived.Test.YtopmdffiikajnaaGreatDoorGr
namespace Go.Proofs.YtopmdffiikajnaaGreatDoor
open Go.RowKit Go.Shelf

set_option maxRecDepth 100000 in
set_option maxHeartbeats 4000000 in
theorem field_any (s : CalS) (i : Nat) (hi : i < 6) (w : World) : Calls Tryz.prog 44 #[calV s, .int .i64 i] w fun e w' => e = .returned (slV (s.sl i)) ∧ Below w.heap.size w w' := by
  obtain ⟨⟨daA, dan, dac⟩, ⟨aA0, an0, ac0⟩, ⟨aA1, an1, ac1⟩, ⟨aA2, an2, ac2⟩, ⟨aA3, an3, ac3⟩, ⟨aA4, an4, ac4⟩, ⟨aA5, an5, ac5⟩, cal⟩ := s
  have e : i = 0 ∨ i = 1 ∨ i = 2 ∨ i = 3 ∨ i = 4 ∨ i = 5 := by omega
  rcases e with rfl | rfl | rfl | rfl | rfl | rfl
  all_goals
    simp only [calV, slV, CalS.sl]
    go_enter Tryz.func44, Tryz.ntmps44
    go_wp2
    go_ret
    exact ⟨rfl, ((Below.refl _ _).alloc (Nat.le_refl _) _).alloc (by simp) _⟩
@[go_sem] theorem eq_part (x y z : Int) (w : World) : (Op.equalIn 10000 43 (.agg #[.int .i64 x, .int .i64 y, .int .i64 z]) (.agg #[.int .i64 x, .int .i64 y, .int .i64 z])).run Tryz.prog w = .ok true w := by
  have u3 := Tryz.underlying3
  have hS : Tryz.prog.underlying 43 = some (.struct (Tryz.prog.fieldsOf 43)) := by kernel_rfl
  have hp : Tryz.prog.stoodInHeld 43 = false := by kernel_rfl
  rw [show (10000 : Nat) = 9999 + 1 from rfl, run_equalIn_agg w 9999 43 _ _ hS hp]
  simp only [Program.fieldsOf, Tryz.underlying43]
  go_simp
@[go_sem] theorem guard_part (x y : Operand) (xs ys : Array Value) (w : World) : (eqGuard .neq 43 x y (.agg xs) (.agg ys)).run Tryz.prog w = .ok () w := run_eqGuard_agg w _ _ _ _ _ _ (by kernel_rfl)

set_option maxRecDepth 100000 in
set_option maxHeartbeats 8000000 in
theorem same_any (s t : CalS) (w : World) (hs : CalGood w s) (ht : CalGood w t) (h : s.cal = t.cal) : Calls Tryz.prog 16 #[calV s, calV t] w fun e w' => e = .returned (.bool true) ∧ Below w.heap.size w w' := by
  obtain ⟨SA, SB, SN, SC, SD, hfa, hfb, hpa, hpb, hln, hbn⟩ : ∃ (SA SB : Nat → Option Addr) (SN SC SD : Nat → Nat), (∀ i : Nat, i < 6 → ∀ W, Calls Tryz.prog 44 #[calV s, .int .i64 i] W fun e w' => e = .returned (.slice (SA i) (SN i) (SC i)) ∧ Below W.heap.size W w') ∧
      (∀ i : Nat, i < 6 → ∀ W, Calls Tryz.prog 44 #[calV t, .int .i64 i] W fun e w' => e = .returned (.slice (SB i) (SN i) (SD i)) ∧ Below W.heap.size W w') ∧
      (∀ i, i < 6 → Rd w w.heap.size 3 (SA i) (SN i) (partsC (s.cal.field i))) ∧ (∀ i, i < 6 → Rd w w.heap.size 3 (SB i) (SN i) (partsC (s.cal.field i))) ∧ (∀ i, i < 6 → (s.cal.field i).length = SN i) ∧ (∀ i, SN i ≤ 9223372036854775807) := by
    have hq : ∀ i, i < 6 → (t.sl i).n = (s.sl i).n := fun i hi => by
      have h1 := (hs.rf i hi).1
      have h2 := (ht.rf i hi).1
      rw [partsC_len, h] at h1
      rw [partsC_len] at h2
      omega
    refine ⟨fun i => (s.sl i).A, fun i => (t.sl i).A, fun i => (s.sl i).n, fun i => (s.sl i).c, fun i => (t.sl i).c, fun i hi W => field_any s i hi W, fun i hi W => ?_, fun i hi => hs.rf i hi, fun i hi => ?_, fun i hi => ?_, hs.bf⟩
    · have := field_any t i hi W
      unfold slV at this
      rw [hq i hi] at this
      exact this
    · have := ht.rf i hi
      rw [hq i hi, ← h] at this
      exact this
    · have h1 := (hs.rf i hi).1
      rw [partsC_len] at h1
      show (s.cal.field i).length = (s.sl i).n
      omega
  have hdn : t.d.n = s.d.n := by
    have h1 := hs.rd.1
    have h2 := ht.rd.1
    rw [intsC_len, h] at h1
    rw [intsC_len] at h2
    omega
  have hra := hs.rd
  have hrb := ht.rd
  have hbd := hs.bd
  rw [← h] at hrb
  have hdl : s.cal.days.length = s.d.n := by
    have h1 := hs.rd.1
    rw [intsC_len] at h1
    omega
  clear hs ht h
  obtain ⟨⟨daA, dan, dac⟩, ⟨aA0, an0, ac0⟩, ⟨aA1, an1, ac1⟩, ⟨aA2, an2, ac2⟩, ⟨aA3, an3, ac3⟩, ⟨aA4, an4, ac4⟩, ⟨aA5, an5, ac5⟩, cal⟩ := s
  obtain ⟨⟨dbA, dbn, dbc⟩, ⟨bA0, bn0, bc0⟩, ⟨bA1, bn1, bc1⟩, ⟨bA2, bn2, bc2⟩, ⟨bA3, bn3, bc3⟩, ⟨bA4, bn4, bc4⟩, ⟨bA5, bn5, bc5⟩, cal2⟩ := t
  dsimp only at hdn hra hrb hbd hdl hpa hpb hln
  obtain rfl : dbn = dan := hdn
  have HFA := Lib.hid hfa
  have HFB := Lib.hid hfb
  have HPA := Lib.hid (fun i hi k hk => Rd.partAt (hpa i hi) k hk)
  have HPB := Lib.hid (fun i hi k hk => Rd.partAt (hpb i hi) k hk)
  have HRA := Lib.hid (fun k hk => Rd.intAt hra k hk)
  have HRB := Lib.hid (fun k hk => Rd.intAt hrb k hk)
  have HLN := Lib.hid hln
  have HBN := Lib.hid hbn
  have HDL := Lib.hid hdl
  clear hfa hfb hpa hpb hln hbn hra hrb hdl
  have hca := CBox.new w ⟨⟨daA, dbn, dac⟩, ⟨aA0, an0, ac0⟩, ⟨aA1, an1, ac1⟩, ⟨aA2, an2, ac2⟩, ⟨aA3, an3, ac3⟩, ⟨aA4, an4, ac4⟩, ⟨aA5, an5, ac5⟩, cal⟩
  have hcb := CBox.new (w.alloc (.cells #[.slice daA dbn dac, .slice aA0 an0 ac0, .slice aA1 an1 ac1, .slice aA2 an2 ac2, .slice aA3 an3 ac3, .slice aA4 an4 ac4, .slice aA5 an5 ac5] 26)) ⟨⟨dbA, dbn, dbc⟩, ⟨bA0, bn0, bc0⟩, ⟨bA1, bn1, bc1⟩, ⟨bA2, bn2, bc2⟩, ⟨bA3, bn3, bc3⟩, ⟨bA4, bn4, bc4⟩, ⟨bA5, bn5, bc5⟩, cal2⟩
  have hw0 : Below w.heap.size w ((w.alloc (.cells #[.slice daA dbn dac, .slice aA0 an0 ac0, .slice aA1 an1 ac1, .slice aA2 an2 ac2, .slice aA3 an3 ac3, .slice aA4 an4 ac4, .slice aA5 an5 ac5] 26)).alloc (.cells #[.slice dbA dbn dbc, .slice bA0 bn0 bc0, .slice bA1 bn1 bc1, .slice bA2 bn2 bc2, .slice bA3 bn3 bc3, .slice bA4 bn4 bc4, .slice bA5 bn5 bc5] 26)) := ((Below.refl _ _).alloc (Nat.le_refl _) _).alloc (by simp) _
  simp only [slV] at hca hcb
  have hca := CBox.on hca ((Below.refl _ _).alloc (Nat.le_refl _) (.cells #[.slice dbA dbn dbc, .slice bA0 bn0 bc0, .slice bA1 bn1 bc1, .slice bA2 bn2 bc2, .slice bA3 bn3 bc3, .slice bA4 bn4 bc4, .slice bA5 bn5 bc5] 26)) (by simp)
  have hsz : w.heap.size + 1 < ((w.alloc (.cells #[.slice daA dbn dac, .slice aA0 an0 ac0, .slice aA1 an1 ac1, .slice aA2 an2 ac2, .slice aA3 an3 ac3, .slice aA4 an4 ac4, .slice aA5 an5 ac5] 26)).alloc (.cells #[.slice dbA dbn dbc, .slice bA0 bn0 bc0, .slice bA1 bn1 bc1, .slice bA2 bn2 bc2, .slice bA3 bn3 bc3, .slice bA4 bn4 bc4, .slice bA5 bn5 bc5] 26)).heap.size := by simp
  have ebs : (w.alloc (.cells #[.slice daA dbn dac, .slice aA0 an0 ac0, .slice aA1 an1 ac1, .slice aA2 an2 ac2, .slice aA3 an3 ac3, .slice aA4 an4 ac4, .slice aA5 an5 ac5] 26)).heap.size = w.heap.size + 1 := by simp
  rw [ebs] at hcb
  clear ebs
  simp only [calV, slV] at HFA HFB ⊢
  have hq : ((dbn : Int) != (dbn : Int)) = false := by simp
  go_enter Tryz.func16, Tryz.ntmps16
  go_upto_region 1 with fail
  generalize (w.alloc (.cells #[.slice daA dbn dac, .slice aA0 an0 ac0, .slice aA1 an1 ac1, .slice aA2 an2 ac2, .slice aA3 an3 ac3, .slice aA4 an4 ac4, .slice aA5 an5 ac5] 26)).alloc (.cells #[.slice dbA dbn dbc, .slice bA0 bn0 bc0, .slice bA1 bn1 bc1, .slice bA2 bn2 bc2, .slice bA3 bn3 bc3, .slice bA4 bn4 bc4, .slice bA5 bn5 bc5] 26) = w1 at *
  have HCA := Lib.hid hca
  have HCB := Lib.hid hcb
  have HW := Lib.hid hw0
  have hl1 : w.heap.size < w1.heap.size := by omega
  clear hca hcb hw0
  obtain ⟨p0, p1, p2, p3, p4, p5, p6⟩ := HCA.out
  obtain ⟨q0, q1, q2, q3, q4, q5, q6⟩ := HCB.out
  simp only [slV] at p0 q0
  clear p1 p2 p3 p4 p5 p6 q1 q2 q3 q4 q5 q6
  go_wp2_with fail
  clear p0 q0
  go_loopw [20] (fun iv wr => ∃ k : Nat, k ≤ dbn ∧ iv = .int .i64 k ∧ Hid (Below w1.heap.size w1 wr)) (fun iv _ => dbn - (intOf iv).toNat)
  case atStart => exact ⟨0, Nat.zero_le _, rfl, Lib.hid (Below.refl _ _)⟩
  case round =>
    obtain ⟨k, hk, rfl, HB⟩ := hrel
    by_cases hlt : k < dbn
    · have hx1 : (k : Int) < (dbn : Int) := by omega
      have hx0 : (0 : Int) ≤ (k : Int) := by omega
      have v1 : IntKind.i64.wrap ((k : Int) + 1) = ((k + 1 : Nat) : Int) := by rw [IntKind.wrap_i64]; omega
      have hkl : k < cal.days.length := by rw [HDL.out]; exact hlt
      obtain ⟨a1, rfl, hc1⟩ := HRA.out k hkl
      obtain ⟨a2, rfl, hc2⟩ := HRB.out k hkl
      have c0 := hc1 wr (HW.out.trans (HB.out.mono HW.out.size))
      have c1 := hc2 wr (HW.out.trans (HB.out.mono HW.out.size))
      have p0 := (CBox.on HCA.out HB.out hl1).c0
      have q0 := (CBox.on HCB.out HB.out hsz).c0
      simp only [slV] at p0 q0
      clear hc1 hc2
      generalize cal.days[k] = y at *
      have hy : (y != y) = false := by simp
      go_wp2_with fail
      go_quiet (fail)
      go_wp2
      go_roundw
      case rel => exact ⟨k + 1, by omega, by first | rfl | go_num, Lib.hid (belowQ HB.out _)⟩
      case measure => simp [intOf]; omega
    · have hx1 : ¬ (k : Int) < (dbn : Int) := by omega
      go_wp2_with fail
      have HE := HB
      clear HB hk hlt hx1
      go_loopw [6] (fun iv wr => ∃ i : Nat, i ≤ 6 ∧ iv = .int .i64 i ∧ Hid (Below w1.heap.size w1 wr)) (fun iv _ => 6 - (intOf iv).toNat)
      case atStart => exact ⟨0, by decide, rfl, HE⟩
      case round =>
        obtain ⟨i, hi, rfl, HB⟩ := hrel
        by_cases hi6 : i < 6
        · have hy1 : (i : Int) < 6 := by omega
          have v2 : IntKind.i64.wrap ((i : Int) + 1) = ((i + 1 : Nat) : Int) := by rw [IntKind.wrap_i64]; omega
          have hsz2 : w1.heap.size ≤ wr.heap.size := HB.out.size
          have XA := Lib.hid (fun (p : Since wr.heap.size wr) => CBox.on HCA.out (HB.out.trans (p.hb.mono HB.out.size)) hl1)
          have XB := Lib.hid (fun (p : Since wr.heap.size wr) => CBox.on HCB.out (HB.out.trans (p.hb.mono HB.out.size)) hsz)
          have ka0 : ∀ p : Since wr.heap.size wr, p.w'.cell? ⟨w.heap.size, 0, none⟩ = some (.slice daA dbn dac) := fun p => (XA.out p).c0
          have ka1 : ∀ p : Since wr.heap.size wr, p.w'.cell? ⟨w.heap.size, 1, none⟩ = some (.slice aA0 an0 ac0) := fun p => (XA.out p).c1
          have ka2 : ∀ p : Since wr.heap.size wr, p.w'.cell? ⟨w.heap.size, 2, none⟩ = some (.slice aA1 an1 ac1) := fun p => (XA.out p).c2
          have ka3 : ∀ p : Since wr.heap.size wr, p.w'.cell? ⟨w.heap.size, 3, none⟩ = some (.slice aA2 an2 ac2) := fun p => (XA.out p).c3
          have ka4 : ∀ p : Since wr.heap.size wr, p.w'.cell? ⟨w.heap.size, 4, none⟩ = some (.slice aA3 an3 ac3) := fun p => (XA.out p).c4
          have ka5 : ∀ p : Since wr.heap.size wr, p.w'.cell? ⟨w.heap.size, 5, none⟩ = some (.slice aA4 an4 ac4) := fun p => (XA.out p).c5
          have ka6 : ∀ p : Since wr.heap.size wr, p.w'.cell? ⟨w.heap.size, 6, none⟩ = some (.slice aA5 an5 ac5) := fun p => (XA.out p).c6
          have kb0 : ∀ p : Since wr.heap.size wr, p.w'.cell? ⟨w.heap.size + 1, 0, none⟩ = some (.slice dbA dbn dbc) := fun p => (XB.out p).c0
          have kb1 : ∀ p : Since wr.heap.size wr, p.w'.cell? ⟨w.heap.size + 1, 1, none⟩ = some (.slice bA0 bn0 bc0) := fun p => (XB.out p).c1
          have kb2 : ∀ p : Since wr.heap.size wr, p.w'.cell? ⟨w.heap.size + 1, 2, none⟩ = some (.slice bA1 bn1 bc1) := fun p => (XB.out p).c2
          have kb3 : ∀ p : Since wr.heap.size wr, p.w'.cell? ⟨w.heap.size + 1, 3, none⟩ = some (.slice bA2 bn2 bc2) := fun p => (XB.out p).c3
          have kb4 : ∀ p : Since wr.heap.size wr, p.w'.cell? ⟨w.heap.size + 1, 4, none⟩ = some (.slice bA3 bn3 bc3) := fun p => (XB.out p).c4
          have kb5 : ∀ p : Since wr.heap.size wr, p.w'.cell? ⟨w.heap.size + 1, 5, none⟩ = some (.slice bA4 bn4 bc4) := fun p => (XB.out p).c5
          have kb6 : ∀ p : Since wr.heap.size wr, p.w'.cell? ⟨w.heap.size + 1, 6, none⟩ = some (.slice bA5 bn5 bc5) := fun p => (XB.out p).c6
          have HFA1 : Hid (∀ p : Since wr.heap.size wr, Calls Tryz.prog 44 #[.agg #[.slice daA dbn dac, .slice aA0 an0 ac0, .slice aA1 an1 ac1, .slice aA2 an2 ac2, .slice aA3 an3 ac3, .slice aA4 an4 ac4, .slice aA5 an5 ac5], .int .i64 i] p.w' fun e w'' => e = .returned (.slice (SA i) (SN i) (SC i)) ∧ ∃ r : Since wr.heap.size wr, w'' = r.w') := Lib.hid (fun p => Calls.since_of (Nat.le_refl _) (HFA.out i hi6 p.w'))
          have HFB1 : Hid (∀ p : Since wr.heap.size wr, Calls Tryz.prog 44 #[.agg #[.slice dbA dbn dbc, .slice bA0 bn0 bc0, .slice bA1 bn1 bc1, .slice bA2 bn2 bc2, .slice bA3 bn3 bc3, .slice bA4 bn4 bc4, .slice bA5 bn5 bc5], .int .i64 i] p.w' fun e w'' => e = .returned (.slice (SB i) (SN i) (SD i)) ∧ ∃ r : Since wr.heap.size wr, w'' = r.w') := Lib.hid (fun p => Calls.since_of (Nat.le_refl _) (HFB.out i hi6 p.w'))
          have hcl : (cal.field i).length = SN i := HLN.out i hi6
          have HPA1 := Lib.hid (fun k hk => HPA.out i hi6 k hk)
          have HPB1 := Lib.hid (fun k hk => HPB.out i hi6 k hk)
          have hbi : SN i ≤ 9223372036854775807 := HBN.out i
          have HCL := Lib.hid hcl
          clear hcl
          generalize SA i = A at *
          generalize SB i = B at *
          generalize SN i = n at *
          generalize SC i = C at *
          generalize SD i = D at *
          generalize cal.field i = l at *
          have hq2 : ((n : Int) != (n : Int)) = false := by simp
          go_wp2_with fail
          refine wp_region_since wr.heap.size (by kernel_rfl) (by kernel_rfl) ?_
          repeat (go_big_quiet_step (first | (go_at_call_of 44 (Value.agg #[.slice daA dbn dac, .slice aA0 an0 ac0, .slice aA1 an1 ac1, .slice aA2 an2 ac2, .slice aA3 an3 ac3, .slice aA4 an4 ac4, .slice aA5 an5 ac5]); exact HFA1.out _) | (go_at_call_of 44 (Value.agg #[.slice dbA dbn dbc, .slice bA0 bn0 bc0, .slice bA1 bn1 bc1, .slice bA2 bn2 bc2, .slice bA3 bn3 bc3, .slice bA4 bn4 bc4, .slice bA5 bn5 bc5]); exact HFB1.out _)))
          refine wpQuiet_nil ?_
          intro _ hw'
          obtain ⟨pz, hw''⟩ := hw'
          subst hw''
          have HZ : Hid (Below w1.heap.size w1 pz.w') := Lib.hid (HB.out.trans (pz.hb.mono HB.out.size))
          generalize pz.w' = w2 at *
          clear XA XB ka0 ka1 ka2 ka3 ka4 ka5 ka6 kb0 kb1 kb2 kb3 kb4 kb5 kb6 HFA1 HFB1 HB
          go_wp2_with fail
          go_loopw [52] (fun iv wr => ∃ k : Nat, k ≤ n ∧ iv = .int .i64 k ∧ Hid (Below w1.heap.size w1 wr)) (fun iv _ => n - (intOf iv).toNat)
          case atStart => exact ⟨0, Nat.zero_le _, rfl, HZ⟩
          case round =>
            obtain ⟨k, hk, rfl, HB⟩ := hrel
            by_cases hlt : k < n
            · have hx1 : (k : Int) < (n : Int) := by omega
              have hx0 : (0 : Int) ≤ (k : Int) := by omega
              have v1 : IntKind.i64.wrap ((k : Int) + 1) = ((k + 1 : Nat) : Int) := by rw [IntKind.wrap_i64]; omega
              have hkl : k < l.length := by rw [HCL.out]; exact hlt
              obtain ⟨a1, rfl, hc1⟩ := HPA1.out k hkl
              obtain ⟨a2, rfl, hc2⟩ := HPB1.out k hkl
              obtain ⟨c0, c1, c2⟩ := hc1 _ (HW.out.trans (HB.out.mono HW.out.size))
              obtain ⟨d0, d1, d2⟩ := hc2 _ (HW.out.trans (HB.out.mono HW.out.size))
              clear hc1 hc2
              generalize l[k] = r at *
              obtain ⟨r0, r1, r2⟩ := r
              dsimp only at c0 c1 c2 d0 d1 d2
              go_wp2_with fail
              go_quiet (fail)
              go_wp2
              go_roundw
              case rel => exact ⟨k + 1, by omega, by first | rfl | go_num, Lib.hid (belowQ HB.out _)⟩
              case measure => simp [intOf]; omega
            · have hx1 : ¬ (k : Int) < (n : Int) := by omega
              go_wp2
              go_roundw
              case rel => exact ⟨i + 1, by omega, by first | rfl | go_num, HB⟩
              case measure => simp [intOf]; omega
        · obtain rfl : i = 6 := by omega
          have HF := Lib.hid (HW.out.trans (HB.out.mono HW.out.size))
          go_wp2
          go_ret
          exact ⟨rfl, HF.out⟩

end Go.Proofs.YtopmdffiikajnaaGreatDoor
