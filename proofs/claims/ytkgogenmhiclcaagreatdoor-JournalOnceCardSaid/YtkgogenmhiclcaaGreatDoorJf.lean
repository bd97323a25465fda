/-
  Whether a log may be, its size, rows that are alike: the program's walks and the reference's.
-/
import Derived.Test.YtkgogenmhiclcaaGreatDoorJe
import Derived.Test.YtkgogenmhiclcaaGreatDoorRk
import Derived.Laws.StructEq
namespace Go.Proofs.YtkgogenmhiclcaaGreatDoor
open Go.RowKit

instance : Inhabited RowD := ⟨zeroR⟩
theorem rowsC_at (l : List RowD) (k : Nat) (h : k < l.length) (j : Nat) (hj : j < 5) : (rowsC l)[k * 5 + j]? = (rowC l[k])[j]? :=
  flat_at rowC 5 rowC_len l k j l[k] (List.getElem?_eq_getElem h) hj
/-- a row among others, in whatever world lies behind -/
theorem Rd.rowAt {w : World} {B n : Nat} {A : Option Addr} {l : List RowD} (h : Rd w B 5 A n (rowsC l)) (k : Nat) (hk : k < l.length) : ∃ ad, A = some ad ∧ ∀ W, Below B w W →
    W.cell? (ad.add (k * 5)) = some (.int .i64 l[k].time) ∧ W.cell? ⟨(ad.add (k * 5)).block, (ad.add (k * 5)).off + 1, none⟩ = some (.string l[k].unit) ∧ W.cell? ⟨(ad.add (k * 5)).block, (ad.add (k * 5)).off + 2, none⟩ = some (.int .i64 l[k].n) ∧
    W.cell? ⟨(ad.add (k * 5)).block, (ad.add (k * 5)).off + 3, none⟩ = some (.int .i64 l[k].kind) ∧ W.cell? ⟨(ad.add (k * 5)).block, (ad.add (k * 5)).off + 4, none⟩ = some (.string l[k].text) := by
  have hl : l.length = n := by have := h.1; rw [rowsC_len] at this; omega
  obtain ⟨ad, rfl, _, _⟩ := h.here (by omega)
  refine ⟨ad, rfl, fun W hW => ?_⟩
  obtain ⟨ad', e, _, hc⟩ := (h.below hW).here (by omega)
  injection e with e
  subst e
  have g := fun j hj u hu => hc (k * 5 + j) u ((rowsC_at l k hk j hj).trans hu)
  have g0 := g 0 (by omega) _ rfl
  have g1 := g 1 (by omega) _ rfl
  have g2 := g 2 (by omega) _ rfl
  have g3 := g 3 (by omega) _ rfl
  have g4 := g 4 (by omega) _ rfl
  rw [Mem.add_field _ _ 1 (by omega)] at g1
  rw [Mem.add_field _ _ 2 (by omega)] at g2
  rw [Mem.add_field _ _ 3 (by omega)] at g3
  rw [Mem.add_field _ _ 4 (by omega)] at g4
  exact ⟨g0, g1, g2, g3, g4⟩
/-- rows whose texts can be -/
def Fits (l : List RowD) : Prop := ∀ r ∈ l, r.unit.size ≤ 140737488355328 ∧ r.text.size ≤ 140737488355328
namespace Sp
def okAt (l : List RowD) (k : Nat) : Bool := mayRowB l[k]! && (decide (k = 0) || lessB l[k - 1]! l[k]!)
/-- a log that may be -/
def mayLogB (l : List RowD) : Bool := (List.range l.length).all (okAt l)
theorem mayLog_yes (l : List RowD) (h : ∀ j, j < l.length → okAt l j = true) : mayLogB l = true := by
  rw [mayLogB, List.all_eq_true]
  intro x hx
  exact h x (List.mem_range.1 hx)
theorem mayLog_no (l : List RowD) (k : Nat) (hk : k < l.length) (h : okAt l k = false) : mayLogB l = false := by
  cases e : mayLogB l
  · rfl
  · rw [mayLogB, List.all_eq_true] at e
    have := e k (List.mem_range.2 hk)
    rw [h] at this; cases this
theorem mayLog_at (l : List RowD) (h : mayLogB l = true) (k : Nat) (hk : k < l.length) : okAt l k = true := by
  rw [mayLogB, List.all_eq_true] at h
  exact h k (List.mem_range.2 hk)
def lineN (r : RowD) : Nat := (toB (printR r)).size + 1
/-- how many bytes a log has -/
def sizeL : List RowD → Nat
  | [] => 0
  | r :: l => lineN r + sizeL l
theorem line_le (r : RowD) : lineN r ≤ 1048577 := by
  unfold lineN
  rw [printR]
  split
  · rename_i h
    obtain ⟨p1, p2, p3, p4, p5, p6, p7, p8, p9⟩ := mayRow_parts r h
    have z1 := decB_size r.time p1 (by omega)
    have z2 := unitW_size r.unit p3
    have z3 := decB_size r.n (by omega) (by omega)
    have z4 := decB_size r.kind (by omega) (by omega)
    rw [toB_size] at *
    have e1 : (unitW r.unit).data.toList.length = (unitW r.unit).size := by simp
    have e2 : r.text.data.toList.length = r.text.size := by simp
    simp only [textL, List.length_append, List.length_cons, e1, e2]
    omega
  · rw [toB_size]; simp
theorem sizeL_le : ∀ l : List RowD, sizeL l ≤ l.length * 1048577
  | [] => Nat.le_refl _
  | r :: l => by
    have h1 := line_le r
    have h2 := sizeL_le l
    rw [sizeL, List.length_cons, Nat.add_mul]; omega
theorem sizeL_snoc : ∀ (l : List RowD) (r : RowD), sizeL (l ++ [r]) = sizeL l + lineN r
  | [], r => by simp [sizeL]
  | x :: l, r => by rw [List.cons_append, sizeL, sizeL_snoc l r, sizeL]; omega
theorem sizeL_take (l : List RowD) (k : Nat) (h : k < l.length) : sizeL (l.take (k + 1)) = sizeL (l.take k) + lineN l[k] := by
  rw [List.take_succ_eq_append_getElem h, sizeL_snoc]
end Sp

set_option maxRecDepth 100000 in
set_option maxHeartbeats 8000000 in
theorem mayl_any (l : List RowD) (hl : Fits l) (A : Option Addr) (n c B : Nat) (w : World) (h : Rd w B 5 A n (rowsC l)) (hB : B ≤ w.heap.size) (hn : n ≤ 137438953472) :
    Calls Tryz.prog 12 #[.slice A n c] w fun e w' => e = .returned (.bool (Sp.mayLogB l)) ∧ Below w.heap.size w w' := by
  have hlen : l.length = n := by have := h.1; rw [rowsC_len] at this; omega
  have HL := Lib.hid hlen
  have HF := Lib.hid hl
  have HNO := Lib.hid (Sp.mayLog_no l)
  have HYES := Lib.hid (Sp.mayLog_yes l)
  have HROW := Lib.hid (fun k hk => Rd.rowAt h k hk)
  clear hlen hl
  go_enter Tryz.func12, Tryz.ntmps12
  go_wp2_with fail
  go_loopw [7] (fun iv wr => ∃ k : Nat, k ≤ n ∧ iv = .int .i64 k ∧ Below w.heap.size w wr ∧ Hid (∀ j, j < k → Sp.okAt l j = true)) (fun iv _ => n - (intOf iv).toNat)
  case atStart => exact ⟨0, Nat.zero_le _, rfl, Below.refl _ _, Lib.hid fun j hj => absurd hj (by omega)⟩
  case round =>
    obtain ⟨k, hk, rfl, hb, HK⟩ := hrel
    by_cases hlt : k < n
    · have hkl : k < l.length := by rw [HL.out]; exact hlt
      obtain ⟨ad, rfl, hc⟩ := HROW.out k hkl
      obtain ⟨c0, c1, c2, c3, c4⟩ := hc wr (hb.mono hB)
      have hfit := HF.out l[k] (List.getElem_mem hkl)
      have hg : l[k]! = l[k] := getElem!_pos l k hkl
      have HM := Lib.hid (fun w => mayrow_any l[k] w hfit.1 hfit.2)
      have HOK : Hid (Sp.okAt l k = (mayRowB l[k] && (decide (k = 0) || lessB l[k - 1]! l[k]))) := Lib.hid (by rw [Sp.okAt, hg])
      have HNK := Lib.hid (HNO.out k hkl)
      have HLESS := Lib.hid (fun q w => less_any q l[k] w)
      have hbx := hb.alloc hb.size (.cells #[.int .i64 l[k].time, .string l[k].unit, .int .i64 l[k].n, .int .i64 l[k].kind, .string l[k].text] 37)
      have HBX := Lib.hid (RBox.new wr l[k].time l[k].n l[k].kind l[k].unit l[k].text)
      have hsx : wr.heap.size < (wr.alloc (.cells #[.int .i64 l[k].time, .string l[k].unit, .int .i64 l[k].n, .int .i64 l[k].kind, .string l[k].text] 37)).heap.size := by simp
      clear hc hg hfit
      generalize l[k] = r at *
      generalize mayRowB r = may at *
      obtain ⟨rt, ru, rn, rk, rx⟩ := r
      simp only [rowV, rowC] at HM HLESS
      dsimp only at c0 c1 c2 c3 c4 HBX hsx hbx
      have x1 : (0 : Int) ≤ (k : Int) := by omega
      have x2 : (k : Int) < (n : Int) := by omega
      have HFW : Hid (∀ p : Since (wr.alloc (.cells #[.int .i64 rt, .string ru, .int .i64 rn, .int .i64 rk, .string rx] 37)).heap.size (wr.alloc (.cells #[.int .i64 rt, .string ru, .int .i64 rn, .int .i64 rk, .string rx] 37)), Below w.heap.size w p.w') := Lib.hid fun p => hbx.trans (p.hb.mono hbx.size)
      have e0 : ∀ p : Since (wr.alloc (.cells #[.int .i64 rt, .string ru, .int .i64 rn, .int .i64 rk, .string rx] 37)).heap.size (wr.alloc (.cells #[.int .i64 rt, .string ru, .int .i64 rn, .int .i64 rk, .string rx] 37)), p.w'.cell? ⟨wr.heap.size, 0, none⟩ = some (.int .i64 rt) := fun p => (HBX.out.on hsx p.hb).c0
      have e1 : ∀ p : Since (wr.alloc (.cells #[.int .i64 rt, .string ru, .int .i64 rn, .int .i64 rk, .string rx] 37)).heap.size (wr.alloc (.cells #[.int .i64 rt, .string ru, .int .i64 rn, .int .i64 rk, .string rx] 37)), p.w'.cell? ⟨wr.heap.size, 1, none⟩ = some (.string ru) := fun p => (HBX.out.on hsx p.hb).c1
      have e2 : ∀ p : Since (wr.alloc (.cells #[.int .i64 rt, .string ru, .int .i64 rn, .int .i64 rk, .string rx] 37)).heap.size (wr.alloc (.cells #[.int .i64 rt, .string ru, .int .i64 rn, .int .i64 rk, .string rx] 37)), p.w'.cell? ⟨wr.heap.size, 2, none⟩ = some (.int .i64 rn) := fun p => (HBX.out.on hsx p.hb).c2
      have e3 : ∀ p : Since (wr.alloc (.cells #[.int .i64 rt, .string ru, .int .i64 rn, .int .i64 rk, .string rx] 37)).heap.size (wr.alloc (.cells #[.int .i64 rt, .string ru, .int .i64 rn, .int .i64 rk, .string rx] 37)), p.w'.cell? ⟨wr.heap.size, 3, none⟩ = some (.int .i64 rk) := fun p => (HBX.out.on hsx p.hb).c3
      have e4 : ∀ p : Since (wr.alloc (.cells #[.int .i64 rt, .string ru, .int .i64 rn, .int .i64 rk, .string rx] 37)).heap.size (wr.alloc (.cells #[.int .i64 rt, .string ru, .int .i64 rn, .int .i64 rk, .string rx] 37)), p.w'.cell? ⟨wr.heap.size, 4, none⟩ = some (.string rx) := fun p => (HBX.out.on hsx p.hb).c4
      rcases Nat.eq_zero_or_pos k with hk0 | hk0
      · subst hk0
        simp only [Nat.zero_mul, addr0] at c0 c1 c2 c3 c4
        rw [show ((0 : Nat) : Int) = 0 from rfl] at x1 x2 ⊢
        have HOK0 : Hid (Sp.okAt l 0 = may) := Lib.hid (by rw [HOK.out]; simp)
        clear HOK HLESS HROW
        go_upto_region 4 with fail
        clear c0 c1 c2 c3 c4
        generalize (wr.alloc (.cells #[.int .i64 rt, .string ru, .int .i64 rn, .int .i64 rk, .string rx] 37)) = w1 at *
        generalize wr.heap.size = b1 at *
        cases may with
        | true =>
          refine wp_region_since w1.heap.size (by kernel_rfl) (by kernel_rfl) ?_
          repeat (go_big_quiet_step (first | (go_at_call 28; exact Calls.since_of (Nat.le_refl _) (HM.out _))))
          refine wpQuiet_nil ?_
          intro _ hw'
          obtain ⟨pz, hw''⟩ := hw'
          subst hw''
          have hpz := HFW.out pz
          generalize pz.w' = wq at *
          go_wp2
          go_roundw
          case rel => exact ⟨1, by omega, by first | rfl | go_num, hpz, Lib.hid fun j hj => (by have e : j = 0 := (by omega); rw [e]; exact HOK0.out)⟩
          case measure => first | (simp [intOf]; done) | (simp [intOf]; omega)
        | false =>
          have HR := Lib.hid (HNK.out HOK0.out)
          refine wp_region_since w1.heap.size (by kernel_rfl) (by kernel_rfl) ?_
          repeat (go_big_quiet_step (first | (go_at_call 28; exact Calls.since_of (Nat.le_refl _) (HM.out _))))
          refine wpQuiet_nil ?_
          intro _ hw'
          obtain ⟨pz, hw''⟩ := hw'
          subst hw''
          have hpz := HFW.out pz
          generalize pz.w' = wq at *
          go_wp2
          rw [HR.out]
          go_ret
          exact ⟨rfl, hpz⟩
      · obtain ⟨q, rfl⟩ : ∃ q, k = q + 1 := ⟨k - 1, by omega⟩
        have hql : q < l.length := by omega
        obtain ⟨ad', had, hcq⟩ := HROW.out q hql
        injection had with had
        subst had
        have HOK1 : Hid (Sp.okAt l (q + 1) = (may && lessB l[q] ⟨rt, ru, rn, rk, rx⟩)) := Lib.hid (by
          rw [HOK.out, Nat.add_sub_cancel, getElem!_pos l q hql]; simp)
        have HLESS1 := Lib.hid (fun w => HLESS.out l[q] w)
        have d0 : ∀ p : Since (wr.alloc (.cells #[.int .i64 rt, .string ru, .int .i64 rn, .int .i64 rk, .string rx] 37)).heap.size (wr.alloc (.cells #[.int .i64 rt, .string ru, .int .i64 rn, .int .i64 rk, .string rx] 37)), p.w'.cell? (ad.add (q * 5)) = some (.int .i64 l[q].time) := fun p => (hcq p.w' ((HFW.out p).mono hB)).1
        have d1 : ∀ p : Since (wr.alloc (.cells #[.int .i64 rt, .string ru, .int .i64 rn, .int .i64 rk, .string rx] 37)).heap.size (wr.alloc (.cells #[.int .i64 rt, .string ru, .int .i64 rn, .int .i64 rk, .string rx] 37)), p.w'.cell? ⟨(ad.add (q * 5)).block, (ad.add (q * 5)).off + 1, none⟩ = some (.string l[q].unit) := fun p => (hcq p.w' ((HFW.out p).mono hB)).2.1
        have d2 : ∀ p : Since (wr.alloc (.cells #[.int .i64 rt, .string ru, .int .i64 rn, .int .i64 rk, .string rx] 37)).heap.size (wr.alloc (.cells #[.int .i64 rt, .string ru, .int .i64 rn, .int .i64 rk, .string rx] 37)), p.w'.cell? ⟨(ad.add (q * 5)).block, (ad.add (q * 5)).off + 2, none⟩ = some (.int .i64 l[q].n) := fun p => (hcq p.w' ((HFW.out p).mono hB)).2.2.1
        have d3 : ∀ p : Since (wr.alloc (.cells #[.int .i64 rt, .string ru, .int .i64 rn, .int .i64 rk, .string rx] 37)).heap.size (wr.alloc (.cells #[.int .i64 rt, .string ru, .int .i64 rn, .int .i64 rk, .string rx] 37)), p.w'.cell? ⟨(ad.add (q * 5)).block, (ad.add (q * 5)).off + 3, none⟩ = some (.int .i64 l[q].kind) := fun p => (hcq p.w' ((HFW.out p).mono hB)).2.2.2.1
        have d4 : ∀ p : Since (wr.alloc (.cells #[.int .i64 rt, .string ru, .int .i64 rn, .int .i64 rk, .string rx] 37)).heap.size (wr.alloc (.cells #[.int .i64 rt, .string ru, .int .i64 rn, .int .i64 rk, .string rx] 37)), p.w'.cell? ⟨(ad.add (q * 5)).block, (ad.add (q * 5)).off + 4, none⟩ = some (.string l[q].text) := fun p => (hcq p.w' ((HFW.out p).mono hB)).2.2.2.2
        clear HOK HLESS HROW hcq
        generalize l[q] = rq at *
        generalize lessB rq ⟨rt, ru, rn, rk, rx⟩ = ls at *
        obtain ⟨qt, qu, qn, qk, qx⟩ := rq
        dsimp only at d0 d1 d2 d3 d4
        have y0 : ((q + 1 : Nat) : Int) = (q : Int) + 1 := by omega
        rw [y0]
        have y1 : (0 : Int) ≤ (q : Int) := by omega
        have y2 : (q : Int) < (n : Int) := by omega
        have y3 : (q : Int) + 1 < (n : Int) := by omega
        have y4 : (0 : Int) ≤ (q : Int) + 1 := by omega
        have y5 : (0 : Int) < (q : Int) + 1 := by omega
        have ep : ((q : Int) + 1).toNat = q + 1 := by omega
        have hwp : IntKind.i64.wrap (q : Int) = (q : Int) := by rw [IntKind.wrap_i64]; omega
        clear y0 x1 x2
        go_upto_region 4 with fail
        clear c0 c1 c2 c3 c4
        generalize (wr.alloc (.cells #[.int .i64 rt, .string ru, .int .i64 rn, .int .i64 rk, .string rx] 37)) = w1 at *
        generalize wr.heap.size = b1 at *
        cases may with
        | true =>
          cases ls with
          | true =>
            refine wp_region_since w1.heap.size (by kernel_rfl) (by kernel_rfl) ?_
            repeat (go_big_quiet_step (first | (go_at_call 28; exact Calls.since_of (Nat.le_refl _) (HM.out _)) | (go_at_call 20; exact Calls.since_of (Nat.le_refl _) (HLESS1.out _))))
            refine wpQuiet_nil ?_
            intro _ hw'
            obtain ⟨pz, hw''⟩ := hw'
            subst hw''
            have hpz := HFW.out pz
            generalize pz.w' = wq at *
            go_wp2
            go_roundw
            case rel => exact ⟨q + 1 + 1, by omega, by first | rfl | go_num, hpz, Lib.hid fun j hj => by
              by_cases e : j = q + 1
              · subst e; exact HOK1.out
              · exact HK.out j (by omega)⟩
            case measure => first | (simp [intOf]; done) | (simp [intOf]; omega)
          | false =>
            have HR := Lib.hid (HNK.out HOK1.out)
            refine wp_region_since w1.heap.size (by kernel_rfl) (by kernel_rfl) ?_
            repeat (go_big_quiet_step (first | (go_at_call 28; exact Calls.since_of (Nat.le_refl _) (HM.out _)) | (go_at_call 20; exact Calls.since_of (Nat.le_refl _) (HLESS1.out _))))
            refine wpQuiet_nil ?_
            intro _ hw'
            obtain ⟨pz, hw''⟩ := hw'
            subst hw''
            have hpz := HFW.out pz
            generalize pz.w' = wq at *
            go_wp2
            rw [HR.out]
            go_ret
            exact ⟨rfl, hpz⟩
        | false =>
          have HR := Lib.hid (HNK.out HOK1.out)
          refine wp_region_since w1.heap.size (by kernel_rfl) (by kernel_rfl) ?_
          repeat (go_big_quiet_step (first | (go_at_call 28; exact Calls.since_of (Nat.le_refl _) (HM.out _)) | (go_at_call 20; exact Calls.since_of (Nat.le_refl _) (HLESS1.out _))))
          refine wpQuiet_nil ?_
          intro _ hw'
          obtain ⟨pz, hw''⟩ := hw'
          subst hw''
          have hpz := HFW.out pz
          generalize pz.w' = wq at *
          go_wp2
          rw [HR.out]
          go_ret
          exact ⟨rfl, hpz⟩
    · have hke : k = n := by omega
      have x2 : ¬ (k : Int) < (n : Int) := by omega
      have HR := Lib.hid (HYES.out (fun j hj => HK.out j (by rw [HL.out] at hj; omega)))
      go_wp2
      rw [HR.out]
      go_ret
      exact ⟨rfl, hb⟩

set_option maxRecDepth 100000 in
set_option maxHeartbeats 8000000 in
theorem rmayl_any (l : List RowD) (hl : Fits l) (A : Option Addr) (n c B : Nat) (w : World) (h : Rd w B 5 A n (rowsC l)) (hB : B ≤ w.heap.size) (hn : n ≤ 137438953472) :
    Calls Tryz.prog 13 #[.slice A n c] w fun e w' => e = .returned (.bool (Sp.mayLogB l)) ∧ Below w.heap.size w w' := by
  have hlen : l.length = n := by have := h.1; rw [rowsC_len] at this; omega
  have HL := Lib.hid hlen
  have HF := Lib.hid hl
  have HNO := Lib.hid (Sp.mayLog_no l)
  have HYES := Lib.hid (Sp.mayLog_yes l)
  have HROW := Lib.hid (fun k hk => Rd.rowAt h k hk)
  clear hlen hl
  go_enter Tryz.func13, Tryz.ntmps13
  go_wp2_with fail
  go_loopw [7] (fun iv wr => ∃ k : Nat, k ≤ n ∧ iv = .int .i64 k ∧ Below w.heap.size w wr ∧ Hid (∀ j, j < k → Sp.okAt l j = true)) (fun iv _ => n - (intOf iv).toNat)
  case atStart => exact ⟨0, Nat.zero_le _, rfl, Below.refl _ _, Lib.hid fun j hj => absurd hj (by omega)⟩
  case round =>
    obtain ⟨k, hk, rfl, hb, HK⟩ := hrel
    by_cases hlt : k < n
    · have hkl : k < l.length := by rw [HL.out]; exact hlt
      obtain ⟨ad, rfl, hc⟩ := HROW.out k hkl
      obtain ⟨c0, c1, c2, c3, c4⟩ := hc wr (hb.mono hB)
      have hfit := HF.out l[k] (List.getElem_mem hkl)
      have hg : l[k]! = l[k] := getElem!_pos l k hkl
      have HM := Lib.hid (fun w => rmayrow_any l[k] w hfit.1 hfit.2)
      have HOK : Hid (Sp.okAt l k = (mayRowB l[k] && (decide (k = 0) || lessB l[k - 1]! l[k]))) := Lib.hid (by rw [Sp.okAt, hg])
      have HNK := Lib.hid (HNO.out k hkl)
      have HLESS := Lib.hid (fun q w => rless_any q l[k] w)
      have hbx := hb.alloc hb.size (.cells #[.int .i64 l[k].time, .string l[k].unit, .int .i64 l[k].n, .int .i64 l[k].kind, .string l[k].text] 37)
      have HBX := Lib.hid (RBox.new wr l[k].time l[k].n l[k].kind l[k].unit l[k].text)
      have hsx : wr.heap.size < (wr.alloc (.cells #[.int .i64 l[k].time, .string l[k].unit, .int .i64 l[k].n, .int .i64 l[k].kind, .string l[k].text] 37)).heap.size := by simp
      clear hc hg hfit
      generalize l[k] = r at *
      generalize mayRowB r = may at *
      obtain ⟨rt, ru, rn, rk, rx⟩ := r
      simp only [rowV, rowC] at HM HLESS
      dsimp only at c0 c1 c2 c3 c4 HBX hsx hbx
      have x1 : (0 : Int) ≤ (k : Int) := by omega
      have x2 : (k : Int) < (n : Int) := by omega
      have HFW : Hid (∀ p : Since (wr.alloc (.cells #[.int .i64 rt, .string ru, .int .i64 rn, .int .i64 rk, .string rx] 37)).heap.size (wr.alloc (.cells #[.int .i64 rt, .string ru, .int .i64 rn, .int .i64 rk, .string rx] 37)), Below w.heap.size w p.w') := Lib.hid fun p => hbx.trans (p.hb.mono hbx.size)
      have e0 : ∀ p : Since (wr.alloc (.cells #[.int .i64 rt, .string ru, .int .i64 rn, .int .i64 rk, .string rx] 37)).heap.size (wr.alloc (.cells #[.int .i64 rt, .string ru, .int .i64 rn, .int .i64 rk, .string rx] 37)), p.w'.cell? ⟨wr.heap.size, 0, none⟩ = some (.int .i64 rt) := fun p => (HBX.out.on hsx p.hb).c0
      have e1 : ∀ p : Since (wr.alloc (.cells #[.int .i64 rt, .string ru, .int .i64 rn, .int .i64 rk, .string rx] 37)).heap.size (wr.alloc (.cells #[.int .i64 rt, .string ru, .int .i64 rn, .int .i64 rk, .string rx] 37)), p.w'.cell? ⟨wr.heap.size, 1, none⟩ = some (.string ru) := fun p => (HBX.out.on hsx p.hb).c1
      have e2 : ∀ p : Since (wr.alloc (.cells #[.int .i64 rt, .string ru, .int .i64 rn, .int .i64 rk, .string rx] 37)).heap.size (wr.alloc (.cells #[.int .i64 rt, .string ru, .int .i64 rn, .int .i64 rk, .string rx] 37)), p.w'.cell? ⟨wr.heap.size, 2, none⟩ = some (.int .i64 rn) := fun p => (HBX.out.on hsx p.hb).c2
      have e3 : ∀ p : Since (wr.alloc (.cells #[.int .i64 rt, .string ru, .int .i64 rn, .int .i64 rk, .string rx] 37)).heap.size (wr.alloc (.cells #[.int .i64 rt, .string ru, .int .i64 rn, .int .i64 rk, .string rx] 37)), p.w'.cell? ⟨wr.heap.size, 3, none⟩ = some (.int .i64 rk) := fun p => (HBX.out.on hsx p.hb).c3
      have e4 : ∀ p : Since (wr.alloc (.cells #[.int .i64 rt, .string ru, .int .i64 rn, .int .i64 rk, .string rx] 37)).heap.size (wr.alloc (.cells #[.int .i64 rt, .string ru, .int .i64 rn, .int .i64 rk, .string rx] 37)), p.w'.cell? ⟨wr.heap.size, 4, none⟩ = some (.string rx) := fun p => (HBX.out.on hsx p.hb).c4
      rcases Nat.eq_zero_or_pos k with hk0 | hk0
      · subst hk0
        simp only [Nat.zero_mul, addr0] at c0 c1 c2 c3 c4
        rw [show ((0 : Nat) : Int) = 0 from rfl] at x1 x2 ⊢
        have HOK0 : Hid (Sp.okAt l 0 = may) := Lib.hid (by rw [HOK.out]; simp)
        clear HOK HLESS HROW
        go_upto_region 4 with fail
        clear c0 c1 c2 c3 c4
        generalize (wr.alloc (.cells #[.int .i64 rt, .string ru, .int .i64 rn, .int .i64 rk, .string rx] 37)) = w1 at *
        generalize wr.heap.size = b1 at *
        cases may with
        | true =>
          refine wp_region_since w1.heap.size (by kernel_rfl) (by kernel_rfl) ?_
          repeat (go_big_quiet_step (first | (go_at_call 29; exact Calls.since_of (Nat.le_refl _) (HM.out _))))
          refine wpQuiet_nil ?_
          intro _ hw'
          obtain ⟨pz, hw''⟩ := hw'
          subst hw''
          have hpz := HFW.out pz
          generalize pz.w' = wq at *
          go_wp2
          go_roundw
          case rel => exact ⟨1, by omega, by first | rfl | go_num, hpz, Lib.hid fun j hj => (by have e : j = 0 := (by omega); rw [e]; exact HOK0.out)⟩
          case measure => first | (simp [intOf]; done) | (simp [intOf]; omega)
        | false =>
          have HR := Lib.hid (HNK.out HOK0.out)
          refine wp_region_since w1.heap.size (by kernel_rfl) (by kernel_rfl) ?_
          repeat (go_big_quiet_step (first | (go_at_call 29; exact Calls.since_of (Nat.le_refl _) (HM.out _))))
          refine wpQuiet_nil ?_
          intro _ hw'
          obtain ⟨pz, hw''⟩ := hw'
          subst hw''
          have hpz := HFW.out pz
          generalize pz.w' = wq at *
          go_wp2
          rw [HR.out]
          go_ret
          exact ⟨rfl, hpz⟩
      · obtain ⟨q, rfl⟩ : ∃ q, k = q + 1 := ⟨k - 1, by omega⟩
        have hql : q < l.length := by omega
        obtain ⟨ad', had, hcq⟩ := HROW.out q hql
        injection had with had
        subst had
        have HOK1 : Hid (Sp.okAt l (q + 1) = (may && lessB l[q] ⟨rt, ru, rn, rk, rx⟩)) := Lib.hid (by
          rw [HOK.out, Nat.add_sub_cancel, getElem!_pos l q hql]; simp)
        have HLESS1 := Lib.hid (fun w => HLESS.out l[q] w)
        have d0 : ∀ p : Since (wr.alloc (.cells #[.int .i64 rt, .string ru, .int .i64 rn, .int .i64 rk, .string rx] 37)).heap.size (wr.alloc (.cells #[.int .i64 rt, .string ru, .int .i64 rn, .int .i64 rk, .string rx] 37)), p.w'.cell? (ad.add (q * 5)) = some (.int .i64 l[q].time) := fun p => (hcq p.w' ((HFW.out p).mono hB)).1
        have d1 : ∀ p : Since (wr.alloc (.cells #[.int .i64 rt, .string ru, .int .i64 rn, .int .i64 rk, .string rx] 37)).heap.size (wr.alloc (.cells #[.int .i64 rt, .string ru, .int .i64 rn, .int .i64 rk, .string rx] 37)), p.w'.cell? ⟨(ad.add (q * 5)).block, (ad.add (q * 5)).off + 1, none⟩ = some (.string l[q].unit) := fun p => (hcq p.w' ((HFW.out p).mono hB)).2.1
        have d2 : ∀ p : Since (wr.alloc (.cells #[.int .i64 rt, .string ru, .int .i64 rn, .int .i64 rk, .string rx] 37)).heap.size (wr.alloc (.cells #[.int .i64 rt, .string ru, .int .i64 rn, .int .i64 rk, .string rx] 37)), p.w'.cell? ⟨(ad.add (q * 5)).block, (ad.add (q * 5)).off + 2, none⟩ = some (.int .i64 l[q].n) := fun p => (hcq p.w' ((HFW.out p).mono hB)).2.2.1
        have d3 : ∀ p : Since (wr.alloc (.cells #[.int .i64 rt, .string ru, .int .i64 rn, .int .i64 rk, .string rx] 37)).heap.size (wr.alloc (.cells #[.int .i64 rt, .string ru, .int .i64 rn, .int .i64 rk, .string rx] 37)), p.w'.cell? ⟨(ad.add (q * 5)).block, (ad.add (q * 5)).off + 3, none⟩ = some (.int .i64 l[q].kind) := fun p => (hcq p.w' ((HFW.out p).mono hB)).2.2.2.1
        have d4 : ∀ p : Since (wr.alloc (.cells #[.int .i64 rt, .string ru, .int .i64 rn, .int .i64 rk, .string rx] 37)).heap.size (wr.alloc (.cells #[.int .i64 rt, .string ru, .int .i64 rn, .int .i64 rk, .string rx] 37)), p.w'.cell? ⟨(ad.add (q * 5)).block, (ad.add (q * 5)).off + 4, none⟩ = some (.string l[q].text) := fun p => (hcq p.w' ((HFW.out p).mono hB)).2.2.2.2
        clear HOK HLESS HROW hcq
        generalize l[q] = rq at *
        generalize lessB rq ⟨rt, ru, rn, rk, rx⟩ = ls at *
        obtain ⟨qt, qu, qn, qk, qx⟩ := rq
        dsimp only at d0 d1 d2 d3 d4
        have y0 : ((q + 1 : Nat) : Int) = (q : Int) + 1 := by omega
        rw [y0]
        have y1 : (0 : Int) ≤ (q : Int) := by omega
        have y2 : (q : Int) < (n : Int) := by omega
        have y3 : (q : Int) + 1 < (n : Int) := by omega
        have y4 : (0 : Int) ≤ (q : Int) + 1 := by omega
        have y5 : (0 : Int) < (q : Int) + 1 := by omega
        have ep : ((q : Int) + 1).toNat = q + 1 := by omega
        have hwp : IntKind.i64.wrap (q : Int) = (q : Int) := by rw [IntKind.wrap_i64]; omega
        clear y0 x1 x2
        go_upto_region 4 with fail
        clear c0 c1 c2 c3 c4
        generalize (wr.alloc (.cells #[.int .i64 rt, .string ru, .int .i64 rn, .int .i64 rk, .string rx] 37)) = w1 at *
        generalize wr.heap.size = b1 at *
        cases may with
        | true =>
          cases ls with
          | true =>
            refine wp_region_since w1.heap.size (by kernel_rfl) (by kernel_rfl) ?_
            repeat (go_big_quiet_step (first | (go_at_call 29; exact Calls.since_of (Nat.le_refl _) (HM.out _)) | (go_at_call 27; exact Calls.since_of (Nat.le_refl _) (HLESS1.out _))))
            refine wpQuiet_nil ?_
            intro _ hw'
            obtain ⟨pz, hw''⟩ := hw'
            subst hw''
            have hpz := HFW.out pz
            generalize pz.w' = wq at *
            go_wp2
            go_roundw
            case rel => exact ⟨q + 1 + 1, by omega, by first | rfl | go_num, hpz, Lib.hid fun j hj => by
              by_cases e : j = q + 1
              · subst e; exact HOK1.out
              · exact HK.out j (by omega)⟩
            case measure => first | (simp [intOf]; done) | (simp [intOf]; omega)
          | false =>
            have HR := Lib.hid (HNK.out HOK1.out)
            refine wp_region_since w1.heap.size (by kernel_rfl) (by kernel_rfl) ?_
            repeat (go_big_quiet_step (first | (go_at_call 29; exact Calls.since_of (Nat.le_refl _) (HM.out _)) | (go_at_call 27; exact Calls.since_of (Nat.le_refl _) (HLESS1.out _))))
            refine wpQuiet_nil ?_
            intro _ hw'
            obtain ⟨pz, hw''⟩ := hw'
            subst hw''
            have hpz := HFW.out pz
            generalize pz.w' = wq at *
            go_wp2
            rw [HR.out]
            go_ret
            exact ⟨rfl, hpz⟩
        | false =>
          have HR := Lib.hid (HNK.out HOK1.out)
          refine wp_region_since w1.heap.size (by kernel_rfl) (by kernel_rfl) ?_
          repeat (go_big_quiet_step (first | (go_at_call 29; exact Calls.since_of (Nat.le_refl _) (HM.out _)) | (go_at_call 27; exact Calls.since_of (Nat.le_refl _) (HLESS1.out _))))
          refine wpQuiet_nil ?_
          intro _ hw'
          obtain ⟨pz, hw''⟩ := hw'
          subst hw''
          have hpz := HFW.out pz
          generalize pz.w' = wq at *
          go_wp2
          rw [HR.out]
          go_ret
          exact ⟨rfl, hpz⟩
    · have hke : k = n := by omega
      have x2 : ¬ (k : Int) < (n : Int) := by omega
      have HR := Lib.hid (HYES.out (fun j hj => HK.out j (by rw [HL.out] at hj; omega)))
      go_wp2
      rw [HR.out]
      go_ret
      exact ⟨rfl, hb⟩

end Go.Proofs.YtkgogenmhiclcaaGreatDoor
