/-
  A calendar of one part: the law's walk.
-/
import Derived.Test.YtopmdffiikajnaaGreatDoorDo
import Derived.Test.YtopmdffiikajnaaGreatDoorDr
import Derived.Test.YtopmdffiikajnaaGreatDoorQr
import Derived.Deep.DeepCutAuto
namespace Go.Proofs.YtopmdffiikajnaaGreatDoor
open Go.RowKit Go.Shelf

structure InS (w W : World) : Prop where
  hb : Below w.heap.size w W
theorem InS.more {w W W' : World} (h : InS w W) (hb : Below W.heap.size W W') : InS w W' := ⟨h.hb.trans (hb.mono h.hb.size)⟩
theorem InS.alloc {w W : World} (h : InS w W) (o : Obj) : InS w (W.alloc o) := ⟨h.hb.alloc h.hb.size o⟩
theorem InS.drew {w W : World} (h : InS w W) : InS w W.drew := ⟨h.hb.drew⟩
theorem PB.more {w w' : World} {b : Nat} {p : Sp.PartD} (h : PB w b p) (hb : Below w.heap.size w w') : PB w' b p := h.under hb h.lt
theorem PB.drew {w : World} {b : Nat} {p : Sp.PartD} (h : PB w b p) : PB w.drew b p := h
theorem all_new (w : World) : Calls Tryz.prog 26 #[] w fun e w' => ∃ b, e = .returned (.slice (some ⟨b, 0, none⟩) 1 1) ∧ PB w' b ⟨-1, -1, 0⟩ ∧ Below w.heap.size w w' :=
  (all_any w).mono fun _ _ ⟨h1, h2⟩ => ⟨_, h1, h2 ▸ PB.new w (-1) (-1) 0, h2 ▸ (Below.refl _ _).alloc (Nat.le_refl _) _⟩
namespace Sp
def wantB (p : PartD) (h : Int) : Bool := mayPartB p 3 && hasB p 3 h
theorem may3 (fr tq st : Int) (M : Bool) (h : M = true ↔ (0 ≤ st ∧ st ≤ 9999 ∧ ((fr = -1 ∧ tq = -1) ∨ (0 ≤ fr ∧ fr ≤ 23 ∧ (tq = -1 ∨ (fr ≤ tq ∧ tq ≤ 23)))))) : M = mayPartB ⟨fr, tq, st⟩ 3 := by
  rw [Bool.eq_iff_iff, h]
  show _ ↔ (if st < 0 ∨ 9999 < st then false else if fr = -1 then decide (tq = -1) else if fr < 0 ∨ 23 < fr then false else decide (tq = -1) || (decide (fr ≤ tq) && decide (tq ≤ 23))) = true
  by_cases c1 : st < 0 ∨ 9999 < st
  · rw [if_pos c1]
    exact ⟨fun h => (by omega), fun h => (by cases h)⟩
  · rw [if_neg c1]
    by_cases c2 : fr = -1
    · rw [if_pos c2, decide_eq_true_eq]
      omega
    · rw [if_neg c2]
      by_cases c3 : fr < 0 ∨ 23 < fr
      · rw [if_pos c3]
        exact ⟨fun h => (by omega), fun h => (by cases h)⟩
      · rw [if_neg c3, Bool.or_eq_true, Bool.and_eq_true, decide_eq_true_eq, decide_eq_true_eq, decide_eq_true_eq]
        omega
theorem span3 {fr tq st : Int} (hm : mayPartB ⟨fr, tq, st⟩ 3 = true) (F T S : Int) (hF : F = if fr = -1 then 0 else fr) (hT : T = if fr = -1 then 23 else if tq = -1 then (if 0 < st then 23 else fr) else tq) (hS : S = if st < 1 then 1 else st) :
    (0 ≤ F ∧ F ≤ 23) ∧ (T ≤ 23 ∧ 0 ≤ T) ∧ (1 ≤ S ∧ S ≤ 9999) ∧ F = fromF ⟨fr, tq, st⟩ 3 ∧ T = toF ⟨fr, tq, st⟩ 3 ∧ S = stepF ⟨fr, tq, st⟩ := by
  have e := may3 fr tq st (decide (0 ≤ st ∧ st ≤ 9999 ∧ ((fr = -1 ∧ tq = -1) ∨ (0 ≤ fr ∧ fr ≤ 23 ∧ (tq = -1 ∨ (fr ≤ tq ∧ tq ≤ 23)))))) (by rw [decide_eq_true_eq])
  rw [hm, decide_eq_true_eq] at e
  obtain ⟨h1, h2, h3⟩ := e
  have eF : fromF ⟨fr, tq, st⟩ 3 = if fr = -1 then 0 else fr := rfl
  have eT : toF ⟨fr, tq, st⟩ 3 = if fr = -1 then 23 else if tq = -1 then (if st = 0 then fr else 23) else tq := rfl
  have eS : stepF ⟨fr, tq, st⟩ = if st < 1 then 1 else st := rfl
  rw [eF, eT, eS]
  by_cases c1 : fr = -1
  · rw [if_pos c1] at hF hT
    rw [if_pos c1, if_pos c1]
    by_cases c2 : st < 1
    · rw [if_pos c2] at hS
      rw [if_pos c2]
      omega
    · rw [if_neg c2] at hS
      rw [if_neg c2]
      omega
  · rw [if_neg c1] at hF hT
    rw [if_neg c1, if_neg c1]
    by_cases c3 : tq = -1
    · rw [if_pos c3] at hT
      rw [if_pos c3]
      by_cases c2 : st < 1
      · rw [if_pos c2] at hS
        rw [if_neg (by omega)] at hT
        rw [if_pos c2, if_pos (by omega)]
        omega
      · rw [if_neg c2] at hS
        rw [if_pos (by omega)] at hT
        rw [if_neg c2, if_neg (by omega)]
        omega
    · rw [if_neg c3] at hT
      rw [if_neg c3]
      by_cases c2 : st < 1
      · rw [if_pos c2] at hS
        rw [if_pos c2]
        omega
      · rw [if_neg c2] at hS
        rw [if_neg c2]
        omega
end Sp
/-- a slice of one part -/
def OneAt (p : Sp.PartD) (v : Value) (W : World) : Prop := ∃ b, v = .slice (some ⟨b, 0, none⟩) 1 1 ∧ PB W b p
theorem OneAt.more {p : Sp.PartD} {v : Value} {W W' : World} (h : OneAt p v W) (hb : Below W.heap.size W W') : OneAt p v W' := ⟨h.choose, h.choose_spec.1, h.choose_spec.2.more hb⟩
def CalAt (c : Sp.CalD) (v : Value) (W : World) : Prop := ∃ s : CalS, v = calV s ∧ CalGood W s ∧ s.cal = c
theorem CalAt.more {c : Sp.CalD} {v : Value} {W W' : World} (h : CalAt c v W) (hb : Below W.heap.size W W') : CalAt c v W' := ⟨h.choose, h.choose_spec.1, h.choose_spec.2.1.on hb, h.choose_spec.2.2⟩
/-- a calendar's box as it was made -/
def FreshAt (B : Nat) (v : Value) (W : World) : Prop := ∃ b, v = .pointer (some ⟨b, 0, none⟩) ∧ B ≤ b ∧ b < W.heap.size ∧ CV W b nilS (fun _ => nilS)
theorem FreshAt.more {B : Nat} {v : Value} {W W' : World} (h : FreshAt B v W) (hb : Below W.heap.size W W') : FreshAt B v W' := by
  obtain ⟨b, h1, h2, h3, h4⟩ := h
  exact ⟨b, h1, h2, Nat.lt_of_lt_of_le h3 hb.size, (hb.block b h3).trans h4⟩
def BoxAt (c : Sp.CalD) (v : Value) (W : World) : Prop := ∃ (b : Nat) (s : CalS), v = .pointer (some ⟨b, 0, none⟩) ∧ CBox W b s ∧ CalGood W s ∧ s.cal = c ∧ b < W.heap.size
structure PartA (w1 : World) (p : Sp.PartD) (D : Nat → Bool) (x : Nat → Value) (W : World) : Prop where
  hS : InS w1 W
  h0 : D 0 = true → OneAt ⟨-1, -1, 0⟩ (x 0) W
  h1 : D 1 = true → OneAt ⟨-1, -1, 0⟩ (x 1) W
  h2 : D 2 = true → OneAt ⟨-1, -1, 0⟩ (x 2) W
  h3 : D 3 = true → x 3 = partV p
  h4 : D 4 = true → OneAt p (x 4) W
  h5 : D 5 = true → OneAt ⟨-1, -1, 0⟩ (x 5) W
  h6 : D 6 = true → OneAt ⟨-1, -1, 0⟩ (x 6) W
  h7 : D 7 = true → CalAt (Sp.partCal p) (x 7) W
  h8 : D 8 = true → FreshAt w1.heap.size (x 8) W
structure PartF (w1 : World) (p : Sp.PartD) (x : Nat → Value) (W : World) : Prop where
  hS : InS w1 W
  hb : BoxAt (Sp.partCal p) (x 8) W
theorem calAt_parts {W : World} {p : Sp.PartD} {b0 b1 b2 b4 b5 b6 : Nat} (q0 : PB W b0 ⟨-1, -1, 0⟩) (q1 : PB W b1 ⟨-1, -1, 0⟩) (q2 : PB W b2 ⟨-1, -1, 0⟩) (q4 : PB W b4 p) (q5 : PB W b5 ⟨-1, -1, 0⟩) (q6 : PB W b6 ⟨-1, -1, 0⟩) :
    CalAt (Sp.partCal p) (.agg #[.slice none 0 0, .slice (some ⟨b0, 0, none⟩) 1 1, .slice (some ⟨b1, 0, none⟩) 1 1, .slice (some ⟨b2, 0, none⟩) 1 1, .slice (some ⟨b4, 0, none⟩) 1 1, .slice (some ⟨b5, 0, none⟩) 1 1, .slice (some ⟨b6, 0, none⟩) 1 1]) W := by
  refine ⟨⟨⟨none, 0, 0⟩, ⟨some ⟨b0, 0, none⟩, 1, 1⟩, ⟨some ⟨b1, 0, none⟩, 1, 1⟩, ⟨some ⟨b2, 0, none⟩, 1, 1⟩, ⟨some ⟨b4, 0, none⟩, 1, 1⟩, ⟨some ⟨b5, 0, none⟩, 1, 1⟩, ⟨some ⟨b6, 0, none⟩, 1, 1⟩, Sp.partCal p⟩, rfl, ⟨Rd.empty, fun i hi => ?_, Nat.zero_le _, fun i => ?_⟩, rfl⟩
  · have e : i = 0 ∨ i = 1 ∨ i = 2 ∨ i = 3 ∨ i = 4 ∨ i = 5 := by omega
    rcases e with rfl | rfl | rfl | rfl | rfl | rfl
    · exact rd_part q0
    · exact rd_part q1
    · exact rd_part q2
    · exact rd_part q4
    · exact rd_part q5
    · exact rd_part q6
  · match i with
    | 0 | 1 | 2 | 3 | 4 => exact (show (1 : Nat) ≤ 9223372036854775807 by decide)
    | n + 5 => exact (show (1 : Nat) ≤ 9223372036854775807 by decide)
theorem box_put {w : World} {b : Nat} {d : SlA} {f : Nat → SlA} (h : CV w b d f) (s : CalS) : CBox (((((((w.setCell ⟨b, 0, none⟩ (slV s.d)).setCell ⟨b, 1, none⟩ (slV s.f0)).setCell ⟨b, 2, none⟩ (slV s.f1)).setCell ⟨b, 3, none⟩ (slV s.f2)).setCell ⟨b, 4, none⟩ (slV s.f3)).setCell ⟨b, 5, none⟩ (slV s.f4)).setCell ⟨b, 6, none⟩ (slV s.f5)) b s := by
  have hp := CV.put h s.d s.f0 s.f1 s.f2 s.f3 s.f4 s.f5
  exact ⟨hp.cd, hp.cell 0 (by decide), hp.cell 1 (by decide), hp.cell 2 (by decide), hp.cell 3 (by decide), hp.cell 4 (by decide), hp.cell 5 (by decide)⟩
def PartJ (w1 : World) (p : Sp.PartD) (D : Nat → Bool) (x : Nat → Value) (W : World) : Prop := (D 9 = false → PartA w1 p D x W) ∧ (D 9 = true → PartF w1 p x W)
set_option maxRecDepth 100000 in
set_option maxHeartbeats 16000000 in
theorem calpart_any (p : Sp.PartD) (hour : Int) (w : World) (ha1 : -9223372036854775808 ≤ hour) (ha2 : hour ≤ 9223372036854775807) (E : Env w) :
    Calls Tryz.prog 10 #[partV p, .int .i64 hour] w fun e w' => e = .returned (.bool true) ∧ Below w.heap.size w w' := by
  obtain ⟨fr, tq, st⟩ := p
  have hA : Below w.heap.size w (w.alloc (.cells #[.int .i64 fr, .int .i64 tq, .int .i64 st] 43)) := (Below.refl _ w).alloc (Nat.le_refl _) _
  have hpb := PB.new w fr tq st
  have hlt : w.heap.size < (w.alloc (.cells #[.int .i64 fr, .int .i64 tq, .int .i64 st] 43)).heap.size := by simp
  have HSH := Lib.hid (shown_any _ (E.on hA))
  simp only [partV]
  clear E
  go_enter Tryz.func10, Tryz.ntmps10
  go_wp2_with fail
  refine HSH.out.mono ?_
  rintro e w1 ⟨rfl, hb1⟩
  have HW1 := Lib.hid (hA.trans (hb1.mono hA.size))
  have hl1 : w.heap.size < w1.heap.size := Nat.lt_of_lt_of_le hlt hb1.size
  have HPB : Hid (PB w1 w.heap.size ⟨fr, tq, st⟩) := Lib.hid (hpb.under hb1 hlt)
  clear hA hb1 hlt hpb HSH
  by_cases h1 : hour < 0
  · go_wp2
    go_ret
    exact ⟨rfl, HW1.out⟩
  · by_cases h2 : 23 < hour
    · go_wp2
      go_ret
      exact ⟨rfl, HW1.out⟩
    · go_upto_region 5 with fail
      refine wp_region_inv (by kernel_rfl) (PartJ w1 ⟨fr, tq, st⟩) (by kernel_rfl) (by kernel_rfl) (fun x => ⟨fun _ => ⟨⟨(Below.refl _ _).drew⟩, fun h => (by cases h), fun h => (by cases h), fun h => (by cases h), fun h => (by cases h), fun h => (by cases h), fun h => (by cases h), fun h => (by cases h), fun h => (by cases h), fun h => (by cases h)⟩, fun h => (by cases h)⟩) ?_ ?_
      · refine And.intro ?_ (And.intro ?_ (And.intro ?_ (And.intro ?_ (And.intro ?_ (And.intro ?_ (And.intro ?_ (And.intro ?_ (And.intro ?_ (And.intro ?_ trivial)))))))))
        · refine stepO_plain rfl (fun D x W hJ hp hn hcl K hK => ?_)
          have hD : D 9 = false := by
            cases h : D 9 with
            | false => rfl
            | true => exact absurd (hcl 9 _ rfl h 0 (of_decide_eq_true (by kernel_rfl))) (by rw [hn]; decide)
          obtain ⟨hS, h0, h1, h2, h3, h4, h5, h6, h7, h8⟩ := hJ.1 hD
          have hK := hK.out
          simp only [fillO, Act.put, List.setIfInBounds_toArray, List.set_cons_zero, List.set_cons_succ, Nat.reduceAdd] at hK ⊢
          refine Wrap.mk ?_
          go_simp
          refine (all_new W).mono ?_
          rintro e W' ⟨b, rfl, hpb, hb⟩
          have ha : OneAt ⟨-1, -1, 0⟩ (.slice (some ⟨b, 0, none⟩) 1 1) W' := ⟨b, rfl, hpb⟩
          go_wp2_with fail
          exact ⟨fun _ => ⟨hS.more hb, fun _ => ha, fun h => (h1 h).more hb, fun h => (h2 h).more hb, fun h => h3 h, fun h => (h4 h).more hb, fun h => (h5 h).more hb, fun h => (h6 h).more hb, fun h => (h7 h).more hb, fun h => (h8 h).more hb⟩, fun h => absurd (hD.symm.trans h) (by decide)⟩
        · refine stepO_plain rfl (fun D x W hJ hp hn hcl K hK => ?_)
          have hD : D 9 = false := by
            cases h : D 9 with
            | false => rfl
            | true => exact absurd (hcl 9 _ rfl h 1 (of_decide_eq_true (by kernel_rfl))) (by rw [hn]; decide)
          obtain ⟨hS, h0, h1, h2, h3, h4, h5, h6, h7, h8⟩ := hJ.1 hD
          have hK := hK.out
          simp only [fillO, Act.put, List.setIfInBounds_toArray, List.set_cons_zero, List.set_cons_succ, Nat.reduceAdd] at hK ⊢
          refine Wrap.mk ?_
          go_simp
          refine (all_new W).mono ?_
          rintro e W' ⟨b, rfl, hpb, hb⟩
          have ha : OneAt ⟨-1, -1, 0⟩ (.slice (some ⟨b, 0, none⟩) 1 1) W' := ⟨b, rfl, hpb⟩
          go_wp2_with fail
          exact ⟨fun _ => ⟨hS.more hb, fun h => (h0 h).more hb, fun _ => ha, fun h => (h2 h).more hb, fun h => h3 h, fun h => (h4 h).more hb, fun h => (h5 h).more hb, fun h => (h6 h).more hb, fun h => (h7 h).more hb, fun h => (h8 h).more hb⟩, fun h => absurd (hD.symm.trans h) (by decide)⟩
        · refine stepO_plain rfl (fun D x W hJ hp hn hcl K hK => ?_)
          have hD : D 9 = false := by
            cases h : D 9 with
            | false => rfl
            | true => exact absurd (hcl 9 _ rfl h 2 (of_decide_eq_true (by kernel_rfl))) (by rw [hn]; decide)
          obtain ⟨hS, h0, h1, h2, h3, h4, h5, h6, h7, h8⟩ := hJ.1 hD
          have hK := hK.out
          simp only [fillO, Act.put, List.setIfInBounds_toArray, List.set_cons_zero, List.set_cons_succ, Nat.reduceAdd] at hK ⊢
          refine Wrap.mk ?_
          go_simp
          refine (all_new W).mono ?_
          rintro e W' ⟨b, rfl, hpb, hb⟩
          have ha : OneAt ⟨-1, -1, 0⟩ (.slice (some ⟨b, 0, none⟩) 1 1) W' := ⟨b, rfl, hpb⟩
          go_wp2_with fail
          exact ⟨fun _ => ⟨hS.more hb, fun h => (h0 h).more hb, fun h => (h1 h).more hb, fun _ => ha, fun h => h3 h, fun h => (h4 h).more hb, fun h => (h5 h).more hb, fun h => (h6 h).more hb, fun h => (h7 h).more hb, fun h => (h8 h).more hb⟩, fun h => absurd (hD.symm.trans h) (by decide)⟩
        · refine stepO_plain rfl (fun D x W hJ hp hn hcl K hK => ?_)
          have hD : D 9 = false := by
            cases h : D 9 with
            | false => rfl
            | true => exact absurd (hcl 9 _ rfl h 3 (of_decide_eq_true (by kernel_rfl))) (by rw [hn]; decide)
          obtain ⟨hS, h0, h1, h2, h3, h4, h5, h6, h7, h8⟩ := hJ.1 hD
          have hK := hK.out
          simp only [fillO, Act.put, List.setIfInBounds_toArray, List.set_cons_zero, List.set_cons_succ, Nat.reduceAdd] at hK ⊢
          have hq := HPB.out.under hS.hb hl1
          have p0 := hq.c0
          have p1 := hq.c1
          have p2 := hq.c2
          dsimp only at p0 p1 p2
          clear hq
          have hb := Below.refl W.heap.size W
          refine Wrap.mk ?_
          go_simp
          refine hK _ _ ?_
          exact ⟨fun _ => ⟨hS.more hb, fun h => (h0 h).more hb, fun h => (h1 h).more hb, fun h => (h2 h).more hb, fun _ => rfl, fun h => (h4 h).more hb, fun h => (h5 h).more hb, fun h => (h6 h).more hb, fun h => (h7 h).more hb, fun h => (h8 h).more hb⟩, fun h => absurd (hD.symm.trans h) (by decide)⟩
        · refine stepO_plain rfl (fun D x W hJ hp hn hcl K hK => ?_)
          have hD : D 9 = false := by
            cases h : D 9 with
            | false => rfl
            | true => exact absurd (hcl 9 _ rfl h 4 (of_decide_eq_true (by kernel_rfl))) (by rw [hn]; decide)
          obtain ⟨hS, h0, h1, h2, h3, h4, h5, h6, h7, h8⟩ := hJ.1 hD
          have hK := hK.out
          simp only [fillO, Act.put, List.setIfInBounds_toArray, List.set_cons_zero, List.set_cons_succ, Nat.reduceAdd] at hK ⊢
          have d3 : D 3 = true := hp 3 (of_decide_eq_true (by kernel_rfl))
          have e3 := h3 d3
          simp only [e3, partV] at hK ⊢
          have hb := (Below.refl W.heap.size W).alloc (Nat.le_refl _) (.cells #[.int .i64 fr, .int .i64 tq, .int .i64 st] 43)
          refine Wrap.mk ?_
          go_simp
          refine hK _ _ ?_
          exact ⟨fun _ => ⟨hS.more hb, fun h => (h0 h).more hb, fun h => (h1 h).more hb, fun h => (h2 h).more hb, fun h => h3 h, fun _ => ⟨_, rfl, PB.new W fr tq st⟩, fun h => (h5 h).more hb, fun h => (h6 h).more hb, fun h => (h7 h).more hb, fun h => (h8 h).more hb⟩, fun h => absurd (hD.symm.trans h) (by decide)⟩
        · refine stepO_plain rfl (fun D x W hJ hp hn hcl K hK => ?_)
          have hD : D 9 = false := by
            cases h : D 9 with
            | false => rfl
            | true => exact absurd (hcl 9 _ rfl h 5 (of_decide_eq_true (by kernel_rfl))) (by rw [hn]; decide)
          obtain ⟨hS, h0, h1, h2, h3, h4, h5, h6, h7, h8⟩ := hJ.1 hD
          have hK := hK.out
          simp only [fillO, Act.put, List.setIfInBounds_toArray, List.set_cons_zero, List.set_cons_succ, Nat.reduceAdd] at hK ⊢
          refine Wrap.mk ?_
          go_simp
          refine (all_new W).mono ?_
          rintro e W' ⟨b, rfl, hpb, hb⟩
          have ha : OneAt ⟨-1, -1, 0⟩ (.slice (some ⟨b, 0, none⟩) 1 1) W' := ⟨b, rfl, hpb⟩
          go_wp2_with fail
          exact ⟨fun _ => ⟨hS.more hb, fun h => (h0 h).more hb, fun h => (h1 h).more hb, fun h => (h2 h).more hb, fun h => h3 h, fun h => (h4 h).more hb, fun _ => ha, fun h => (h6 h).more hb, fun h => (h7 h).more hb, fun h => (h8 h).more hb⟩, fun h => absurd (hD.symm.trans h) (by decide)⟩
        · refine stepO_plain rfl (fun D x W hJ hp hn hcl K hK => ?_)
          have hD : D 9 = false := by
            cases h : D 9 with
            | false => rfl
            | true => exact absurd (hcl 9 _ rfl h 6 (of_decide_eq_true (by kernel_rfl))) (by rw [hn]; decide)
          obtain ⟨hS, h0, h1, h2, h3, h4, h5, h6, h7, h8⟩ := hJ.1 hD
          have hK := hK.out
          simp only [fillO, Act.put, List.setIfInBounds_toArray, List.set_cons_zero, List.set_cons_succ, Nat.reduceAdd] at hK ⊢
          refine Wrap.mk ?_
          go_simp
          refine (all_new W).mono ?_
          rintro e W' ⟨b, rfl, hpb, hb⟩
          have ha : OneAt ⟨-1, -1, 0⟩ (.slice (some ⟨b, 0, none⟩) 1 1) W' := ⟨b, rfl, hpb⟩
          go_wp2_with fail
          exact ⟨fun _ => ⟨hS.more hb, fun h => (h0 h).more hb, fun h => (h1 h).more hb, fun h => (h2 h).more hb, fun h => h3 h, fun h => (h4 h).more hb, fun h => (h5 h).more hb, fun _ => ha, fun h => (h7 h).more hb, fun h => (h8 h).more hb⟩, fun h => absurd (hD.symm.trans h) (by decide)⟩
        · refine stepO_plain rfl (fun D x W hJ hp hn hcl K hK => ?_)
          have hD : D 9 = false := by
            cases h : D 9 with
            | false => rfl
            | true => exact absurd (hcl 9 _ rfl h 7 (of_decide_eq_true (by kernel_rfl))) (by rw [hn]; decide)
          obtain ⟨hS, h0, h1, h2, h3, h4, h5, h6, h7, h8⟩ := hJ.1 hD
          have hK := hK.out
          simp only [fillO, Act.put, List.setIfInBounds_toArray, List.set_cons_zero, List.set_cons_succ, Nat.reduceAdd] at hK ⊢
          have d0 : D 0 = true := hp 0 (of_decide_eq_true (by kernel_rfl))
          have d1 : D 1 = true := hp 1 (of_decide_eq_true (by kernel_rfl))
          have d2 : D 2 = true := hp 2 (of_decide_eq_true (by kernel_rfl))
          have d4 : D 4 = true := hp 4 (of_decide_eq_true (by kernel_rfl))
          have d5 : D 5 = true := hp 5 (of_decide_eq_true (by kernel_rfl))
          have d6 : D 6 = true := hp 6 (of_decide_eq_true (by kernel_rfl))
          obtain ⟨b0, e0, q0⟩ := h0 d0
          obtain ⟨b1, e1, q1⟩ := h1 d1
          obtain ⟨b2, e2, q2⟩ := h2 d2
          obtain ⟨b4, e4, q4⟩ := h4 d4
          obtain ⟨b5, e5, q5⟩ := h5 d5
          obtain ⟨b6, e6, q6⟩ := h6 d6
          simp only [e0, e1, e2, e4, e5, e6] at hK ⊢
          have hc : CalAt (Sp.partCal ⟨fr, tq, st⟩) (.agg #[.slice none 0 0, .slice (some ⟨b0, 0, none⟩) 1 1, .slice (some ⟨b1, 0, none⟩) 1 1, .slice (some ⟨b2, 0, none⟩) 1 1, .slice (some ⟨b4, 0, none⟩) 1 1, .slice (some ⟨b5, 0, none⟩) 1 1, .slice (some ⟨b6, 0, none⟩) 1 1]) W := calAt_parts q0 q1 q2 q4 q5 q6
          have hb := Below.refl W.heap.size W
          refine Wrap.mk ?_
          go_simp
          refine hK _ _ ?_
          exact ⟨fun _ => ⟨hS.more hb, fun h => (h0 h).more hb, fun h => (h1 h).more hb, fun h => (h2 h).more hb, fun h => h3 h, fun h => (h4 h).more hb, fun h => (h5 h).more hb, fun h => (h6 h).more hb, fun _ => hc, fun h => (h8 h).more hb⟩, fun h => absurd (hD.symm.trans h) (by decide)⟩
        · refine stepO_plain rfl (fun D x W hJ hp hn hcl K hK => ?_)
          have hD : D 9 = false := by
            cases h : D 9 with
            | false => rfl
            | true => exact absurd (hcl 9 _ rfl h 8 (of_decide_eq_true (by kernel_rfl))) (by rw [hn]; decide)
          obtain ⟨hS, h0, h1, h2, h3, h4, h5, h6, h7, h8⟩ := hJ.1 hD
          have hK := hK.out
          simp only [fillO, Act.put, List.setIfInBounds_toArray, List.set_cons_zero, List.set_cons_succ, Nat.reduceAdd] at hK ⊢
          have hb := (Below.refl W.heap.size W).alloc (Nat.le_refl _) (.cells #[.slice none 0 0, .slice none 0 0, .slice none 0 0, .slice none 0 0, .slice none 0 0, .slice none 0 0, .slice none 0 0] 26)
          refine Wrap.mk ?_
          go_simp
          refine hK _ _ ?_
          exact ⟨fun _ => ⟨hS.more hb, fun h => (h0 h).more hb, fun h => (h1 h).more hb, fun h => (h2 h).more hb, fun h => h3 h, fun h => (h4 h).more hb, fun h => (h5 h).more hb, fun h => (h6 h).more hb, fun h => (h7 h).more hb, fun _ => ⟨_, rfl, hS.hb.size, by simp, CV.new W⟩⟩, fun h => absurd (hD.symm.trans h) (by decide)⟩
        · refine stepO_plain rfl (fun D x W hJ hp hn hcl K hK => ?_)
          have hD : D 9 = false := hn
          obtain ⟨hS, h0, h1, h2, h3, h4, h5, h6, h7, h8⟩ := hJ.1 hD
          have hK := hK.out
          simp only [fillO, Act.put, List.setIfInBounds_toArray, List.set_cons_zero, List.set_cons_succ, Nat.reduceAdd] at hK ⊢
          have d7 : D 7 = true := hp 7 (of_decide_eq_true (by kernel_rfl))
          have d8 : D 8 = true := hp 8 (of_decide_eq_true (by kernel_rfl))
          obtain ⟨s, e7, hg, hc⟩ := h7 d7
          obtain ⟨b, e8, hB, hlt, hv⟩ := h8 d8
          obtain ⟨⟨dA, dn, dc⟩, ⟨A0, n0, c0⟩, ⟨A1, n1, c1⟩, ⟨A2, n2, c2⟩, ⟨A3, n3, c3⟩, ⟨A4, n4, c4⟩, ⟨A5, n5, c5⟩, cal⟩ := s
          dsimp only at hc
          subst hc
          simp only [e7, e8, calV, slV] at hK ⊢
          have k0 := hv.cd
          have f0 := hv.fz 0
          have k1 := hv.cell 0 (by decide)
          have f1 := hv.fz 1
          have k2 := hv.cell 1 (by decide)
          have f2 := hv.fz 2
          have k3 := hv.cell 2 (by decide)
          have f3 := hv.fz 3
          have k4 := hv.cell 3 (by decide)
          have f4 := hv.fz 4
          have k5 := hv.cell 4 (by decide)
          have f5 := hv.fz 5
          have k6 := hv.cell 5 (by decide)
          have f6 := hv.fz 6
          simp only [slV, nilS] at k0 k1 k2 k3 k4 k5 k6
          refine Wrap.mk ?_
          go_simp
          refine hK undef _ ?_
          exact ⟨fun h => absurd (show true = false from h) (by decide), fun _ => ⟨⟨below_put7c hS.hb hB _ _ _ _ _ _ _⟩, b, _, e8, box_put hv ⟨⟨dA, dn, dc⟩, ⟨A0, n0, c0⟩, ⟨A1, n1, c1⟩, ⟨A2, n2, c2⟩, ⟨A3, n3, c3⟩, ⟨A4, n4, c4⟩, ⟨A5, n5, c5⟩, Sp.partCal ⟨fr, tq, st⟩⟩, calGood_put hv hg _ _ _ _ _ _ _, rfl, by simpa using hlt⟩⟩
      · intro x W hJ
        obtain ⟨hS, b, s, e8, hbox, hgood, hcal, hltb⟩ := hJ.2 (by decide)
        clear hJ
        simp only [fillO, Act.put, List.setIfInBounds_toArray, List.set_cons_zero, List.set_cons_succ, Nat.reduceAdd, e8]
        generalize x 0 = x0
        generalize x 1 = x1
        generalize x 2 = x2
        generalize x 3 = x3
        generalize x 4 = x4
        generalize x 5 = x5
        generalize x 6 = x6
        generalize x 7 = x7
        clear e8 x
        have HB2 := Lib.hid hS.hb
        have HBX := Lib.hid hbox
        have HGD := Lib.hid hgood
        have HCA := Lib.hid hcal
        have hq := HPB.out.under hS.hb hl1
        have HPB2 := Lib.hid hq
        have p0 := hq.c0
        have p1 := hq.c1
        have p2 := hq.c2
        dsimp only at p0 p1 p2
        clear hS hbox hgood hcal hq
        go_upto_region 6 with fail
        go_cut [6] (fun v wx => v = .bool (Sp.mayPartB ⟨fr, tq, st⟩ 3) ∧ W = wx)
        case first =>
          by_cases g1 : 0 ≤ st
          · by_cases g2 : st ≤ 9999
            · by_cases g3 : fr = -1
              · subst g3
                by_cases g4 : tq = -1
                · subst g4
                  go_wp2_with fail
                  go_meet
                  exact ⟨congrArg Value.bool (Sp.may3 _ _ _ _ (by first | omega | (simp; omega) | simp)), rfl⟩
                · have q4 : (tq == -1) = false := by simpa using g4
                  go_wp2_with fail
                  go_meet
                  exact ⟨congrArg Value.bool (Sp.may3 _ _ _ _ (by first | omega | (simp; omega) | simp)), rfl⟩
              · have q3 : (fr == -1) = false := by simpa using g3
                by_cases g5 : 0 ≤ fr
                · by_cases g6 : fr ≤ 23
                  · by_cases g4 : tq = -1
                    · subst g4
                      go_wp2_with fail
                      go_meet
                      exact ⟨congrArg Value.bool (Sp.may3 _ _ _ _ (by first | omega | (simp; omega) | simp)), rfl⟩
                    · have q4 : (tq == -1) = false := by simpa using g4
                      by_cases g7 : fr ≤ tq
                      · by_cases g8 : tq ≤ 23
                        · go_wp2_with fail
                          go_meet
                          exact ⟨congrArg Value.bool (Sp.may3 _ _ _ _ (by first | omega | (simp; omega) | simp)), rfl⟩
                        · go_wp2_with fail
                          go_meet
                          exact ⟨congrArg Value.bool (Sp.may3 _ _ _ _ (by first | omega | (simp; omega) | simp)), rfl⟩
                      · go_wp2_with fail
                        go_meet
                        exact ⟨congrArg Value.bool (Sp.may3 _ _ _ _ (by first | omega | (simp; omega) | simp)), rfl⟩
                  · go_wp2_with fail
                    go_meet
                    exact ⟨congrArg Value.bool (Sp.may3 _ _ _ _ (by first | omega | (simp; omega) | simp)), rfl⟩
                · go_wp2_with fail
                  go_meet
                  exact ⟨congrArg Value.bool (Sp.may3 _ _ _ _ (by first | omega | (simp; omega) | simp)), rfl⟩
            · go_wp2_with fail
              go_meet
              exact ⟨congrArg Value.bool (Sp.may3 _ _ _ _ (by first | omega | (simp; omega) | simp)), rfl⟩
          · go_wp2_with fail
            go_meet
            exact ⟨congrArg Value.bool (Sp.may3 _ _ _ _ (by first | omega | (simp; omega) | simp)), rfl⟩
        case rest =>
          obtain ⟨rfl, rfl⟩ := hcut
          obtain ⟨M, hM⟩ : ∃ M, M = Sp.mayPartB ⟨fr, tq, st⟩ 3 := ⟨_, rfl⟩
          have HM := Lib.hid hM
          rw [← hM]
          clear hM
          go_wp2_with fail
          go_quiet (fail)
          have HB3 := Lib.hid (belowQ HB2.out 1)
          go_upto_if 79 with fail
          go_cut [7, 8] (fun a c wx => ∃ F T : Int, a = .int .i64 F ∧ c = .int .i64 T ∧ W.drewN nq = wx ∧ Hid (F = if fr = -1 then 0 else fr) ∧ Hid (T = if fr = -1 then 23 else tq))
          case first =>
            by_cases g3 : fr = -1
            · subst g3
              go_wp2_with fail
              go_meet
              exact ⟨_, _, rfl, rfl, rfl, Lib.hid rfl, Lib.hid rfl⟩
            · have q3 : (fr == -1) = false := by simpa using g3
              have G3 := Lib.hid g3
              clear g3
              go_wp2_with fail
              go_meet
              exact ⟨_, _, rfl, rfl, rfl, Lib.hid (by rw [if_neg G3.out]), Lib.hid (by rw [if_neg G3.out])⟩
          case rest =>
            obtain ⟨F, T1, rfl, rfl, rfl, HF, HT1⟩ := hcut
            go_upto_if 81 with fail
            go_cut [8] (fun c wx => ∃ T : Int, c = .int .i64 T ∧ W.drewN nq = wx ∧ Hid (T = if T1 = -1 then (if 0 < st then 23 else F) else T1))
            case first =>
              by_cases g3 : T1 = -1
              · subst g3
                by_cases g4 : 0 < st
                · go_wp2_with fail
                  go_meet
                  exact ⟨_, rfl, rfl, Lib.hid (by first | rw [if_pos trivial, if_pos g4] | (simp [g4]; done))⟩
                · go_wp2_with fail
                  go_meet
                  exact ⟨_, rfl, rfl, Lib.hid (by rw [if_pos trivial, if_neg (by omega)])⟩
              · have q3 : (T1 == -1) = false := by simpa using g3
                have G3 := Lib.hid g3
                clear g3
                go_wp2_with fail
                go_meet
                exact ⟨_, rfl, rfl, Lib.hid (by rw [if_neg G3.out])⟩
            case rest =>
              obtain ⟨T, rfl, rfl, HT⟩ := hcut
              go_upto_if 86 with fail
              go_cut [9] (fun c wx => ∃ S : Int, c = .int .i64 S ∧ W.drewN nq = wx ∧ Hid (S = if st < 1 then 1 else st))
              case first =>
                by_cases g4 : st < 1
                · go_wp2_with fail
                  go_meet
                  exact ⟨_, rfl, rfl, Lib.hid (by rw [if_pos g4])⟩
                · go_wp2_with fail
                  go_meet
                  exact ⟨_, rfl, rfl, Lib.hid (by rw [if_neg (by omega)])⟩
              case rest =>
                obtain ⟨S, rfl, rfl, HS⟩ := hcut
                have HSP : Hid (M = true → (0 ≤ F ∧ F ≤ 23) ∧ (T ≤ 23 ∧ 0 ≤ T) ∧ (1 ≤ S ∧ S ≤ 9999) ∧ F = Sp.fromF ⟨fr, tq, st⟩ 3 ∧ T = Sp.toF ⟨fr, tq, st⟩ 3 ∧ S = Sp.stepF ⟨fr, tq, st⟩) := Lib.hid (fun hm => Sp.span3 (HM.out.symm.trans hm) F T S HF.out (by
                  rw [HT.out, HT1.out, HF.out]
                  by_cases c : fr = -1
                  · simp [c]
                  · rw [if_neg c, if_neg c, if_neg c]) HS.out)
                clear HF HT HT1 HS p0 p1 p2
                obtain ⟨⟨dA, dn, dc⟩, ⟨A0, n0, c0⟩, ⟨A1, n1, c1⟩, ⟨A2, n2, c2⟩, ⟨A3, n3, c3⟩, ⟨A4, n4, c4⟩, ⟨A5, n5, c5⟩, cal⟩ := s
                have hcal := HCA.out
                dsimp only at hcal
                subst hcal
                have hww : Below W.heap.size W (W.drewN nq) := belowQ (Below.refl _ _) _
                have HMY := Lib.hid (may_any ⟨⟨dA, dn, dc⟩, ⟨A0, n0, c0⟩, ⟨A1, n1, c1⟩, ⟨A2, n2, c2⟩, ⟨A3, n3, c3⟩, ⟨A4, n4, c4⟩, ⟨A5, n5, c5⟩, Sp.partCal ⟨fr, tq, st⟩⟩ (W.drewN nq) (HGD.out.on hww))
                have ht1 : -9223372036854775808 ≤ 3600 * hour + 5 ∧ 3600 * hour + 5 ≤ 9223372036854775807 := by omega
                have HMT := Lib.hid (fun (W' : World) (hb : Below W.heap.size W W') => match_any ⟨⟨dA, dn, dc⟩, ⟨A0, n0, c0⟩, ⟨A1, n1, c1⟩, ⟨A2, n2, c2⟩, ⟨A3, n3, c3⟩, ⟨A4, n4, c4⟩, ⟨A5, n5, c5⟩, Sp.partCal ⟨fr, tq, st⟩⟩ (3600 * hour + 5) W' (HGD.out.on hb) ht1)
                simp only [Sp.part_may, ← HM.out, calV, slV] at HMY
                simp only [Sp.part_match ⟨fr, tq, st⟩ hour h1 h2, ← HM.out, calV, slV] at HMT
                obtain ⟨k0, k1, k2, k3, k4, k5, k6⟩ := CBox.on HBX.out hww hltb
                have HBM := Lib.hid (fun (W' : World) (hb : Below W.heap.size W W') => CBox.on HBX.out hb hltb)
                have HWW := Lib.hid hww
                simp only [slV] at k0 k1 k2 k3 k4 k5 k6
                have hhb : ∃ hb, hb = Sp.hasB ⟨fr, tq, st⟩ 3 hour := ⟨_, rfl⟩
                obtain ⟨hb, hhb⟩ := hhb
                rw [← hhb] at HMT
                have HHB := Lib.hid hhb
                clear hhb hww ht1 HCA HBX HGD HPB HPB2
                cases M with
                | false =>
                  simp only [Bool.false_and] at HMT
                  go_wp2_with fail
                  refine HMY.out.mono ?_
                  rintro e w4 ⟨rfl, hb4⟩
                  have hb4b := HWW.out.trans (hb4.mono HWW.out.size)
                  clear k0 k1 k2 k3 k4 k5 k6
                  obtain ⟨k0, k1, k2, k3, k4, k5, k6⟩ := HBM.out w4 hb4b
                  simp only [slV] at k0 k1 k2 k3 k4 k5 k6
                  have HM5 := Lib.hid (HMT.out w4 hb4b)
                  have HB5 := Lib.hid hb4b
                  clear hb4 hb4b
                  go_wp2_with fail
                  refine HM5.out.mono ?_
                  rintro e w5 ⟨rfl, hb5⟩
                  have HZ := Lib.hid (HW1.out.trans ((HB2.out.trans ((HB5.out.trans (hb5.mono HB5.out.size)).mono HB2.out.size)).mono HW1.out.size))
                  clear hb5
                  go_wp2
                  go_ret
                  exact ⟨rfl, HZ.out⟩
                | true =>
                  simp only [Bool.true_and] at HMT
                  obtain ⟨b1, b2, b3, eF, eT, eS⟩ := HSP.out rfl
                  have HH : Hid (hb = (decide (F ≤ hour) && decide (hour ≤ T) && decide ((hour - F) % S = 0))) := Lib.hid (by rw [HHB.out, eF, eT, eS]; rfl)
                  clear eF eT eS HSP HHB
                  by_cases c1 : F ≤ hour
                  · by_cases c2 : hour ≤ T
                    · by_cases c3 : (hour - F) % S = 0
                      · obtain rfl : hb = true := by rw [HH.out, decide_eq_true c1, decide_eq_true c2, decide_eq_true c3]; rfl
                        have q3 : ((hour - F) % S == 0) = true := by simpa using c3
                        clear c3
                        go_wp2_with fail
                        refine HMY.out.mono ?_
                        rintro e w4 ⟨rfl, hb4⟩
                        have hb4b := HWW.out.trans (hb4.mono HWW.out.size)
                        clear k0 k1 k2 k3 k4 k5 k6
                        obtain ⟨k0, k1, k2, k3, k4, k5, k6⟩ := HBM.out w4 hb4b
                        simp only [slV] at k0 k1 k2 k3 k4 k5 k6
                        have HM5 := Lib.hid (HMT.out w4 hb4b)
                        have HB5 := Lib.hid hb4b
                        clear hb4 hb4b
                        go_wp2_with fail
                        refine HM5.out.mono ?_
                        rintro e w5 ⟨rfl, hb5⟩
                        have HZ := Lib.hid (HW1.out.trans ((HB2.out.trans ((HB5.out.trans (hb5.mono HB5.out.size)).mono HB2.out.size)).mono HW1.out.size))
                        clear hb5
                        go_wp2
                        go_ret
                        exact ⟨rfl, HZ.out⟩
                      · obtain rfl : hb = false := by rw [HH.out, decide_eq_true c1, decide_eq_true c2, decide_eq_false c3]; rfl
                        have q3 : ((hour - F) % S == 0) = false := by simpa using c3
                        clear c3
                        go_wp2_with fail
                        refine HMY.out.mono ?_
                        rintro e w4 ⟨rfl, hb4⟩
                        have hb4b := HWW.out.trans (hb4.mono HWW.out.size)
                        clear k0 k1 k2 k3 k4 k5 k6
                        obtain ⟨k0, k1, k2, k3, k4, k5, k6⟩ := HBM.out w4 hb4b
                        simp only [slV] at k0 k1 k2 k3 k4 k5 k6
                        have HM5 := Lib.hid (HMT.out w4 hb4b)
                        have HB5 := Lib.hid hb4b
                        clear hb4 hb4b
                        go_wp2_with fail
                        refine HM5.out.mono ?_
                        rintro e w5 ⟨rfl, hb5⟩
                        have HZ := Lib.hid (HW1.out.trans ((HB2.out.trans ((HB5.out.trans (hb5.mono HB5.out.size)).mono HB2.out.size)).mono HW1.out.size))
                        clear hb5
                        go_wp2
                        go_ret
                        exact ⟨rfl, HZ.out⟩
                    · obtain rfl : hb = false := by rw [HH.out, decide_eq_true c1, decide_eq_false c2]; rfl
                      go_wp2_with fail
                      refine HMY.out.mono ?_
                      rintro e w4 ⟨rfl, hb4⟩
                      have hb4b := HWW.out.trans (hb4.mono HWW.out.size)
                      clear k0 k1 k2 k3 k4 k5 k6
                      obtain ⟨k0, k1, k2, k3, k4, k5, k6⟩ := HBM.out w4 hb4b
                      simp only [slV] at k0 k1 k2 k3 k4 k5 k6
                      have HM5 := Lib.hid (HMT.out w4 hb4b)
                      have HB5 := Lib.hid hb4b
                      clear hb4 hb4b
                      go_wp2_with fail
                      refine HM5.out.mono ?_
                      rintro e w5 ⟨rfl, hb5⟩
                      have HZ := Lib.hid (HW1.out.trans ((HB2.out.trans ((HB5.out.trans (hb5.mono HB5.out.size)).mono HB2.out.size)).mono HW1.out.size))
                      clear hb5
                      go_wp2
                      go_ret
                      exact ⟨rfl, HZ.out⟩
                  · obtain rfl : hb = false := by rw [HH.out, decide_eq_false c1]; rfl
                    go_wp2_with fail
                    refine HMY.out.mono ?_
                    rintro e w4 ⟨rfl, hb4⟩
                    have hb4b := HWW.out.trans (hb4.mono HWW.out.size)
                    clear k0 k1 k2 k3 k4 k5 k6
                    obtain ⟨k0, k1, k2, k3, k4, k5, k6⟩ := HBM.out w4 hb4b
                    simp only [slV] at k0 k1 k2 k3 k4 k5 k6
                    have HM5 := Lib.hid (HMT.out w4 hb4b)
                    have HB5 := Lib.hid hb4b
                    clear hb4 hb4b
                    go_wp2_with fail
                    refine HM5.out.mono ?_
                    rintro e w5 ⟨rfl, hb5⟩
                    have HZ := Lib.hid (HW1.out.trans ((HB2.out.trans ((HB5.out.trans (hb5.mono HB5.out.size)).mono HB2.out.size)).mono HW1.out.size))
                    clear hb5
                    go_wp2
                    go_ret
                    exact ⟨rfl, HZ.out⟩

end Go.Proofs.YtopmdffiikajnaaGreatDoor
