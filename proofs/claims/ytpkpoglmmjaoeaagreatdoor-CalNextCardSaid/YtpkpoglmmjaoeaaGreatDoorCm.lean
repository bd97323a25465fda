/-
  A part of a calendar's field: whether it may be, which numbers it has: the program's walks.
-/
import Derived.Test.YtpkpoglmmjaoeaaGreatDoorCl
namespace Go.Proofs.YtpkpoglmmjaoeaaGreatDoor
open Go.RowKit

def partV (q : Sp.PartD) : Value := .agg #[.int .i64 q.fr, .int .i64 q.to, .int .i64 q.st]
theorem bounds_any (f : Nat) (w : World) : Calls Tryz.prog 69 #[.int .i64 f] w fun e w' => e = .returned (.tuple #[.int .i64 (Sp.lowF f), .int .i64 (Sp.highF f)]) ∧ w = w' := by
  match f with
  | 0 | 1 | 2 | 3 =>
    simp only [Sp.lowF, Sp.highF]
    go_enter Tryz.func69, Tryz.ntmps69
    go_wp2
    go_ret2
    exact ⟨rfl, rfl⟩
  | n + 4 =>
    simp only [Sp.lowF, Sp.highF]
    have t0 : ((n : Int) + 4 == 0) = false := by simp; omega
    have t1 : ((n : Int) + 4 == 1) = false := by simp; omega
    have t2 : ((n : Int) + 4 == 2) = false := by simp; omega
    have t3 : ((n : Int) + 4 == 3) = false := by simp; omega
    rw [show ((n + 4 : Nat) : Int) = (n : Int) + 4 from by omega]
    go_enter Tryz.func69, Tryz.ntmps69
    go_wp2
    go_ret2
    exact ⟨rfl, rfl⟩
/-- a part in memory -/
structure PBox (w : World) (b : Nat) (q : Sp.PartD) : Prop where
  c0 : w.cell? ⟨b, 0, none⟩ = some (.int .i64 q.fr)
  c1 : w.cell? ⟨b, 1, none⟩ = some (.int .i64 q.to)
  c2 : w.cell? ⟨b, 2, none⟩ = some (.int .i64 q.st)
theorem PBox.on {w w' : World} {b : Nat} {q : Sp.PartD} (h : PBox w b q) {B : Nat} (hB : b < B) (hb : Below B w w') : PBox w' b q :=
  ⟨(hb.cell (p := ⟨b, 0, none⟩) hB).trans h.c0, (hb.cell (p := ⟨b, 1, none⟩) hB).trans h.c1, (hb.cell (p := ⟨b, 2, none⟩) hB).trans h.c2⟩
theorem PBox.new (w : World) (fr tt st : Int) : PBox (w.alloc (.cells #[.int .i64 fr, .int .i64 tt, .int .i64 st] 62)) w.heap.size ⟨fr, tt, st⟩ := ⟨by simp, by simp, by simp⟩

set_option maxRecDepth 100000 in
set_option maxHeartbeats 8000000 in
theorem maypart_any (q : Sp.PartD) (f : Nat) (w : World) : Calls Tryz.prog 41 #[partV q, .int .i64 f] w fun e w' => e = .returned (.bool (Sp.mayPartB q f)) ∧ Below w.heap.size w w' := by
  obtain ⟨fr, tt, st⟩ := q
  have HBD := Lib.hid (fun w => bounds_any f w)
  obtain ⟨B, hB⟩ : ∃ B, B = Sp.mayPartB ⟨fr, tt, st⟩ f := ⟨_, rfl⟩
  have HU : Hid (B = (if st < 0 ∨ 9999 < st then false else if fr = -1 then decide (tt = -1) else if fr < Sp.lowF f ∨ Sp.highF f < fr then false else decide (tt = -1) || (decide (fr ≤ tt) && decide (tt ≤ Sp.highF f)))) := Lib.hid hB
  rw [← hB]
  clear hB
  generalize Sp.lowF f = low at *
  generalize Sp.highF f = high at *
  generalize (f : Int) = fi at *
  have HX := Lib.hid (PBox.new w fr tt st)
  have hb0 : Below w.heap.size w (w.alloc (.cells #[.int .i64 fr, .int .i64 tt, .int .i64 st] 62)) := (Below.refl _ _).alloc (Nat.le_refl _) _
  show Calls Tryz.prog 41 #[.agg #[.int .i64 fr, .int .i64 tt, .int .i64 st], .int .i64 fi] w _
  go_enter Tryz.func41, Tryz.ntmps41
  go_wp2_with fail
  generalize (w.alloc (.cells #[.int .i64 fr, .int .i64 tt, .int .i64 st] 62)) = w1 at *
  generalize hbs : w.heap.size = b1 at *
  have HBS := Lib.hid hbs
  clear hbs
  refine (HBD.out _).mono ?_
  rintro e w2 ⟨rfl, rfl⟩
  obtain ⟨c0, c1, c2⟩ := HX.out
  dsimp only at c0 c1 c2
  have HB1 := Lib.hid hb0
  clear hb0 HBD HX
  by_cases h1 : st < 0
  · have HV : Hid (B = false) := Lib.hid (by rw [HU.out]; rw [if_pos (.inl h1)])
    go_wp2
    rw [HV.out]
    go_ret
    rw [HBS.out]
    exact ⟨rfl, HB1.out⟩
  · by_cases h2 : st > 9999
    · have HV : Hid (B = false) := Lib.hid (by rw [HU.out]; rw [if_pos (.inr h2)])
      go_wp2
      rw [HV.out]
      go_ret
      rw [HBS.out]
      exact ⟨rfl, HB1.out⟩
    · have HS : Hid (¬ (st < 0 ∨ 9999 < st)) := Lib.hid (by omega)
      cases hfr : (fr == -1) with
      | true =>
        have HFR : Hid (fr = -1) := Lib.hid (by simpa using hfr)
        cases hto : (tt == -1) with
        | true =>
          have HV : Hid (B = true) := Lib.hid (by rw [HU.out]; rw [if_neg HS.out, if_pos HFR.out]; simpa using hto)
          go_wp2
          rw [HV.out]
          go_ret
          rw [HBS.out]
          exact ⟨rfl, HB1.out⟩
        | false =>
          have HV : Hid (B = false) := Lib.hid (by rw [HU.out]; rw [if_neg HS.out, if_pos HFR.out]; simpa using hto)
          go_wp2
          rw [HV.out]
          go_ret
          rw [HBS.out]
          exact ⟨rfl, HB1.out⟩
      | false =>
        have HFR : Hid (¬ fr = -1) := Lib.hid (by simpa using hfr)
        by_cases h3 : fr < low
        · have HV : Hid (B = false) := Lib.hid (by rw [HU.out]; rw [if_neg HS.out, if_neg HFR.out, if_pos (.inl h3)])
          go_wp2
          rw [HV.out]
          go_ret
          rw [HBS.out]
          exact ⟨rfl, HB1.out⟩
        · by_cases h4 : fr > high
          · have HV : Hid (B = false) := Lib.hid (by rw [HU.out]; rw [if_neg HS.out, if_neg HFR.out, if_pos (.inr h4)])
            go_wp2
            rw [HV.out]
            go_ret
            rw [HBS.out]
            exact ⟨rfl, HB1.out⟩
          · have HR : Hid (¬ (fr < low ∨ high < fr)) := Lib.hid (by omega)
            cases hto : (tt == -1) with
            | true =>
              have HTO : Hid (tt = -1) := Lib.hid (by simpa using hto)
              have HV : Hid (B = true) := Lib.hid (by rw [HU.out]; rw [if_neg HS.out, if_neg HFR.out, if_neg HR.out, decide_eq_true HTO.out]; rfl)
              go_wp2
              rw [HV.out]
              go_ret
              rw [HBS.out]
              exact ⟨rfl, HB1.out⟩
            | false =>
              have HTO : Hid (¬ tt = -1) := Lib.hid (by simpa using hto)
              by_cases h5 : tt ≥ fr
              · by_cases h6 : tt ≤ high
                · have HV : Hid (B = true) := Lib.hid (by rw [HU.out]; rw [if_neg HS.out, if_neg HFR.out, if_neg HR.out, decide_eq_false HTO.out, decide_eq_true (show fr ≤ tt from h5), decide_eq_true h6]; rfl)
                  go_wp2
                  rw [HV.out]
                  go_ret
                  rw [HBS.out]
                  exact ⟨rfl, HB1.out⟩
                · have z6 : decide (tt ≤ high) = false := decide_eq_false h6
                  have HH6 := Lib.hid h6
                  have HV : Hid (B = false) := Lib.hid (by rw [HU.out]; rw [if_neg HS.out, if_neg HFR.out, if_neg HR.out, decide_eq_false HTO.out, decide_eq_true (show fr ≤ tt from h5), decide_eq_false HH6.out]; rfl)
                  go_wp2
                  rw [HV.out]
                  go_ret
                  rw [HBS.out]
                  exact ⟨rfl, HB1.out⟩
              · have HV : Hid (B = false) := Lib.hid (by rw [HU.out]; rw [if_neg HS.out, if_neg HFR.out, if_neg HR.out, decide_eq_false HTO.out, decide_eq_false (show ¬ fr ≤ tt from h5)]; rfl)
                go_wp2
                rw [HV.out]
                go_ret
                rw [HBS.out]
                exact ⟨rfl, HB1.out⟩
set_option maxRecDepth 100000 in
set_option maxHeartbeats 8000000 in
theorem has_any (q : Sp.PartD) (f : Nat) (n : Int) (w : World) (hm : Sp.mayPartB q f = true) (hn : 0 ≤ n ∧ n ≤ 9999) : Calls Tryz.prog 62 #[partV q, .int .i64 f, .int .i64 n] w fun e w' => e = .returned (.bool (Sp.hasB q f n)) ∧ Below w.heap.size w w' := by
  obtain ⟨fr, tt, st⟩ := q
  have HBD := Lib.hid (fun w => bounds_any f w)
  have hlo := Sp.field_range f
  have hlo2 : Sp.lowF f ≤ 2000 := by unfold Sp.lowF; split <;> decide
  have hst : 0 ≤ st ∧ st ≤ 9999 := by
    unfold Sp.mayPartB at hm
    split at hm
    · cases hm
    · rename_i h; dsimp only at h; omega
  have hfr : -1 ≤ fr ∧ fr ≤ 9999 := by
    unfold Sp.mayPartB at hm
    dsimp only at hm
    split at hm
    · cases hm
    · split at hm
      · omega
      · split at hm
        · cases hm
        · omega
  clear hm
  obtain ⟨B, hB⟩ : ∃ B, B = Sp.hasB ⟨fr, tt, st⟩ f n := ⟨_, rfl⟩
  obtain ⟨FR, hFR⟩ : ∃ FR, FR = Sp.fromF ⟨fr, tt, st⟩ f := ⟨_, rfl⟩
  obtain ⟨TO, hTO⟩ : ∃ TO, TO = Sp.toF ⟨fr, tt, st⟩ f := ⟨_, rfl⟩
  obtain ⟨ST, hST⟩ : ∃ ST, ST = Sp.stepF ⟨fr, tt, st⟩ := ⟨_, rfl⟩
  have HU : Hid (B = (decide (FR ≤ n) && decide (n ≤ TO) && decide ((n - FR) % ST = 0))) := Lib.hid (by rw [hB, hFR, hTO, hST]; rfl)
  have HFR : Hid (FR = if fr = -1 then Sp.lowF f else fr) := Lib.hid hFR
  have HTO : Hid (TO = if fr = -1 then Sp.highF f else if tt = -1 then (if st = 0 then fr else Sp.highF f) else tt) := Lib.hid hTO
  have HST : Hid (ST = if st < 1 then 1 else st) := Lib.hid hST
  have hFRb : -1 ≤ FR ∧ FR ≤ 9999 := by rw [HFR.out]; split <;> omega
  have hSTb : 1 ≤ ST ∧ ST ≤ 9999 := by rw [HST.out]; split <;> omega
  rw [← hB]
  clear hB hFR hTO hST
  generalize Sp.lowF f = low at *
  generalize Sp.highF f = high at *
  generalize (f : Int) = fi at *
  have HX := Lib.hid (PBox.new w fr tt st)
  have hb0 : Below w.heap.size w (w.alloc (.cells #[.int .i64 fr, .int .i64 tt, .int .i64 st] 62)) := (Below.refl _ _).alloc (Nat.le_refl _) _
  have hlt : w.heap.size < (w.alloc (.cells #[.int .i64 fr, .int .i64 tt, .int .i64 st] 62)).heap.size := by simp
  show Calls Tryz.prog 62 #[.agg #[.int .i64 fr, .int .i64 tt, .int .i64 st], .int .i64 fi, .int .i64 n] w _
  go_enter Tryz.func62, Tryz.ntmps62
  go_wp2_with fail
  generalize (w.alloc (.cells #[.int .i64 fr, .int .i64 tt, .int .i64 st] 62)) = w1 at *
  generalize hbs : w.heap.size = b1 at *
  have HBS := Lib.hid hbs
  clear hbs
  refine (HBD.out _).mono ?_
  rintro e w2 ⟨rfl, rfl⟩
  have HB1 := Lib.hid hb0
  have HMAX : Hid (max st 1 = ST) := Lib.hid (by rw [HST.out]; split <;> omega)
  clear hb0 HBD
  obtain ⟨d0, d1, d2⟩ := HX.out
  dsimp only at d0 d1 d2
  cases hf1 : (fr == -1) with
  | true =>
    have HQ : Hid (FR = low ∧ TO = high) := Lib.hid (by
      have h : fr = -1 := by simpa using hf1
      rw [HFR.out, HTO.out, if_pos h, if_pos h]; exact ⟨rfl, rfl⟩)
    have HV : Hid (B = (decide (low ≤ n) && decide (n ≤ high) && decide ((n - low) % ST = 0))) := Lib.hid (by rw [HU.out, HQ.out.1, HQ.out.2])
    have hFb : -1 ≤ low ∧ low ≤ 9999 := by omega
    have hmax := HMAX.out
    by_cases a1 : n ≥ low
    · by_cases a2 : n ≤ high
      · have v1 : IntKind.i64.wrap (n - low) = n - low := by rw [IntKind.wrap_i64]; omega
        have v2 : (n - low).tmod ST = (n - low) % ST := Int.tmod_eq_emod_of_nonneg (by omega)
        have v3 : 0 ≤ (n - low) % ST ∧ (n - low) % ST < ST := ⟨Int.emod_nonneg _ (by omega), Int.emod_lt_of_pos _ (by omega)⟩
        have v5 : (ST == 0) = false := by simp; omega
        obtain ⟨R, hR⟩ : ∃ R, R = (n - low) % ST := ⟨_, rfl⟩
        rw [← hR] at v2 v3
        have v4 : IntKind.i64.wrap R = R := by rw [IntKind.wrap_i64]; omega
        have HR := Lib.hid hR
        clear hR
        cases am : (R == 0) with
        | true =>
          have HV2 : Hid (B = true) := Lib.hid (by rw [HV.out, ← HR.out, decide_eq_true (show low ≤ n from a1), decide_eq_true a2]; simpa using am)
          go_wp2
          rw [HV2.out]
          go_ret
          rw [HBS.out]
          exact ⟨rfl, HB1.out⟩
        | false =>
          have HV2 : Hid (B = false) := Lib.hid (by rw [HV.out, ← HR.out, decide_eq_true (show low ≤ n from a1), decide_eq_true a2]; simpa using am)
          go_wp2
          rw [HV2.out]
          go_ret
          rw [HBS.out]
          exact ⟨rfl, HB1.out⟩
      · have HA2 := Lib.hid a2
        have HV2 : Hid (B = false) := Lib.hid (by rw [HV.out, decide_eq_false HA2.out, Bool.and_false]; rfl)
        have z2 : decide (n ≤ high) = false := decide_eq_false HA2.out
        go_wp2
        rw [HV2.out]
        go_ret
        rw [HBS.out]
        exact ⟨rfl, HB1.out⟩
    · have HA1 := Lib.hid a1
      have HV2 : Hid (B = false) := Lib.hid (by rw [HV.out, decide_eq_false (show ¬ low ≤ n from HA1.out)]; rfl)
      go_wp2
      rw [HV2.out]
      go_ret
      rw [HBS.out]
      exact ⟨rfl, HB1.out⟩
  | false =>
    have HNF : Hid (¬ fr = -1) := Lib.hid (by simpa using hf1)
    cases ht1 : (tt == -1) with
    | true =>
      have HTM : Hid (tt = -1) := Lib.hid (by simpa using ht1)
      cases hs1 : (st == 0) with
      | true =>
        have HQ : Hid (FR = fr ∧ TO = fr) := Lib.hid (by
          have h : st = 0 := by simpa using hs1
          rw [HFR.out, HTO.out, if_neg HNF.out, if_neg HNF.out, if_pos HTM.out, if_pos h]; exact ⟨rfl, rfl⟩)
        have e0 : ∀ p : Since w1.heap.size w1, p.w'.cell? ⟨b1, 0, none⟩ = some (.int .i64 fr) := fun p => (HX.out.on hlt p.hb).c0
        have e1 : ∀ p : Since w1.heap.size w1, p.w'.cell? ⟨b1, 1, none⟩ = some (.int .i64 tt) := fun p => (HX.out.on hlt p.hb).c1
        go_upto_region 5 with fail
        refine wp_region_since w1.heap.size (by kernel_rfl) (by kernel_rfl) ?_
        repeat (go_big_quiet_step (fail))
        refine wpQuiet_nil ?_
        intro _ hw'
        obtain ⟨pz, hw''⟩ := hw'
        subst hw''
        have HZ := Lib.hid (HB1.out.trans (pz.hb.mono (Nat.le_of_lt hlt)))
        have c2 := (HX.out.on hlt pz.hb).c2
        dsimp only at c2
        generalize pz.w' = w2 at *
        clear e0 e1 d0 d1 d2
        have HV : Hid (B = (decide (fr ≤ n) && decide (n ≤ fr) && decide ((n - fr) % ST = 0))) := Lib.hid (by rw [HU.out, HQ.out.1, HQ.out.2])
        have hFb : -1 ≤ fr ∧ fr ≤ 9999 := by omega
        have hmax := HMAX.out
        by_cases a1 : n ≥ fr
        · by_cases a2 : n ≤ fr
          · have v1 : IntKind.i64.wrap (n - fr) = n - fr := by rw [IntKind.wrap_i64]; omega
            have v2 : (n - fr).tmod ST = (n - fr) % ST := Int.tmod_eq_emod_of_nonneg (by omega)
            have v3 : 0 ≤ (n - fr) % ST ∧ (n - fr) % ST < ST := ⟨Int.emod_nonneg _ (by omega), Int.emod_lt_of_pos _ (by omega)⟩
            have v5 : (ST == 0) = false := by simp; omega
            obtain ⟨R, hR⟩ : ∃ R, R = (n - fr) % ST := ⟨_, rfl⟩
            rw [← hR] at v2 v3
            have v4 : IntKind.i64.wrap R = R := by rw [IntKind.wrap_i64]; omega
            have HR := Lib.hid hR
            clear hR
            cases am : (R == 0) with
            | true =>
              have HV2 : Hid (B = true) := Lib.hid (by rw [HV.out, ← HR.out, decide_eq_true (show fr ≤ n from a1), decide_eq_true a2]; simpa using am)
              go_wp2
              rw [HV2.out]
              go_ret
              rw [HBS.out]
              exact ⟨rfl, HZ.out⟩
            | false =>
              have HV2 : Hid (B = false) := Lib.hid (by rw [HV.out, ← HR.out, decide_eq_true (show fr ≤ n from a1), decide_eq_true a2]; simpa using am)
              go_wp2
              rw [HV2.out]
              go_ret
              rw [HBS.out]
              exact ⟨rfl, HZ.out⟩
          · have HA2 := Lib.hid a2
            have HV2 : Hid (B = false) := Lib.hid (by rw [HV.out, decide_eq_false HA2.out, Bool.and_false]; rfl)
            have z2 : decide (n ≤ fr) = false := decide_eq_false HA2.out
            go_wp2
            rw [HV2.out]
            go_ret
            rw [HBS.out]
            exact ⟨rfl, HZ.out⟩
        · have HA1 := Lib.hid a1
          have HV2 : Hid (B = false) := Lib.hid (by rw [HV.out, decide_eq_false (show ¬ fr ≤ n from HA1.out)]; rfl)
          go_wp2
          rw [HV2.out]
          go_ret
          rw [HBS.out]
          exact ⟨rfl, HZ.out⟩
      | false =>
        have HQ : Hid (FR = fr ∧ TO = high) := Lib.hid (by
          have h : ¬ st = 0 := by simpa using hs1
          rw [HFR.out, HTO.out, if_neg HNF.out, if_neg HNF.out, if_pos HTM.out, if_neg h]; exact ⟨rfl, rfl⟩)
        have HV : Hid (B = (decide (fr ≤ n) && decide (n ≤ high) && decide ((n - fr) % ST = 0))) := Lib.hid (by rw [HU.out, HQ.out.1, HQ.out.2])
        have hFb : -1 ≤ fr ∧ fr ≤ 9999 := by omega
        have hmax := HMAX.out
        by_cases a1 : n ≥ fr
        · by_cases a2 : n ≤ high
          · have v1 : IntKind.i64.wrap (n - fr) = n - fr := by rw [IntKind.wrap_i64]; omega
            have v2 : (n - fr).tmod ST = (n - fr) % ST := Int.tmod_eq_emod_of_nonneg (by omega)
            have v3 : 0 ≤ (n - fr) % ST ∧ (n - fr) % ST < ST := ⟨Int.emod_nonneg _ (by omega), Int.emod_lt_of_pos _ (by omega)⟩
            have v5 : (ST == 0) = false := by simp; omega
            obtain ⟨R, hR⟩ : ∃ R, R = (n - fr) % ST := ⟨_, rfl⟩
            rw [← hR] at v2 v3
            have v4 : IntKind.i64.wrap R = R := by rw [IntKind.wrap_i64]; omega
            have HR := Lib.hid hR
            clear hR
            cases am : (R == 0) with
            | true =>
              have HV2 : Hid (B = true) := Lib.hid (by rw [HV.out, ← HR.out, decide_eq_true (show fr ≤ n from a1), decide_eq_true a2]; simpa using am)
              go_wp2
              rw [HV2.out]
              go_ret
              rw [HBS.out]
              exact ⟨rfl, HB1.out⟩
            | false =>
              have HV2 : Hid (B = false) := Lib.hid (by rw [HV.out, ← HR.out, decide_eq_true (show fr ≤ n from a1), decide_eq_true a2]; simpa using am)
              go_wp2
              rw [HV2.out]
              go_ret
              rw [HBS.out]
              exact ⟨rfl, HB1.out⟩
          · have HA2 := Lib.hid a2
            have HV2 : Hid (B = false) := Lib.hid (by rw [HV.out, decide_eq_false HA2.out, Bool.and_false]; rfl)
            have z2 : decide (n ≤ high) = false := decide_eq_false HA2.out
            go_wp2
            rw [HV2.out]
            go_ret
            rw [HBS.out]
            exact ⟨rfl, HB1.out⟩
        · have HA1 := Lib.hid a1
          have HV2 : Hid (B = false) := Lib.hid (by rw [HV.out, decide_eq_false (show ¬ fr ≤ n from HA1.out)]; rfl)
          go_wp2
          rw [HV2.out]
          go_ret
          rw [HBS.out]
          exact ⟨rfl, HB1.out⟩
    | false =>
      have HQ : Hid (FR = fr ∧ TO = tt) := Lib.hid (by
        have h : ¬ tt = -1 := by simpa using ht1
        rw [HFR.out, HTO.out, if_neg HNF.out, if_neg HNF.out, if_neg h]; exact ⟨rfl, rfl⟩)
      have e0 : ∀ p : Since w1.heap.size w1, p.w'.cell? ⟨b1, 0, none⟩ = some (.int .i64 fr) := fun p => (HX.out.on hlt p.hb).c0
      have e1 : ∀ p : Since w1.heap.size w1, p.w'.cell? ⟨b1, 1, none⟩ = some (.int .i64 tt) := fun p => (HX.out.on hlt p.hb).c1
      go_upto_region 2 with fail
      refine wp_region_since w1.heap.size (by kernel_rfl) (by kernel_rfl) ?_
      repeat (go_big_quiet_step (fail))
      refine wpQuiet_nil ?_
      intro _ hw'
      obtain ⟨pz, hw''⟩ := hw'
      subst hw''
      have HZ := Lib.hid (HB1.out.trans (pz.hb.mono (Nat.le_of_lt hlt)))
      have c2 := (HX.out.on hlt pz.hb).c2
      dsimp only at c2
      generalize pz.w' = w2 at *
      clear e0 e1 d0 d1 d2
      have HV : Hid (B = (decide (fr ≤ n) && decide (n ≤ tt) && decide ((n - fr) % ST = 0))) := Lib.hid (by rw [HU.out, HQ.out.1, HQ.out.2])
      have hFb : -1 ≤ fr ∧ fr ≤ 9999 := by omega
      have hmax := HMAX.out
      by_cases a1 : n ≥ fr
      · by_cases a2 : n ≤ tt
        · have v1 : IntKind.i64.wrap (n - fr) = n - fr := by rw [IntKind.wrap_i64]; omega
          have v2 : (n - fr).tmod ST = (n - fr) % ST := Int.tmod_eq_emod_of_nonneg (by omega)
          have v3 : 0 ≤ (n - fr) % ST ∧ (n - fr) % ST < ST := ⟨Int.emod_nonneg _ (by omega), Int.emod_lt_of_pos _ (by omega)⟩
          have v5 : (ST == 0) = false := by simp; omega
          obtain ⟨R, hR⟩ : ∃ R, R = (n - fr) % ST := ⟨_, rfl⟩
          rw [← hR] at v2 v3
          have v4 : IntKind.i64.wrap R = R := by rw [IntKind.wrap_i64]; omega
          have HR := Lib.hid hR
          clear hR
          cases am : (R == 0) with
          | true =>
            have HV2 : Hid (B = true) := Lib.hid (by rw [HV.out, ← HR.out, decide_eq_true (show fr ≤ n from a1), decide_eq_true a2]; simpa using am)
            go_wp2
            rw [HV2.out]
            go_ret
            rw [HBS.out]
            exact ⟨rfl, HZ.out⟩
          | false =>
            have HV2 : Hid (B = false) := Lib.hid (by rw [HV.out, ← HR.out, decide_eq_true (show fr ≤ n from a1), decide_eq_true a2]; simpa using am)
            go_wp2
            rw [HV2.out]
            go_ret
            rw [HBS.out]
            exact ⟨rfl, HZ.out⟩
        · have HA2 := Lib.hid a2
          have HV2 : Hid (B = false) := Lib.hid (by rw [HV.out, decide_eq_false HA2.out, Bool.and_false]; rfl)
          have z2 : decide (n ≤ tt) = false := decide_eq_false HA2.out
          go_wp2
          rw [HV2.out]
          go_ret
          rw [HBS.out]
          exact ⟨rfl, HZ.out⟩
      · have HA1 := Lib.hid a1
        have HV2 : Hid (B = false) := Lib.hid (by rw [HV.out, decide_eq_false (show ¬ fr ≤ n from HA1.out)]; rfl)
        go_wp2
        rw [HV2.out]
        go_ret
        rw [HBS.out]
        exact ⟨rfl, HZ.out⟩

end Go.Proofs.YtpkpoglmmjaoeaaGreatDoor
