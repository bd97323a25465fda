/-
  The second of a date: the program's walk.
-/
import Derived.Test.YtpkpoglmmjaoeaaGreatDoorCk
import Derived.BigQuiet
import Derived.Lib.Hide
namespace Go.Proofs.YtpkpoglmmjaoeaaGreatDoor
open Go.RowKit

theorem belowQ {B : Nat} {a w : World} (h : Below B a w) (n : Nat) : Below B a (w.drewN n) := ⟨h.os, h.tape, h.output, h.size, h.block⟩
/-- a world behind a region that draws -/
structure Since (B : Nat) (w : World) where
  w' : World
  hb : Below B w w'
instance {B : Nat} {w : World} : Inhabited (Since B w) := ⟨⟨w, Below.refl _ _⟩⟩
theorem wp_region_since {P : Program} {id : Nat} {Q : Exit → Act → World → Prop} {a : Act} {w : World} {l : List Oper} (B : Nat) (hm : P.follows .mixedOrders = true) (hB : Region.lexB .any l.toArray = true)
    (h : wpQuiet P l.toArray (fun w' => ∃ p : Since B w, w' = p.w') (fun a' => ∀ w', (∃ p : Since B w, w' = p.w') → Q .normal a' w') l a) : (Code.region id l.toArray true).wp P Q a w :=
  wp_region_quiet (C := fun w' => ∃ p : Since B w, w' = p.w') hm hB ⟨⟨w.drewN 1, belowQ (Below.refl _ _) _⟩, rfl⟩ (by simpa using h)
theorem Calls.since_of {P : Program} {f : FuncId} {args : Array Value} {B : Nat} {w : World} {p : Since B w} {v : Value} (hw : B ≤ w.heap.size)
    (h : Calls P f args p.w' fun e w' => e = .returned v ∧ Below p.w'.heap.size p.w' w') : Calls P f args p.w' fun e w'' => e = .returned v ∧ ∃ q : Since B w, w'' = q.w' :=
  h.mono fun _ _ ⟨he, hb⟩ => ⟨he, ⟨⟨_, p.hb.trans (hb.mono (Nat.le_trans hw p.hb.size))⟩, rfl⟩⟩
theorem Calls.since_same {P : Program} {f : FuncId} {args : Array Value} {B : Nat} {w : World} {p : Since B w} {v : Value}
    (h : Calls P f args p.w' fun e w' => e = .returned v ∧ p.w' = w') : Calls P f args p.w' fun e w'' => e = .returned v ∧ ∃ q : Since B w, w'' = q.w' :=
  h.mono fun _ _ ⟨he, hb⟩ => ⟨he, ⟨p, hb.symm⟩⟩

namespace Sp
def okClock (h mi s : Int) : Bool := (decide (0 ≤ h) && decide (h ≤ 23)) && ((decide (0 ≤ mi) && decide (mi ≤ 59)) && (decide (0 ≤ s) && decide (s ≤ 59)))
def okDate (d : DateD) : Bool := okDay d.year d.month d.day && okClock d.hour d.min d.sec
def secOf (d : DateD) : Int := dayOf d.year d.month d.day * 86400 + d.hour * 3600 + d.min * 60 + d.sec
end Sp
set_option maxRecDepth 100000 in
set_option maxHeartbeats 8000000 in
theorem to_any (d : Sp.DateD) (w : World) :
    Calls Tryz.prog 46 #[dateV d] w fun e w' => e = .returned (.tuple #[.int .i64 (if Sp.okDate d then Sp.secOf d else 0), .bool (Sp.okDate d)]) ∧ Below w.heap.size w w' := by
  obtain ⟨y, mo, dd, h, mi, s, wd⟩ := d
  have H1 := Lib.hid (fun w => within_any y 2000 2199 w)
  have H2 := Lib.hid (fun w => within_any mo 1 12 w)
  have H3 := Lib.hid (fun w => within_any dd 1 (Sp.dimB y mo) w)
  have H4 := Lib.hid (fun w => within_any h 0 23 w)
  have H5 := Lib.hid (fun w => within_any mi 0 59 w)
  have H6 := Lib.hid (fun w => within_any s 0 59 w)
  have HD := Lib.hid (fun w => dim_any y mo w)
  have HOK : Hid (Sp.okDate ⟨y, mo, dd, h, mi, s, wd⟩ = (((decide (2000 ≤ y) && decide (y ≤ 2199)) && (decide (1 ≤ mo) && decide (mo ≤ 12)) && (decide (1 ≤ dd) && decide (dd ≤ Sp.dimB y mo))) && ((decide (0 ≤ h) && decide (h ≤ 23)) && ((decide (0 ≤ mi) && decide (mi ≤ 59)) && (decide (0 ≤ s) && decide (s ≤ 59)))))) := Lib.hid rfl
  obtain ⟨B, hB⟩ : ∃ B, B = Sp.okDate ⟨y, mo, dd, h, mi, s, wd⟩ := ⟨_, rfl⟩
  obtain ⟨V, hV⟩ : ∃ V : Int, V = if B then Sp.secOf ⟨y, mo, dd, h, mi, s, wd⟩ else 0 := ⟨_, rfl⟩
  rw [← hB, ← hV]
  rw [← hB] at HOK
  have HV := Lib.hid hV
  clear hB hV
  generalize hN : Sp.dimB y mo = N at *
  generalize h1 : (decide (2000 ≤ y) && decide (y ≤ 2199)) = k1 at *
  generalize h2 : (decide (1 ≤ mo) && decide (mo ≤ 12)) = k2 at *
  generalize h3 : (decide (1 ≤ dd) && decide (dd ≤ N)) = k3 at *
  generalize h4 : (decide (0 ≤ h) && decide (h ≤ 23)) = k4 at *
  generalize h5 : (decide (0 ≤ mi) && decide (mi ≤ 59)) = k5 at *
  generalize h6 : (decide (0 ≤ s) && decide (s ≤ 59)) = k6 at *
  have HH := Lib.hid (And.intro h1 (And.intro h2 (And.intro h3 (And.intro h4 (And.intro h5 h6)))))
  have HN := Lib.hid hN
  clear h1 h2 h3 h4 h5 h6 hN
  have HX := Lib.hid (DBox.new w ⟨y, mo, dd, h, mi, s, wd⟩)
  have hb0 : Below w.heap.size w (w.alloc (.cells #[.int .i64 y, .int .i64 mo, .int .i64 dd, .int .i64 h, .int .i64 mi, .int .i64 s, .int .i64 wd] 37)) := (Below.refl _ _).alloc (Nat.le_refl _) _
  have hlt : w.heap.size < (w.alloc (.cells #[.int .i64 y, .int .i64 mo, .int .i64 dd, .int .i64 h, .int .i64 mi, .int .i64 s, .int .i64 wd] 37)).heap.size := by simp
  dsimp only at HX
  show Calls Tryz.prog 46 #[.agg #[.int .i64 y, .int .i64 mo, .int .i64 dd, .int .i64 h, .int .i64 mi, .int .i64 s, .int .i64 wd]] w _
  go_enter Tryz.func46, Tryz.ntmps46
  go_upto_region 1 with fail
  generalize (w.alloc (.cells #[.int .i64 y, .int .i64 mo, .int .i64 dd, .int .i64 h, .int .i64 mi, .int .i64 s, .int .i64 wd] 37)) = w1 at *
  generalize hbs : w.heap.size = b1 at *
  have HBS := Lib.hid hbs
  have HB1 := Lib.hid hb0
  have e0 : ∀ p : Since w1.heap.size w1, p.w'.cell? ⟨b1, 0, none⟩ = some (.int .i64 y) := fun p => (HX.out.on hlt p.hb).c0
  have e1 : ∀ p : Since w1.heap.size w1, p.w'.cell? ⟨b1, 1, none⟩ = some (.int .i64 mo) := fun p => (HX.out.on hlt p.hb).c1
  have e2 : ∀ p : Since w1.heap.size w1, p.w'.cell? ⟨b1, 2, none⟩ = some (.int .i64 dd) := fun p => (HX.out.on hlt p.hb).c2
  have e3 : ∀ p : Since w1.heap.size w1, p.w'.cell? ⟨b1, 3, none⟩ = some (.int .i64 h) := fun p => (HX.out.on hlt p.hb).c3
  have e4 : ∀ p : Since w1.heap.size w1, p.w'.cell? ⟨b1, 4, none⟩ = some (.int .i64 mi) := fun p => (HX.out.on hlt p.hb).c4
  have e5 : ∀ p : Since w1.heap.size w1, p.w'.cell? ⟨b1, 5, none⟩ = some (.int .i64 s) := fun p => (HX.out.on hlt p.hb).c5
  clear hbs hb0
  cases k1 with
  | false =>
    refine wp_region_since w1.heap.size (by kernel_rfl) (by kernel_rfl) ?_
    repeat (go_big_quiet_step (first | (go_at_call_of 72 (Value.int .i64 y); exact Calls.since_same (H1.out _))))
    refine wpQuiet_nil ?_
    intro _ hw'
    obtain ⟨pz, hw''⟩ := hw'
    subst hw''
    have HZ := Lib.hid (HB1.out.trans (pz.hb.mono (Nat.le_of_lt hlt)))
    generalize pz.w' = w2 at *
    clear e0 e1 e2 e3 e4 e5
    have HF : Hid (B = false) := Lib.hid (by rw [HOK.out]; simp)
    have HF2 : Hid (V = 0) := Lib.hid (by rw [HV.out, HF.out]; rfl)
    go_wp2
    rw [HF.out, HF2.out]
    go_ret2
    rw [HBS.out]
    exact ⟨rfl, HZ.out⟩
  | true =>
    cases k2 with
    | false =>
      refine wp_region_since w1.heap.size (by kernel_rfl) (by kernel_rfl) ?_
      repeat (go_big_quiet_step (first | (go_at_call_of 72 (Value.int .i64 y); exact Calls.since_same (H1.out _)) | (go_at_call_of 72 (Value.int .i64 mo); exact Calls.since_same (H2.out _))))
      refine wpQuiet_nil ?_
      intro _ hw'
      obtain ⟨pz, hw''⟩ := hw'
      subst hw''
      have HZ := Lib.hid (HB1.out.trans (pz.hb.mono (Nat.le_of_lt hlt)))
      generalize pz.w' = w2 at *
      clear e0 e1 e2 e3 e4 e5
      have HF : Hid (B = false) := Lib.hid (by rw [HOK.out]; simp)
      have HF2 : Hid (V = 0) := Lib.hid (by rw [HV.out, HF.out]; rfl)
      go_wp2
      rw [HF.out, HF2.out]
      go_ret2
      rw [HBS.out]
      exact ⟨rfl, HZ.out⟩
    | true =>
      cases k3 with
      | false =>
        refine wp_region_since w1.heap.size (by kernel_rfl) (by kernel_rfl) ?_
        repeat (go_big_quiet_step (first | (go_at_call 43; exact Calls.since_same (HD.out _)) | (go_at_call_of 72 (Value.int .i64 y); exact Calls.since_same (H1.out _)) | (go_at_call_of 72 (Value.int .i64 mo); exact Calls.since_same (H2.out _)) | (go_at_call_of 72 (Value.int .i64 dd); exact Calls.since_same (H3.out _))))
        refine wpQuiet_nil ?_
        intro _ hw'
        obtain ⟨pz, hw''⟩ := hw'
        subst hw''
        have HZ := Lib.hid (HB1.out.trans (pz.hb.mono (Nat.le_of_lt hlt)))
        generalize pz.w' = w2 at *
        clear e0 e1 e2 e3 e4 e5
        have HF : Hid (B = false) := Lib.hid (by rw [HOK.out]; simp)
        have HF2 : Hid (V = 0) := Lib.hid (by rw [HV.out, HF.out]; rfl)
        go_wp2
        rw [HF.out, HF2.out]
        go_ret2
        rw [HBS.out]
        exact ⟨rfl, HZ.out⟩
      | true =>
        cases k4 with
        | false =>
          refine wp_region_since w1.heap.size (by kernel_rfl) (by kernel_rfl) ?_
          repeat (go_big_quiet_step (first | (go_at_call 43; exact Calls.since_same (HD.out _)) | (go_at_call_of 72 (Value.int .i64 y); exact Calls.since_same (H1.out _)) | (go_at_call_of 72 (Value.int .i64 mo); exact Calls.since_same (H2.out _)) | (go_at_call_of 72 (Value.int .i64 dd); exact Calls.since_same (H3.out _)) | (go_at_call_of 72 (Value.int .i64 h); exact Calls.since_same (H4.out _))))
          refine wpQuiet_nil ?_
          intro _ hw'
          obtain ⟨pz, hw''⟩ := hw'
          subst hw''
          have HZ := Lib.hid (HB1.out.trans (pz.hb.mono (Nat.le_of_lt hlt)))
          generalize pz.w' = w2 at *
          clear e0 e1 e2 e3 e4 e5
          have HF : Hid (B = false) := Lib.hid (by rw [HOK.out]; simp)
          have HF2 : Hid (V = 0) := Lib.hid (by rw [HV.out, HF.out]; rfl)
          go_wp2
          rw [HF.out, HF2.out]
          go_ret2
          rw [HBS.out]
          exact ⟨rfl, HZ.out⟩
        | true =>
          cases k5 with
          | false =>
            refine wp_region_since w1.heap.size (by kernel_rfl) (by kernel_rfl) ?_
            repeat (go_big_quiet_step (first | (go_at_call 43; exact Calls.since_same (HD.out _)) | (go_at_call_of 72 (Value.int .i64 y); exact Calls.since_same (H1.out _)) | (go_at_call_of 72 (Value.int .i64 mo); exact Calls.since_same (H2.out _)) | (go_at_call_of 72 (Value.int .i64 dd); exact Calls.since_same (H3.out _)) | (go_at_call_of 72 (Value.int .i64 h); exact Calls.since_same (H4.out _)) | (go_at_call_of 72 (Value.int .i64 mi); exact Calls.since_same (H5.out _))))
            refine wpQuiet_nil ?_
            intro _ hw'
            obtain ⟨pz, hw''⟩ := hw'
            subst hw''
            have HZ := Lib.hid (HB1.out.trans (pz.hb.mono (Nat.le_of_lt hlt)))
            generalize pz.w' = w2 at *
            clear e0 e1 e2 e3 e4 e5
            have HF : Hid (B = false) := Lib.hid (by rw [HOK.out]; simp)
            have HF2 : Hid (V = 0) := Lib.hid (by rw [HV.out, HF.out]; rfl)
            go_wp2
            rw [HF.out, HF2.out]
            go_ret2
            rw [HBS.out]
            exact ⟨rfl, HZ.out⟩
          | true =>
            cases k6 with
            | false =>
              refine wp_region_since w1.heap.size (by kernel_rfl) (by kernel_rfl) ?_
              repeat (go_big_quiet_step (first | (go_at_call 43; exact Calls.since_same (HD.out _)) | (go_at_call_of 72 (Value.int .i64 y); exact Calls.since_same (H1.out _)) | (go_at_call_of 72 (Value.int .i64 mo); exact Calls.since_same (H2.out _)) | (go_at_call_of 72 (Value.int .i64 dd); exact Calls.since_same (H3.out _)) | (go_at_call_of 72 (Value.int .i64 h); exact Calls.since_same (H4.out _)) | (go_at_call_of 72 (Value.int .i64 mi); exact Calls.since_same (H5.out _)) | (go_at_call_of 72 (Value.int .i64 s); exact Calls.since_same (H6.out _))))
              refine wpQuiet_nil ?_
              intro _ hw'
              obtain ⟨pz, hw''⟩ := hw'
              subst hw''
              have HZ := Lib.hid (HB1.out.trans (pz.hb.mono (Nat.le_of_lt hlt)))
              generalize pz.w' = w2 at *
              clear e0 e1 e2 e3 e4 e5
              have HF : Hid (B = false) := Lib.hid (by rw [HOK.out]; simp)
              have HF2 : Hid (V = 0) := Lib.hid (by rw [HV.out, HF.out]; rfl)
              go_wp2
              rw [HF.out, HF2.out]
              go_ret2
              rw [HBS.out]
              exact ⟨rfl, HZ.out⟩
            | true =>
              refine wp_region_since w1.heap.size (by kernel_rfl) (by kernel_rfl) ?_
              repeat (go_big_quiet_step (first | (go_at_call 43; exact Calls.since_same (HD.out _)) | (go_at_call_of 72 (Value.int .i64 y); exact Calls.since_same (H1.out _)) | (go_at_call_of 72 (Value.int .i64 mo); exact Calls.since_same (H2.out _)) | (go_at_call_of 72 (Value.int .i64 dd); exact Calls.since_same (H3.out _)) | (go_at_call_of 72 (Value.int .i64 h); exact Calls.since_same (H4.out _)) | (go_at_call_of 72 (Value.int .i64 mi); exact Calls.since_same (H5.out _)) | (go_at_call_of 72 (Value.int .i64 s); exact Calls.since_same (H6.out _))))
              refine wpQuiet_nil ?_
              intro _ hw'
              obtain ⟨pz, hw''⟩ := hw'
              subst hw''
              have HZ := Lib.hid (HB1.out.trans (pz.hb.mono (Nat.le_of_lt hlt)))
              have HX2 := Lib.hid (HX.out.on hlt pz.hb)
              generalize pz.w' = w2 at *
              clear e0 e1 e2 e3 e4 e5
              have HT : Hid (B = true) := Lib.hid (by rw [HOK.out]; rfl)
              have HT2 : Hid (V = Sp.secOf ⟨y, mo, dd, h, mi, s, wd⟩) := Lib.hid (by rw [HV.out, HT.out]; rfl)
              clear H1 H2 H3 H4 H5 H6 HD HX HB1 HOK HV hlt
              obtain ⟨c0, c1, c2, c3, c4, c5, c6, -, -, -, -, -, -, -⟩ := HX2.out
              dsimp only at c0 c1 c2 c3 c4 c5 c6
              have hh := HH.out
              simp only [Bool.and_eq_true, decide_eq_true_eq] at hh
              obtain ⟨⟨a1, a2⟩, ⟨a3, a4⟩, ⟨a5, a6⟩, ⟨a7, a8⟩, ⟨a9, a10⟩, a11, a12⟩ := hh
              obtain ⟨K, hK⟩ : ∃ K, K = (y - 2000).toNat := ⟨_, rfl⟩
              obtain ⟨M, hM⟩ : ∃ M, M = (mo - 1).toNat := ⟨_, rfl⟩
              have HKM : Hid (y = 2000 + (K : Int) ∧ mo = (M : Int) + 1) := Lib.hid ⟨by omega, by omega⟩
              have HSEC : Hid (Sp.secOf ⟨y, mo, dd, h, mi, s, wd⟩ = (Sp.ysum K + Sp.msum y M + (dd - 1)) * 86400 + h * 3600 + mi * 60 + s) := Lib.hid (by rw [hK, hM]; rfl)
              have bN : dd ≤ 31 := by
                have := Sp.dim_all y mo
                have := HN.out
                omega
              have bK : K < 200 := by omega
              have bM : M < 12 := by omega
              have v1 : IntKind.i64.wrap (dd - 1) = dd - 1 := by rw [IntKind.wrap_i64]; omega
              have bys : ∀ k, k ≤ 200 → 0 ≤ Sp.ysum k ∧ Sp.ysum k ≤ 73049 := fun k hk => ⟨Sp.ysum_nonneg k, by rw [← Sp.ysum_200]; exact Sp.ysum_le k 200 hk⟩
              have bms : ∀ m, m ≤ 12 → 0 ≤ Sp.msum y m ∧ Sp.msum y m ≤ 366 := fun m hm => ⟨Sp.msum_nonneg y m, by have h1 := Sp.msum_le y m 12 hm; rw [Sp.msum_12] at h1; have := Sp.long_pos y; omega⟩
              have HBY := Lib.hid bys
              have HBM := Lib.hid bms
              clear hK hM HH HN bys bms
              go_wp2_with fail
              go_loopw [4, 5] (fun dv yv wr => w2 = wr ∧ ∃ (k : Nat) (z yy : Int), dv = .int .i64 z ∧ yv = .int .i64 yy ∧ Hid (z = Sp.ysum k + (dd - 1) ∧ yy = 2000 + (k : Int)) ∧ k ≤ K ∧ (0 ≤ z ∧ z ≤ 73100) ∧ (2000 ≤ yy ∧ yy ≤ 2199)) (fun _ yv _ => 3000 - (intOf yv).toNat)
              case atStart => exact ⟨rfl, 0, dd - 1, 2000, rfl, rfl, Lib.hid ⟨by simp [Sp.ysum], rfl⟩, Nat.zero_le _, by omega, by omega⟩
              case round =>
                obtain ⟨rfl, k, z, yy, rfl, rfl, HZK, hk, hz, hyy⟩ := hrel
                have HL := Lib.hid (fun w => long_any yy w)
                have hl := Sp.long_pos yy
                have HYS : Hid (Sp.ysum (k + 1) = Sp.ysum k + Sp.longY yy) := Lib.hid (by rw [Sp.ysum, ← HZK.out.2])
                by_cases hc : yy < y
                · have hk2 : k < K := by have h1 := HZK.out.2; have h2 := HKM.out.1; omega
                  have hb2 := HBY.out (k + 1) (by omega)
                  rw [HYS.out] at hb2
                  generalize hL : Sp.longY yy = L at *
                  have e1 : IntKind.i64.wrap (z + L) = z + L := by rw [IntKind.wrap_i64]; omega
                  have e2 : IntKind.i64.wrap (yy + 1) = yy + 1 := by rw [IntKind.wrap_i64]; omega
                  have hz2 : z + L ≤ 73100 := by have h1 := HZK.out.1; omega
                  clear hL hb2
                  go_wp2_with fail
                  refine (HL.out _).mono ?_
                  rintro e w3 ⟨rfl, rfl⟩
                  go_wp2
                  go_roundw
                  case rel => exact ⟨by first | rfl | trivial, k + 1, z + L, yy + 1, rfl, rfl, Lib.hid ⟨by rw [HYS.out]; have := HZK.out.1; omega, by have := HZK.out.2; omega⟩, by omega, by omega, by omega⟩
                  case measure => simp [intOf]; omega
                · have HKE : Hid (k = K ∧ yy = y) := Lib.hid ⟨by have h1 := HZK.out.2; have h2 := HKM.out.1; omega, by have h1 := HZK.out.2; have h2 := HKM.out.1; omega⟩
                  have hz3 : z ≤ 73080 := by
                    have h1 := HZK.out.1
                    have h2 := HBY.out K (by omega)
                    rw [HKE.out.1] at h1
                    omega
                  go_wp2_with fail
                  go_loopw [4, 6] (fun dv mv wr => w2 = wr ∧ ∃ (m : Nat) (q mm : Int), dv = .int .i64 q ∧ mv = .int .i64 mm ∧ Hid (q = z + Sp.msum y m ∧ mm = (m : Int) + 1) ∧ m ≤ M ∧ (0 ≤ q ∧ q ≤ 74000) ∧ (1 ≤ mm ∧ mm ≤ 12)) (fun _ mv _ => 30 - (intOf mv).toNat)
                  case atStart => exact ⟨rfl, 0, z, 1, rfl, rfl, Lib.hid ⟨by simp [Sp.msum], rfl⟩, Nat.zero_le _, by omega, by omega⟩
                  case round =>
                    obtain ⟨rfl, m, q, mm, rfl, rfl, HQ, hm, hq, hmm⟩ := hrel
                    have HDM := Lib.hid (fun w => dim_any y mm w)
                    have hl2 := Sp.dim_all y mm
                    have HMS : Hid (Sp.msum y (m + 1) = Sp.msum y m + Sp.dimB y mm) := Lib.hid (by rw [Sp.msum, ← HQ.out.2])
                    by_cases hc2 : mm < mo
                    · have hm2 : m < M := by have h1 := HQ.out.2; have h2 := HKM.out.2; omega
                      have hb2 := HBM.out (m + 1) (by omega)
                      rw [HMS.out] at hb2
                      generalize hL : Sp.dimB y mm = L at *
                      have e1 : IntKind.i64.wrap (q + L) = q + L := by rw [IntKind.wrap_i64]; omega
                      have e2 : IntKind.i64.wrap (mm + 1) = mm + 1 := by rw [IntKind.wrap_i64]; omega
                      have hq2 : q + L ≤ 74000 := by have h1 := HQ.out.1; omega
                      clear hL hb2
                      go_wp2_with fail
                      refine (HDM.out _).mono ?_
                      rintro e w3 ⟨rfl, rfl⟩
                      go_wp2
                      go_roundw
                      case rel => exact ⟨by first | rfl | trivial, m + 1, q + L, mm + 1, rfl, rfl, Lib.hid ⟨by rw [HMS.out]; have := HQ.out.1; omega, by have := HQ.out.2; omega⟩, by omega, by omega, by omega⟩
                      case measure => simp [intOf]; omega
                    · have HME : Hid (m = M) := Lib.hid (by have h1 := HQ.out.2; have h2 := HKM.out.2; omega)
                      have HFIN : Hid (Sp.secOf ⟨y, mo, dd, h, mi, s, wd⟩ = q * 86400 + h * 3600 + mi * 60 + s) := Lib.hid (by
                        rw [HSEC.out]
                        have h1 := HQ.out.1
                        have h2 := HZK.out.1
                        rw [HKE.out.1] at h2
                        rw [HME.out] at h1
                        omega)
                      have t1 : IntKind.i64.wrap (q * 86400) = q * 86400 := by rw [IntKind.wrap_i64]; omega
                      have t2 : IntKind.i64.wrap (h * 3600) = h * 3600 := by rw [IntKind.wrap_i64]; omega
                      have t3 : IntKind.i64.wrap (q * 86400 + h * 3600) = q * 86400 + h * 3600 := by rw [IntKind.wrap_i64]; omega
                      have t4 : IntKind.i64.wrap (mi * 60) = mi * 60 := by rw [IntKind.wrap_i64]; omega
                      have t5 : IntKind.i64.wrap (q * 86400 + h * 3600 + mi * 60) = q * 86400 + h * 3600 + mi * 60 := by rw [IntKind.wrap_i64]; omega
                      have t6 : IntKind.i64.wrap (q * 86400 + h * 3600 + mi * 60 + s) = q * 86400 + h * 3600 + mi * 60 + s := by rw [IntKind.wrap_i64]; omega
                      go_wp2
                      rw [HT.out, HT2.out, HFIN.out]
                      go_ret2
                      rw [HBS.out]
                      exact ⟨rfl, HZ.out⟩

end Go.Proofs.YtpkpoglmmjaoeaaGreatDoor
