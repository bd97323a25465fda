/-
  The law about what is kept of a log: its walk.
-/
import Derived.Test.YtkgogenmhiclcaaGreatDoorJk
import Derived.Test.YtkgogenmhiclcaaGreatDoorJo
namespace Go.Proofs.YtkgogenmhiclcaaGreatDoor
open Go.RowKit

theorem keep_form (l : List RowD) (most : Int) : ∃ a, a ≤ l.length ∧ Sp.keepL l most = l.drop a ∧ (a = l.length ∨ (Sp.sizeL (l.drop a) : Int) ≤ most) ∧ (a = 0 ∨ most < Sp.sizeL (l.drop (a - 1))) := by
  induction l with
  | nil => exact ⟨0, Nat.le_refl _, rfl, .inl rfl, .inl rfl⟩
  | cons r q ih =>
    by_cases h : (Sp.sizeL (r :: q) : Int) ≤ most
    · exact ⟨0, Nat.zero_le _, by rw [Sp.keepL, if_pos h]; rfl, .inr h, .inl rfl⟩
    · obtain ⟨a, h1, h2, h3, h4⟩ := ih
      refine ⟨a + 1, by simpa using h1, by rw [Sp.keepL, if_neg h]; exact h2, by simpa using h3, .inr ?_⟩
      rw [Nat.add_sub_cancel]
      rcases h4 with h4 | h4
      · subst h4; simpa using h
      · rcases Nat.eq_zero_or_pos a with h0 | h0
        · subst h0; rw [List.drop_zero]; omega
        · obtain ⟨b, rfl⟩ : ∃ b, a = b + 1 := ⟨a - 1, by omega⟩
          rw [List.drop_succ_cons]; simpa using h4

theorem Rd.empty0 {w : World} {B : Nat} {A : Option Addr} {xs : List Value} (h : xs = []) : Rd w B 5 A 0 xs := by subst h; exact Rd.empty
set_option maxRecDepth 100000 in
set_option maxHeartbeats 16000000 in
theorem jkeep_any (D : RowsD) (most : Int) (w : World) (h : RowsGood w D) (E : Env w) :
    Calls Tryz.prog 7 #[rowsV D, .int .i64 most] w fun e w' => e = .returned (.bool true) ∧ Below w.heap.size w w' := by
  obtain ⟨A, n, c, l⟩ := D
  have hrd : Rd w w.heap.size 5 A n (rowsC l) := h.rd
  have HG : Hid (GoodL l) := Lib.hid h.good
  have hnc : n ≤ c := h.le
  have HRD := Lib.hid hrd
  have hln : l.length = n := by have := hrd.1; rw [rowsC_len] at this; omega
  have HLN := Lib.hid hln
  obtain ⟨a, ha, hk, hm1, hm2⟩ := keep_form l most
  clear h hrd
  show Calls Tryz.prog 7 #[.slice A n c, .int .i64 most] w _
  go_enter Tryz.func7, Tryz.ntmps7
  go_wp2_with fail
  refine (shown_any w E).mono ?_
  rintro e w1 ⟨rfl, hb1⟩
  have HB1 := Lib.hid hb1
  clear hb1
  by_cases hn : n > 200
  · have x1 : (n : Int) > 200 := by omega
    clear hln
    go_wp2
    go_ret
    exact ⟨rfl, HB1.out⟩
  · have x1 : ¬ (n : Int) > 200 := by omega
    rw [hln] at ha hm1
    have HKP := Lib.hid (fun W h hB E => keep_any l HG.out.fits A n c w.heap.size most W h hB (by omega) hnc E)
    have hlm : (Sp.keepL l most).length = n - a := by rw [hk, List.length_drop, hln]
    obtain ⟨m, hm⟩ : ∃ m, m = n - a := ⟨_, rfl⟩
    rw [hlm, ← hm, hk] at HKP
    have hfd : Fits (l.drop a) := fun r hr => HG.out.fits r (List.mem_of_mem_drop hr)
    have HSM := Lib.hid (fun A1 A2 c1 c2 B1 B2 w h1 h2 hB1 hB2 => same_any (l.drop a) A1 A2 m c1 c2 B1 B2 w h1 h2 hB1 hB2 (by omega))
    have HSZ := Lib.hid (fun A1 c1 B1 w h1 hB1 E => size_any (l.drop a) hfd A1 m c1 B1 w h1 hB1 (by omega) E)
    have HSUB : Hid (∀ ad, A = some ad → ∀ b, b ≤ n → ∀ W, Below w.heap.size w W → Rd W w.heap.size 5 (some (ad.add (b * 5))) (n - b) (rowsC (l.drop b))) := Lib.hid fun ad hA b hb W hW => by
      have hr := Rd.below HRD.out hW
      rw [hA] at hr
      have hr2 := hr.drop b
      rwa [(rowsC_split l b (by omega)).2] at hr2
    have HSP : Hid (∀ q ad, a = q + 1 → A = some ad → ∀ W, Below w.heap.size w W → Env W → Calls Tryz.prog 14 #[.slice (some (ad.add (q * 5))) (n - q) (c - q)] W fun e w' => e = .returned (.int .i64 (Sp.sizeL (l.drop q) : Int)) ∧ Below W.heap.size W w') := Lib.hid fun q ad hq hA W hW E =>
      size_any (l.drop q) (fun r hr => HG.out.fits r (List.mem_of_mem_drop hr)) _ _ _ w.heap.size W (HSUB.out ad hA q (by omega) W hW) hW.size (by omega) E
    have HALL : Hid (a = 0 → ∀ W, Below w.heap.size w W → Rd W w.heap.size 5 A n (rowsC (l.drop a))) := Lib.hid fun h0 W hW => by rw [h0, List.drop_zero]; exact Rd.below HRD.out hW
    have hsub : (n : Int) - (m : Int) = (a : Int) := by omega
    have hwa : IntKind.i64.wrap (a : Int) = (a : Int) := by rw [IntKind.wrap_i64]; omega
    have hna : n - a = m := hm.symm
    have y1 : ¬ (a : Int) < 0 := by omega
    have y2 : (0 : Int) ≤ (a : Int) := by omega
    have y3 : (a : Int) ≤ (n : Int) := by omega
    have y4 : (a : Int) ≤ (c : Int) := by omega
    have HEN : Hid (∀ W, Below w.heap.size w W → Env W) := Lib.hid fun W hW => E.on hW
    have HNA : Hid (n = m + a) := Lib.hid (by omega)
    have HM1 : Hid (0 < m → ¬ (Sp.sizeL (l.drop a) : Int) > most) := Lib.hid fun h => by rcases hm1 with e | e <;> omega
    have HM2 := Lib.hid hm2
    clear hm hlm hln hk hfd hm1 hm2 hna
    go_wp2_with fail
    refine (HKP.out w1 (Rd.below HRD.out HB1.out) HB1.out.size (HEN.out _ HB1.out)).mono ?_
    rintro e w2 ⟨A2, c2, rfl, hr2, hb2⟩
    have HB2 : Hid (Below w.heap.size w w2) := Lib.hid (HB1.out.trans (hb2.mono HB1.out.size))
    have HR2 := Lib.hid hr2
    clear hr2 hb2 HB1 HKP
    rcases Nat.eq_zero_or_pos a with ha0 | ha0
    · subst ha0
      have hnm : n = m := by have := HNA.out; omega
      subst hnm
      rw [show ((0 : Nat) : Int) = 0 from rfl] at hsub hwa
      go_wp2_with fail
      refine (HSM.out _ _ _ _ _ _ w2 HR2.out (HALL.out (by trivial) _ HB2.out) (Nat.le_refl _) (HB2.out.size)).mono ?_
      rintro e w3 ⟨rfl, hb3⟩
      have HB3 : Hid (Below w.heap.size w w3) := Lib.hid (HB2.out.trans (hb3.mono HB2.out.size))
      have HR3 := Lib.hid ((Rd.below HR2.out hb3).more hb3.size)
      clear hb3 HB2 HR2
      rcases Nat.eq_zero_or_pos n with h0 | h0
      · have z1 : ¬ (n : Int) > 0 := by omega
        go_wp2
        go_ret
        exact ⟨rfl, HB3.out⟩
      · have z1 : (n : Int) > 0 := by omega
        have HM1' := Lib.hid (HM1.out h0)
        go_wp2_with fail
        refine (HSZ.out _ _ _ w3 HR3.out (Nat.le_refl _) (HEN.out _ HB3.out)).mono ?_
        rintro e w4 ⟨rfl, hb4⟩
        have HB4 : Hid (Below w.heap.size w w4) := Lib.hid (HB3.out.trans (hb4.mono HB3.out.size))
        have z2 := HM1'.out
        clear hb4 HSZ
        generalize Sp.sizeL (l.drop 0) = zz at *
        go_wp2
        go_ret
        exact ⟨rfl, HB4.out⟩

    · obtain ⟨q, rfl⟩ : ∃ q, a = q + 1 := ⟨a - 1, by omega⟩
      have HM3 : Hid (most < Sp.sizeL (l.drop q)) := Lib.hid (by
    rcases HM2.out with e | e
    · omega
    · simpa using e)
      have hna : n - (q + 1) = m := by have := HNA.out; omega
      obtain ⟨ad, rfl, _⟩ := HRD.out.here (by omega)
      have y0 : ((q + 1 : Nat) : Int) = (q : Int) + 1 := by omega
      rw [y0] at hsub hwa y1 y2 y3 y4
      have ep : ((q : Int) + 1).toNat = q + 1 := by omega
      have eq1 : ((q : Int) + 1 == 0) = false := by simp; omega
      have eq2 : IntKind.i64.wrap (q : Int) = (q : Int) := by rw [IntKind.wrap_i64]; omega
      have eq3 : (0 : Int) ≤ (q : Int) := by omega
      have eq4 : (q : Int) ≤ (n : Int) := by omega
      have eq5 : (q : Int) ≤ (c : Int) := by omega
      have eq6 : ¬ c = q := by omega
      have eq7 : ¬ c - q = 0 := by omega
      clear y0
      by_cases hcc : c = q + 1
      · have hm0 : m = 0 := by omega
        have HDE : Hid (rowsC (l.drop (q + 1)) = []) := Lib.hid (by rw [List.drop_of_length_le (by have := HLN.out; omega)]; rfl)
        subst hm0
        have hnq : n = q + 1 := by omega
        subst hnq
        subst hcc
        have HSP1 : Hid (∀ W, Below w.heap.size w W → Env W → Calls Tryz.prog 14 #[.slice (some (ad.add (q * 5))) 1 1] W fun e w' => e = .returned (.int .i64 (Sp.sizeL (l.drop q) : Int)) ∧ Below W.heap.size W w') := Lib.hid fun W hW E => by
          have h := HSP.out q ad rfl rfl W hW E
          rwa [Nat.add_sub_cancel_left] at h
        clear hsub hna hnc eq6 eq7 y3 y4 HSP HSUB
        go_wp2_with fail
        refine (HSM.out A2 (some ad) c2 0 w2.heap.size 0 w2 HR2.out (Rd.empty0 HDE.out) (Nat.le_refl _) (Nat.zero_le _)).mono ?_
        rintro e w3 ⟨rfl, hb3⟩
        have HB3 : Hid (Below w.heap.size w w3) := Lib.hid (HB2.out.trans (hb3.mono HB2.out.size))
        have HR3 := Lib.hid ((Rd.below HR2.out hb3).more hb3.size)
        clear hb3 HB2 HR2
        have z1 : ¬ ((0 : Nat) : Int) > 0 := by omega

        go_wp2_with fail
        refine (HSP1.out w3 HB3.out (HEN.out _ HB3.out)).mono ?_
        rintro e w5 ⟨rfl, hb5⟩
        have HB5 : Hid (Below w.heap.size w w5) := Lib.hid (HB3.out.trans (hb5.mono HB3.out.size))
        have z3 := HM3.out
        clear hb5
        generalize Sp.sizeL (l.drop q) = zq at *
        go_wp2
        go_ret
        exact ⟨by simp, HB5.out⟩

      · have hcd : ¬ c - (q + 1) = 0 := by omega
        have RS := Lib.hid (HSUB.out ad rfl (q + 1) (by omega) w2 HB2.out)
        rw [hna] at RS
        go_wp2_with fail
        refine (HSM.out _ _ _ _ _ _ w2 HR2.out (RS.out) (Nat.le_refl _) (HB2.out.size)).mono ?_
        rintro e w3 ⟨rfl, hb3⟩
        have HB3 : Hid (Below w.heap.size w w3) := Lib.hid (HB2.out.trans (hb3.mono HB2.out.size))
        have HR3 := Lib.hid ((Rd.below HR2.out hb3).more hb3.size)
        clear hb3 HB2 HR2
        rcases Nat.eq_zero_or_pos m with h0 | h0
        · have z1 : ¬ (m : Int) > 0 := by omega
          go_wp2_with fail
          refine (HSP.out q ad rfl rfl w3 HB3.out (HEN.out _ HB3.out)).mono ?_
          rintro e w5 ⟨rfl, hb5⟩
          have HB5 : Hid (Below w.heap.size w w5) := Lib.hid (HB3.out.trans (hb5.mono HB3.out.size))
          have z3 := HM3.out
          clear hb5
          generalize Sp.sizeL (l.drop q) = zq at *
          go_wp2
          go_ret
          exact ⟨by simp, HB5.out⟩
        · have z1 : (m : Int) > 0 := by omega
          have HM1' := Lib.hid (HM1.out h0)
          go_wp2_with fail
          refine (HSZ.out _ _ _ w3 HR3.out (Nat.le_refl _) (HEN.out _ HB3.out)).mono ?_
          rintro e w4 ⟨rfl, hb4⟩
          have HB4 : Hid (Below w.heap.size w w4) := Lib.hid (HB3.out.trans (hb4.mono HB3.out.size))
          have z2 := HM1'.out
          clear hb4 HSZ
          generalize Sp.sizeL (l.drop (q + 1)) = zz at *
          go_wp2_with fail
          refine (HSP.out q ad rfl rfl w4 HB4.out (HEN.out _ HB4.out)).mono ?_
          rintro e w5 ⟨rfl, hb5⟩
          have HB5 : Hid (Below w.heap.size w w5) := Lib.hid (HB4.out.trans (hb5.mono HB4.out.size))
          have z3 := HM3.out
          clear hb5
          generalize Sp.sizeL (l.drop q) = zq at *
          go_wp2
          go_ret
          exact ⟨by simp, HB5.out⟩

end Go.Proofs.YtkgogenmhiclcaaGreatDoor
