/-
  The walk that shows that a log's functions are no others.
-/
import Derived.Test.YtkgogenmhiclcaaGreatDoorJi
namespace Go.Proofs.YtkgogenmhiclcaaGreatDoor
open Go.RowKit

def aServ : ByteArray := ⟨#[97, 46, 115, 101, 114, 118, 105, 99, 101]⟩
def aX : ByteArray := ⟨#[120]⟩
def rowOne : RowD := ⟨7, aServ, 2, 1, aX⟩
def rowTwo : RowD := ⟨5, aServ, 1, 1, aX⟩
theorem shown_add : Sp.addR ([rowOne] ++ [rowTwo]) = [rowTwo, rowOne] := by kernel_rfl
theorem shown_may : Sp.mayLogB [rowTwo, rowOne] = true := by decide +kernel
theorem rone_may : mayRowB rowOne = true := by decide +kernel
theorem two_may : mayRowB rowTwo = true := by decide +kernel
theorem two_curs : Sp.toB (Sp.cursorR rowTwo) = ⟨#[53, 44, 97, 46, 115, 101, 114, 118, 105, 99, 101, 44, 49]⟩ := by rw [Sp.cursorR, if_pos two_may]; kernel_rfl
theorem rone_curs : Sp.toB (Sp.cursorR rowOne) = ⟨#[55, 44, 97, 46, 115, 101, 114, 118, 105, 99, 101, 44, 50]⟩ := by rw [Sp.cursorR, if_pos rone_may]; kernel_rfl
theorem shown_place : Sp.placeP ⟨#[53, 44, 97, 46, 115, 101, 114, 118, 105, 99, 101, 44, 49]⟩ = some (Sp.atPlace rowTwo) :=
  Sp.place_some _ _ ⟨rfl, rfl⟩ (Sp.atPlace_may rowTwo two_may).1 (by
    have h := two_curs
    rw [Sp.cursorR, if_pos two_may] at h
    rw [(Sp.atPlace_may rowTwo two_may).2, ← h, Sp.toB_list])
theorem empty_yes : (⟨#[]⟩ : ByteArray).toList.isEmpty = true := by decide +kernel
theorem c1_no : (⟨#[53, 44, 97, 46, 115, 101, 114, 118, 105, 99, 101, 44, 49]⟩ : ByteArray).toList.isEmpty = false := by decide +kernel
theorem bad_one : Sp.badB [rowTwo, rowOne] ⟨#[]⟩ = false := by rw [Sp.badB, shown_may, empty_yes]; rfl
theorem bad_two : Sp.badB [rowTwo, rowOne] ⟨#[53, 44, 97, 46, 115, 101, 114, 118, 105, 99, 101, 44, 49]⟩ = false := by rw [Sp.badB, shown_may, Sp.placeOk, shown_place]; simp
theorem from_one : Sp.fromRows [rowTwo, rowOne] ⟨#[]⟩ 1 = [rowTwo] := by
  rw [Sp.fromRows, bad_one, empty_yes]
  simp [Sp.outL, Sp.wants]
theorem next_one : Sp.fromNext [rowTwo, rowOne] ⟨#[]⟩ 1 = ⟨#[53, 44, 97, 46, 115, 101, 114, 118, 105, 99, 101, 44, 49]⟩ := by
  rw [Sp.fromNext, bad_one, empty_yes]
  have e : Sp.outL true (Sp.placeRow ⟨#[]⟩) [rowTwo, rowOne] (1 : Int).toNat = [rowTwo] := by simp [Sp.outL, Sp.wants]
  rw [e]
  exact two_curs
theorem err_one : Sp.fromErr [rowTwo, rowOne] ⟨#[]⟩ = 0 := by rw [Sp.fromErr, bad_one]; rfl
theorem out_two : Sp.outL false (Sp.placeRow ⟨#[53, 44, 97, 46, 115, 101, 114, 118, 105, 99, 101, 44, 49]⟩) [rowTwo, rowOne] (9 : Int).toNat = [rowOne] := by
  rw [Sp.placeRow, shown_place]
  kernel_rfl
theorem from_two : Sp.fromRows [rowTwo, rowOne] ⟨#[53, 44, 97, 46, 115, 101, 114, 118, 105, 99, 101, 44, 49]⟩ 9 = [rowOne] := by rw [Sp.fromRows, bad_two, c1_no]; exact out_two
theorem next_two : Sp.fromNext [rowTwo, rowOne] ⟨#[53, 44, 97, 46, 115, 101, 114, 118, 105, 99, 101, 44, 49]⟩ 9 = ⟨#[55, 44, 97, 46, 115, 101, 114, 118, 105, 99, 101, 44, 50]⟩ := by
  rw [Sp.fromNext, bad_two, c1_no]
  show Sp.nextS _ (Sp.outL false (Sp.placeRow ⟨#[53, 44, 97, 46, 115, 101, 114, 118, 105, 99, 101, 44, 49]⟩) [rowTwo, rowOne] (9 : Int).toNat) = _
  rw [out_two]
  exact rone_curs
theorem err_two : Sp.fromErr [rowTwo, rowOne] ⟨#[53, 44, 97, 46, 115, 101, 114, 118, 105, 99, 101, 44, 49]⟩ = 0 := by rw [Sp.fromErr, bad_two]; rfl
theorem shown_size : Sp.sizeL [rowTwo, rowOne] = 36 := by decide +kernel
theorem shown_keep : Sp.keepL [rowTwo, rowOne] 35 = [rowOne] := by kernel_rfl
theorem ok_one : ∀ r ∈ [rowOne], okRow r := fun r h => by obtain rfl := List.mem_singleton.1 h; exact ⟨by decide, by decide, by decide⟩
theorem ok_two : ∀ r ∈ [rowTwo], okRow r := fun r h => by obtain rfl := List.mem_singleton.1 h; exact ⟨by decide, by decide, by decide⟩
theorem fits_two : Fits [rowTwo, rowOne] := fun r h => by
  rcases List.mem_cons.1 h with rfl | h
  · exact ⟨by decide, by decide⟩
  · obtain rfl := List.mem_singleton.1 h; exact ⟨by decide, by decide⟩

theorem at_any (t n : Int) (w : World) : Calls Tryz.prog 21 #[.int .i64 t, .int .i64 n] w fun e w' => e = .returned (rowV ⟨t, aServ, n, 1, aX⟩) ∧ Below w.heap.size w w' := by
  go_enter Tryz.func21, Tryz.ntmps21
  go_wp2
  (try simp only [Exit.inBlock, Exit.then])
  refine bodyPost_ret (v := rowV ⟨t, aServ, n, 1, aX⟩) ?_ rfl ⟨rfl, ?_⟩
  · simp [results, Tryz.results21, go_sem]
    rfl
  · repeat' (first | exact Below.refl _ _ | refine Below.setCell ?_ (Nat.le_refl _) _ | refine Below.alloc ?_ (Nat.le_refl _) _)
theorem rd_one (w : World) (r : RowD) : Rd (w.alloc (.cells (rowC r).toArray 37)) (w.alloc (.cells (rowC r).toArray 37)).heap.size 5 (some ⟨w.heap.size, 0, none⟩) 1 (rowsC [r]) := by
  have := Rd.fresh w (rowC r).toArray 37 1 5 rfl
  rw [← World.size_alloc w (.cells (rowC r).toArray 37)] at this
  simpa [rowsC] using this
theorem rd_rowOne (w : World) : Rd (w.alloc (.cells #[.int .i64 7, .string aServ, .int .i64 2, .int .i64 1, .string aX] 37)) (w.alloc (.cells #[.int .i64 7, .string aServ, .int .i64 2, .int .i64 1, .string aX] 37)).heap.size 5 (some ⟨w.heap.size, 0, none⟩) 1 (rowsC [rowOne]) := rd_one w rowOne
theorem rd_rowTwo (w : World) : Rd (w.alloc (.cells #[.int .i64 5, .string aServ, .int .i64 1, .int .i64 1, .string aX] 37)) (w.alloc (.cells #[.int .i64 5, .string aServ, .int .i64 1, .int .i64 1, .string aX] 37)).heap.size 5 (some ⟨w.heap.size, 0, none⟩) 1 (rowsC [rowTwo]) := rd_one w rowTwo
theorem first_cells (r : RowD) (l : List RowD) (w : World) (B n : Nat) (A : Option Addr) (h : Rd w B 5 A n (rowsC (r :: l))) : ∃ ad, A = some ad ∧ ∀ W, Below B w W →
    W.cell? ad = some (.int .i64 r.time) ∧ W.cell? ⟨ad.block, ad.off + 1, none⟩ = some (.string r.unit) ∧ W.cell? ⟨ad.block, ad.off + 2, none⟩ = some (.int .i64 r.n) ∧ W.cell? ⟨ad.block, ad.off + 3, none⟩ = some (.int .i64 r.kind) ∧ W.cell? ⟨ad.block, ad.off + 4, none⟩ = some (.string r.text) := by
  have := Rd.rowAt h 0 (by simp)
  simpa [addr0] using this

set_option maxRecDepth 100000 in
set_option maxHeartbeats 16000000 in
theorem shown_any (w : World) (E : Env w) : Calls Tryz.prog 8 #[] w fun e w' => e = .returned (.bool true) ∧ Below w.heap.size w w' := by
  have HA1 := Lib.hid (fun w => at_any 7 2 w)
  have HA2 := Lib.hid (fun w => at_any 5 1 w)
  have HR1 := Lib.hid rd_rowOne
  have HR2 := Lib.hid rd_rowTwo
  have HADD := Lib.hid (fun A1 c1 A2 c2 w r1 r2 => add_any [rowOne] [rowTwo] ok_one ok_two A1 A2 1 c1 1 c2 w r1 r2 (by decide) (by decide))
  rw [shown_add] at HADD
  have HF1 := Lib.hid (fun A c w h E => from_any [rowTwo, rowOne] fits_two A 2 c w.heap.size ⟨#[]⟩ 1 w h (Nat.le_refl _) (by decide) (by decide) E)
  rw [from_one, next_one, err_one] at HF1
  have HF2 := Lib.hid (fun A c w h E => from_any [rowTwo, rowOne] fits_two A 2 c w.heap.size ⟨#[53, 44, 97, 46, 115, 101, 114, 118, 105, 99, 101, 44, 49]⟩ 9 w h (Nat.le_refl _) (by decide) (by decide) E)
  rw [from_two, next_two, err_two] at HF2
  have HMY := Lib.hid (fun A c B w h hB => mayl_any [rowTwo, rowOne] fits_two A 2 c B w h hB (by decide))
  rw [shown_may] at HMY
  have HSZ := Lib.hid (fun A c B w h hB E => size_any [rowTwo, rowOne] fits_two A 2 c B w h hB (by decide) E)
  rw [shown_size] at HSZ
  have HKP := Lib.hid (fun A c B w h hB hc E => keep_any [rowTwo, rowOne] fits_two A 2 c B 35 w h hB (by decide) hc E)
  rw [shown_keep] at HKP
  simp only [rowV, rowC] at HA1 HA2
  have HC1 := Lib.hid (first_cells rowTwo [rowOne])
  have HC2 := Lib.hid (first_cells rowOne [])
  go_enter Tryz.func8, Tryz.ntmps8
  go_wp2_with fail
  refine (HA1.out _).mono ?_
  rintro e w1 ⟨rfl, hb1⟩
  have HB1 : Hid (Below w.heap.size w (w1.alloc (.cells #[.int .i64 7, .string aServ, .int .i64 2, .int .i64 1, .string aX] 37))) := Lib.hid (hb1.alloc hb1.size _)
  have HD1 := Lib.hid (HR1.out w1)
  clear hb1
  go_wp2_with fail
  generalize (w1.alloc (.cells #[.int .i64 7, .string aServ, .int .i64 2, .int .i64 1, .string aX] 37)) = w2 at *
  generalize w1.heap.size = b1 at *
  refine (HA2.out _).mono ?_
  rintro e w3 ⟨rfl, hb3⟩
  have HB3 : Hid (Below w.heap.size w (w3.alloc (.cells #[.int .i64 5, .string aServ, .int .i64 1, .int .i64 1, .string aX] 37))) := Lib.hid ((HB1.out.trans (hb3.mono HB1.out.size)).alloc ((HB1.out.trans (hb3.mono HB1.out.size)).size) _)
  have HD1' := Lib.hid ((((Rd.below HD1.out hb3).more hb3.size).alloc (Nat.le_refl _) (.cells #[.int .i64 5, .string aServ, .int .i64 1, .int .i64 1, .string aX] 37)).more (B' := (w3.alloc (.cells #[.int .i64 5, .string aServ, .int .i64 1, .int .i64 1, .string aX] 37)).heap.size) (by simp))
  have HD2 := Lib.hid (HR2.out w3)
  clear hb3 HB1 HD1
  go_wp2_with fail
  generalize (w3.alloc (.cells #[.int .i64 5, .string aServ, .int .i64 1, .int .i64 1, .string aX] 37)) = w4 at *
  generalize w3.heap.size = b3 at *
  refine (HADD.out _ _ _ _ _ HD1'.out HD2.out).mono ?_
  rintro e w5 ⟨A, c, rfl, hr5, hc5, hb5⟩
  have hcap : 2 ≤ c := hc5.2
  have HB5 : Hid (Below w.heap.size w w5) := Lib.hid (HB3.out.trans (hb5.mono HB3.out.size))
  have HD5 := Lib.hid hr5
  clear hr5 hc5 hb5 HB3 HD1' HD2 HADD
  go_wp2_with fail
  refine (HF1.out A c _ HD5.out (E.on HB5.out)).mono ?_
  rintro e w6 ⟨A6, c6, rfl, hr6, hb6⟩
  have HB6 : Hid (Below w.heap.size w w6) := Lib.hid (HB5.out.trans (hb6.mono HB5.out.size))
  have HD6 := Lib.hid ((Rd.below HD5.out hb6).more hb6.size)
  clear hr6 hb6 HB5 HD5 HF1
  go_wp2_with fail
  refine (HF2.out A c _ HD6.out (E.on HB6.out)).mono ?_
  rintro e w7 ⟨A7, c7, rfl, hr7, hb7⟩
  have HB7 : Hid (Below w.heap.size w w7) := Lib.hid (HB6.out.trans (hb7.mono HB6.out.size))
  have HD7 := Lib.hid ((Rd.below HD6.out hb7).more hb7.size)
  have HE7 := Lib.hid hr7
  clear hr7 hb7 HB6 HD6 HF2
  go_upto_region 4 with fail
  obtain ⟨ad, rfl, hc1⟩ := HC1.out _ _ _ _ HD7.out
  obtain ⟨ae, rfl, hc2⟩ := HC2.out _ _ _ _ HE7.out
  have k0 : ∀ W, Below w7.heap.size w7 W → W.cell? ad = some (.int .i64 5) := fun W hW => (hc1 W hW).1
  have k1 : ∀ W, Below w7.heap.size w7 W → W.cell? ⟨ad.block, ad.off + 1, none⟩ = some (.string aServ) := fun W hW => (hc1 W hW).2.1
  have k2 : ∀ W, Below w7.heap.size w7 W → W.cell? ⟨ad.block, ad.off + 2, none⟩ = some (.int .i64 1) := fun W hW => (hc1 W hW).2.2.1
  have k3 : ∀ W, Below w7.heap.size w7 W → W.cell? ⟨ad.block, ad.off + 3, none⟩ = some (.int .i64 1) := fun W hW => (hc1 W hW).2.2.2.1
  have k4 : ∀ W, Below w7.heap.size w7 W → W.cell? ⟨ad.block, ad.off + 4, none⟩ = some (.string aX) := fun W hW => (hc1 W hW).2.2.2.2
  have j0 : ∀ W, Below w7.heap.size w7 W → W.cell? ae = some (.int .i64 7) := fun W hW => (hc2 W hW).1
  have j1 : ∀ W, Below w7.heap.size w7 W → W.cell? ⟨ae.block, ae.off + 1, none⟩ = some (.string aServ) := fun W hW => (hc2 W hW).2.1
  have j2 : ∀ W, Below w7.heap.size w7 W → W.cell? ⟨ae.block, ae.off + 2, none⟩ = some (.int .i64 2) := fun W hW => (hc2 W hW).2.2.1
  have j3 : ∀ W, Below w7.heap.size w7 W → W.cell? ⟨ae.block, ae.off + 3, none⟩ = some (.int .i64 1) := fun W hW => (hc2 W hW).2.2.2.1
  have j4 : ∀ W, Below w7.heap.size w7 W → W.cell? ⟨ae.block, ae.off + 4, none⟩ = some (.string aX) := fun W hW => (hc2 W hW).2.2.2.2
  have HDW : Hid (∀ W, Below w7.heap.size w7 W → Rd W w7.heap.size 5 (some ad) 2 (rowsC [rowTwo, rowOne])) := Lib.hid fun W hW => Rd.below HD7.out hW
  have HEN : Hid (∀ W, Below w7.heap.size w7 W → Env W) := Lib.hid fun W hW => E.on (HB7.out.trans (hW.mono HB7.out.size))
  have HFN : Hid (∀ W, Below w7.heap.size w7 W → Below w.heap.size w W) := Lib.hid fun W hW => HB7.out.trans (hW.mono HB7.out.size)
  have hq : Below w7.heap.size w7 w7.drew := (Below.refl _ _).drew
  clear hc1 hc2 HC1 HC2 HD7 HE7 HB7
  go_region_held3 (fun W => Below w7.heap.size w7 W) (first | assumption | exact since_alloc (by assumption) _) (first
    | (go_at_call_of 21 (Value.int .i64 5); refine Calls.mono (HA2.out _) ?_; rintro e wa ⟨rfl, hba⟩; have qa := since_more (by assumption) hba; clear hba)
    | (go_at_call_of 21 (Value.int .i64 7); refine Calls.mono (HA1.out _) ?_; rintro e wb ⟨rfl, hbb⟩; have qb := since_more (by assumption) hbb; clear hbb)
    | (go_at_call 12; refine Calls.mono (HMY.out _ _ _ _ (HDW.out _ ?_) ?_) ?_; (focus assumption); (focus exact Below.size (by assumption)); rintro e wc ⟨rfl, hbc⟩; have qc := since_more (by assumption) hbc; clear hbc)
    | (go_at_call 14; refine Calls.mono (HSZ.out _ _ _ _ (HDW.out _ ?_) ?_ (HEN.out _ ?_)) ?_; (focus assumption); (focus exact Below.size (by assumption)); (focus assumption); rintro e wd ⟨rfl, hbd⟩; have qd := since_more (by assumption) hbd; clear hbd)
    | (go_at_call 16; refine Calls.mono (HKP.out _ _ _ _ (HDW.out _ ?_) ?_ hcap (HEN.out _ ?_)) ?_; (focus assumption); (focus exact Below.size (by assumption)); (focus assumption); rintro e we ⟨Ak, ck, rfl, hrk, hbe⟩; have qe := since_more (by assumption) hbe; clear hbe hrk))
  all_goals
    go_wp2
    go_ret
    refine ⟨rfl, HFN.out _ ?_⟩
    first | assumption | exact since_drew (by assumption) | exact since_alloc (by assumption) _

end Go.Proofs.YtkgogenmhiclcaaGreatDoor
