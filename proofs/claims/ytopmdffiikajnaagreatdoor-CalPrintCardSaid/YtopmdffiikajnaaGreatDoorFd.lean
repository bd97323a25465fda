/-
  The reference: a calendar as text: the walk.
-/
import Derived.Test.YtopmdffiikajnaaGreatDoorFc
import Derived.Test.YtopmdffiikajnaaGreatDoorEc
import Derived.Test.YtopmdffiikajnaaGreatDoorCf
namespace Go.Proofs.YtopmdffiikajnaaGreatDoor
open Go.RowKit Go.Shelf

namespace Sp
theorem joinL_snoc (c : List UInt8) : ∀ (xs : List (List UInt8)) (x : List UInt8), joinL c (xs ++ [x]) = if xs = [] then x else joinL c xs ++ (c ++ x)
  | [], _ => rfl
  | [y], x => by simp [joinL]
  | y :: z :: r, x => by
    have ih := joinL_snoc c (z :: r) x
    rw [if_neg (by simp)] at ih
    rw [if_neg (by simp)]
    show y ++ c ++ joinL c ((z :: r) ++ [x]) = _
    rw [ih]
    simp [joinL]
def sepF : Nat → List UInt8
  | 0 => [45]
  | 1 => [45]
  | 2 => [32]
  | 3 => [58]
  | 4 => [58]
  | _ => []
def fieldsTo (c : CalD) : Nat → List UInt8
  | 0 => []
  | k + 1 => fieldsTo c k ++ (fieldL (c.field k) k ++ sepF k)
def daysTx (c : CalD) : List UInt8 := if c.days.isEmpty then [] else joinL [44] (c.days.map dayName) ++ [32]
theorem calL_eq (c : CalD) : calL c = daysTx c ++ fieldsTo c 6 := by
  simp [calL, daysTx, fieldsTo, sepF, CalD.field]
theorem days_ne {l : List Int} (h : mayDays 0 l = true) (hne : l ≠ []) : joinL [44] (l.map dayName) ≠ [] := fun e => by
  have := names_head l hne h
  rw [e] at this
  cases this
theorem printC_non {c : CalD} (h : mayCal c = false) : printC c = [] := by
  unfold printC
  rw [if_neg (by rw [h]; decide)]
theorem mayCal_mayDays {c : CalD} (h : mayCal c = true) : mayDays 0 c.days = true := by
  rw [mayCal_from, Bool.and_eq_true] at h
  exact h.1
end Sp
theorem txt_step0 {y T : ByteArray} {P : List UInt8} {ls : List (List UInt8)} {t : List UInt8} (hy : y = Sp.bts (P ++ Sp.joinL [44] ls)) (hT : T = Sp.bts t) (h : ls = []) : y ++ T = Sp.bts (P ++ Sp.joinL [44] (ls ++ [t])) := by
  subst h
  rw [hy, hT, bts_app]
  simp [Sp.joinL]
theorem txt_step1 {y T : ByteArray} {P : List UInt8} {ls : List (List UInt8)} {t : List UInt8} (hy : y = Sp.bts (P ++ Sp.joinL [44] ls)) (hT : T = Sp.bts t) (h : ls ≠ []) : y ++ ⟨#[44]⟩ ++ T = Sp.bts (P ++ Sp.joinL [44] (ls ++ [t])) := by
  rw [hy, hT, show (⟨#[44]⟩ : ByteArray) = Sp.bts [44] from rfl, bts_app, bts_app, Sp.joinL_snoc, if_neg h]
  simp
theorem sep_at (W : World) (j : Nat) (h : j < 6) : (W.alloc (.cells #[.string ⟨#[45]⟩, .string ⟨#[45]⟩, .string ⟨#[32]⟩, .string ⟨#[58]⟩, .string ⟨#[58]⟩, .string ⟨#[]⟩] 9)).cell? ⟨W.heap.size, j, none⟩ = some (.string (Sp.bts (Sp.sepF j))) := by
  have hh := World.alloc_heap_new W (.cells #[.string ⟨#[45]⟩, .string ⟨#[45]⟩, .string ⟨#[32]⟩, .string ⟨#[58]⟩, .string ⟨#[58]⟩, .string ⟨#[]⟩] 9)
  have e : j = 0 ∨ j = 1 ∨ j = 2 ∨ j = 3 ∨ j = 4 ∨ j = 5 := by omega
  rcases e with rfl | rfl | rfl | rfl | rfl | rfl <;> (simp only [World.cell?, hh]; rfl)
set_option maxRecDepth 100000 in
set_option maxHeartbeats 16000000 in
theorem rprint_any (s : CalS) (w : World) (h : CalGood w s) : Calls Tryz.prog 20 #[calV s] w fun e w' => e = .returned (.string (Sp.bts (Sp.printC s.cal))) ∧ Below w.heap.size w w' := by
  obtain ⟨SA, SN, SC, hfa, hpa, hln, hbn⟩ : ∃ (SA : Nat → Option Addr) (SN SC : Nat → Nat), (∀ i : Nat, i < 6 → ∀ W, Calls Tryz.prog 44 #[calV s, .int .i64 i] W fun e w' => e = .returned (.slice (SA i) (SN i) (SC i)) ∧ Below W.heap.size W w') ∧
      (∀ i, i < 6 → Rd w w.heap.size 3 (SA i) (SN i) (partsC (s.cal.field i))) ∧ (∀ i, i < 6 → (s.cal.field i).length = SN i) ∧ (∀ i, SN i ≤ 9223372036854775807) := by
    refine ⟨fun i => (s.sl i).A, fun i => (s.sl i).n, fun i => (s.sl i).c, fun i hi W => field_any s i hi W, fun i hi => h.rf i hi, fun i hi => ?_, h.bf⟩
    have h1 := (h.rf i hi).1
    rw [partsC_len] at h1
    show (s.cal.field i).length = (s.sl i).n
    omega
  have hra := h.rd
  have hdl : s.cal.days.length = s.d.n := by
    have h1 := h.rd.1
    rw [intsC_len] at h1
    omega
  have hmy : ∀ W, Below w.heap.size w W → Calls Tryz.prog 18 #[calV s] W fun e w' => e = .returned (.bool (Sp.mayCal s.cal)) ∧ Below W.heap.size W w' := fun W hW => rmay_any s W (h.on hW)
  clear h
  obtain ⟨⟨dA, dn, dc⟩, ⟨A0, n0, c0⟩, ⟨A1, n1, c1⟩, ⟨A2, n2, c2⟩, ⟨A3, n3, c3⟩, ⟨A4, n4, c4⟩, ⟨A5, n5, c5⟩, cal⟩ := s
  dsimp only at hra hdl hpa hln
  obtain ⟨M, hM⟩ : ∃ M, M = Sp.mayCal cal := ⟨_, rfl⟩
  dsimp only at hmy
  rw [← hM] at hmy
  have HFA := Lib.hid hfa
  have HPA := Lib.hid (fun i hi k hk => Rd.partAt (hpa i hi) k hk)
  have HRA := Lib.hid (fun k hk => Rd.intAt hra k hk)
  have HLN := Lib.hid hln
  have HDL := Lib.hid hdl
  have HMY := Lib.hid hmy
  have HM := Lib.hid hM
  clear hfa hpa hln hbn hra hdl hM hmy
  have hcb := CBox.new w ⟨⟨dA, dn, dc⟩, ⟨A0, n0, c0⟩, ⟨A1, n1, c1⟩, ⟨A2, n2, c2⟩, ⟨A3, n3, c3⟩, ⟨A4, n4, c4⟩, ⟨A5, n5, c5⟩, cal⟩
  have hw0 : Below w.heap.size w (w.alloc (.cells #[.slice dA dn dc, .slice A0 n0 c0, .slice A1 n1 c1, .slice A2 n2 c2, .slice A3 n3 c3, .slice A4 n4 c4, .slice A5 n5 c5] 26)) := (Below.refl _ _).alloc (Nat.le_refl _) _
  have hlt : w.heap.size < (w.alloc (.cells #[.slice dA dn dc, .slice A0 n0 c0, .slice A1 n1 c1, .slice A2 n2 c2, .slice A3 n3 c3, .slice A4 n4 c4, .slice A5 n5 c5] 26)).heap.size := by simp
  simp only [slV] at hcb
  simp only [calV, slV] at HFA HMY ⊢
  go_enter Tryz.func20, Tryz.ntmps20
  go_upto_region 1 with fail
  generalize w.alloc (.cells #[.slice dA dn dc, .slice A0 n0 c0, .slice A1 n1 c1, .slice A2 n2 c2, .slice A3 n3 c3, .slice A4 n4 c4, .slice A5 n5 c5] 26) = w1 at *
  have HC1 := Lib.hid hcb
  have HW := Lib.hid hw0
  clear hw0 hcb
  obtain ⟨k0, k1, k2, k3, k4, k5, k6⟩ := HC1.out
  simp only [slV] at k0 k1 k2 k3 k4 k5 k6
  go_wp2_with fail
  refine (HMY.out w1 HW.out).mono ?_
  rintro e w2 ⟨rfl, hb2⟩
  clear k0 k1 k2 k3 k4 k5 k6
  have HB2 := Lib.hid (HW.out.trans (hb2.mono HW.out.size))
  have HC2 := Lib.hid (CBox.on HC1.out hb2 hlt)
  have hlt2 : w.heap.size < w2.heap.size := Nat.lt_of_lt_of_le hlt hb2.size
  clear hb2 HC1 HW hlt
  cases M with
  | false =>
    have HP : Hid (Sp.printC cal = []) := Lib.hid (Sp.printC_non HM.out.symm)
    go_wp2
    go_ret
    exact ⟨rret_str (by rw [HP.out]; rfl), HB2.out⟩
  | true =>
    have HP : Hid (Sp.printC cal = Sp.daysTx cal ++ Sp.fieldsTo cal 6) := Lib.hid (by
      unfold Sp.printC
      rw [← HM.out]
      exact Sp.calL_eq cal)
    have HML := Lib.hid (Sp.mayCal_lists HM.out.symm)
    have HMD := Lib.hid (Sp.mayCal_days HM.out.symm)
    have HMN := Lib.hid (Sp.mayCal_lens HM.out.symm)
    have HDY := Lib.hid (Sp.mayCal_mayDays HM.out.symm)
    have hd7 : dn ≤ 7 := by have := HMD.out.2; have := HDL.out; omega
    have p0 := HC2.out.c0
    simp only [slV] at p0
    go_upto_region 5 with fail
    clear p0
    go_wp2_with fail
    go_loopw [3, 15] (fun sv iv wr => ∃ (k : Nat) (x : ByteArray), k ≤ dn ∧ iv = .int .i64 k ∧ sv = .string x ∧ Hid (x = Sp.bts ([] ++ Sp.joinL [44] ((cal.days.take k).map Sp.dayName))) ∧ x.size ≤ 4 * k ∧ wr = w2) (fun _ iv _ => dn - (intOf iv).toNat)
    case atStart => exact ⟨0, _, Nat.zero_le _, rfl, rfl, Lib.hid rfl, Nat.zero_le _, rfl⟩
    case round =>
      obtain ⟨k, x, hk, rfl, rfl, HX, hz, rfl⟩ := hrel
      obtain ⟨w2, rfl⟩ : ∃ wo : World, wo = wr := ⟨_, rfl⟩
      by_cases hkd : k < dn
      · have hx1 : (k : Int) < (dn : Int) := by omega
        have hx0 : (0 : Int) ≤ (k : Int) := by omega
        have v1 : IntKind.i64.wrap ((k : Int) + 1) = ((k + 1 : Nat) : Int) := by rw [IntKind.wrap_i64]; omega
        have hkl : k < cal.days.length := by rw [HDL.out]; exact hkd
        obtain ⟨a1, rfl, hc1⟩ := HRA.out k hkl
        have cc0 := hc1 _ HB2.out
        have HTK : Hid ((cal.days.take (k + 1)).map Sp.dayName = (cal.days.take k).map Sp.dayName ++ [Sp.dayName cal.days[k]]) := Lib.hid (by rw [List.take_succ_eq_append_getElem hkl, List.map_append, List.map_singleton])
        have HLL : Hid (((cal.days.take k).map Sp.dayName).length = k) := Lib.hid (by rw [List.length_map, List.length_take]; omega)
        have hdn := HMD.out.1 _ (List.getElem_mem hkl)
        have HNM := Lib.hid (rdayName_any cal.days[k] hdn)
        have hl3 := Sp.dayName_len cal.days[k]
        obtain ⟨T, hT⟩ : ∃ T, T = Sp.bts (Sp.dayName cal.days[k]) := ⟨_, rfl⟩
        have hT3 : T.size ≤ 3 := by rw [hT, bts_size]; exact hl3
        rw [← hT] at HNM
        have HT := Lib.hid hT
        clear hc1 hdn hl3 hT
        generalize Sp.dayName cal.days[k] = nm at *
        generalize cal.days[k] = y at *
        generalize (cal.days.take k).map Sp.dayName = ls at *
        clear hkl
        rcases Nat.eq_zero_or_pos k with rfl | hk0
        · rw [show a1.add 0 = a1 by simp [Addr.add]] at cc0
          have HX2 := Lib.hid (txt_step0 HX.out HT.out (List.length_eq_zero_iff.1 HLL.out))
          go_wp2_with fail
          refine (HNM.out _).mono ?_
          rintro e w9 ⟨rfl, rfl⟩
          go_wp2
          go_roundw
          case rel => exact ⟨1, _, by omega, rfl, rfl, Lib.hid (by rw [HTK.out]; exact HX2.out), by rw [ByteArray.size_append]; omega, by trivial⟩
          case measure => simp [intOf]; omega
        · have hk1 : (0 : Int) < (k : Int) := by omega
          have hk2 : decide (0 < k) = true := decide_eq_true hk0
          have HX2 := Lib.hid (txt_step1 HX.out HT.out (fun e => by have := HLL.out; rw [e] at this; simp at this; omega))
          go_wp2_with fail
          refine (HNM.out _).mono ?_
          rintro e w9 ⟨rfl, rfl⟩
          go_wp2
          go_roundw
          case rel => exact ⟨k + 1, _, by omega, by first | rfl | go_num, rfl, Lib.hid (by rw [HTK.out]; exact HX2.out), by rw [ByteArray.size_append, ByteArray.size_append]; show _ + 1 + _ ≤ _; omega, by trivial⟩
          case measure => simp [intOf]; omega
      · obtain rfl : k = dn := by omega
        have hx1 : ¬ (k : Int) < (k : Int) := by omega
        have HXD : Hid (x = Sp.bts (Sp.joinL [44] (cal.days.map Sp.dayName))) := Lib.hid (by
          rw [HX.out, List.take_of_length_le (by rw [HDL.out]; omega)]
          rfl)
        clear HX
        have hfin : ∃ y : ByteArray, y.size ≤ 32 ∧ Hid (y = Sp.bts (Sp.daysTx cal)) ∧ (k = 0 → x = y) ∧ (0 < k → x ++ ⟨#[32]⟩ = y) := by
          rcases Nat.eq_zero_or_pos k with e | e
          · have h0 : cal.days = [] := List.length_eq_zero_iff.1 (by rw [HDL.out]; exact e)
            exact ⟨x, by omega, Lib.hid (by rw [HXD.out]; unfold Sp.daysTx; rw [h0]; rfl), fun _ => rfl, fun h => by omega⟩
          · refine ⟨x ++ ⟨#[32]⟩, by rw [ByteArray.size_append]; show _ + 1 ≤ 32; omega, Lib.hid ?_, fun h => by omega, fun _ => rfl⟩
            have h0 : cal.days.isEmpty = false := by
              cases hc : cal.days with
              | nil => have := HDL.out; rw [hc] at this; simp at this; omega
              | cons a r => rfl
            unfold Sp.daysTx
            rw [HXD.out, h0, show (⟨#[32]⟩ : ByteArray) = Sp.bts [32] from rfl, bts_app]
            rfl
        obtain ⟨y, hy32, HY, hy0, hy1⟩ := hfin
        have HY0 := Lib.hid hy0
        have HY1 := Lib.hid hy1
        clear hy0 hy1
        have HEM : Hid (x.toList.isEmpty = decide (k = 0)) := Lib.hid (by
          rcases Nat.eq_zero_or_pos k with e | e
          · have h0 : cal.days = [] := List.length_eq_zero_iff.1 (by rw [HDL.out]; exact e)
            rw [HXD.out, Lib.toList_data, bts_list, h0, e]; rfl
          · have h0 : cal.days ≠ [] := fun hc => by have := HDL.out; rw [hc] at this; simp at this; omega
            rw [HXD.out, Lib.toList_data, bts_list, decide_eq_false (by omega)]
            cases hj : Sp.joinL [44] (cal.days.map Sp.dayName) with
            | nil => exact absurd hj (Sp.days_ne HDY.out h0)
            | cons a r => rfl)
        have hx32 : x.size ≤ 28 := by omega
        rcases Nat.eq_zero_or_pos k with hk0 | hk0
        · have he : x.toList.isEmpty = true := by rw [HEM.out, decide_eq_true hk0]
          obtain rfl : x = y := HY0.out hk0
          clear HEM HXD HY0 HY1 hz hk0
          have HYS : Hid (x = Sp.bts (Sp.daysTx cal ++ Sp.fieldsTo cal 0)) := Lib.hid (by rw [HY.out]; simp [Sp.fieldsTo])
          clear HY
          go_wp2_with fail
          go_loopw [3, 6] (fun sv iv wr => ∃ (i : Nat) (x : ByteArray), i ≤ 6 ∧ iv = .int .i64 i ∧ sv = .string x ∧ Hid (x = Sp.bts (Sp.daysTx cal ++ Sp.fieldsTo cal i)) ∧ x.size ≤ 32 + 80 * i ∧ Hid (Below w2.heap.size w2 wr)) (fun _ iv _ => 6 - (intOf iv).toNat)
          case atStart => exact ⟨0, x, by decide, rfl, rfl, HYS, hy32, Lib.hid (Below.refl _ _)⟩
          case round =>
            obtain ⟨i, x, hi, rfl, rfl, HX, hz, HB⟩ := hrel
            by_cases hi6 : i < 6
            · have hy1 : (i : Int) < 6 := by omega
              have v2 : IntKind.i64.wrap ((i : Int) + 1) = ((i + 1 : Nat) : Int) := by rw [IntKind.wrap_i64]; omega
              obtain ⟨k0, k1, k2, k3, k4, k5, k6⟩ := CBox.on HC2.out HB.out hlt2
              simp only [slV] at k0 k1 k2 k3 k4 k5 k6
              have HF1 := Lib.hid (HFA.out i hi6 wr)
              have HCL := Lib.hid (HLN.out i hi6)
              have HPA1 := Lib.hid (fun k hk => HPA.out i hi6 k hk)
              have HM1 := Lib.hid (HML.out i hi6)
              have hn4 : SN i ≤ 4 := by have := HMN.out i hi6; have := HLN.out i hi6; omega
              have HFS : Hid (Sp.fieldsTo cal (i + 1) = Sp.fieldsTo cal i ++ (Sp.joinL [44] ((cal.field i).map fun q => Sp.partL q i) ++ Sp.sepF i)) := Lib.hid rfl
              have hsep : (Sp.bts (Sp.sepF i)).size ≤ 1 := by
                have e : i = 0 ∨ i = 1 ∨ i = 2 ∨ i = 3 ∨ i = 4 ∨ i = 5 := by omega
                rcases e with rfl | rfl | rfl | rfl | rfl | rfl <;> decide
              generalize SA i = A at *
              generalize SN i = n at *
              generalize SC i = C at *
              generalize cal.field i = l at *
              go_wp2_with fail
              refine HF1.out.mono ?_
              rintro e w3 ⟨rfl, hb3⟩
              have HB3 := Lib.hid (HB.out.trans (hb3.mono HB.out.size))
              clear hb3 HF1 k0 k1 k2 k3 k4 k5 k6 HB
              go_wp2_with fail
              go_loopw [3, 41] (fun sv iv wr => ∃ (k : Nat) (y : ByteArray), k ≤ n ∧ iv = .int .i64 k ∧ sv = .string y ∧ Hid (y = Sp.bts ((Sp.daysTx cal ++ Sp.fieldsTo cal i) ++ Sp.joinL [44] ((l.take k).map fun q => Sp.partL q i))) ∧ y.size ≤ 32 + 80 * i + 16 * k ∧ Hid (Below w2.heap.size w2 wr)) (fun _ iv _ => n - (intOf iv).toNat)
              case atStart => exact ⟨0, _, Nat.zero_le _, rfl, rfl, Lib.hid (by rw [HX.out]; simp [Sp.joinL]), by omega, HB3⟩
              case round =>
                obtain ⟨k, y, hk, rfl, rfl, HY, hzy, HB⟩ := hrel
                by_cases hkn : k < n
                · have hx1 : (k : Int) < (n : Int) := by omega
                  have hx0 : (0 : Int) ≤ (k : Int) := by omega
                  have v1 : IntKind.i64.wrap ((k : Int) + 1) = ((k + 1 : Nat) : Int) := by rw [IntKind.wrap_i64]; omega
                  have hkl : k < l.length := by rw [HCL.out]; exact hkn
                  obtain ⟨a1, rfl, hc1⟩ := HPA1.out k hkl
                  obtain ⟨cc0, cc1, cc2⟩ := hc1 _ (HB2.out.trans (HB.out.mono HB2.out.size))
                  have hmp := HM1.out _ (List.getElem_mem hkl)
                  have HTK : Hid ((l.take (k + 1)).map (fun q => Sp.partL q i) = (l.take k).map (fun q => Sp.partL q i) ++ [Sp.partL l[k] i]) := Lib.hid (by rw [List.take_succ_eq_append_getElem hkl, List.map_append, List.map_singleton])
                  have HLL : Hid (((l.take k).map fun q => Sp.partL q i).length = k) := Lib.hid (by rw [List.length_map, List.length_take]; omega)
                  have HNM := Lib.hid (rpartText_any l[k] i hi6 hmp)
                  have hl15 := Sp.partL_len hmp
                  obtain ⟨T, hT⟩ : ∃ T, T = Sp.bts (Sp.partL l[k] i) := ⟨_, rfl⟩
                  have hT3 : T.size ≤ 15 := by rw [hT, bts_size]; exact hl15
                  rw [← hT] at HNM
                  have HT := Lib.hid hT
                  clear hc1 hmp hl15 hT
                  generalize Sp.partL l[k] i = nm at *
                  generalize l[k] = q at *
                  generalize (l.take k).map (fun q => Sp.partL q i) = ls at *
                  clear hkl
                  have hbs := HB.out.size
                  have HBA := Lib.hid (HB.out.alloc hbs (.cells #[.int .i64 q.fr, .int .i64 q.to, .int .i64 q.st] 43))
                  clear hbs
                  rcases Nat.eq_zero_or_pos k with rfl | hk0
                  · simp only [Nat.zero_mul, show a1.add 0 = a1 by simp [Addr.add]] at cc0 cc1 cc2
                    have HX2 := Lib.hid (txt_step0 HY.out HT.out (List.length_eq_zero_iff.1 HLL.out))
                    go_wp2_with fail
                    refine (HNM.out _).mono ?_
                    rintro e w9 ⟨rfl, hb9⟩
                    have HB9 := Lib.hid (HBA.out.trans (hb9.mono HBA.out.size))
                    clear hb9
                    go_wp2
                    go_roundw
                    case rel => exact ⟨1, _, by omega, rfl, rfl, Lib.hid (by rw [HTK.out]; exact HX2.out), by rw [ByteArray.size_append]; omega, HB9⟩
                    case measure => simp [intOf]; omega
                  · have hk1 : (0 : Int) < (k : Int) := by omega
                    have hk2 : decide (0 < k) = true := decide_eq_true hk0
                    have HX2 := Lib.hid (txt_step1 HY.out HT.out (fun e => by have := HLL.out; rw [e] at this; simp at this; omega))
                    go_wp2_with fail
                    refine (HNM.out _).mono ?_
                    rintro e w9 ⟨rfl, hb9⟩
                    have HB9 := Lib.hid (HBA.out.trans (hb9.mono HBA.out.size))
                    clear hb9
                    go_wp2
                    go_roundw
                    case rel => exact ⟨k + 1, _, by omega, by first | rfl | go_num, rfl, Lib.hid (by rw [HTK.out]; exact HX2.out), by rw [ByteArray.size_append, ByteArray.size_append]; show _ + 1 + _ ≤ _; omega, HB9⟩
                    case measure => simp [intOf]; omega
                · obtain rfl : k = n := by omega
                  have hx1 : ¬ (k : Int) < (k : Int) := by omega
                  have hc := sep_at wr i hi6
                  have hbs := HB.out.size
                  have HBA := Lib.hid (HB.out.alloc hbs (.cells #[.string ⟨#[45]⟩, .string ⟨#[45]⟩, .string ⟨#[32]⟩, .string ⟨#[58]⟩, .string ⟨#[58]⟩, .string ⟨#[]⟩] 9))
                  have HNX : Hid (y ++ Sp.bts (Sp.sepF i) = Sp.bts (Sp.daysTx cal ++ Sp.fieldsTo cal (i + 1))) := Lib.hid (by
                    rw [HY.out, HFS.out, bts_app, List.take_of_length_le (by rw [HCL.out]; omega)]
                    simp)
                  have hi0 : (0 : Int) ≤ (i : Int) := by omega
                  clear hbs HY HX
                  obtain ⟨T, hT⟩ : ∃ T, T = Sp.bts (Sp.sepF i) := ⟨_, rfl⟩
                  rw [← hT] at hc hsep HNX
                  clear hT
                  go_wp2
                  go_roundw
                  case rel => exact ⟨i + 1, _, by omega, by first | rfl | go_num, rfl, HNX, by rw [ByteArray.size_append]; omega, HBA⟩
                  case measure => simp [intOf]; omega
            · obtain rfl : i = 6 := by omega
              have hy1 : ¬ ((6 : Nat) : Int) < 6 := by omega
              have HF := Lib.hid (HB2.out.trans (HB.out.mono HB2.out.size))
              clear HB
              go_wp2
              go_ret
              exact ⟨rret_str (by rw [HX.out, HP.out]), HF.out⟩
        · have he : x.toList.isEmpty = false := by rw [HEM.out, decide_eq_false (by omega)]
          have HXY := Lib.hid (HY1.out hk0)
          clear HEM HXD HY0 HY1 hz
          have HYS : Hid (y = Sp.bts (Sp.daysTx cal ++ Sp.fieldsTo cal 0)) := Lib.hid (by rw [HY.out]; simp [Sp.fieldsTo])
          clear HY
          go_wp2_with fail
          go_loopw [3, 6] (fun sv iv wr => ∃ (i : Nat) (x : ByteArray), i ≤ 6 ∧ iv = .int .i64 i ∧ sv = .string x ∧ Hid (x = Sp.bts (Sp.daysTx cal ++ Sp.fieldsTo cal i)) ∧ x.size ≤ 32 + 80 * i ∧ Hid (Below w2.heap.size w2 wr)) (fun _ iv _ => 6 - (intOf iv).toNat)
          case atStart => exact ⟨0, y, by decide, rfl, by rw [HXY.out], HYS, hy32, Lib.hid (Below.refl _ _)⟩
          case round =>
            obtain ⟨i, x, hi, rfl, rfl, HX, hz, HB⟩ := hrel
            by_cases hi6 : i < 6
            · have hy1 : (i : Int) < 6 := by omega
              have v2 : IntKind.i64.wrap ((i : Int) + 1) = ((i + 1 : Nat) : Int) := by rw [IntKind.wrap_i64]; omega
              obtain ⟨k0, k1, k2, k3, k4, k5, k6⟩ := CBox.on HC2.out HB.out hlt2
              simp only [slV] at k0 k1 k2 k3 k4 k5 k6
              have HF1 := Lib.hid (HFA.out i hi6 wr)
              have HCL := Lib.hid (HLN.out i hi6)
              have HPA1 := Lib.hid (fun k hk => HPA.out i hi6 k hk)
              have HM1 := Lib.hid (HML.out i hi6)
              have hn4 : SN i ≤ 4 := by have := HMN.out i hi6; have := HLN.out i hi6; omega
              have HFS : Hid (Sp.fieldsTo cal (i + 1) = Sp.fieldsTo cal i ++ (Sp.joinL [44] ((cal.field i).map fun q => Sp.partL q i) ++ Sp.sepF i)) := Lib.hid rfl
              have hsep : (Sp.bts (Sp.sepF i)).size ≤ 1 := by
                have e : i = 0 ∨ i = 1 ∨ i = 2 ∨ i = 3 ∨ i = 4 ∨ i = 5 := by omega
                rcases e with rfl | rfl | rfl | rfl | rfl | rfl <;> decide
              generalize SA i = A at *
              generalize SN i = n at *
              generalize SC i = C at *
              generalize cal.field i = l at *
              go_wp2_with fail
              refine HF1.out.mono ?_
              rintro e w3 ⟨rfl, hb3⟩
              have HB3 := Lib.hid (HB.out.trans (hb3.mono HB.out.size))
              clear hb3 HF1 k0 k1 k2 k3 k4 k5 k6 HB
              go_wp2_with fail
              go_loopw [3, 41] (fun sv iv wr => ∃ (k : Nat) (y : ByteArray), k ≤ n ∧ iv = .int .i64 k ∧ sv = .string y ∧ Hid (y = Sp.bts ((Sp.daysTx cal ++ Sp.fieldsTo cal i) ++ Sp.joinL [44] ((l.take k).map fun q => Sp.partL q i))) ∧ y.size ≤ 32 + 80 * i + 16 * k ∧ Hid (Below w2.heap.size w2 wr)) (fun _ iv _ => n - (intOf iv).toNat)
              case atStart => exact ⟨0, _, Nat.zero_le _, rfl, rfl, Lib.hid (by rw [HX.out]; simp [Sp.joinL]), by omega, HB3⟩
              case round =>
                obtain ⟨k, y, hk, rfl, rfl, HY, hzy, HB⟩ := hrel
                by_cases hkn : k < n
                · have hx1 : (k : Int) < (n : Int) := by omega
                  have hx0 : (0 : Int) ≤ (k : Int) := by omega
                  have v1 : IntKind.i64.wrap ((k : Int) + 1) = ((k + 1 : Nat) : Int) := by rw [IntKind.wrap_i64]; omega
                  have hkl : k < l.length := by rw [HCL.out]; exact hkn
                  obtain ⟨a1, rfl, hc1⟩ := HPA1.out k hkl
                  obtain ⟨cc0, cc1, cc2⟩ := hc1 _ (HB2.out.trans (HB.out.mono HB2.out.size))
                  have hmp := HM1.out _ (List.getElem_mem hkl)
                  have HTK : Hid ((l.take (k + 1)).map (fun q => Sp.partL q i) = (l.take k).map (fun q => Sp.partL q i) ++ [Sp.partL l[k] i]) := Lib.hid (by rw [List.take_succ_eq_append_getElem hkl, List.map_append, List.map_singleton])
                  have HLL : Hid (((l.take k).map fun q => Sp.partL q i).length = k) := Lib.hid (by rw [List.length_map, List.length_take]; omega)
                  have HNM := Lib.hid (rpartText_any l[k] i hi6 hmp)
                  have hl15 := Sp.partL_len hmp
                  obtain ⟨T, hT⟩ : ∃ T, T = Sp.bts (Sp.partL l[k] i) := ⟨_, rfl⟩
                  have hT3 : T.size ≤ 15 := by rw [hT, bts_size]; exact hl15
                  rw [← hT] at HNM
                  have HT := Lib.hid hT
                  clear hc1 hmp hl15 hT
                  generalize Sp.partL l[k] i = nm at *
                  generalize l[k] = q at *
                  generalize (l.take k).map (fun q => Sp.partL q i) = ls at *
                  clear hkl
                  have hbs := HB.out.size
                  have HBA := Lib.hid (HB.out.alloc hbs (.cells #[.int .i64 q.fr, .int .i64 q.to, .int .i64 q.st] 43))
                  clear hbs
                  rcases Nat.eq_zero_or_pos k with rfl | hk0
                  · simp only [Nat.zero_mul, show a1.add 0 = a1 by simp [Addr.add]] at cc0 cc1 cc2
                    have HX2 := Lib.hid (txt_step0 HY.out HT.out (List.length_eq_zero_iff.1 HLL.out))
                    go_wp2_with fail
                    refine (HNM.out _).mono ?_
                    rintro e w9 ⟨rfl, hb9⟩
                    have HB9 := Lib.hid (HBA.out.trans (hb9.mono HBA.out.size))
                    clear hb9
                    go_wp2
                    go_roundw
                    case rel => exact ⟨1, _, by omega, rfl, rfl, Lib.hid (by rw [HTK.out]; exact HX2.out), by rw [ByteArray.size_append]; omega, HB9⟩
                    case measure => simp [intOf]; omega
                  · have hk1 : (0 : Int) < (k : Int) := by omega
                    have hk2 : decide (0 < k) = true := decide_eq_true hk0
                    have HX2 := Lib.hid (txt_step1 HY.out HT.out (fun e => by have := HLL.out; rw [e] at this; simp at this; omega))
                    go_wp2_with fail
                    refine (HNM.out _).mono ?_
                    rintro e w9 ⟨rfl, hb9⟩
                    have HB9 := Lib.hid (HBA.out.trans (hb9.mono HBA.out.size))
                    clear hb9
                    go_wp2
                    go_roundw
                    case rel => exact ⟨k + 1, _, by omega, by first | rfl | go_num, rfl, Lib.hid (by rw [HTK.out]; exact HX2.out), by rw [ByteArray.size_append, ByteArray.size_append]; show _ + 1 + _ ≤ _; omega, HB9⟩
                    case measure => simp [intOf]; omega
                · obtain rfl : k = n := by omega
                  have hx1 : ¬ (k : Int) < (k : Int) := by omega
                  have hc := sep_at wr i hi6
                  have hbs := HB.out.size
                  have HBA := Lib.hid (HB.out.alloc hbs (.cells #[.string ⟨#[45]⟩, .string ⟨#[45]⟩, .string ⟨#[32]⟩, .string ⟨#[58]⟩, .string ⟨#[58]⟩, .string ⟨#[]⟩] 9))
                  have HNX : Hid (y ++ Sp.bts (Sp.sepF i) = Sp.bts (Sp.daysTx cal ++ Sp.fieldsTo cal (i + 1))) := Lib.hid (by
                    rw [HY.out, HFS.out, bts_app, List.take_of_length_le (by rw [HCL.out]; omega)]
                    simp)
                  have hi0 : (0 : Int) ≤ (i : Int) := by omega
                  clear hbs HY HX
                  obtain ⟨T, hT⟩ : ∃ T, T = Sp.bts (Sp.sepF i) := ⟨_, rfl⟩
                  rw [← hT] at hc hsep HNX
                  clear hT
                  go_wp2
                  go_roundw
                  case rel => exact ⟨i + 1, _, by omega, by first | rfl | go_num, rfl, HNX, by rw [ByteArray.size_append]; omega, HBA⟩
                  case measure => simp [intOf]; omega
            · obtain rfl : i = 6 := by omega
              have hy1 : ¬ ((6 : Nat) : Int) < 6 := by omega
              have HF := Lib.hid (HB2.out.trans (HB.out.mono HB2.out.size))
              clear HB
              go_wp2
              go_ret
              exact ⟨rret_str (by rw [HX.out, HP.out]), HF.out⟩

end Go.Proofs.YtopmdffiikajnaaGreatDoor
