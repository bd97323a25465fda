/-
  What is read of a log from a cursor on: the program's walk and the reference's.
-/
import Derived.Test.YtkgogenmhiclcaaGreatDoorJh
namespace Go.Proofs.YtkgogenmhiclcaaGreatDoor
open Go.RowKit

theorem own_below {w w' : World} {base : Nat} {e : TypeId} {size n : Nat} {v : Value} {xs : List Value} (h : w.ownsRow base e size v n xs) (hb : Below w.heap.size w w') : w'.ownsRow base e size v n xs := by
  rcases h with ⟨hl, h1 | ⟨g, cap, cur, rfl, hbs, hg, hc, h2, h3, h4⟩⟩
  · exact ⟨hl, .inl h1⟩
  · exact ⟨hl, .inr ⟨g, cap, cur, rfl, hbs, by rw [hb.block g (Array.getElem?_eq_some_iff.1 hg).1]; exact hg, hc, h2, h3, h4⟩⟩
namespace Sp
noncomputable def placeRow (s : ByteArray) : RowD := match placeP s with
  | none => zeroR
  | some r => ⟨r.time, r.unit, r.n, 0, ⟨#[]⟩⟩
noncomputable def placeOk (s : ByteArray) : Bool := (placeP s).isSome
/-- which rows are wanted -/
def wants (emp : Bool) (a r : RowD) : Bool := emp || lessB a r
def outL (emp : Bool) (a : RowD) (l : List RowD) (N : Nat) : List RowD := (l.filter (wants emp a)).take N
def nextS (s : ByteArray) (out : List RowD) : ByteArray := match out.getLast? with
  | none => s
  | some r => toB (cursorR r)
noncomputable def badB (l : List RowD) (s : ByteArray) : Bool := (!s.toList.isEmpty && !placeOk s) || !mayLogB l
noncomputable def fromRows (l : List RowD) (s : ByteArray) (n : Int) : List RowD := if badB l s then [] else outL s.toList.isEmpty (placeRow s) l n.toNat
noncomputable def fromNext (l : List RowD) (s : ByteArray) (n : Int) : ByteArray := if badB l s then ⟨#[]⟩ else nextS s (outL s.toList.isEmpty (placeRow s) l n.toNat)
noncomputable def fromErr (l : List RowD) (s : ByteArray) : Int := if badB l s then 1 else 0
theorem out_le (emp : Bool) (a : RowD) (l : List RowD) (N : Nat) : (outL emp a l N).length ≤ l.length := by
  rw [outL, List.length_take]
  have := List.length_filter_le (wants emp a) l
  omega
theorem out_yes (emp : Bool) (a : RowD) (l : List RowD) (N k : Nat) (hk : k < l.length) (h1 : (outL emp a (l.take k) N).length < N) (h2 : wants emp a l[k] = true) : outL emp a (l.take (k + 1)) N = outL emp a (l.take k) N ++ [l[k]] := by
  rw [List.take_succ_eq_append_getElem hk]
  unfold outL at *
  rw [List.filter_append, List.filter_cons_of_pos h2, List.filter_nil]
  rw [List.length_take] at h1
  generalize List.filter (wants emp a) (List.take k l) = F at *
  have h3 : F.length < N := by omega
  rw [List.take_of_length_le (by rw [List.length_append]; exact h3), List.take_of_length_le (by omega)]
theorem out_no (emp : Bool) (a : RowD) (l : List RowD) (N k : Nat) (hk : k < l.length) (h2 : wants emp a l[k] = false) : outL emp a (l.take (k + 1)) N = outL emp a (l.take k) N := by
  rw [List.take_succ_eq_append_getElem hk]
  unfold outL at *
  rw [List.filter_append, List.filter_cons_of_neg (by rw [h2]; simp), List.filter_nil, List.append_nil]
theorem out_full (emp : Bool) (a : RowD) (l : List RowD) (N k : Nat) (hk : k < l.length) (h1 : N ≤ (outL emp a (l.take k) N).length) : outL emp a (l.take (k + 1)) N = outL emp a (l.take k) N := by
  rw [List.take_succ_eq_append_getElem hk]
  unfold outL at *
  rw [List.length_take] at h1
  rw [List.filter_append, List.take_append_of_le_length (by omega)]
end Sp
theorem placeE_row (s : ByteArray) : placeE (Sp.placeP s) = .tuple #[rowV (Sp.placeRow s), .bool (Sp.placeOk s)] := by
  unfold Sp.placeRow Sp.placeOk
  cases Sp.placeP s <;> rfl
theorem fits_out {l : List RowD} (hl : Fits l) (emp : Bool) (a : RowD) (N : Nat) : Fits (Sp.outL emp a l N) := fun r hr => hl r (List.mem_filter.1 (List.mem_of_mem_take hr)).1

theorem RBox.grown {w w' : World} {b : Nat} {r : RowD} {v : Value} (h : RBox w b r) (hg : w.grownBy w' v.ownBlock) (hb : b < w.heap.size) (hne : ∀ q, v.ownBlock = some q → q ≠ b) : RBox w' b r := by
  have he : w'.heap[b]? = w.heap[b]? := hg.block b hb (fun e => hne b e.symm rfl)
  have c : ∀ j, w'.cell? ⟨b, j, none⟩ = w.cell? ⟨b, j, none⟩ := fun j => by simp only [World.cell?, he]
  have f : ∀ j, w'.frozen? ⟨b, j, none⟩ = w.frozen? ⟨b, j, none⟩ := fun j => by simp only [World.frozen?, he]
  obtain ⟨c0, c1, c2, c3, c4, f0, f1, f2, f3, f4⟩ := h
  exact ⟨(c 0).trans c0, (c 1).trans c1, (c 2).trans c2, (c 3).trans c3, (c 4).trans c4, (f 0).trans f0, (f 1).trans f1, (f 2).trans f2, (f 3).trans f3, (f 4).trans f4⟩
theorem own_lt {w : World} {base : Nat} {e : TypeId} {size n : Nat} {v : Value} {xs : List Value} (h : w.ownsRow base e size v n xs) : ∀ q, v.ownBlock = some q → q < w.heap.size := by
  intro k hk
  rcases h.2 with ⟨rfl, _⟩ | ⟨g, cap, cur, rfl, _, hg, _⟩
  · cases hk
  · injection hk with hk
    rw [← hk]; exact (Array.getElem?_eq_some_iff.1 hg).1

set_option maxRecDepth 100000 in
set_option maxHeartbeats 16000000 in
theorem from_any (l : List RowD) (hl : Fits l) (A : Option Addr) (n c B : Nat) (s : ByteArray) (nn : Int) (w : World) (h : Rd w B 5 A n (rowsC l)) (hB : B ≤ w.heap.size) (hn : n ≤ 137438953472) (hs : s.size ≤ 1048576) (E : Env w) :
    Calls Tryz.prog 18 #[.slice A n c, .string s, .int .i64 nn] w fun e w' => ∃ A' c', e = .returned (.tuple #[.slice A' (Sp.fromRows l s nn).length c', .string (Sp.fromNext l s nn), .int .i64 (Sp.fromErr l s)]) ∧ Rd w' w'.heap.size 5 A' (Sp.fromRows l s nn).length (rowsC (Sp.fromRows l s nn)) ∧ Below w.heap.size w w' := by
  obtain ⟨i0, hi, hz, hsz, hby⟩ := rowInfo
  have HI := Lib.hid hi
  have HIZ := Lib.hid hz
  have HIS := Lib.hid hsz
  have HIB := Lib.hid hby
  clear hi hz hsz hby
  have hlen : l.length = n := by have := h.1; rw [rowsC_len] at this; omega
  have HL := Lib.hid hlen
  have HF := Lib.hid hl
  have HROW := Lib.hid (fun k hk => Rd.rowAt h k hk)
  have HPL := Lib.hid (fun w (E : Env w) => place_any s w hs E)
  rw [placeE_row] at HPL
  have HMY : Hid (∀ W, Below w.heap.size w W → Calls Tryz.prog 12 #[.slice A n c] W fun e w' => e = .returned (.bool (Sp.mayLogB l)) ∧ Below W.heap.size W w') := Lib.hid fun W hW => mayl_any l hl A n c B W (h.below (hW.mono hB)) (Nat.le_trans hB hW.size) hn
  have HBAD : Hid (∀ b, Sp.badB l s = b → Sp.fromRows l s nn = (if b then [] else Sp.outL s.toList.isEmpty (Sp.placeRow s) l nn.toNat) ∧ Sp.fromNext l s nn = (if b then ⟨#[]⟩ else Sp.nextS s (Sp.outL s.toList.isEmpty (Sp.placeRow s) l nn.toNat)) ∧ Sp.fromErr l s = if b then 1 else 0) := Lib.hid fun b hb => by
    subst hb; exact ⟨rfl, rfl, rfl⟩
  have HB0 : Hid (Sp.badB l s = ((!s.toList.isEmpty && !Sp.placeOk s) || !Sp.mayLogB l)) := Lib.hid rfl
  clear hlen hl
  generalize Sp.placeRow s = pr at *
  generalize Sp.placeOk s = ok at *
  generalize Sp.mayLogB l = may at *
  generalize hemp : s.toList.isEmpty = emp at *
  have HLS := Lib.hid (fun (r : RowD) w => less_any pr r w)
  have HW0 : Hid (∀ r, Sp.wants emp pr r = (emp || lessB pr r)) := Lib.hid fun r => rfl
  obtain ⟨pt, pu, pn, pk, px⟩ := pr
  simp only [rowV, rowC] at HPL
  have HLS' : Hid (∀ (r : RowD) w, Calls Tryz.prog 20 #[.agg #[.int .i64 pt, .string pu, .int .i64 pn, .int .i64 pk, .string px], rowV r] w fun e w' => e = .returned (.bool (lessB ⟨pt, pu, pn, pk, px⟩ r)) ∧ Below w.heap.size w w') := Lib.hid HLS.out
  clear HLS
  go_enter Tryz.func18, Tryz.ntmps18
  go_wp2_with fail
  refine (HPL.out _ E).mono ?_
  rintro e w1 ⟨rfl, hb1⟩
  have HX1 := Lib.hid (RBox.new w1 pt pn pk pu px)
  have HB1 : Hid (Below w.heap.size w (w1.alloc (.cells #[.int .i64 pt, .string pu, .int .i64 pn, .int .i64 pk, .string px] 37))) := Lib.hid (hb1.alloc hb1.size _)
  have hz1 : w1.heap.size < (w1.alloc (.cells #[.int .i64 pt, .string pu, .int .i64 pn, .int .i64 pk, .string px] 37)).heap.size := by simp
  clear hb1 HPL
  go_upto_region 2 with fail
  generalize (w1.alloc (.cells #[.int .i64 pt, .string pu, .int .i64 pn, .int .i64 pk, .string px] 37)) = w2 at *
  generalize w1.heap.size = ba at *
  cases emp with
  | true =>
    go_wp2_with fail
    refine (HMY.out _ HB1.out).mono ?_
    rintro e w3 ⟨rfl, hb3⟩
    have HB3 : Hid (Below w.heap.size w w3) := Lib.hid (HB1.out.trans (hb3.mono HB1.out.size))
    have HX3 := Lib.hid (HX1.out.on hz1 hb3)
    have hz3 : ba < w3.heap.size := by have := hb3.size; omega
    clear hb3 HX1 hz1 HB1
    cases may with
    | false =>
      have HR := Lib.hid (HBAD.out true (by rw [HB0.out]; simp))
      go_wp2
      go_ret3
      obtain ⟨e1, e2, e3⟩ := HR.out
      rw [e1, e2, e3]
      first | exact ⟨none, 0, rfl, Rd.empty, HB3.out⟩ | exact ⟨none, ⟨0, rfl⟩, Rd.empty, HB3.out⟩
    | true =>
      have HR := Lib.hid (HBAD.out false (by rw [HB0.out]; simp))
      have HBW := HB3
      have HXW := HX3
      have hzw := hz3
      clear HB3 HX3 hz3 HBAD HB0 HMY
      go_wp2_with fail
      go_loopw [11, 32] (fun ov iv wr => ∃ (k m : Nat) (O : List RowD), k ≤ n ∧ iv = .int .i64 k ∧ wr.ownsRow w3.heap.size 37 5 ov m (rowsC O) ∧ Below w3.heap.size w3 wr ∧ m ≤ k ∧ Hid (O = Sp.outL true ⟨pt, pu, pn, pk, px⟩ (l.take k) nn.toNat ∧ O.length = m)) (fun _ iv _ => n - (intOf iv).toNat)
      case atStart => exact ⟨0, 0, [], Nat.zero_le _, rfl, ⟨rfl, .inl ⟨rfl, rfl⟩⟩, Below.refl _ _, Nat.le_refl _, Lib.hid ⟨by simp [Sp.outL], rfl⟩⟩
      case round =>
        obtain ⟨k, m, O, hk, rfl, hown, hb, hmk, HO⟩ := hrel
        obtain ⟨OA, oc, rfl⟩ := own_slice hown
        have HBR : Hid (Below w.heap.size w wr) := Lib.hid (HBW.out.trans (hb.mono HBW.out.size))
        have HXR := Lib.hid (HXW.out.on hzw hb)
        have hzr : ba < wr.heap.size := by have := hb.size; omega
        have hw3r : w3.heap.size ≤ wr.heap.size := hb.size
        have HOWN := Lib.hid hown
        have HBB := Lib.hid hb
        clear hown hb
        by_cases hlt : k < n
        · have hkl : k < l.length := by rw [HL.out]; exact hlt
          obtain ⟨ad, rfl, hc⟩ := HROW.out k hkl
          obtain ⟨c0, c1, c2, c3, c4⟩ := hc wr (HBR.out.mono hB)
          have HYES := Lib.hid (Sp.out_yes true ⟨pt, pu, pn, pk, px⟩ l nn.toNat k hkl)
          have HNO := Lib.hid (Sp.out_no true ⟨pt, pu, pn, pk, px⟩ l nn.toNat k hkl)
          have HFU := Lib.hid (Sp.out_full true ⟨pt, pu, pn, pk, px⟩ l nn.toNat k hkl)
          have HFIT := Lib.hid (HF.out l[k] (List.getElem_mem hkl))
          rw [← HO.out.1, HO.out.2] at HYES HFU
          rw [← HO.out.1] at HNO
          clear hc
          generalize l[k] = r at *
          have HWR := Lib.hid (HW0.out r)
          have HLR := Lib.hid (HLS'.out r)
          have HCU := Lib.hid (fun w (E : Env w) => cursor_any r w HFIT.out.1 HFIT.out.2 E)
          generalize lessB ⟨pt, pu, pn, pk, px⟩ r = lr at *
          have HNX : Hid (Sp.nextS s (O ++ [r]) = Sp.toB (Sp.cursorR r)) := Lib.hid (by simp [Sp.nextS])
          generalize Sp.toB (Sp.cursorR r) = cr at *
          have HROWC : Hid (rowsC O ++ rowC r = rowsC (O ++ [r])) := Lib.hid (by simp [rowsC])
          obtain ⟨rt, ru, rn, rk, rx⟩ := r
          simp only [rowV, rowC] at HLR HCU
          have HRC : Hid ((#[.int .i64 rt, .string ru, .int .i64 rn, .int .i64 rk, .string rx] : Array Value).toList = rowC ⟨rt, ru, rn, rk, rx⟩) := Lib.hid rfl
          dsimp only at c0 c1 c2 c3 c4
          have x1 : (0 : Int) ≤ (k : Int) := by omega
          have x2 : (k : Int) < (n : Int) := by omega
          have HXA : Hid (RBox (wr.alloc (.cells #[.int .i64 rt, .string ru, .int .i64 rn, .int .i64 rk, .string rx] 37)) ba ⟨pt, pu, pn, pk, px⟩) := Lib.hid (HXR.out.on (B := wr.heap.size) hzr ((Below.refl _ _).alloc (Nat.le_refl _) _))
          have HRA := Lib.hid (RBox.new wr rt rn rk ru rx)
          have HBA : Hid (Below w3.heap.size w3 (wr.alloc (.cells #[.int .i64 rt, .string ru, .int .i64 rn, .int .i64 rk, .string rx] 37))) := Lib.hid (HBB.out.alloc hw3r _)
          have HOB : Hid (∀ q, (Value.slice OA m oc).ownBlock = some q → q < wr.heap.size) := Lib.hid (own_lt HOWN.out)
          have HOA := Lib.hid (own_below HOWN.out ((Below.refl _ _).alloc (Nat.le_refl _) (.cells #[.int .i64 rt, .string ru, .int .i64 rn, .int .i64 rk, .string rx] 37)))
          have hza : wr.heap.size < (wr.alloc (.cells #[.int .i64 rt, .string ru, .int .i64 rn, .int .i64 rk, .string rx] 37)).heap.size := by simp
          clear HOWN HBB HXR HBR
          go_upto_region 8 with fail
          clear c0 c1 c2 c3 c4
          generalize (wr.alloc (.cells #[.int .i64 rt, .string ru, .int .i64 rn, .int .i64 rk, .string rx] 37)) = w4 at *
          generalize wr.heap.size = br at *
          by_cases hmn : (m : Int) < nn
          · have hmN : m < nn.toNat := by omega
            have HO4 := HOA
            have HB4 := HBA
            have HR4 := HRA
            have hz4 := hza
            clear HOA HBA HRA hza HXA
            have HRB := Lib.hid (Rd.fresh w4 #[.int .i64 rt, .string ru, .int .i64 rn, .int .i64 rk, .string rx] 37 1 5 rfl)
            obtain ⟨r0, r1, r2, r3, r4, -, -, -, -, -⟩ := HR4.out
            dsimp only at r0 r1 r2 r3 r4
            go_wp2_with (at_builtin; refine wpList_append_rd _ rfl _ _ 22 rfl w3.heap.size 37 i0 (.agg zeroRow) 5 56 Tryz.underlying22 HI.out HIZ.out HIS.out HIB.out rfl (by decide) _ m (rowsC O) rfl (World.ownsRow.alloc HO4.out _) (some ⟨w4.heap.size, 0, none⟩) 1 1 (w4.heap.size + 1) _ rfl HRB.out (by intro u hu; rw [HRC.out] at hu; exact rowsC_one [⟨rt, ru, rn, rk, rx⟩] u (by simpa [rowsC] using hu)) (by simp only [maxLen]; omega) (by omega) (by have := HB4.out.size; simp; omega) ?_)
            intro v5 w5 hown5 hgr5
            rw [HRC.out, HROWC.out] at hown5
            have HO5 := Lib.hid hown5
            have HB5 : Hid (Below w3.heap.size w3 w5) := Lib.hid ((HB4.out.alloc HB4.out.size _).grown hgr5 (by have := HB4.out.size; simp; omega) (own_base HO4.out))
            have HN2 := Lib.hid (HYES.out (by omega) (by rw [HWR.out]; simp))
            clear HRB r0 r1 r2 r3 r4 HO4 HB4 hgr5
            go_wp2
            go_roundw
            case rel => exact ⟨k + 1, m + 1, O ++ [⟨rt, ru, rn, rk, rx⟩], by omega, by go_num, HO5.out, HB5.out, by omega, Lib.hid ⟨HN2.out.symm, by rw [List.length_append, HO.out.2]; rfl⟩⟩
            case measure => first | (simp [intOf]; done) | (simp [intOf]; omega)
          · have hmN : nn.toNat ≤ m := by omega
            have HN2 := Lib.hid (HFU.out hmN)
            go_wp2
            go_roundw
            case rel => exact ⟨k + 1, m, O, by omega, by go_num, HOA.out, HBA.out, by omega, Lib.hid ⟨HN2.out.symm, HO.out.2⟩⟩
            case measure => first | (simp [intOf]; done) | (simp [intOf]; omega)
        · have hke : k = n := by omega
          have x2 : ¬ (k : Int) < (n : Int) := by omega
          have HOL : Hid (O = Sp.outL true ⟨pt, pu, pn, pk, px⟩ l nn.toNat) := Lib.hid (by rw [HO.out.1, List.take_of_length_le (by rw [HL.out]; omega)])
          rcases Nat.eq_zero_or_pos m with h0 | h0
          · subst h0
            have HE : Hid (O = []) := Lib.hid (List.eq_nil_of_length_eq_zero HO.out.2)
            go_wp2
            go_ret3
            obtain ⟨e1, e2, e3⟩ := HR.out
            rw [e1, e2, e3]
            simp only [Bool.false_eq_true, if_false]
            rw [← HOL.out, HE.out]
            exact ⟨none, ⟨0, rfl⟩, Rd.empty, HBR.out⟩
          · obtain ⟨q, rfl⟩ : ∃ q, m = q + 1 := ⟨m - 1, by omega⟩
            have hql : q < O.length := by rw [HO.out.2]; omega
            have HNX : Hid (Sp.nextS s O = Sp.toB (Sp.cursorR O[q])) := Lib.hid (by
              rw [Sp.nextS, List.getLast?_eq_getElem?, HO.out.2, Nat.add_sub_cancel, List.getElem?_eq_getElem hql])
            have hrd := (Rd.own HOWN.out).1
            obtain ⟨ad, rfl, hc⟩ := Rd.rowAt hrd q hql
            obtain ⟨c0, c1, c2, c3, c4⟩ := hc wr (Below.refl _ _)
            have HRD := Lib.hid hrd
            have hfit : O[q].unit.size ≤ 140737488355328 ∧ O[q].text.size ≤ 140737488355328 := by
              have h1 := fits_out HF.out true ⟨pt, pu, pn, pk, px⟩ nn.toNat
              rw [← HOL.out] at h1
              exact h1 _ (List.getElem_mem hql)
            have HCU := Lib.hid (fun w E => cursor_any O[q] w hfit.1 hfit.2 E)
            have HLEN : Hid (O.length = q + 1) := Lib.hid HO.out.2
            clear hrd hc hfit HO
            generalize O[q] = r at *
            generalize Sp.toB (Sp.cursorR r) = cr at *
            obtain ⟨rt, ru, rn, rk, rx⟩ := r
            simp only [rowV, rowC] at HCU
            dsimp only at c0 c1 c2 c3 c4
            have y0 : ((q + 1 : Nat) : Int) = (q : Int) + 1 := by omega
            have y1 : (0 : Int) ≤ (q : Int) := by omega
            have y2 : (q : Int) < (q : Int) + 1 := by omega
            have y3 : ((q : Int) + 1 == 0) = false := by simp; omega
            go_wp2_with fail
            refine (HCU.out _ (E.on HBR.out)).mono ?_
            rintro e w6 ⟨rfl, hb6⟩
            have HB6 : Hid (Below w.heap.size w w6) := Lib.hid (HBR.out.trans (hb6.mono HBR.out.size))
            have HR6 := Lib.hid ((Rd.below HRD.out hb6).more hb6.size)
            clear hb6
            go_wp2
            go_ret3
            obtain ⟨e1, e2, e3⟩ := HR.out
            rw [e1, e2, e3]
            simp only [Bool.false_eq_true, if_false]
            rw [← HOL.out, HNX.out, HLEN.out]
            exact ⟨_, _, rfl, HR6.out, HB6.out⟩
  | false =>
    cases ok with
    | false =>
      have HB3 := HB1
      have HR := Lib.hid (HBAD.out true (by rw [HB0.out]; simp))
      go_wp2
      go_ret3
      obtain ⟨e1, e2, e3⟩ := HR.out
      rw [e1, e2, e3]
      first | exact ⟨none, 0, rfl, Rd.empty, HB3.out⟩ | exact ⟨none, ⟨0, rfl⟩, Rd.empty, HB3.out⟩
    | true =>
      go_wp2_with fail
      refine (HMY.out _ HB1.out).mono ?_
      rintro e w3 ⟨rfl, hb3⟩
      have HB3 : Hid (Below w.heap.size w w3) := Lib.hid (HB1.out.trans (hb3.mono HB1.out.size))
      have HX3 := Lib.hid (HX1.out.on hz1 hb3)
      have hz3 : ba < w3.heap.size := by have := hb3.size; omega
      clear hb3 HX1 hz1 HB1
      cases may with
      | false =>
        have HR := Lib.hid (HBAD.out true (by rw [HB0.out]; simp))
        go_wp2
        go_ret3
        obtain ⟨e1, e2, e3⟩ := HR.out
        rw [e1, e2, e3]
        first | exact ⟨none, 0, rfl, Rd.empty, HB3.out⟩ | exact ⟨none, ⟨0, rfl⟩, Rd.empty, HB3.out⟩
      | true =>
        have HR := Lib.hid (HBAD.out false (by rw [HB0.out]; simp))
        have HBW := HB3
        have HXW := HX3
        have hzw := hz3
        clear HB3 HX3 hz3 HBAD HB0 HMY
        go_wp2_with fail
        go_loopw [11, 32] (fun ov iv wr => ∃ (k m : Nat) (O : List RowD), k ≤ n ∧ iv = .int .i64 k ∧ wr.ownsRow w3.heap.size 37 5 ov m (rowsC O) ∧ Below w3.heap.size w3 wr ∧ m ≤ k ∧ Hid (O = Sp.outL false ⟨pt, pu, pn, pk, px⟩ (l.take k) nn.toNat ∧ O.length = m)) (fun _ iv _ => n - (intOf iv).toNat)
        case atStart => exact ⟨0, 0, [], Nat.zero_le _, rfl, ⟨rfl, .inl ⟨rfl, rfl⟩⟩, Below.refl _ _, Nat.le_refl _, Lib.hid ⟨by simp [Sp.outL], rfl⟩⟩
        case round =>
          obtain ⟨k, m, O, hk, rfl, hown, hb, hmk, HO⟩ := hrel
          obtain ⟨OA, oc, rfl⟩ := own_slice hown
          have HBR : Hid (Below w.heap.size w wr) := Lib.hid (HBW.out.trans (hb.mono HBW.out.size))
          have HXR := Lib.hid (HXW.out.on hzw hb)
          have hzr : ba < wr.heap.size := by have := hb.size; omega
          have hw3r : w3.heap.size ≤ wr.heap.size := hb.size
          have HOWN := Lib.hid hown
          have HBB := Lib.hid hb
          clear hown hb
          by_cases hlt : k < n
          · have hkl : k < l.length := by rw [HL.out]; exact hlt
            obtain ⟨ad, rfl, hc⟩ := HROW.out k hkl
            obtain ⟨c0, c1, c2, c3, c4⟩ := hc wr (HBR.out.mono hB)
            have HYES := Lib.hid (Sp.out_yes false ⟨pt, pu, pn, pk, px⟩ l nn.toNat k hkl)
            have HNO := Lib.hid (Sp.out_no false ⟨pt, pu, pn, pk, px⟩ l nn.toNat k hkl)
            have HFU := Lib.hid (Sp.out_full false ⟨pt, pu, pn, pk, px⟩ l nn.toNat k hkl)
            have HFIT := Lib.hid (HF.out l[k] (List.getElem_mem hkl))
            rw [← HO.out.1, HO.out.2] at HYES HFU
            rw [← HO.out.1] at HNO
            clear hc
            generalize l[k] = r at *
            have HWR := Lib.hid (HW0.out r)
            have HLR := Lib.hid (HLS'.out r)
            have HCU := Lib.hid (fun w (E : Env w) => cursor_any r w HFIT.out.1 HFIT.out.2 E)
            generalize lessB ⟨pt, pu, pn, pk, px⟩ r = lr at *
            have HNX : Hid (Sp.nextS s (O ++ [r]) = Sp.toB (Sp.cursorR r)) := Lib.hid (by simp [Sp.nextS])
            generalize Sp.toB (Sp.cursorR r) = cr at *
            have HROWC : Hid (rowsC O ++ rowC r = rowsC (O ++ [r])) := Lib.hid (by simp [rowsC])
            obtain ⟨rt, ru, rn, rk, rx⟩ := r
            simp only [rowV, rowC] at HLR HCU
            have HRC : Hid ((#[.int .i64 rt, .string ru, .int .i64 rn, .int .i64 rk, .string rx] : Array Value).toList = rowC ⟨rt, ru, rn, rk, rx⟩) := Lib.hid rfl
            dsimp only at c0 c1 c2 c3 c4
            have x1 : (0 : Int) ≤ (k : Int) := by omega
            have x2 : (k : Int) < (n : Int) := by omega
            have HXA : Hid (RBox (wr.alloc (.cells #[.int .i64 rt, .string ru, .int .i64 rn, .int .i64 rk, .string rx] 37)) ba ⟨pt, pu, pn, pk, px⟩) := Lib.hid (HXR.out.on (B := wr.heap.size) hzr ((Below.refl _ _).alloc (Nat.le_refl _) _))
            have HRA := Lib.hid (RBox.new wr rt rn rk ru rx)
            have HBA : Hid (Below w3.heap.size w3 (wr.alloc (.cells #[.int .i64 rt, .string ru, .int .i64 rn, .int .i64 rk, .string rx] 37))) := Lib.hid (HBB.out.alloc hw3r _)
            have HOB : Hid (∀ q, (Value.slice OA m oc).ownBlock = some q → q < wr.heap.size) := Lib.hid (own_lt HOWN.out)
            have HOA := Lib.hid (own_below HOWN.out ((Below.refl _ _).alloc (Nat.le_refl _) (.cells #[.int .i64 rt, .string ru, .int .i64 rn, .int .i64 rk, .string rx] 37)))
            have hza : wr.heap.size < (wr.alloc (.cells #[.int .i64 rt, .string ru, .int .i64 rn, .int .i64 rk, .string rx] 37)).heap.size := by simp
            clear HOWN HBB HXR HBR
            go_upto_region 8 with fail
            clear c0 c1 c2 c3 c4
            generalize (wr.alloc (.cells #[.int .i64 rt, .string ru, .int .i64 rn, .int .i64 rk, .string rx] 37)) = w4 at *
            generalize wr.heap.size = br at *
            by_cases hmn : (m : Int) < nn
            · have hmN : m < nn.toNat := by omega
              obtain ⟨a0, a1, a2, a3, a4, -, -, -, -, -⟩ := HXA.out
              obtain ⟨r0, r1, r2, r3, r4, -, -, -, -, -⟩ := HRA.out
              dsimp only at a0 a1 a2 a3 a4 r0 r1 r2 r3 r4
              go_wp2_with fail
              refine (HLR.out _).mono ?_
              rintro e w7 ⟨rfl, hb7⟩
              have HO4 := Lib.hid (own_below HOA.out hb7)
              have HB4 : Hid (Below w3.heap.size w3 w7) := Lib.hid (HBA.out.trans (hb7.mono HBA.out.size))
              have HR4 := Lib.hid (HRA.out.on hza hb7)
              have hz4 : br < w7.heap.size := by have := hb7.size; omega
              clear a0 a1 a2 a3 a4 r0 r1 r2 r3 r4 hb7 HOA HBA HRA hza HXA HLR
              cases lr with
              | true =>
                have HRB := Lib.hid (Rd.fresh w7 #[.int .i64 rt, .string ru, .int .i64 rn, .int .i64 rk, .string rx] 37 1 5 rfl)
                obtain ⟨r0, r1, r2, r3, r4, -, -, -, -, -⟩ := HR4.out
                dsimp only at r0 r1 r2 r3 r4
                go_wp2_with (at_builtin; refine wpList_append_rd _ rfl _ _ 22 rfl w3.heap.size 37 i0 (.agg zeroRow) 5 56 Tryz.underlying22 HI.out HIZ.out HIS.out HIB.out rfl (by decide) _ m (rowsC O) rfl (World.ownsRow.alloc HO4.out _) (some ⟨w7.heap.size, 0, none⟩) 1 1 (w7.heap.size + 1) _ rfl HRB.out (by intro u hu; rw [HRC.out] at hu; exact rowsC_one [⟨rt, ru, rn, rk, rx⟩] u (by simpa [rowsC] using hu)) (by simp only [maxLen]; omega) (by omega) (by have := HB4.out.size; simp; omega) ?_)
                intro v5 w5 hown5 hgr5
                rw [HRC.out, HROWC.out] at hown5
                have HO5 := Lib.hid hown5
                have HB5 : Hid (Below w3.heap.size w3 w5) := Lib.hid ((HB4.out.alloc HB4.out.size _).grown hgr5 (by have := HB4.out.size; simp; omega) (own_base HO4.out))
                have HN2 := Lib.hid (HYES.out (by omega) (by rw [HWR.out]; simp))
                clear HRB r0 r1 r2 r3 r4 HO4 HB4 hgr5
                go_wp2
                go_roundw
                case rel => exact ⟨k + 1, m + 1, O ++ [⟨rt, ru, rn, rk, rx⟩], by omega, by go_num, HO5.out, HB5.out, by omega, Lib.hid ⟨HN2.out.symm, by rw [List.length_append, HO.out.2]; rfl⟩⟩
                case measure => first | (simp [intOf]; done) | (simp [intOf]; omega)
              | false =>
                have HN2 := Lib.hid (HNO.out (by rw [HWR.out]; rfl))
                go_wp2
                go_roundw
                case rel => exact ⟨k + 1, m, O, by omega, by go_num, HO4.out, HB4.out, by omega, Lib.hid ⟨HN2.out.symm, HO.out.2⟩⟩
                case measure => first | (simp [intOf]; done) | (simp [intOf]; omega)
            · have hmN : nn.toNat ≤ m := by omega
              have HN2 := Lib.hid (HFU.out hmN)
              go_wp2
              go_roundw
              case rel => exact ⟨k + 1, m, O, by omega, by go_num, HOA.out, HBA.out, by omega, Lib.hid ⟨HN2.out.symm, HO.out.2⟩⟩
              case measure => first | (simp [intOf]; done) | (simp [intOf]; omega)
          · have hke : k = n := by omega
            have x2 : ¬ (k : Int) < (n : Int) := by omega
            have HOL : Hid (O = Sp.outL false ⟨pt, pu, pn, pk, px⟩ l nn.toNat) := Lib.hid (by rw [HO.out.1, List.take_of_length_le (by rw [HL.out]; omega)])
            rcases Nat.eq_zero_or_pos m with h0 | h0
            · subst h0
              have HE : Hid (O = []) := Lib.hid (List.eq_nil_of_length_eq_zero HO.out.2)
              go_wp2
              go_ret3
              obtain ⟨e1, e2, e3⟩ := HR.out
              rw [e1, e2, e3]
              simp only [Bool.false_eq_true, if_false]
              rw [← HOL.out, HE.out]
              exact ⟨none, ⟨0, rfl⟩, Rd.empty, HBR.out⟩
            · obtain ⟨q, rfl⟩ : ∃ q, m = q + 1 := ⟨m - 1, by omega⟩
              have hql : q < O.length := by rw [HO.out.2]; omega
              have HNX : Hid (Sp.nextS s O = Sp.toB (Sp.cursorR O[q])) := Lib.hid (by
                rw [Sp.nextS, List.getLast?_eq_getElem?, HO.out.2, Nat.add_sub_cancel, List.getElem?_eq_getElem hql])
              have hrd := (Rd.own HOWN.out).1
              obtain ⟨ad, rfl, hc⟩ := Rd.rowAt hrd q hql
              obtain ⟨c0, c1, c2, c3, c4⟩ := hc wr (Below.refl _ _)
              have HRD := Lib.hid hrd
              have hfit : O[q].unit.size ≤ 140737488355328 ∧ O[q].text.size ≤ 140737488355328 := by
                have h1 := fits_out HF.out false ⟨pt, pu, pn, pk, px⟩ nn.toNat
                rw [← HOL.out] at h1
                exact h1 _ (List.getElem_mem hql)
              have HCU := Lib.hid (fun w E => cursor_any O[q] w hfit.1 hfit.2 E)
              have HLEN : Hid (O.length = q + 1) := Lib.hid HO.out.2
              clear hrd hc hfit HO
              generalize O[q] = r at *
              generalize Sp.toB (Sp.cursorR r) = cr at *
              obtain ⟨rt, ru, rn, rk, rx⟩ := r
              simp only [rowV, rowC] at HCU
              dsimp only at c0 c1 c2 c3 c4
              have y0 : ((q + 1 : Nat) : Int) = (q : Int) + 1 := by omega
              have y1 : (0 : Int) ≤ (q : Int) := by omega
              have y2 : (q : Int) < (q : Int) + 1 := by omega
              have y3 : ((q : Int) + 1 == 0) = false := by simp; omega
              go_wp2_with fail
              refine (HCU.out _ (E.on HBR.out)).mono ?_
              rintro e w6 ⟨rfl, hb6⟩
              have HB6 : Hid (Below w.heap.size w w6) := Lib.hid (HBR.out.trans (hb6.mono HBR.out.size))
              have HR6 := Lib.hid ((Rd.below HRD.out hb6).more hb6.size)
              clear hb6
              go_wp2
              go_ret3
              obtain ⟨e1, e2, e3⟩ := HR.out
              rw [e1, e2, e3]
              simp only [Bool.false_eq_true, if_false]
              rw [← HOL.out, HNX.out, HLEN.out]
              exact ⟨_, _, rfl, HR6.out, HB6.out⟩

set_option maxRecDepth 100000 in
set_option maxHeartbeats 16000000 in
theorem rfrom_any (l : List RowD) (hl : Fits l) (A : Option Addr) (n c B : Nat) (s : ByteArray) (nn : Int) (w : World) (h : Rd w B 5 A n (rowsC l)) (hB : B ≤ w.heap.size) (hn : n ≤ 137438953472) (hs : s.size ≤ 1048576) :
    Calls Tryz.prog 19 #[.slice A n c, .string s, .int .i64 nn] w fun e w' => ∃ A' c', e = .returned (.tuple #[.slice A' (Sp.fromRows l s nn).length c', .string (Sp.fromNext l s nn), .int .i64 (Sp.fromErr l s)]) ∧ Rd w' w'.heap.size 5 A' (Sp.fromRows l s nn).length (rowsC (Sp.fromRows l s nn)) ∧ Below w.heap.size w w' := by
  obtain ⟨i0, hi, hz, hsz, hby⟩ := rowInfo
  have HI := Lib.hid hi
  have HIZ := Lib.hid hz
  have HIS := Lib.hid hsz
  have HIB := Lib.hid hby
  clear hi hz hsz hby
  have hlen : l.length = n := by have := h.1; rw [rowsC_len] at this; omega
  have HL := Lib.hid hlen
  have HF := Lib.hid hl
  have HROW := Lib.hid (fun k hk => Rd.rowAt h k hk)
  have HPL := Lib.hid (fun w => rplace_any s w (by omega))
  rw [placeE_row] at HPL
  have HMY : Hid (∀ W, Below w.heap.size w W → Calls Tryz.prog 13 #[.slice A n c] W fun e w' => e = .returned (.bool (Sp.mayLogB l)) ∧ Below W.heap.size W w') := Lib.hid fun W hW => rmayl_any l hl A n c B W (h.below (hW.mono hB)) (Nat.le_trans hB hW.size) hn
  have HBAD : Hid (∀ b, Sp.badB l s = b → Sp.fromRows l s nn = (if b then [] else Sp.outL s.toList.isEmpty (Sp.placeRow s) l nn.toNat) ∧ Sp.fromNext l s nn = (if b then ⟨#[]⟩ else Sp.nextS s (Sp.outL s.toList.isEmpty (Sp.placeRow s) l nn.toNat)) ∧ Sp.fromErr l s = if b then 1 else 0) := Lib.hid fun b hb => by
    subst hb; exact ⟨rfl, rfl, rfl⟩
  have HB0 : Hid (Sp.badB l s = ((!s.toList.isEmpty && !Sp.placeOk s) || !Sp.mayLogB l)) := Lib.hid rfl
  clear hlen hl
  generalize Sp.placeRow s = pr at *
  generalize Sp.placeOk s = ok at *
  generalize Sp.mayLogB l = may at *
  generalize hemp : s.toList.isEmpty = emp at *
  have HLS := Lib.hid (fun (r : RowD) w => rless_any pr r w)
  have HW0 : Hid (∀ r, Sp.wants emp pr r = (emp || lessB pr r)) := Lib.hid fun r => rfl
  obtain ⟨pt, pu, pn, pk, px⟩ := pr
  simp only [rowV, rowC] at HPL
  have HLS' : Hid (∀ (r : RowD) w, Calls Tryz.prog 27 #[.agg #[.int .i64 pt, .string pu, .int .i64 pn, .int .i64 pk, .string px], rowV r] w fun e w' => e = .returned (.bool (lessB ⟨pt, pu, pn, pk, px⟩ r)) ∧ Below w.heap.size w w') := Lib.hid HLS.out
  clear HLS
  go_enter Tryz.func19, Tryz.ntmps19
  go_wp2_with fail
  refine (HPL.out _).mono ?_
  rintro e w1 ⟨rfl, hb1⟩
  have HX1 := Lib.hid (RBox.new w1 pt pn pk pu px)
  have HB1 : Hid (Below w.heap.size w (w1.alloc (.cells #[.int .i64 pt, .string pu, .int .i64 pn, .int .i64 pk, .string px] 37))) := Lib.hid (hb1.alloc hb1.size _)
  have hz1 : w1.heap.size < (w1.alloc (.cells #[.int .i64 pt, .string pu, .int .i64 pn, .int .i64 pk, .string px] 37)).heap.size := by simp
  clear hb1 HPL
  go_upto_region 2 with fail
  generalize (w1.alloc (.cells #[.int .i64 pt, .string pu, .int .i64 pn, .int .i64 pk, .string px] 37)) = w2 at *
  generalize w1.heap.size = ba at *
  go_wp2_with fail
  refine (HMY.out _ HB1.out).mono ?_
  rintro e w3 ⟨rfl, hb3⟩
  have HB3 : Hid (Below w.heap.size w w3) := Lib.hid (HB1.out.trans (hb3.mono HB1.out.size))
  have HX3 := Lib.hid (HX1.out.on hz1 hb3)
  have hz3 : ba < w3.heap.size := by have := hb3.size; omega
  clear hb3 HX1 hz1 HB1
  cases may with
  | false =>
    have HR := Lib.hid (HBAD.out true (by rw [HB0.out]; simp))
    go_wp2
    go_ret3
    obtain ⟨e1, e2, e3⟩ := HR.out
    rw [e1, e2, e3]
    first | exact ⟨none, 0, rfl, Rd.empty, HB3.out⟩ | exact ⟨none, ⟨0, rfl⟩, Rd.empty, HB3.out⟩
  | true =>
    cases emp with
    | true =>
      have HR := Lib.hid (HBAD.out false (by rw [HB0.out]; simp))
      have HBW := HB3
      have HXW := HX3
      have hzw := hz3
      clear HB3 HX3 hz3 HBAD HB0 HMY
      go_wp2_with fail
      go_loopw [11, 12, 34] (fun ov xv iv wr => ∃ (k m : Nat) (O : List RowD), k ≤ n ∧ iv = .int .i64 k ∧ wr.ownsRow w3.heap.size 37 5 ov m (rowsC O) ∧ Below w3.heap.size w3 wr ∧ m ≤ k ∧ xv = .string (Sp.nextS s O) ∧ Hid (O = Sp.outL true ⟨pt, pu, pn, pk, px⟩ (l.take k) nn.toNat ∧ O.length = m)) (fun _ _ iv _ => n - (intOf iv).toNat)
      case atStart => exact ⟨0, 0, [], Nat.zero_le _, rfl, ⟨rfl, .inl ⟨rfl, rfl⟩⟩, Below.refl _ _, Nat.le_refl _, rfl, Lib.hid ⟨by simp [Sp.outL], rfl⟩⟩
      case round =>
        obtain ⟨k, m, O, hk, rfl, hown, hb, hmk, rfl, HO⟩ := hrel
        obtain ⟨OA, oc, rfl⟩ := own_slice hown
        have HBR : Hid (Below w.heap.size w wr) := Lib.hid (HBW.out.trans (hb.mono HBW.out.size))
        have HXR := Lib.hid (HXW.out.on hzw hb)
        have hzr : ba < wr.heap.size := by have := hb.size; omega
        have hw3r : w3.heap.size ≤ wr.heap.size := hb.size
        have HOWN := Lib.hid hown
        have HBB := Lib.hid hb
        clear hown hb
        by_cases hlt : k < n
        · have hkl : k < l.length := by rw [HL.out]; exact hlt
          obtain ⟨ad, rfl, hc⟩ := HROW.out k hkl
          obtain ⟨c0, c1, c2, c3, c4⟩ := hc wr (HBR.out.mono hB)
          have HYES := Lib.hid (Sp.out_yes true ⟨pt, pu, pn, pk, px⟩ l nn.toNat k hkl)
          have HNO := Lib.hid (Sp.out_no true ⟨pt, pu, pn, pk, px⟩ l nn.toNat k hkl)
          have HFU := Lib.hid (Sp.out_full true ⟨pt, pu, pn, pk, px⟩ l nn.toNat k hkl)
          have HFIT := Lib.hid (HF.out l[k] (List.getElem_mem hkl))
          rw [← HO.out.1, HO.out.2] at HYES HFU
          rw [← HO.out.1] at HNO
          clear hc
          generalize l[k] = r at *
          have HWR := Lib.hid (HW0.out r)
          have HLR := Lib.hid (HLS'.out r)
          have HCU := Lib.hid (fun w => rcursor_any r w HFIT.out.1 HFIT.out.2)
          generalize lessB ⟨pt, pu, pn, pk, px⟩ r = lr at *
          have HNX : Hid (Sp.nextS s (O ++ [r]) = Sp.toB (Sp.cursorR r)) := Lib.hid (by simp [Sp.nextS])
          generalize Sp.toB (Sp.cursorR r) = cr at *
          have HROWC : Hid (rowsC O ++ rowC r = rowsC (O ++ [r])) := Lib.hid (by simp [rowsC])
          obtain ⟨rt, ru, rn, rk, rx⟩ := r
          simp only [rowV, rowC] at HLR HCU
          have HRC : Hid ((#[.int .i64 rt, .string ru, .int .i64 rn, .int .i64 rk, .string rx] : Array Value).toList = rowC ⟨rt, ru, rn, rk, rx⟩) := Lib.hid rfl
          dsimp only at c0 c1 c2 c3 c4
          have x1 : (0 : Int) ≤ (k : Int) := by omega
          have x2 : (k : Int) < (n : Int) := by omega
          have HXA : Hid (RBox (wr.alloc (.cells #[.int .i64 rt, .string ru, .int .i64 rn, .int .i64 rk, .string rx] 37)) ba ⟨pt, pu, pn, pk, px⟩) := Lib.hid (HXR.out.on (B := wr.heap.size) hzr ((Below.refl _ _).alloc (Nat.le_refl _) _))
          have HRA := Lib.hid (RBox.new wr rt rn rk ru rx)
          have HBA : Hid (Below w3.heap.size w3 (wr.alloc (.cells #[.int .i64 rt, .string ru, .int .i64 rn, .int .i64 rk, .string rx] 37))) := Lib.hid (HBB.out.alloc hw3r _)
          have HOB : Hid (∀ q, (Value.slice OA m oc).ownBlock = some q → q < wr.heap.size) := Lib.hid (own_lt HOWN.out)
          have HOA := Lib.hid (own_below HOWN.out ((Below.refl _ _).alloc (Nat.le_refl _) (.cells #[.int .i64 rt, .string ru, .int .i64 rn, .int .i64 rk, .string rx] 37)))
          have hza : wr.heap.size < (wr.alloc (.cells #[.int .i64 rt, .string ru, .int .i64 rn, .int .i64 rk, .string rx] 37)).heap.size := by simp
          clear HOWN HBB HXR HBR
          go_upto_region 9 with fail
          clear c0 c1 c2 c3 c4
          generalize (wr.alloc (.cells #[.int .i64 rt, .string ru, .int .i64 rn, .int .i64 rk, .string rx] 37)) = w4 at *
          generalize wr.heap.size = br at *
          by_cases hmn : (m : Int) < nn
          · have hmN : m < nn.toNat := by omega
            have HO4 := HOA
            have HB4 := HBA
            have HR4 := HRA
            have hz4 := hza
            clear HOA HBA HRA hza HXA
            have HRB := Lib.hid (Rd.fresh w4 #[.int .i64 rt, .string ru, .int .i64 rn, .int .i64 rk, .string rx] 37 1 5 rfl)
            obtain ⟨r0, r1, r2, r3, r4, -, -, -, -, -⟩ := HR4.out
            dsimp only at r0 r1 r2 r3 r4
            go_wp2_with (at_builtin; refine wpList_append_rd _ rfl _ _ 22 rfl w3.heap.size 37 i0 (.agg zeroRow) 5 56 Tryz.underlying22 HI.out HIZ.out HIS.out HIB.out rfl (by decide) _ m (rowsC O) rfl (World.ownsRow.alloc HO4.out _) (some ⟨w4.heap.size, 0, none⟩) 1 1 (w4.heap.size + 1) _ rfl HRB.out (by intro u hu; rw [HRC.out] at hu; exact rowsC_one [⟨rt, ru, rn, rk, rx⟩] u (by simpa [rowsC] using hu)) (by simp only [maxLen]; omega) (by omega) (by have := HB4.out.size; simp; omega) ?_)
            intro v5 w5 hown5 hgr5
            rw [HRC.out, HROWC.out] at hown5
            have HO5 := Lib.hid hown5
            have HB5 : Hid (Below w3.heap.size w3 w5) := Lib.hid ((HB4.out.alloc HB4.out.size _).grown hgr5 (by have := HB4.out.size; simp; omega) (own_base HO4.out))
            have hne : ∀ q, (Value.slice OA m oc).ownBlock = some q → q ≠ br := fun q hq e => by
              have h1 := HOB.out q hq
              omega
            have HR5 : Hid (RBox w5 br ⟨rt, ru, rn, rk, rx⟩) := Lib.hid (RBox.grown (HR4.out.on (B := w4.heap.size) hz4 ((Below.refl _ _).alloc (Nat.le_refl _) _)) hgr5 (by simp; omega) hne)
            have HN2 := Lib.hid (HYES.out (by omega) (by rw [HWR.out]; simp))
            clear HRB r0 r1 r2 r3 r4 HO4 HB4 hgr5
            obtain ⟨s0, s1, s2, s3, s4, -, -, -, -, -⟩ := HR5.out
            dsimp only at s0 s1 s2 s3 s4
            go_wp2_with fail
            refine (HCU.out _).mono ?_
            rintro e w6 ⟨rfl, hb6⟩
            have HB6 : Hid (Below w3.heap.size w3 w6) := Lib.hid (HB5.out.trans (hb6.mono HB5.out.size))
            have HO6 := Lib.hid (own_below HO5.out hb6)
            clear s0 s1 s2 s3 s4 hb6 HB5 HO5 HR5
            go_wp2
            go_roundw
            case rel => exact ⟨k + 1, m + 1, O ++ [⟨rt, ru, rn, rk, rx⟩], by omega, by go_num, HO6.out, HB6.out, by omega, by rw [HNX.out], Lib.hid ⟨HN2.out.symm, by rw [List.length_append, HO.out.2]; rfl⟩⟩
            case measure => first | (simp [intOf]; done) | (simp [intOf]; omega)
          · have hmN : nn.toNat ≤ m := by omega
            have HN2 := Lib.hid (HFU.out hmN)
            go_wp2
            go_roundw
            case rel => exact ⟨k + 1, m, O, by omega, by go_num, HOA.out, HBA.out, by omega, rfl, Lib.hid ⟨HN2.out.symm, HO.out.2⟩⟩
            case measure => first | (simp [intOf]; done) | (simp [intOf]; omega)
        · have hke : k = n := by omega
          have x2 : ¬ (k : Int) < (n : Int) := by omega
          have HOL : Hid (O = Sp.outL true ⟨pt, pu, pn, pk, px⟩ l nn.toNat) := Lib.hid (by rw [HO.out.1, List.take_of_length_le (by rw [HL.out]; omega)])
          go_wp2
          go_ret3
          obtain ⟨e1, e2, e3⟩ := HR.out
          rw [e1, e2, e3]
          simp only [Bool.false_eq_true, if_false]
          rw [← HOL.out, HO.out.2]
          exact ⟨OA, ⟨oc, rfl⟩, (Rd.own HOWN.out).1, HBR.out⟩
    | false =>
      cases ok with
      | false =>
        have HR := Lib.hid (HBAD.out true (by rw [HB0.out]; simp))
        go_wp2
        go_ret3
        obtain ⟨e1, e2, e3⟩ := HR.out
        rw [e1, e2, e3]
        first | exact ⟨none, 0, rfl, Rd.empty, HB3.out⟩ | exact ⟨none, ⟨0, rfl⟩, Rd.empty, HB3.out⟩
      | true =>
        have HR := Lib.hid (HBAD.out false (by rw [HB0.out]; simp))
        have HBW := HB3
        have HXW := HX3
        have hzw := hz3
        clear HB3 HX3 hz3 HBAD HB0 HMY
        go_wp2_with fail
        go_loopw [11, 12, 34] (fun ov xv iv wr => ∃ (k m : Nat) (O : List RowD), k ≤ n ∧ iv = .int .i64 k ∧ wr.ownsRow w3.heap.size 37 5 ov m (rowsC O) ∧ Below w3.heap.size w3 wr ∧ m ≤ k ∧ xv = .string (Sp.nextS s O) ∧ Hid (O = Sp.outL false ⟨pt, pu, pn, pk, px⟩ (l.take k) nn.toNat ∧ O.length = m)) (fun _ _ iv _ => n - (intOf iv).toNat)
        case atStart => exact ⟨0, 0, [], Nat.zero_le _, rfl, ⟨rfl, .inl ⟨rfl, rfl⟩⟩, Below.refl _ _, Nat.le_refl _, rfl, Lib.hid ⟨by simp [Sp.outL], rfl⟩⟩
        case round =>
          obtain ⟨k, m, O, hk, rfl, hown, hb, hmk, rfl, HO⟩ := hrel
          obtain ⟨OA, oc, rfl⟩ := own_slice hown
          have HBR : Hid (Below w.heap.size w wr) := Lib.hid (HBW.out.trans (hb.mono HBW.out.size))
          have HXR := Lib.hid (HXW.out.on hzw hb)
          have hzr : ba < wr.heap.size := by have := hb.size; omega
          have hw3r : w3.heap.size ≤ wr.heap.size := hb.size
          have HOWN := Lib.hid hown
          have HBB := Lib.hid hb
          clear hown hb
          by_cases hlt : k < n
          · have hkl : k < l.length := by rw [HL.out]; exact hlt
            obtain ⟨ad, rfl, hc⟩ := HROW.out k hkl
            obtain ⟨c0, c1, c2, c3, c4⟩ := hc wr (HBR.out.mono hB)
            have HYES := Lib.hid (Sp.out_yes false ⟨pt, pu, pn, pk, px⟩ l nn.toNat k hkl)
            have HNO := Lib.hid (Sp.out_no false ⟨pt, pu, pn, pk, px⟩ l nn.toNat k hkl)
            have HFU := Lib.hid (Sp.out_full false ⟨pt, pu, pn, pk, px⟩ l nn.toNat k hkl)
            have HFIT := Lib.hid (HF.out l[k] (List.getElem_mem hkl))
            rw [← HO.out.1, HO.out.2] at HYES HFU
            rw [← HO.out.1] at HNO
            clear hc
            generalize l[k] = r at *
            have HWR := Lib.hid (HW0.out r)
            have HLR := Lib.hid (HLS'.out r)
            have HCU := Lib.hid (fun w => rcursor_any r w HFIT.out.1 HFIT.out.2)
            generalize lessB ⟨pt, pu, pn, pk, px⟩ r = lr at *
            have HNX : Hid (Sp.nextS s (O ++ [r]) = Sp.toB (Sp.cursorR r)) := Lib.hid (by simp [Sp.nextS])
            generalize Sp.toB (Sp.cursorR r) = cr at *
            have HROWC : Hid (rowsC O ++ rowC r = rowsC (O ++ [r])) := Lib.hid (by simp [rowsC])
            obtain ⟨rt, ru, rn, rk, rx⟩ := r
            simp only [rowV, rowC] at HLR HCU
            have HRC : Hid ((#[.int .i64 rt, .string ru, .int .i64 rn, .int .i64 rk, .string rx] : Array Value).toList = rowC ⟨rt, ru, rn, rk, rx⟩) := Lib.hid rfl
            dsimp only at c0 c1 c2 c3 c4
            have x1 : (0 : Int) ≤ (k : Int) := by omega
            have x2 : (k : Int) < (n : Int) := by omega
            have HXA : Hid (RBox (wr.alloc (.cells #[.int .i64 rt, .string ru, .int .i64 rn, .int .i64 rk, .string rx] 37)) ba ⟨pt, pu, pn, pk, px⟩) := Lib.hid (HXR.out.on (B := wr.heap.size) hzr ((Below.refl _ _).alloc (Nat.le_refl _) _))
            have HRA := Lib.hid (RBox.new wr rt rn rk ru rx)
            have HBA : Hid (Below w3.heap.size w3 (wr.alloc (.cells #[.int .i64 rt, .string ru, .int .i64 rn, .int .i64 rk, .string rx] 37))) := Lib.hid (HBB.out.alloc hw3r _)
            have HOB : Hid (∀ q, (Value.slice OA m oc).ownBlock = some q → q < wr.heap.size) := Lib.hid (own_lt HOWN.out)
            have HOA := Lib.hid (own_below HOWN.out ((Below.refl _ _).alloc (Nat.le_refl _) (.cells #[.int .i64 rt, .string ru, .int .i64 rn, .int .i64 rk, .string rx] 37)))
            have hza : wr.heap.size < (wr.alloc (.cells #[.int .i64 rt, .string ru, .int .i64 rn, .int .i64 rk, .string rx] 37)).heap.size := by simp
            clear HOWN HBB HXR HBR
            go_upto_region 9 with fail
            clear c0 c1 c2 c3 c4
            generalize (wr.alloc (.cells #[.int .i64 rt, .string ru, .int .i64 rn, .int .i64 rk, .string rx] 37)) = w4 at *
            generalize wr.heap.size = br at *
            by_cases hmn : (m : Int) < nn
            · have hmN : m < nn.toNat := by omega
              obtain ⟨a0, a1, a2, a3, a4, -, -, -, -, -⟩ := HXA.out
              obtain ⟨r0, r1, r2, r3, r4, -, -, -, -, -⟩ := HRA.out
              dsimp only at a0 a1 a2 a3 a4 r0 r1 r2 r3 r4
              go_wp2_with fail
              refine (HLR.out _).mono ?_
              rintro e w7 ⟨rfl, hb7⟩
              have HO4 := Lib.hid (own_below HOA.out hb7)
              have HB4 : Hid (Below w3.heap.size w3 w7) := Lib.hid (HBA.out.trans (hb7.mono HBA.out.size))
              have HR4 := Lib.hid (HRA.out.on hza hb7)
              have hz4 : br < w7.heap.size := by have := hb7.size; omega
              clear a0 a1 a2 a3 a4 r0 r1 r2 r3 r4 hb7 HOA HBA HRA hza HXA HLR
              cases lr with
              | true =>
                have HRB := Lib.hid (Rd.fresh w7 #[.int .i64 rt, .string ru, .int .i64 rn, .int .i64 rk, .string rx] 37 1 5 rfl)
                obtain ⟨r0, r1, r2, r3, r4, -, -, -, -, -⟩ := HR4.out
                dsimp only at r0 r1 r2 r3 r4
                go_wp2_with (at_builtin; refine wpList_append_rd _ rfl _ _ 22 rfl w3.heap.size 37 i0 (.agg zeroRow) 5 56 Tryz.underlying22 HI.out HIZ.out HIS.out HIB.out rfl (by decide) _ m (rowsC O) rfl (World.ownsRow.alloc HO4.out _) (some ⟨w7.heap.size, 0, none⟩) 1 1 (w7.heap.size + 1) _ rfl HRB.out (by intro u hu; rw [HRC.out] at hu; exact rowsC_one [⟨rt, ru, rn, rk, rx⟩] u (by simpa [rowsC] using hu)) (by simp only [maxLen]; omega) (by omega) (by have := HB4.out.size; simp; omega) ?_)
                intro v5 w5 hown5 hgr5
                rw [HRC.out, HROWC.out] at hown5
                have HO5 := Lib.hid hown5
                have HB5 : Hid (Below w3.heap.size w3 w5) := Lib.hid ((HB4.out.alloc HB4.out.size _).grown hgr5 (by have := HB4.out.size; simp; omega) (own_base HO4.out))
                have hne : ∀ q, (Value.slice OA m oc).ownBlock = some q → q ≠ br := fun q hq e => by
                  have h1 := HOB.out q hq
                  omega
                have HR5 : Hid (RBox w5 br ⟨rt, ru, rn, rk, rx⟩) := Lib.hid (RBox.grown (HR4.out.on (B := w7.heap.size) hz4 ((Below.refl _ _).alloc (Nat.le_refl _) _)) hgr5 (by simp; omega) hne)
                have HN2 := Lib.hid (HYES.out (by omega) (by rw [HWR.out]; simp))
                clear HRB r0 r1 r2 r3 r4 HO4 HB4 hgr5
                obtain ⟨s0, s1, s2, s3, s4, -, -, -, -, -⟩ := HR5.out
                dsimp only at s0 s1 s2 s3 s4
                go_wp2_with fail
                refine (HCU.out _).mono ?_
                rintro e w6 ⟨rfl, hb6⟩
                have HB6 : Hid (Below w3.heap.size w3 w6) := Lib.hid (HB5.out.trans (hb6.mono HB5.out.size))
                have HO6 := Lib.hid (own_below HO5.out hb6)
                clear s0 s1 s2 s3 s4 hb6 HB5 HO5 HR5
                go_wp2
                go_roundw
                case rel => exact ⟨k + 1, m + 1, O ++ [⟨rt, ru, rn, rk, rx⟩], by omega, by go_num, HO6.out, HB6.out, by omega, by rw [HNX.out], Lib.hid ⟨HN2.out.symm, by rw [List.length_append, HO.out.2]; rfl⟩⟩
                case measure => first | (simp [intOf]; done) | (simp [intOf]; omega)
              | false =>
                have HN2 := Lib.hid (HNO.out (by rw [HWR.out]; rfl))
                go_wp2
                go_roundw
                case rel => exact ⟨k + 1, m, O, by omega, by go_num, HO4.out, HB4.out, by omega, rfl, Lib.hid ⟨HN2.out.symm, HO.out.2⟩⟩
                case measure => first | (simp [intOf]; done) | (simp [intOf]; omega)
            · have hmN : nn.toNat ≤ m := by omega
              have HN2 := Lib.hid (HFU.out hmN)
              go_wp2
              go_roundw
              case rel => exact ⟨k + 1, m, O, by omega, by go_num, HOA.out, HBA.out, by omega, rfl, Lib.hid ⟨HN2.out.symm, HO.out.2⟩⟩
              case measure => first | (simp [intOf]; done) | (simp [intOf]; omega)
          · have hke : k = n := by omega
            have x2 : ¬ (k : Int) < (n : Int) := by omega
            have HOL : Hid (O = Sp.outL false ⟨pt, pu, pn, pk, px⟩ l nn.toNat) := Lib.hid (by rw [HO.out.1, List.take_of_length_le (by rw [HL.out]; omega)])
            go_wp2
            go_ret3
            obtain ⟨e1, e2, e3⟩ := HR.out
            rw [e1, e2, e3]
            simp only [Bool.false_eq_true, if_false]
            rw [← HOL.out, HO.out.2]
            exact ⟨OA, ⟨oc, rfl⟩, (Rd.own HOWN.out).1, HBR.out⟩

end Go.Proofs.YtkgogenmhiclcaaGreatDoor
