/-
  Rows that a filter wants, and rows that are alike: the program's walks.
-/
import Derived.Test.YtkgbmeppflnejaaGreatDoorUo
import Derived.Test.YtkgbmeppflnejaaGreatDoorGr
import Derived.Test.YtkgbmeppflnejaaGreatDoorGa
import Derived.Test.YtkgbmeppflnejaaGreatDoorRd
import Derived.Laws.StructEq
import Derived.Deep.Cut
namespace Go.Proofs.YtkgbmeppflnejaaGreatDoor
open Go.RowKit Go.Shelf

def rowsC (l : List RowD) : List Value := l.flatMap rowC
theorem rowC_len (r : RowD) : (rowC r).length = 5 := rfl
theorem rowsC_len (l : List RowD) : (rowsC l).length = l.length * 5 := flat_len rowC 5 rowC_len l
theorem rowsC_one (l : List RowD) : ∀ u ∈ rowsC l, u.oneCell' = true := by
  intro u hu
  obtain ⟨r, _, hr⟩ := List.mem_flatMap.1 hu
  simp only [rowC, List.mem_cons, List.not_mem_nil, or_false] at hr
  rcases hr with rfl | rfl | rfl | rfl | rfl <;> rfl
theorem rowsC_at (l : List RowD) (k : Nat) (h : k < l.length) (j : Nat) (hj : j < 5) : (rowsC l)[k * 5 + j]? = (rowC l[k])[j]? :=
  flat_at rowC 5 rowC_len l k j l[k] (List.getElem?_eq_getElem h) hj
/-- a row among others, in whatever world lies behind -/
theorem Rd.rowAt {w : World} {B n : Nat} {A : Option Addr} {l : List RowD} (h : Rd w B 5 A n (rowsC l)) (k : Nat) (hk : k < l.length) : ∃ ad, A = some ad ∧ ∀ W, Below B w W →
    W.cell? (ad.add (k * 5)) = some (.int .i64 l[k].time) ∧ W.cell? ⟨(ad.add (k * 5)).block, (ad.add (k * 5)).off + 1, none⟩ = some (.string l[k].unit) ∧ W.cell? ⟨(ad.add (k * 5)).block, (ad.add (k * 5)).off + 2, none⟩ = some (.int .i64 l[k].n) ∧
    W.cell? ⟨(ad.add (k * 5)).block, (ad.add (k * 5)).off + 3, none⟩ = some (.int .i64 l[k].kind) ∧ W.cell? ⟨(ad.add (k * 5)).block, (ad.add (k * 5)).off + 4, none⟩ = some (.string l[k].text) := by
  have hl : l.length = n := by have := h.1; rw [rowsC_len] at this; omega
  obtain ⟨ad, rfl, _, _⟩ := h.here (by omega)
  refine ⟨ad, rfl, fun W hW => ?_⟩
  obtain ⟨ad', e, _, hc⟩ := (h.below hW).here (by omega)
  injection e with e
  subst e
  have g := fun j hj u hu => hc (k * 5 + j) u ((rowsC_at l k hk j hj).trans hu)
  have g0 := g 0 (by omega) _ rfl
  have g1 := g 1 (by omega) _ rfl
  have g2 := g 2 (by omega) _ rfl
  have g3 := g 3 (by omega) _ rfl
  have g4 := g 4 (by omega) _ rfl
  rw [Mem.add_field _ _ 1 (by omega)] at g1
  rw [Mem.add_field _ _ 2 (by omega)] at g2
  rw [Mem.add_field _ _ 3 (by omega)] at g3
  rw [Mem.add_field _ _ 4 (by omega)] at g4
  exact ⟨g0, g1, g2, g3, g4⟩
def zeroRow : Array Value := #[.int .i64 0, .string ⟨#[]⟩, .int .i64 0, .int .i64 0, .string ⟨#[]⟩]
theorem rowInfo : ∃ i, Tryz.prog.info? 37 = some i ∧ i.zero = some (.agg zeroRow) ∧ i.size = 5 ∧ i.bytes = 56 := by
  exact ⟨(Tryz.prog.info? 37).get (by kernel_rfl), (Option.some_get _).symm, by kernel_rfl, by kernel_rfl, by kernel_rfl⟩
theorem own_base {w : World} {base : Nat} {e : TypeId} {size n : Nat} {v : Value} {xs : List Value} (h : w.ownsRow base e size v n xs) : ∀ k, v.ownBlock = some k → base ≤ k := by
  intro k hk
  rcases h.2 with ⟨rfl, _⟩ | ⟨g, cap, cur, rfl, hb, _⟩
  · cases hk
  · injection hk with hk
    rw [← hk]; exact hb
theorem own_below {w w' : World} {base : Nat} {e : TypeId} {size n : Nat} {v : Value} {xs : List Value} (h : w.ownsRow base e size v n xs) (hb : Below w.heap.size w w') : w'.ownsRow base e size v n xs := by
  rcases h with ⟨hl, h1 | ⟨g, cap, cur, rfl, hbs, hg, hc, h2, h3, h4⟩⟩
  · exact ⟨hl, .inl h1⟩
  · exact ⟨hl, .inr ⟨g, cap, cur, rfl, hbs, by rw [hb.block g (Array.getElem?_eq_some_iff.1 hg).1]; exact hg, hc, h2, h3, h4⟩⟩

@[go_sem] theorem eq_row (x y z : Int) (s t : ByteArray) (w : World) : (Op.equalIn 10000 37 (.agg #[.int .i64 x, .string s, .int .i64 y, .int .i64 z, .string t]) (.agg #[.int .i64 x, .string s, .int .i64 y, .int .i64 z, .string t])).run Tryz.prog w = .ok true w := by
  have u3 := Tryz.underlying3
  have us := Tryz.underlying9
  have hS : Tryz.prog.underlying 37 = some (.struct (Tryz.prog.fieldsOf 37)) := by kernel_rfl
  have hp : Tryz.prog.stoodInHeld 37 = false := by kernel_rfl
  rw [show (10000 : Nat) = 9999 + 1 from rfl, run_equalIn_agg w 9999 37 _ _ hS hp]
  simp only [Program.fieldsOf, Tryz.underlying37]
  go_simp
@[go_sem] theorem guard_row (x y : Operand) (xs ys : Array Value) (w : World) : (eqGuard .neq 37 x y (.agg xs) (.agg ys)).run Tryz.prog w = .ok () w := run_eqGuard_agg w _ _ _ _ _ _ (by kernel_rfl)

set_option maxHeartbeats 4000000 in
theorem same_any (l : List RowD) (A1 A2 : Option Addr) (n c1 c2 B1 B2 : Nat) (w : World) (h1 : Rd w B1 5 A1 n (rowsC l)) (h2 : Rd w B2 5 A2 n (rowsC l)) (hB1 : B1 ≤ w.heap.size) (hB2 : B2 ≤ w.heap.size) (hn : n ≤ 140737488355328) :
    Calls Tryz.prog 17 #[.slice A1 n c1, .slice A2 n c2] w fun e w' => e = .returned (.bool true) ∧ Below w.heap.size w w' := by
  have hl : l.length = n := by have := h1.1; rw [rowsC_len] at this; omega
  have HL := Lib.hid hl
  have HR1 := Lib.hid (fun k hk => Rd.rowAt h1 k hk)
  have HR2 := Lib.hid (fun k hk => Rd.rowAt h2 k hk)
  clear hl
  have hq : ((n : Int) != (n : Int)) = false := by simp
  go_enter Tryz.func17, Tryz.ntmps17
  go_wp2_with fail
  go_loopw [13] (fun v wr => ∃ k : Nat, k ≤ n ∧ v = .int .i64 k ∧ Below w.heap.size w wr) (fun v _ => n - (intOf v).toNat)
  case atStart => exact ⟨0, Nat.zero_le _, rfl, Below.refl _ _⟩
  case round =>
    obtain ⟨k, hk, rfl, hb⟩ := hrel
    by_cases hlt : k < n
    · have hkl : k < l.length := by rw [HL.out]; exact hlt
      obtain ⟨a1, rfl, hc1⟩ := HR1.out k hkl
      obtain ⟨a2, rfl, hc2⟩ := HR2.out k hkl
      obtain ⟨c0, c1, c2, c3, c4⟩ := hc1 wr (hb.mono hB1)
      obtain ⟨d0, d1, d2, d3, d4⟩ := hc2 wr (hb.mono hB2)
      clear hc1 hc2
      generalize l[k] = r at *
      obtain ⟨rt, ru, rn, rk, rx⟩ := r
      dsimp only at c0 c1 c2 c3 c4 d0 d1 d2 d3 d4
      have x1 : (0 : Int) ≤ (k : Int) := by omega
      have x2 : (k : Int) < (n : Int) := by omega
      go_wp2_with fail
      go_quiet (fail)
      go_wp2
      go_roundw
      case rel => exact ⟨k + 1, by omega, by go_num, belowQ hb _⟩
      case measure => first | (simp [intOf]; done) | (simp [intOf]; omega)
    · have x1 : ¬ (k : Int) < (n : Int) := by omega
      go_wp2
      go_ret
      exact ⟨rfl, hb⟩

namespace Sp
def rowsF (f : FD) (l : List RowD) : List RowD := l.filter (isF f)
theorem rowsF_le (f : FD) (l : List RowD) : (rowsF f l).length ≤ l.length := List.length_filter_le _ _
theorem rowsF_yes (f : FD) (l : List RowD) (k : Nat) (hk : k < l.length) (h : isF f l[k] = true) : rowsF f (l.take (k + 1)) = rowsF f (l.take k) ++ [l[k]] := by
  rw [List.take_succ_eq_append_getElem hk]
  unfold rowsF
  rw [List.filter_append, List.filter_cons_of_pos h, List.filter_nil]
theorem rowsF_no (f : FD) (l : List RowD) (k : Nat) (hk : k < l.length) (h : isF f l[k] = false) : rowsF f (l.take (k + 1)) = rowsF f (l.take k) := by
  rw [List.take_succ_eq_append_getElem hk]
  unfold rowsF
  rw [List.filter_append, List.filter_cons_of_neg (by rw [h]; simp), List.filter_nil, List.append_nil]
end Sp
theorem row_new (w : World) (ti n kd : Int) (un tx : ByteArray) : FB (w.alloc (.cells #[.int .i64 ti, .string un, .int .i64 n, .int .i64 kd, .string tx] 37)) w.heap.size (.int .i64 ti) (.string un) (.int .i64 n) (.int .i64 kd) (.string tx) := FB.new w _ _ _ _ _ _
theorem filt_new (w : World) (f : Sp.FD) (UA KA : Option Addr) (uc kc : Nat) : FB (w.alloc (.cells #[.slice UA f.units.length uc, .slice KA f.kinds.length kc, .int .i64 f.since, .int .i64 f.till, .string f.word] 26)) w.heap.size (.slice UA f.units.length uc) (.slice KA f.kinds.length kc) (.int .i64 f.since) (.int .i64 f.till) (.string f.word) := FB.new w _ _ _ _ _ _
set_option maxHeartbeats 8000000 in
set_option maxRecDepth 100000 in
theorem frows_any (f : Sp.FD) (UA KA : Option Addr) (uc kc : Nat) (l : List RowD) (A : Option Addr) (n c B : Nat) (w : World) (h : FGood f UA KA w.heap.size w) (hr : Rd w B 5 A n (rowsC l)) (hB : B ≤ w.heap.size) (hx : ∀ r ∈ l, r.text.size ≤ 4294967280) (hn : n ≤ 137438953472) (E : Env w) :
    Calls Tryz.prog 18 #[filtV f UA uc KA kc, .slice A n c] w fun e w' => ∃ A' c', e = .returned (.slice A' (Sp.rowsF f l).length c') ∧ Rd w' w'.heap.size 5 A' (Sp.rowsF f l).length (rowsC (Sp.rowsF f l)) ∧ Below w.heap.size w w' := by
  obtain ⟨i0, hi, hz, hsz, hby⟩ := rowInfo
  have HI := Lib.hid hi
  have HIZ := Lib.hid hz
  have HIS := Lib.hid hsz
  have HIB := Lib.hid hby
  clear hi hz hsz hby
  have hlen : l.length = n := by have := hr.1; rw [rowsC_len] at this; omega
  have HL := Lib.hid hlen
  have HX := Lib.hid hx
  have HROW := Lib.hid (fun k hk => Rd.rowAt hr k hk)
  have HIS2 := Lib.hid (fun W (hb : Below w.heap.size w W) (r : RowD) (hr : r.text.size ≤ 4294967280) => fis_any f UA KA uc kc r W ((h.on hb).more hb.size) hr (E.on hb))
  have HF1 := Lib.hid (filt_new w f UA KA uc kc)
  have HB1 : Hid (Below w.heap.size w (w.alloc (.cells #[.slice UA f.units.length uc, .slice KA f.kinds.length kc, .int .i64 f.since, .int .i64 f.till, .string f.word] 26))) := Lib.hid ((Below.refl _ _).alloc (Nat.le_refl _) _)
  have HL1 : Hid (w.heap.size < (w.alloc (.cells #[.slice UA f.units.length uc, .slice KA f.kinds.length kc, .int .i64 f.since, .int .i64 f.till, .string f.word] 26)).heap.size) := Lib.hid (by simp)
  clear hlen h hx hr E
  unfold filtV filtC
  unfold filtV filtC at HIS2
  go_enter Tryz.func18, Tryz.ntmps18
  go_upto_region 2 with fail
  generalize w.alloc (.cells #[.slice UA f.units.length uc, .slice KA f.kinds.length kc, .int .i64 f.since, .int .i64 f.till, .string f.word] 26) = w1 at *
  go_wp2_with fail
  go_loopw [5, 10] (fun ov iv wr => ∃ (k m : Nat) (O : List RowD), k ≤ n ∧ iv = .int .i64 k ∧ wr.ownsRow w1.heap.size 37 5 ov m (rowsC O) ∧ Below w1.heap.size w1 wr ∧ m ≤ k ∧ Hid (O = Sp.rowsF f (l.take k) ∧ O.length = m)) (fun _ iv _ => n - (intOf iv).toNat)
  case atStart => exact ⟨0, 0, [], Nat.zero_le _, rfl, ⟨rfl, .inl ⟨rfl, rfl⟩⟩, Below.refl _ _, Nat.le_refl _, Lib.hid ⟨by simp [Sp.rowsF], rfl⟩⟩
  case round =>
    obtain ⟨k, m, O, hk, rfl, hown, hb, hmk, HO⟩ := hrel
    obtain ⟨OA, oc, rfl⟩ := own_slice hown
    have HBR : Hid (Below w.heap.size w wr) := Lib.hid (HB1.out.trans (hb.mono HB1.out.size))
    have HFR := Lib.hid (HF1.out.on HL1.out hb)
    have hzr : w.heap.size < wr.heap.size := by have := hb.size; have := HL1.out; omega
    have hw1r : w1.heap.size ≤ wr.heap.size := hb.size
    have HOWN := Lib.hid hown
    have HBB := Lib.hid hb
    clear hown hb
    by_cases hlt : k < n
    · have hkl : k < l.length := by rw [HL.out]; exact hlt
      obtain ⟨ad, rfl, hc⟩ := HROW.out k hkl
      obtain ⟨c0, c1, c2, c3, c4⟩ := hc wr (HBR.out.mono hB)
      have HYES := Lib.hid (Sp.rowsF_yes f l k hkl)
      have HNO := Lib.hid (Sp.rowsF_no f l k hkl)
      have HTX := Lib.hid (HX.out l[k] (List.getElem_mem hkl))
      rw [← HO.out.1] at HYES HNO
      clear hc
      generalize l[k] = r at *
      have HC := Lib.hid (fun W (hb : Below w.heap.size w W) => HIS2.out W hb r HTX.out)
      generalize Sp.isF f r = b at *
      have HROWC : Hid (rowsC O ++ rowC r = rowsC (O ++ [r])) := Lib.hid (by simp [rowsC])
      obtain ⟨rt, ru, rn, rk, rx⟩ := r
      simp only [rowV, rowC] at HC
      have HRC : Hid ((#[.int .i64 rt, .string ru, .int .i64 rn, .int .i64 rk, .string rx] : Array Value).toList = rowC ⟨rt, ru, rn, rk, rx⟩) := Lib.hid rfl
      dsimp only at c0 c1 c2 c3 c4
      have x1 : (0 : Int) ≤ (k : Int) := by omega
      have x2 : (k : Int) < (n : Int) := by omega
      have hba : Below wr.heap.size wr (wr.alloc (.cells #[.int .i64 rt, .string ru, .int .i64 rn, .int .i64 rk, .string rx] 37)) := (Below.refl _ _).alloc (Nat.le_refl _) _
      have HFA := Lib.hid (HFR.out.on hzr hba)
      have HRA := Lib.hid (row_new wr rt rn rk ru rx)
      have HBA := Lib.hid (HBB.out.alloc hw1r (.cells #[.int .i64 rt, .string ru, .int .i64 rn, .int .i64 rk, .string rx] 37))
      have HBW := Lib.hid (HBR.out.alloc HBR.out.size (.cells #[.int .i64 rt, .string ru, .int .i64 rn, .int .i64 rk, .string rx] 37))
      have HOA := Lib.hid (own_below HOWN.out hba)
      have hza : wr.heap.size < (wr.alloc (.cells #[.int .i64 rt, .string ru, .int .i64 rn, .int .i64 rk, .string rx] 37)).heap.size := by simp
      clear HOWN HBB HFR HBR hba
      go_upto_region 5 with fail
      clear c0 c1 c2 c3 c4
      generalize (wr.alloc (.cells #[.int .i64 rt, .string ru, .int .i64 rn, .int .i64 rk, .string rx] 37)) = w4 at *
      generalize wr.heap.size = br at *
      obtain ⟨r0, r1, r2, r3, r4⟩ := HRA.out
      obtain ⟨f0, f1, f2, f3, f4⟩ := HFA.out
      go_wp2_with fail
      refine (HC.out w4 HBW.out).mono ?_
      rintro e w5 ⟨rfl, hb5⟩
      clear r0 r1 r2 r3 r4 f0 f1 f2 f3 f4
      have HR5 := Lib.hid (HRA.out.on hza hb5)
      have HB5 := Lib.hid (HBA.out.trans (hb5.mono HBA.out.size))
      have HO5 := Lib.hid (own_below HOA.out hb5)
      clear hb5 HRA HBA HOA HFA
      cases b with
      | false =>
        have HN := Lib.hid (HNO.out rfl)
        go_wp2
        go_roundw
        case rel => exact ⟨k + 1, m, O, by omega, by go_num, HO5.out, HB5.out, by omega, Lib.hid ⟨HN.out.symm, HO.out.2⟩⟩
        case measure => first | (simp [intOf]; done) | (simp [intOf]; omega)
      | true =>
        have HN := Lib.hid (HYES.out rfl)
        obtain ⟨r0, r1, r2, r3, r4⟩ := HR5.out
        have HRB := Lib.hid (Rd.fresh w5 #[.int .i64 rt, .string ru, .int .i64 rn, .int .i64 rk, .string rx] 37 1 5 rfl)
        go_wp2_with (at_builtin; refine wpList_append_rd _ rfl _ _ 35 rfl w1.heap.size 37 i0 (.agg zeroRow) 5 56 Tryz.underlying35 HI.out HIZ.out HIS.out HIB.out rfl (by decide) _ m (rowsC O) rfl (World.ownsRow.alloc HO5.out _) (some ⟨w5.heap.size, 0, none⟩) 1 1 (w5.heap.size + 1) _ rfl HRB.out (by intro u hu; rw [HRC.out] at hu; exact rowsC_one [⟨rt, ru, rn, rk, rx⟩] u (by simpa [rowsC] using hu)) (by simp only [maxLen]; omega) (by omega) (by have := HB5.out.size; simp; omega) ?_)
        intro v6 w6 hown6 hgr6
        rw [HRC.out, HROWC.out] at hown6
        have HO6 := Lib.hid hown6
        have HB6 := Lib.hid ((HB5.out.alloc HB5.out.size _).grown hgr6 (by have := HB5.out.size; simp; omega) (own_base HO5.out))
        clear HRB r0 r1 r2 r3 r4 HO5 HB5 hgr6 hown6
        go_wp2
        go_roundw
        case rel => exact ⟨k + 1, m + 1, O ++ [⟨rt, ru, rn, rk, rx⟩], by omega, by go_num, HO6.out, HB6.out, by omega, Lib.hid ⟨HN.out.symm, by rw [List.length_append, HO.out.2]; rfl⟩⟩
        case measure => first | (simp [intOf]; done) | (simp [intOf]; omega)
    · have x1 : ¬ (k : Int) < (n : Int) := by omega
      have hO := HO.out
      rw [show k = l.length by have := HL.out; omega, List.take_length] at hO
      have HFIN : Hid (Rd wr wr.heap.size 5 OA m (rowsC O)) := Lib.hid (Rd.own HOWN.out).1
      have HM : Hid (O = Sp.rowsF f l ∧ O.length = m) := Lib.hid hO
      clear hO
      go_wp2
      go_ret
      rw [← HM.out.1, HM.out.2]
      first | exact ⟨OA, oc, rfl, HFIN.out, HBR.out⟩ | exact ⟨OA, ⟨oc, rfl⟩, HFIN.out, HBR.out⟩

end Go.Proofs.YtkgbmeppflnejaaGreatDoor
