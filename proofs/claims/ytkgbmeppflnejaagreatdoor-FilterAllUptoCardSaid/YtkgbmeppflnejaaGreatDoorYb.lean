/-
  Two filters, one after the other: the plain law; and the law's walk.
-/
import Derived.Test.YtkgbmeppflnejaaGreatDoorYa
import Derived.Test.YtkgbmeppflnejaaGreatDoorUx
import Derived.Deep.RegionHeld3
import Derived.Deep.DeepCutAuto
import Derived.BigRegion
namespace Go.Proofs.YtkgbmeppflnejaaGreatDoor
open Go.RowKit Go.Shelf

namespace Sp
theorem rows_both (f g : FD) (l : List RowD) : rowsF g (rowsF f l) = rowsF f (rowsF g l) := by
  unfold rowsF
  rw [List.filter_filter, List.filter_filter]
  congr 1
  funext x
  exact Bool.and_comm _ _
/-- one unit more; a later start -/
def moreF (f : FD) (u : ByteArray) : FD := ⟨f.units ++ [u], f.kinds, f.since, f.till, f.word⟩
def laterF (f : FD) (n : Int) : FD := ⟨f.units, f.kinds, n, f.till, f.word⟩
def restB (f : FD) (r : RowD) : Bool := (decide (f.kinds.length = 0) || kindIs f r) && (decide (f.since ≤ r.time) && (decide (r.time ≤ f.till) && Lib.contains r.text.data.toList f.word.data.toList))
theorem is_rest (f : FD) (r : RowD) : isF f r = ((decide (f.units.length = 0) || unitIs f r) && restB f r) := rfl
theorem more_rest (f : FD) (u : ByteArray) (r : RowD) : isF (moreF f u) r = ((unitIs f r || decide (u = r.unit)) && restB f r) := by
  rw [is_rest]
  rw [show restB (moreF f u) r = restB f r from rfl, show (moreF f u).units.length = f.units.length + 1 from by simp [moreF], show unitIs (moreF f u) r = (unitIs f r || decide (u = r.unit)) from by simp [unitIs, moreF]]
  simp
theorem more_yes (f : FD) (u : ByteArray) (r : RowD) (h0 : f.units.length ≠ 0) (h : isF f r = true) : isF (moreF f u) r = true := by
  rw [is_rest] at h
  rw [more_rest]
  simp only [Bool.and_eq_true, Bool.or_eq_true, decide_eq_true_eq] at h ⊢
  exact ⟨.inl (h.1.resolve_left h0), h.2⟩
theorem more_no (f : FD) (u : ByteArray) (r : RowD) (h : isF (moreF f u) r = true) (hu : r.unit ≠ u) : isF f r = true := by
  rw [is_rest]
  rw [more_rest] at h
  simp only [Bool.and_eq_true, Bool.or_eq_true, decide_eq_true_eq] at h ⊢
  exact ⟨.inr (h.1.resolve_right (fun e => hu e.symm)), h.2⟩
theorem later_yes (f : FD) (n : Int) (r : RowD) (hn : f.since ≤ n) (h : isF (laterF f n) r = true) : isF f r = true := by
  unfold isF at h ⊢
  simp only [Bool.and_eq_true] at h ⊢
  obtain ⟨h1, h2, h3, h4⟩ := h
  have h3' : n ≤ r.time := of_decide_eq_true h3
  exact ⟨h1, h2, decide_eq_true (Int.le_trans hn h3'), h4⟩
end Sp

/-- rows that lie somewhere, of which there are few -/
structure RdG (w : World) (A : Option Addr) (n : Nat) (l : List RowD) : Prop where
  rd : Rd w w.heap.size 5 A n (rowsC l)
  tx : ∀ r ∈ l, r.text.size ≤ 4294967280
  len : l.length = n
  few : n ≤ 137438953472
theorem RdG.on {w w' : World} {A : Option Addr} {n : Nat} {l : List RowD} (h : RdG w A n l) (hb : Below w.heap.size w w') : RdG w' A n l := ⟨(h.rd.below hb).more hb.size, h.tx, h.len, h.few⟩
/-- a call lies between -/
structure Stp33 (w w' : World) : Prop where
  b : Below w.heap.size w w'
theorem RdG.stp {w w' : World} {A : Option Addr} {n : Nat} {l : List RowD} (h : RdG w A n l) (hb : Stp33 w w') : RdG w' A n l := h.on hb.b
theorem rows_g {w : World} {f : Sp.FD} {UA KA : Option Addr} {uc kc : Nat} {l : List RowD} {A : Option Addr} {n : Nat} (c : Nat) (h : FGood f UA KA w.heap.size w) (hr : RdG w A n l) (E : Env w) :
    Calls Tryz.prog 18 #[filtV f UA uc KA kc, .slice A n c] w fun e w' => ∃ A' n' c', e = .returned (.slice A' n' c') ∧ RdG w' A' n' (Sp.rowsF f l) ∧ Below w.heap.size w w' := by
  refine (frows_any f UA KA uc kc l A n c w.heap.size w h hr.rd (Nat.le_refl _) hr.tx hr.few E).mono ?_
  rintro e w' ⟨A', c', rfl, h1, h2⟩
  refine ⟨A', _, c', rfl, ⟨h1, fun r hx => hr.tx r (List.mem_filter.1 hx).1, rfl, ?_⟩, h2⟩
  have := Sp.rowsF_le f l
  have := hr.len
  have := hr.few
  omega
theorem same_g {w : World} {l : List RowD} {A1 A2 : Option Addr} {n1 n2 : Nat} (c1 c2 : Nat) (h1 : RdG w A1 n1 l) (h2 : RdG w A2 n2 l) :
    Calls Tryz.prog 17 #[.slice A1 n1 c1, .slice A2 n2 c2] w fun e w' => e = .returned (.bool true) ∧ Below w.heap.size w w' := by
  obtain rfl : n1 = n2 := by have := h1.len; have := h2.len; omega
  exact same_any l A1 A2 n1 c1 c2 _ _ w h1.rd h2.rd (Nat.le_refl _) (Nat.le_refl _) (by have := h1.few; omega)
theorem since33_more {W0 W W' : World} (h : Below W0.heap.size W0 W) (hb : Below W.heap.size W W') : Below W0.heap.size W0 W' := h.trans (hb.mono h.size)
theorem since33_alloc {W0 W : World} (h : Below W0.heap.size W0 W) (o : Obj) : Below W0.heap.size W0 (W.alloc o) := h.alloc h.size o
theorem since33_drew {W0 W : World} (h : Below W0.heap.size W0 W) : Below W0.heap.size W0 W.drew := h.drew
/-- two filters in variables of their own -/
def TwoR (w0 : World) (x0 x1 x2 x3 x4 : Value) (a b : Value) (W : World) : Prop := ∃ bm bl, a = .pointer (some ⟨bm, 0, none⟩) ∧ b = .pointer (some ⟨bl, 0, none⟩) ∧ bm ≠ bl ∧ w0.heap.size ≤ bm ∧ w0.heap.size ≤ bl ∧ bm < W.heap.size ∧ bl < W.heap.size ∧ RB W bm x0 x1 x2 x3 x4 ∧ RB W bl x0 x1 x2 x3 x4 ∧ Below w0.heap.size w0 W
theorem two_rb (w : World) (x0 x1 x2 x3 x4 : Value) (t : TypeId) : RB ((w.alloc (.cells #[x0, x1, x2, x3, x4] t)).alloc (.cells #[x0, x1, x2, x3, x4] t)).drew w.heap.size x0 x1 x2 x3 x4 ∧ RB ((w.alloc (.cells #[x0, x1, x2, x3, x4] t)).alloc (.cells #[x0, x1, x2, x3, x4] t)).drew (w.heap.size + 1) x0 x1 x2 x3 x4 ∧ Below w.heap.size w ((w.alloc (.cells #[x0, x1, x2, x3, x4] t)).alloc (.cells #[x0, x1, x2, x3, x4] t)).drew ∧ ((w.alloc (.cells #[x0, x1, x2, x3, x4] t)).alloc (.cells #[x0, x1, x2, x3, x4] t)).drew.heap.size = w.heap.size + 2 := by
  have e1 : (w.alloc (.cells #[x0, x1, x2, x3, x4] t)).heap.size = w.heap.size + 1 := by simp
  have e2 : ((w.alloc (.cells #[x0, x1, x2, x3, x4] t)).alloc (.cells #[x0, x1, x2, x3, x4] t)).heap.size = w.heap.size + 2 := by simp
  have h1 := (RB.new w x0 x1 x2 x3 x4 t).on (B := w.heap.size + 1) (by omega) (w' := ((w.alloc (.cells #[x0, x1, x2, x3, x4] t)).alloc (.cells #[x0, x1, x2, x3, x4] t)).drew) (((Below.refl _ _).alloc (by omega) _).drew)
  have h2 := (RB.new (w.alloc (.cells #[x0, x1, x2, x3, x4] t)) x0 x1 x2 x3 x4 t).on (B := w.heap.size + 2) (by omega) (w' := ((w.alloc (.cells #[x0, x1, x2, x3, x4] t)).alloc (.cells #[x0, x1, x2, x3, x4] t)).drew) ((Below.refl _ _).drew)
  rw [e1] at h2
  exact ⟨h1, h2, (((Below.refl w.heap.size w).alloc (Nat.le_refl _) _).alloc (by omega) _).drew, e2⟩
theorem two_a (w : World) (x0 x1 x2 x3 x4 : Value) (t : TypeId) : TwoR w x0 x1 x2 x3 x4 (.pointer (some ⟨w.heap.size, 0, none⟩)) (.pointer (some ⟨w.heap.size + 1, 0, none⟩)) ((w.alloc (.cells #[x0, x1, x2, x3, x4] t)).alloc (.cells #[x0, x1, x2, x3, x4] t)).drew := by
  obtain ⟨h1, h2, h3, h4⟩ := two_rb w x0 x1 x2 x3 x4 t
  exact ⟨_, _, rfl, rfl, by omega, Nat.le_refl _, by omega, by rw [h4]; omega, by rw [h4]; omega, h1, h2, h3⟩
theorem two_b (w : World) (x0 x1 x2 x3 x4 : Value) (t : TypeId) : TwoR w x0 x1 x2 x3 x4 (.pointer (some ⟨w.heap.size + 1, 0, none⟩)) (.pointer (some ⟨w.heap.size, 0, none⟩)) ((w.alloc (.cells #[x0, x1, x2, x3, x4] t)).alloc (.cells #[x0, x1, x2, x3, x4] t)).drew := by
  obtain ⟨h1, h2, h3, h4⟩ := two_rb w x0 x1 x2 x3 x4 t
  exact ⟨_, _, rfl, rfl, by omega, by omega, Nat.le_refl _, by rw [h4]; omega, by rw [h4]; omega, h2, h1, h3⟩
theorem RB.set0 {w : World} {b : Nat} {x0 x1 x2 x3 x4 : Value} (h : RB w b x0 x1 x2 x3 x4) (y : Value) : RB (w.setCell ⟨b, 0, none⟩ y) b y x1 x2 x3 x4 := by
  obtain ⟨c0, c1, c2, c3, c4, f0, f1, f2, f3, f4⟩ := h
  exact ⟨by go_simp, by go_simp, by go_simp, by go_simp, by go_simp, by go_simp, by go_simp, by go_simp, by go_simp, by go_simp⟩
theorem RB.set2 {w : World} {b : Nat} {x0 x1 x2 x3 x4 : Value} (h : RB w b x0 x1 x2 x3 x4) (y : Value) : RB (w.setCell ⟨b, 2, none⟩ y) b x0 x1 y x3 x4 := by
  obtain ⟨c0, c1, c2, c3, c4, f0, f1, f2, f3, f4⟩ := h
  exact ⟨by go_simp, by go_simp, by go_simp, by go_simp, by go_simp, by go_simp, by go_simp, by go_simp, by go_simp, by go_simp⟩
theorem RB.oth {w : World} {b b' : Nat} {x0 x1 x2 x3 x4 : Value} (h : RB w b x0 x1 x2 x3 x4) (hn : b' ≠ b) (j : Nat) (v : Value) : RB (w.setCell ⟨b', j, none⟩ v) b x0 x1 x2 x3 x4 := by
  obtain ⟨c0, c1, c2, c3, c4, f0, f1, f2, f3, f4⟩ := h
  have hn' : b ≠ b' := fun e => hn e.symm
  exact ⟨by go_simp, by go_simp, by go_simp, by go_simp, by go_simp, by go_simp, by go_simp, by go_simp, by go_simp, by go_simp⟩
theorem RB.fb {w : World} {b : Nat} {x0 x1 x2 x3 x4 : Value} (h : RB w b x0 x1 x2 x3 x4) : FB w b x0 x1 x2 x3 x4 := ⟨h.c0, h.c1, h.c2, h.c3, h.c4⟩
structure V5 where
  x0 : Value
  x1 : Value
  x2 : Value
  x3 : Value
  x4 : Value
/-- four boxes that stay -/
structure Quad (W0 W : World) (bf bm bl br : Nat) (F M L R : V5) : Prop where
  f : FB W bf F.x0 F.x1 F.x2 F.x3 F.x4
  m : FB W bm M.x0 M.x1 M.x2 M.x3 M.x4
  l : FB W bl L.x0 L.x1 L.x2 L.x3 L.x4
  r : FB W br R.x0 R.x1 R.x2 R.x3 R.x4
  lf : bf < W.heap.size
  lm : bm < W.heap.size
  ll : bl < W.heap.size
  lr : br < W.heap.size
  b : Below W0.heap.size W0 W
theorem Quad.on {W0 W W' : World} {bf bm bl br : Nat} {F M L R : V5} (h : Quad W0 W bf bm bl br F M L R) (hb : Below W.heap.size W W') : Quad W0 W' bf bm bl br F M L R :=
  ⟨h.f.on h.lf hb, h.m.on h.lm hb, h.l.on h.ll hb, h.r.on h.lr hb, Nat.lt_of_lt_of_le h.lf hb.size, Nat.lt_of_lt_of_le h.lm hb.size, Nat.lt_of_lt_of_le h.ll hb.size, Nat.lt_of_lt_of_le h.lr hb.size, since33_more h.b hb⟩
theorem strs_one (l : List ByteArray) : ∀ u ∈ strsV l, u.oneCell' = true := by
  intro u hu
  obtain ⟨x, _, rfl⟩ := List.mem_map.1 hu
  rfl
theorem strs_snoc (l : List ByteArray) (x : ByteArray) : strsV l ++ [.string x] = strsV (l ++ [x]) := by simp [strsV]
/-- both results lie there -/
def BothR (L : List RowD) (W0 : World) (a b : Value) (W : World) : Prop := ∃ A1 n1 c1 A2 n2 c2, a = .slice A1 n1 c1 ∧ b = .slice A2 n2 c2 ∧ RdG W A1 n1 L ∧ RdG W A2 n2 L ∧ Below W0.heap.size W0 W
theorem box2 (w : World) (x0 x1 x2 x3 x4 y0 y1 y2 y3 y4 : Value) (t : TypeId) : FB ((w.alloc (.cells #[x0, x1, x2, x3, x4] t)).alloc (.cells #[y0, y1, y2, y3, y4] t)) w.heap.size x0 x1 x2 x3 x4 ∧ FB ((w.alloc (.cells #[x0, x1, x2, x3, x4] t)).alloc (.cells #[y0, y1, y2, y3, y4] t)) (w.heap.size + 1) y0 y1 y2 y3 y4 := by
  refine ⟨(FB.new w x0 x1 x2 x3 x4 t).on (B := w.heap.size + 1) (by omega) ?_, ?_⟩
  · exact Below.mono ((Below.refl _ _).alloc (Nat.le_refl _) _) (by simp)
  · have h := FB.new (w.alloc (.cells #[x0, x1, x2, x3, x4] t)) y0 y1 y2 y3 y4 t
    rwa [show (w.alloc (.cells #[x0, x1, x2, x3, x4] t)).heap.size = w.heap.size + 1 from by simp] at h

set_option maxHeartbeats 16000000 in
set_option maxRecDepth 100000 in
theorem filterboth_any (f g : Sp.FD) (UA KA VA LA : Option Addr) (uc kc vc lc : Nat) (l : List RowD) (A : Option Addr) (n c : Nat) (u : ByteArray) (by' : Int) (w : World) (hf : FGood f UA KA w.heap.size w) (hg : FGood g VA LA w.heap.size w) (hr : Rd w w.heap.size 5 A n (rowsC l)) (hx : ∀ r ∈ l, r.text.size ≤ 4294967280) (hu : u.size ≤ 140737488355328) (E : Env w) :
    Calls Tryz.prog 6 #[filtV f UA uc KA kc, filtV g VA vc LA lc, .slice A n c, .string u, .int .i64 by'] w fun e w' => e = .returned (.bool true) ∧ Below w.heap.size w w' := by
  have hlen : l.length = n := by have := hr.1; rw [rowsC_len] at this; omega
  have HN := Lib.hid hlen
  have HRD := Lib.hid hr
  have HTX := Lib.hid hx
  have HE := Lib.hid E
  have HGF := Lib.hid hf
  have HGG := Lib.hid hg
  have HU := Lib.hid hu
  clear hlen hr hx E hf hg hu
  have HCF : Hid (∀ W, Below w.heap.size w W → ∀ A n c L, RdG W A n L → Calls Tryz.prog 18 #[filtV f UA uc KA kc, .slice A n c] W fun e w' => ∃ A' n' c', e = .returned (.slice A' n' c') ∧ RdG w' A' n' (Sp.rowsF f L) ∧ Below W.heap.size W w') := Lib.hid fun W hW A n c L h => rows_g c ((HGF.out.on hW).more hW.size) h (HE.out.on hW)
  have HCG : Hid (∀ W, Below w.heap.size w W → ∀ A n c L, RdG W A n L → Calls Tryz.prog 18 #[filtV g VA vc LA lc, .slice A n c] W fun e w' => ∃ A' n' c', e = .returned (.slice A' n' c') ∧ RdG w' A' n' (Sp.rowsF g L) ∧ Below W.heap.size W w') := Lib.hid fun W hW A n c L h => rows_g c ((HGG.out.on hW).more hW.size) h (HE.out.on hW)
  have HBO := Lib.hid (Sp.rows_both f g l)
  have HIF : Hid (∀ (f' : Sp.FD) (UA' : Option Addr) (uc' : Nat) W, FGood f' UA' KA W.heap.size W → Below w.heap.size w W → ∀ r ∈ l, Calls Tryz.prog 13 #[filtV f' UA' uc' KA kc, rowV r] W fun e w' => e = .returned (.bool (Sp.isF f' r)) ∧ Below W.heap.size W w') := Lib.hid fun f' UA' uc' W hG hW r hr => fis_any f' UA' KA uc' kc r W hG (HTX.out r hr) (HE.out.on hW)
  have HBX := Lib.hid (box2 w (.slice UA f.units.length uc) (.slice KA f.kinds.length kc) (.int .i64 f.since) (.int .i64 f.till) (.string f.word) (.slice VA g.units.length vc) (.slice LA g.kinds.length lc) (.int .i64 g.since) (.int .i64 g.till) (.string g.word) 26)
  have HM1 := Lib.hid (fun r => Sp.more_yes f u r)
  have HM2 := Lib.hid (fun r => Sp.more_no f u r)
  have HM3 := Lib.hid (fun n r => Sp.later_yes f n r)
  unfold filtV filtC at HCF HCG ⊢
  generalize hFU : f.units.length = fn at *
  generalize hFK : f.kinds.length = fkn at *
  generalize hGU : g.units.length = gn at *
  generalize hGK : g.kinds.length = gkn at *
  have HFU := Lib.hid hFU
  have HFK := Lib.hid hFK
  generalize hFS : f.since = fs at *
  generalize hFT : f.till = ft at *
  generalize hFW : f.word = fw at *
  generalize g.since = gs at *
  generalize g.till = gt at *
  generalize g.word = gw at *
  have HFS := Lib.hid hFS
  have HFT := Lib.hid hFT
  have HFW := Lib.hid hFW
  clear hFU hFK hGU hGK hFW hFS hFT
  have HL1 : Hid (w.heap.size + 1 < ((w.alloc (.cells #[.slice UA fn uc, .slice KA fkn kc, .int .i64 fs, .int .i64 ft, .string fw] 26)).alloc (.cells #[.slice VA gn vc, .slice LA gkn lc, .int .i64 gs, .int .i64 gt, .string gw] 26)).heap.size) := Lib.hid (by simp)
  have HB1 : Hid (Below w.heap.size w ((w.alloc (.cells #[.slice UA fn uc, .slice KA fkn kc, .int .i64 fs, .int .i64 ft, .string fw] 26)).alloc (.cells #[.slice VA gn vc, .slice LA gkn lc, .int .i64 gs, .int .i64 gt, .string gw] 26))) := Lib.hid (((Below.refl w.heap.size w).alloc (Nat.le_refl _) _).alloc (by simp) _)
  go_enter Tryz.func6, Tryz.ntmps6
  go_wp2_with fail
  have HS := Lib.hid (shown_any _ (HE.out.on HB1.out))
  generalize ((w.alloc (.cells #[.slice UA fn uc, .slice KA fkn kc, .int .i64 fs, .int .i64 ft, .string fw] 26)).alloc (.cells #[.slice VA gn vc, .slice LA gkn lc, .int .i64 gs, .int .i64 gt, .string gw] 26)) = w1 at *
  refine HS.out.mono ?_
  rintro e w2 ⟨rfl, hb2⟩
  have HB2 := Lib.hid (since33_more HB1.out hb2)
  have HF2 := Lib.hid (HBX.out.1.on (by have := HL1.out; omega) hb2)
  have HG2 := Lib.hid (HBX.out.2.on HL1.out hb2)
  have HL2 : Hid (w.heap.size + 1 < w2.heap.size) := Lib.hid (Nat.lt_of_lt_of_le HL1.out hb2.size)
  clear hb2 HBX HB1 HL1 HS
  obtain ⟨f0, f1, f2, f3, f4⟩ := HF2.out
  obtain ⟨g0, g1, g2, g3, g4⟩ := HG2.out

  by_cases q0 : (16 : Int) < (fn : Int)
  · go_wp2
    go_ret
    exact ⟨rfl, HB2.out⟩
  by_cases q1 : (16 : Int) < (gn : Int)
  · go_wp2
    go_ret
    exact ⟨rfl, HB2.out⟩
  by_cases q2 : (16 : Int) < (fkn : Int)
  · go_wp2
    go_ret
    exact ⟨rfl, HB2.out⟩
  by_cases q3 : (16 : Int) < (gkn : Int)
  · go_wp2
    go_ret
    exact ⟨rfl, HB2.out⟩
  by_cases q4 : (100 : Int) < (n : Int)
  · go_wp2
    go_ret
    exact ⟨rfl, HB2.out⟩
  go_upto_region 5 with fail
  clear f0 f1 f2 f3 f4 g0 g1 g2 g3 g4
  have hn1 : n ≤ 100 := by omega
  clear q0 q1 q2 q3 q4
  have HRL : Hid (RdG w2 A n l) := Lib.hid ⟨(HRD.out.below HB2.out).more HB2.out.size, HTX.out, HN.out, by omega⟩
  go_cut [11, 12] (fun a b W => BothR (Sp.rowsF f (Sp.rowsF g l)) w2 a b W)
  case first =>
    have k0 : ∀ V, Below w2.heap.size w2 V → V.cell? ⟨w.heap.size, 0, none⟩ = some (.slice UA fn uc) := fun V hV => (HF2.out.on (by have := HL2.out; omega) hV).c0
    have m0 : ∀ V, Below w2.heap.size w2 V → V.cell? ⟨w.heap.size + 1, 0, none⟩ = some (.slice VA gn vc) := fun V hV => (HG2.out.on HL2.out hV).c0
    have k1 : ∀ V, Below w2.heap.size w2 V → V.cell? ⟨w.heap.size, 1, none⟩ = some (.slice KA fkn kc) := fun V hV => (HF2.out.on (by have := HL2.out; omega) hV).c1
    have m1 : ∀ V, Below w2.heap.size w2 V → V.cell? ⟨w.heap.size + 1, 1, none⟩ = some (.slice LA gkn lc) := fun V hV => (HG2.out.on HL2.out hV).c1
    have k2 : ∀ V, Below w2.heap.size w2 V → V.cell? ⟨w.heap.size, 2, none⟩ = some (.int .i64 fs) := fun V hV => (HF2.out.on (by have := HL2.out; omega) hV).c2
    have m2 : ∀ V, Below w2.heap.size w2 V → V.cell? ⟨w.heap.size + 1, 2, none⟩ = some (.int .i64 gs) := fun V hV => (HG2.out.on HL2.out hV).c2
    have k3 : ∀ V, Below w2.heap.size w2 V → V.cell? ⟨w.heap.size, 3, none⟩ = some (.int .i64 ft) := fun V hV => (HF2.out.on (by have := HL2.out; omega) hV).c3
    have m3 : ∀ V, Below w2.heap.size w2 V → V.cell? ⟨w.heap.size + 1, 3, none⟩ = some (.int .i64 gt) := fun V hV => (HG2.out.on HL2.out hV).c3
    have k4 : ∀ V, Below w2.heap.size w2 V → V.cell? ⟨w.heap.size, 4, none⟩ = some (.string fw) := fun V hV => (HF2.out.on (by have := HL2.out; omega) hV).c4
    have m4 : ∀ V, Below w2.heap.size w2 V → V.cell? ⟨w.heap.size + 1, 4, none⟩ = some (.string gw) := fun V hV => (HG2.out.on HL2.out hV).c4
    have HCF2 : Hid (∀ W, Below w2.heap.size w2 W → ∀ A n c L, RdG W A n L → Calls Tryz.prog 18 #[.agg #[.slice UA fn uc, .slice KA fkn kc, .int .i64 fs, .int .i64 ft, .string fw], .slice A n c] W fun e w' => ∃ A' n' c', e = .returned (.slice A' n' c') ∧ RdG w' A' n' (Sp.rowsF f L) ∧ Below W.heap.size W w') := Lib.hid fun W hW => HCF.out W (since33_more HB2.out hW)
    have HCG2 : Hid (∀ W, Below w2.heap.size w2 W → ∀ A n c L, RdG W A n L → Calls Tryz.prog 18 #[.agg #[.slice VA gn vc, .slice LA gkn lc, .int .i64 gs, .int .i64 gt, .string gw], .slice A n c] W fun e w' => ∃ A' n' c', e = .returned (.slice A' n' c') ∧ RdG w' A' n' (Sp.rowsF g L) ∧ Below W.heap.size W w') := Lib.hid fun W hW => HCG.out W (since33_more HB2.out hW)
    have q0 : Below w2.heap.size w2 w2 := Below.refl _ _
    have q1 := since33_drew q0
    have rl0 : RdG w2.drew A n l := HRL.out.on (Below.refl _ _).drew
    clear HCF HCG HIF HM1 HM2 HM3
    go_region_held3 (fun W => Below w2.heap.size w2 W) (first | assumption | exact since33_drew (by assumption)) (first
      | (go_at_call_of 18 fw; refine Calls.mono (HCF2.out _ (by assumption) _ _ _ _ (by assumption)) ?_; rintro e wa ⟨A2, n2, c2, rfl, ra, hba⟩; have qa := since33_more (by assumption) hba; have rl := RdG.on (l := l) (by assumption) hba; have sa : Stp33 _ wa := ⟨hba⟩)
      | (go_at_call_of 18 gw; refine Calls.mono (HCG2.out _ (by assumption) _ _ _ _ (by assumption)) ?_; rintro e wa ⟨A2, n2, c2, rfl, ra, hba⟩; have qa := since33_more (by assumption) hba; have rl := RdG.on (l := l) (by assumption) hba; have sa : Stp33 _ wa := ⟨hba⟩))
    all_goals
      go_wp2_with fail
      go_meet
      exact ⟨_, _, _, _, _, _, rfl, rfl, RdG.stp (RdG.stp (by assumption) (by assumption)) (by assumption), by rw [← HBO.out]; assumption, by assumption⟩
  case rest =>
    obtain ⟨A1, n1, c1, A2, n2, c2, rfl, rfl, h1, h2, hb3⟩ := hcut
    have HB3 := Lib.hid (since33_more HB2.out hb3)
    have HF3 := Lib.hid (HF2.out.on (by have := HL2.out; omega) hb3)
    have HL3 : Hid (w.heap.size + 1 < wc.heap.size) := Lib.hid (Nat.lt_of_lt_of_le HL2.out hb3.size)
    have HSG := Lib.hid (same_g c1 c2 h1 h2)
    clear h1 h2 hb3 HB2 HF2 HL2 HG2 HRL HCF HCG HBO
    go_wp2_with fail
    refine HSG.out.mono ?_
    rintro e w4 ⟨rfl, hb4⟩
    have HB4 := Lib.hid (since33_more HB3.out hb4)
    have HF4 := Lib.hid (HF3.out.on (by have := HL3.out; omega) hb4)
    have HL4 : Hid (w.heap.size + 1 < w4.heap.size) := Lib.hid (Nat.lt_of_lt_of_le HL3.out hb4.size)
    clear hb4 HB3 HF3 HL3 HSG
    go_upto_region 8 with fail
    go_cut [13, 14] (fun a b W => TwoR w4 (.slice UA fn uc) (.slice KA fkn kc) (.int .i64 fs) (.int .i64 ft) (.string fw) a b W)
    case first =>
      clear HIF HM1 HM2 HM3

      have k0 : ∀ V, Below w4.heap.size w4 V → V.cell? ⟨w.heap.size, 0, none⟩ = some (.slice UA fn uc) := fun V hV => (HF4.out.on (by have := HL4.out; omega) hV).c0
      have k1 : ∀ V, Below w4.heap.size w4 V → V.cell? ⟨w.heap.size, 1, none⟩ = some (.slice KA fkn kc) := fun V hV => (HF4.out.on (by have := HL4.out; omega) hV).c1
      have k2 : ∀ V, Below w4.heap.size w4 V → V.cell? ⟨w.heap.size, 2, none⟩ = some (.int .i64 fs) := fun V hV => (HF4.out.on (by have := HL4.out; omega) hV).c2
      have k3 : ∀ V, Below w4.heap.size w4 V → V.cell? ⟨w.heap.size, 3, none⟩ = some (.int .i64 ft) := fun V hV => (HF4.out.on (by have := HL4.out; omega) hV).c3
      have k4 : ∀ V, Below w4.heap.size w4 V → V.cell? ⟨w.heap.size, 4, none⟩ = some (.string fw) := fun V hV => (HF4.out.on (by have := HL4.out; omega) hV).c4
      have q0 : Below w4.heap.size w4 w4 := Below.refl _ _
      have q1 := since33_drew q0
      go_region_held3 (fun W => Below w4.heap.size w4 W) (repeat' (first | assumption | apply since33_drew | apply since33_alloc)) (fail)
      all_goals
        go_wp2_with fail
        go_meet
        first | exact two_a _ _ _ _ _ _ _ | exact two_b _ _ _ _ _ _ _
    case rest =>
      obtain ⟨bm, bl, rfl, rfl, hne, hbm, hbl, hlm, hll, hRM, hRL, hb5⟩ := hcut
      have HB5 := Lib.hid (since33_more HB4.out (hb5.mono (Nat.le_refl _)))
      have HF5 := Lib.hid (HF4.out.on (by have := HL4.out; omega) hb5)
      have hlf : w.heap.size < wc.heap.size := by have := HL4.out; have := hb5.size; omega
      have RU : Hid (Rd wc wc.heap.size 1 UA fn (strsV f.units)) := Lib.hid (by have := (HGF.out.ru.below HB5.out).more HB5.out.size; rwa [HFU.out] at this)
      have hfn : fn ≤ 16 := by omega
      have hwm : w.heap.size ≤ bm := by have := HL4.out; omega
      have hwl : w.heap.size ≤ bl := by have := HL4.out; omega
      have hnm : w.heap.size ≠ bm := by have := HL4.out; omega
      have hnl : w.heap.size ≠ bl := by have := HL4.out; omega
      obtain ⟨i0, hi, hz0, hz1, hz2⟩ := info_parts str_info
      have f0 := HF5.out.c0
      go_wp2_with (at_builtin; refine wpList_append_rd _ rfl _ _ 23 rfl wc.heap.size 9 i0 (.string ⟨#[]⟩) 1 16 Tryz.underlying23 hi hz0 hz1 hz2 rfl (by decide) _ 0 [] rfl ⟨rfl, .inl ⟨rfl, rfl⟩⟩ UA fn uc wc.heap.size (strsV f.units) rfl RU.out (strs_one _) (by simp only [maxLen]; omega) (by omega) (Nat.le_refl _) ?_)
      intro v6 w6 hown6 hgr6
      obtain ⟨A6, c6, rfl⟩ := own_slice hown6
      have HB6 : Hid (Below wc.heap.size wc w6) := Lib.hid ((Below.refl _ _).grown hgr6 (Nat.le_refl _) (by intro g hg; cases hg))
      have HO6 := Lib.hid hown6
      have hsz := HB6.out.size
      clear hown6 hgr6 f0 RU
      go_wp2_with (at_builtin; refine wpList_append_own _ rfl _ _ 23 rfl wc.heap.size 9 i0 (.string ⟨#[]⟩) 1 16 Tryz.underlying23 hi hz0 hz1 hz2 rfl (by decide) _ _ _ rfl (World.ownsRow.alloc HO6.out _) ⟨w6.heap.size, 0, none⟩ 1 1 [.string u] rfl rfl (cell_one_new _ _ _) (by simp [Value.oneCell']) (by simp only [maxLen]; omega) (by omega) (by simp; omega) ?_)
      intro v7 w7 hown7 hgr7 _
      rw [strs_snoc] at hown7
      obtain ⟨A7, c7, rfl⟩ := own_slice hown7
      have HB7 : Hid (Below wc.heap.size wc w7) := Lib.hid ((HB6.out.alloc HB6.out.size _).grown hgr7 (by simp; omega) (own_base HO6.out))
      have HRM7 := Lib.hid (hRM.on hlm HB7.out)
      have HRL7 := Lib.hid (hRL.on hll HB7.out)
      have HF7 := Lib.hid (HF5.out.on hlf HB7.out)
      have HO7 := Lib.hid (own_put hown7 hlm 0 (.slice A7 (fn + 1) c7))
      obtain ⟨y0, -, -, -, -, z0, -, -, -, -⟩ := HRM7.out
      clear hown7 hgr7 HO6 HF5 hRM hRL
      go_upto_region 10 with fail
      have HRM8 := Lib.hid (HRM7.out.set0 (.slice A7 (fn + 1) c7))
      have HRL8 := Lib.hid (HRL7.out.oth hne 0 (.slice A7 (fn + 1) c7))
      have HF8 : Hid (FB (w7.setCell ⟨bm, 0, none⟩ (.slice A7 (fn + 1) c7)) w.heap.size (.slice UA fn uc) (.slice KA fkn kc) (.int .i64 fs) (.int .i64 ft) (.string fw)) := Lib.hid (HF7.out.on (B := bm) (by omega) (Below.setCell (Below.refl bm w7) (show bm ≤ (⟨bm, 0, none⟩ : Addr).block from Nat.le_refl _) _))
      have HB8 : Hid (Below w.heap.size w (w7.setCell ⟨bm, 0, none⟩ (.slice A7 (fn + 1) c7))) := Lib.hid ((since33_more HB5.out HB7.out).setCell hwm _)
      have HS8 : Hid (wc.heap.size ≤ (w7.setCell ⟨bm, 0, none⟩ (.slice A7 (fn + 1) c7)).heap.size) := Lib.hid (by have := HB7.out.size; simpa using this)
      clear y0 z0 HRM7 HRL7 HF7 HB7 HB6
      generalize (w7.setCell ⟨bm, 0, none⟩ (.slice A7 (fn + 1) c7)) = w8 at *
      have f2 := HF8.out.c2
      obtain ⟨-, -, y2, -, -, -, -, z2, -, -⟩ := HRL8.out
      go_upto_region 11 with fail
      clear f2 z2 y2
      have HMX : Hid (fs ≤ max fs by') := Lib.hid (by omega)
      have HRL9 := Lib.hid (HRL8.out.set2 (.int .i64 (max fs by')))
      have HRM9 := Lib.hid (HRM8.out.oth (fun e => hne e.symm) 2 (.int .i64 (max fs by')))
      have HF9 : Hid (FB (w8.setCell ⟨bl, 2, none⟩ (.int .i64 (max fs by'))) w.heap.size (.slice UA fn uc) (.slice KA fkn kc) (.int .i64 fs) (.int .i64 ft) (.string fw)) := Lib.hid (HF8.out.on (B := bl) (by omega) (Below.setCell (Below.refl bl w8) (show bl ≤ (⟨bl, 2, none⟩ : Addr).block from Nat.le_refl _) _))
      have HB9 : Hid (Below w.heap.size w (w8.setCell ⟨bl, 2, none⟩ (.int .i64 (max fs by')))) := Lib.hid (HB8.out.setCell hwl _)
      have HS9 : Hid (wc.heap.size ≤ (w8.setCell ⟨bl, 2, none⟩ (.int .i64 (max fs by'))).heap.size) := Lib.hid (by have := HS8.out; simpa using this)
      have HO9 := Lib.hid (own_put HO7.out hll 2 (.int .i64 (max fs by')))
      clear HRM8 HRL8 HF8 HB8 HS8 HO7
      generalize (w8.setCell ⟨bl, 2, none⟩ (.int .i64 (max fs by'))) = w9 at *
      generalize max fs by' = ms at *
      have HGM : Hid (FGood (Sp.moreF f u) A7 KA w9.heap.size w9) := Lib.hid ⟨by
          have h := Rd.of_own HO9.out
          rwa [show fn + 1 = (Sp.moreF f u).units.length from by simp [Sp.moreF, HFU.out]] at h, (HGF.out.rk.below HB9.out).more HB9.out.size, by
          have := HFU.out
          simp only [Sp.moreF, List.length_append, List.length_cons, List.length_nil]
          omega, HGF.out.kn, by
          intro x hx
          rcases List.mem_append.1 hx with h | h
          · exact HGF.out.us x h
          · obtain rfl := List.mem_singleton.1 h
            exact HU.out, HGF.out.ws⟩
      have HGL : Hid (FGood (Sp.laterF f ms) UA KA w9.heap.size w9) := Lib.hid ⟨(HGF.out.ru.below HB9.out).more HB9.out.size, (HGF.out.rk.below HB9.out).more HB9.out.size, HGF.out.un, HGF.out.kn, HGF.out.us, HGF.out.ws⟩
      have HGF9 : Hid (FGood f UA KA w9.heap.size w9) := Lib.hid ((HGF.out.on HB9.out).more HB9.out.size)
      have HLT : Hid (w.heap.size < w9.heap.size ∧ bm < w9.heap.size ∧ bl < w9.heap.size) := Lib.hid ⟨by have := HS9.out; omega, by have := HS9.out; omega, by have := HS9.out; omega⟩
      have HBX := Lib.hid (HRM9.out.fb)
      have HBY := Lib.hid (HRL9.out.fb)
      have HROW : Hid (∀ k (hk : k < l.length), _) := Lib.hid (fun k hk => Rd.rowAt (HRD.out.below HB9.out) k hk)
      clear HRM9 HRL9 HO9 HS9 hbm hbl hlm hll hwm hwl hnm hnl hlf hsz hi hz0 hz1 hz2 HB5 hb5 HB4 HF4 HL4
      go_wp2_with fail
      go_loopw [76] (fun v wr => ∃ k : Nat, k ≤ n ∧ v = .int .i64 k ∧ Hid (Below w9.heap.size w9 wr)) (fun v _ => n - (intOf v).toNat)
      case atStart => exact ⟨0, Nat.zero_le _, rfl, Lib.hid (Below.refl _ _)⟩
      case round =>
        obtain ⟨k, hk, rfl, HB⟩ := hrel
        by_cases hlt : k < n
        · have hkl : k < l.length := by rw [HN.out]; exact hlt
          obtain ⟨ad, rfl, hc⟩ := HROW.out k hkl
          obtain ⟨c0, c1, c2, c3, c4⟩ := hc wr (HB.out.mono HB9.out.size)
          have hin : l[k] ∈ l := List.getElem_mem hkl
          have x1 : (0 : Int) ≤ (k : Int) := by omega
          have x2 : (k : Int) < (n : Int) := by omega
          have HI1 := Lib.hid (fun W (hb : Below w9.heap.size w9 W) => HIF.out f UA uc W ((HGF9.out.on hb).more hb.size) (since33_more HB9.out hb) l[k] hin)
          have HI2 := Lib.hid (fun W (hb : Below w9.heap.size w9 W) => HIF.out (Sp.moreF f u) A7 c7 W ((HGM.out.on hb).more hb.size) (since33_more HB9.out hb) l[k] hin)
          have HI3 := Lib.hid (fun W (hb : Below w9.heap.size w9 W) => HIF.out (Sp.laterF f ms) UA uc W ((HGL.out.on hb).more hb.size) (since33_more HB9.out hb) l[k] hin)
          have HP1 := Lib.hid (HM1.out l[k])
          have HP2 := Lib.hid (HM2.out l[k])
          have HP3 := Lib.hid (HM3.out ms l[k] HMX.out)
          clear hc hin
          generalize l[k] = r at *
          generalize Sp.isF f r = a at *
          generalize Sp.isF (Sp.moreF f u) r = m at *
          generalize Sp.isF (Sp.laterF f ms) r = t at *
          obtain ⟨rt, ru, rn, rk, rx⟩ := r
          unfold filtV filtC at HI1 HI2 HI3
          simp only [rowV, rowC, Sp.moreF, Sp.laterF, List.length_append, List.length_cons, List.length_nil, Nat.zero_add, HFU.out, HFK.out, HFS.out, HFT.out, HFW.out] at HI1 HI2 HI3
          dsimp only at c0 c1 c2 c3 c4 HP2
          have HQ0 : Hid (Quad w9 (wr.alloc (.cells #[.int .i64 rt, .string ru, .int .i64 rn, .int .i64 rk, .string rx] 37)) w.heap.size bm bl wr.heap.size ⟨.slice UA fn uc, .slice KA fkn kc, .int .i64 fs, .int .i64 ft, .string fw⟩ ⟨.slice A7 (fn + 1) c7, .slice KA fkn kc, .int .i64 fs, .int .i64 ft, .string fw⟩ ⟨.slice UA fn uc, .slice KA fkn kc, .int .i64 ms, .int .i64 ft, .string fw⟩ ⟨.int .i64 rt, .string ru, .int .i64 rn, .int .i64 rk, .string rx⟩) := Lib.hid (by
            have hs := HB.out.size
            have h1 := HB.out.alloc hs (.cells #[.int .i64 rt, .string ru, .int .i64 rn, .int .i64 rk, .string rx] 37)
            have h2 := HLT.out
            have h3 : (wr.alloc (.cells #[.int .i64 rt, .string ru, .int .i64 rn, .int .i64 rk, .string rx] 37)).heap.size = wr.heap.size + 1 := by simp
            exact ⟨HF9.out.on h2.1 h1, HBX.out.on h2.2.1 h1, HBY.out.on h2.2.2 h1, row_new wr rt rn rk ru rx, by omega, by omega, by omega, by omega, h1⟩)
          go_upto_region 14 with fail
          clear c0 c1 c2 c3 c4 HB
          generalize (wr.alloc (.cells #[.int .i64 rt, .string ru, .int .i64 rn, .int .i64 rk, .string rx] 37)) = W0 at *
          generalize wr.heap.size = br at *

          by_cases hp : 0 < fn
          · have tp : (0 : Int) < (fn : Int) := by omega
            clear hp
            cases a with
            | true =>
              obtain rfl : m = true := HP1.out (by omega) rfl
              cases t with
              | true =>
                cases e1 : (ru.toList != u.toList) with
                | true =>
                  have e2 : (ru.toList == u.toList) = false := by simpa [bne] using e1
                  obtain ⟨⟨f0, f1, f2, f3, f4⟩, ⟨m0, m1, m2, m3, m4⟩, ⟨l0, l1, l2, l3, l4⟩, ⟨r0, r1, r2, r3, r4⟩, -, -, -, -, hqb⟩ := HQ0.out
                  dsimp only at f0 f1 f2 f3 f4 m0 m1 m2 m3 m4 l0 l1 l2 l3 l4 r0 r1 r2 r3 r4
                  go_wp2_with fail
                  refine (HI1.out W0 hqb).mono ?_
                  rintro e W1 ⟨rfl, hb⟩
                  have HQ1 := Lib.hid (HQ0.out.on hb)
                  clear hb hqb HQ0 f0 f1 f2 f3 f4 m0 m1 m2 m3 m4 l0 l1 l2 l3 l4 r0 r1 r2 r3 r4
                  obtain ⟨⟨f0, f1, f2, f3, f4⟩, ⟨m0, m1, m2, m3, m4⟩, ⟨l0, l1, l2, l3, l4⟩, ⟨r0, r1, r2, r3, r4⟩, -, -, -, -, hqb⟩ := HQ1.out
                  dsimp only at f0 f1 f2 f3 f4 m0 m1 m2 m3 m4 l0 l1 l2 l3 l4 r0 r1 r2 r3 r4
                  go_wp2_with fail
                  refine (HI2.out W1 hqb).mono ?_
                  rintro e W2 ⟨rfl, hb⟩
                  have HQ2 := Lib.hid (HQ1.out.on hb)
                  clear hb hqb HQ1 f0 f1 f2 f3 f4 m0 m1 m2 m3 m4 l0 l1 l2 l3 l4 r0 r1 r2 r3 r4
                  obtain ⟨⟨f0, f1, f2, f3, f4⟩, ⟨m0, m1, m2, m3, m4⟩, ⟨l0, l1, l2, l3, l4⟩, ⟨r0, r1, r2, r3, r4⟩, -, -, -, -, hqb⟩ := HQ2.out
                  dsimp only at f0 f1 f2 f3 f4 m0 m1 m2 m3 m4 l0 l1 l2 l3 l4 r0 r1 r2 r3 r4
                  go_wp2_with fail
                  refine (HI3.out W2 hqb).mono ?_
                  rintro e W3 ⟨rfl, hb⟩
                  have HQ3 := Lib.hid (HQ2.out.on hb)
                  clear hb hqb HQ2 f0 f1 f2 f3 f4 m0 m1 m2 m3 m4 l0 l1 l2 l3 l4 r0 r1 r2 r3 r4
                  obtain ⟨⟨f0, f1, f2, f3, f4⟩, ⟨m0, m1, m2, m3, m4⟩, ⟨l0, l1, l2, l3, l4⟩, ⟨r0, r1, r2, r3, r4⟩, -, -, -, -, hqb⟩ := HQ3.out
                  dsimp only at f0 f1 f2 f3 f4 m0 m1 m2 m3 m4 l0 l1 l2 l3 l4 r0 r1 r2 r3 r4
                  go_wp2_with fail
                  refine (HI1.out W3 hqb).mono ?_
                  rintro e W4 ⟨rfl, hb⟩
                  have HQ4 := Lib.hid (HQ3.out.on hb)
                  clear hb hqb HQ3 f0 f1 f2 f3 f4 m0 m1 m2 m3 m4 l0 l1 l2 l3 l4 r0 r1 r2 r3 r4
                  obtain ⟨⟨f0, f1, f2, f3, f4⟩, ⟨m0, m1, m2, m3, m4⟩, ⟨l0, l1, l2, l3, l4⟩, ⟨r0, r1, r2, r3, r4⟩, -, -, -, -, hqb⟩ := HQ4.out
                  dsimp only at f0 f1 f2 f3 f4 m0 m1 m2 m3 m4 l0 l1 l2 l3 l4 r0 r1 r2 r3 r4
                  go_wp2_with fail
                  refine (HI2.out W4 hqb).mono ?_
                  rintro e W5 ⟨rfl, hb⟩
                  have HQ5 := Lib.hid (HQ4.out.on hb)
                  clear hb hqb HQ4 f0 f1 f2 f3 f4 m0 m1 m2 m3 m4 l0 l1 l2 l3 l4 r0 r1 r2 r3 r4
                  obtain ⟨⟨f0, f1, f2, f3, f4⟩, ⟨m0, m1, m2, m3, m4⟩, ⟨l0, l1, l2, l3, l4⟩, ⟨r0, r1, r2, r3, r4⟩, -, -, -, -, hqb⟩ := HQ5.out
                  dsimp only at f0 f1 f2 f3 f4 m0 m1 m2 m3 m4 l0 l1 l2 l3 l4 r0 r1 r2 r3 r4
                  go_wp2_with fail
                  refine (HI1.out W5 hqb).mono ?_
                  rintro e W6 ⟨rfl, hb⟩
                  have HQ6 := Lib.hid (HQ5.out.on hb)
                  clear hb hqb HQ5 f0 f1 f2 f3 f4 m0 m1 m2 m3 m4 l0 l1 l2 l3 l4 r0 r1 r2 r3 r4
                  obtain ⟨-, -, -, ⟨-, r1, -, -, -⟩, -, -, -, -, hqb⟩ := HQ6.out
                  dsimp only at r1
                  have HBE := Lib.hid hqb
                  clear hqb
                  go_wp2
                  go_roundw
                  case rel => exact ⟨k + 1, by omega, by go_num, HBE.out⟩
                  case measure => first | (simp [intOf]; done) | (simp [intOf]; omega)
                | false =>
                  have e2 : (ru.toList == u.toList) = true := by simpa [bne] using e1
                  obtain ⟨⟨f0, f1, f2, f3, f4⟩, ⟨m0, m1, m2, m3, m4⟩, ⟨l0, l1, l2, l3, l4⟩, ⟨r0, r1, r2, r3, r4⟩, -, -, -, -, hqb⟩ := HQ0.out
                  dsimp only at f0 f1 f2 f3 f4 m0 m1 m2 m3 m4 l0 l1 l2 l3 l4 r0 r1 r2 r3 r4
                  go_wp2_with fail
                  refine (HI1.out W0 hqb).mono ?_
                  rintro e W1 ⟨rfl, hb⟩
                  have HQ1 := Lib.hid (HQ0.out.on hb)
                  clear hb hqb HQ0 f0 f1 f2 f3 f4 m0 m1 m2 m3 m4 l0 l1 l2 l3 l4 r0 r1 r2 r3 r4
                  obtain ⟨⟨f0, f1, f2, f3, f4⟩, ⟨m0, m1, m2, m3, m4⟩, ⟨l0, l1, l2, l3, l4⟩, ⟨r0, r1, r2, r3, r4⟩, -, -, -, -, hqb⟩ := HQ1.out
                  dsimp only at f0 f1 f2 f3 f4 m0 m1 m2 m3 m4 l0 l1 l2 l3 l4 r0 r1 r2 r3 r4
                  go_wp2_with fail
                  refine (HI2.out W1 hqb).mono ?_
                  rintro e W2 ⟨rfl, hb⟩
                  have HQ2 := Lib.hid (HQ1.out.on hb)
                  clear hb hqb HQ1 f0 f1 f2 f3 f4 m0 m1 m2 m3 m4 l0 l1 l2 l3 l4 r0 r1 r2 r3 r4
                  obtain ⟨⟨f0, f1, f2, f3, f4⟩, ⟨m0, m1, m2, m3, m4⟩, ⟨l0, l1, l2, l3, l4⟩, ⟨r0, r1, r2, r3, r4⟩, -, -, -, -, hqb⟩ := HQ2.out
                  dsimp only at f0 f1 f2 f3 f4 m0 m1 m2 m3 m4 l0 l1 l2 l3 l4 r0 r1 r2 r3 r4
                  go_wp2_with fail
                  refine (HI3.out W2 hqb).mono ?_
                  rintro e W3 ⟨rfl, hb⟩
                  have HQ3 := Lib.hid (HQ2.out.on hb)
                  clear hb hqb HQ2 f0 f1 f2 f3 f4 m0 m1 m2 m3 m4 l0 l1 l2 l3 l4 r0 r1 r2 r3 r4
                  obtain ⟨⟨f0, f1, f2, f3, f4⟩, ⟨m0, m1, m2, m3, m4⟩, ⟨l0, l1, l2, l3, l4⟩, ⟨r0, r1, r2, r3, r4⟩, -, -, -, -, hqb⟩ := HQ3.out
                  dsimp only at f0 f1 f2 f3 f4 m0 m1 m2 m3 m4 l0 l1 l2 l3 l4 r0 r1 r2 r3 r4
                  go_wp2_with fail
                  refine (HI1.out W3 hqb).mono ?_
                  rintro e W4 ⟨rfl, hb⟩
                  have HQ4 := Lib.hid (HQ3.out.on hb)
                  clear hb hqb HQ3 f0 f1 f2 f3 f4 m0 m1 m2 m3 m4 l0 l1 l2 l3 l4 r0 r1 r2 r3 r4
                  obtain ⟨⟨f0, f1, f2, f3, f4⟩, ⟨m0, m1, m2, m3, m4⟩, ⟨l0, l1, l2, l3, l4⟩, ⟨r0, r1, r2, r3, r4⟩, -, -, -, -, hqb⟩ := HQ4.out
                  dsimp only at f0 f1 f2 f3 f4 m0 m1 m2 m3 m4 l0 l1 l2 l3 l4 r0 r1 r2 r3 r4
                  go_wp2_with fail
                  refine (HI2.out W4 hqb).mono ?_
                  rintro e W5 ⟨rfl, hb⟩
                  have HQ5 := Lib.hid (HQ4.out.on hb)
                  clear hb hqb HQ4 f0 f1 f2 f3 f4 m0 m1 m2 m3 m4 l0 l1 l2 l3 l4 r0 r1 r2 r3 r4
                  obtain ⟨-, -, -, ⟨-, r1, -, -, -⟩, -, -, -, -, hqb⟩ := HQ5.out
                  dsimp only at r1
                  have HBE := Lib.hid hqb
                  clear hqb
                  go_wp2
                  go_roundw
                  case rel => exact ⟨k + 1, by omega, by go_num, HBE.out⟩
                  case measure => first | (simp [intOf]; done) | (simp [intOf]; omega)
              | false =>
                cases e1 : (ru.toList != u.toList) with
                | true =>
                  have e2 : (ru.toList == u.toList) = false := by simpa [bne] using e1
                  obtain ⟨⟨f0, f1, f2, f3, f4⟩, ⟨m0, m1, m2, m3, m4⟩, ⟨l0, l1, l2, l3, l4⟩, ⟨r0, r1, r2, r3, r4⟩, -, -, -, -, hqb⟩ := HQ0.out
                  dsimp only at f0 f1 f2 f3 f4 m0 m1 m2 m3 m4 l0 l1 l2 l3 l4 r0 r1 r2 r3 r4
                  go_wp2_with fail
                  refine (HI1.out W0 hqb).mono ?_
                  rintro e W1 ⟨rfl, hb⟩
                  have HQ1 := Lib.hid (HQ0.out.on hb)
                  clear hb hqb HQ0 f0 f1 f2 f3 f4 m0 m1 m2 m3 m4 l0 l1 l2 l3 l4 r0 r1 r2 r3 r4
                  obtain ⟨⟨f0, f1, f2, f3, f4⟩, ⟨m0, m1, m2, m3, m4⟩, ⟨l0, l1, l2, l3, l4⟩, ⟨r0, r1, r2, r3, r4⟩, -, -, -, -, hqb⟩ := HQ1.out
                  dsimp only at f0 f1 f2 f3 f4 m0 m1 m2 m3 m4 l0 l1 l2 l3 l4 r0 r1 r2 r3 r4
                  go_wp2_with fail
                  refine (HI2.out W1 hqb).mono ?_
                  rintro e W2 ⟨rfl, hb⟩
                  have HQ2 := Lib.hid (HQ1.out.on hb)
                  clear hb hqb HQ1 f0 f1 f2 f3 f4 m0 m1 m2 m3 m4 l0 l1 l2 l3 l4 r0 r1 r2 r3 r4
                  obtain ⟨⟨f0, f1, f2, f3, f4⟩, ⟨m0, m1, m2, m3, m4⟩, ⟨l0, l1, l2, l3, l4⟩, ⟨r0, r1, r2, r3, r4⟩, -, -, -, -, hqb⟩ := HQ2.out
                  dsimp only at f0 f1 f2 f3 f4 m0 m1 m2 m3 m4 l0 l1 l2 l3 l4 r0 r1 r2 r3 r4
                  go_wp2_with fail
                  refine (HI3.out W2 hqb).mono ?_
                  rintro e W3 ⟨rfl, hb⟩
                  have HQ3 := Lib.hid (HQ2.out.on hb)
                  clear hb hqb HQ2 f0 f1 f2 f3 f4 m0 m1 m2 m3 m4 l0 l1 l2 l3 l4 r0 r1 r2 r3 r4
                  obtain ⟨⟨f0, f1, f2, f3, f4⟩, ⟨m0, m1, m2, m3, m4⟩, ⟨l0, l1, l2, l3, l4⟩, ⟨r0, r1, r2, r3, r4⟩, -, -, -, -, hqb⟩ := HQ3.out
                  dsimp only at f0 f1 f2 f3 f4 m0 m1 m2 m3 m4 l0 l1 l2 l3 l4 r0 r1 r2 r3 r4
                  go_wp2_with fail
                  refine (HI2.out W3 hqb).mono ?_
                  rintro e W4 ⟨rfl, hb⟩
                  have HQ4 := Lib.hid (HQ3.out.on hb)
                  clear hb hqb HQ3 f0 f1 f2 f3 f4 m0 m1 m2 m3 m4 l0 l1 l2 l3 l4 r0 r1 r2 r3 r4
                  obtain ⟨⟨f0, f1, f2, f3, f4⟩, ⟨m0, m1, m2, m3, m4⟩, ⟨l0, l1, l2, l3, l4⟩, ⟨r0, r1, r2, r3, r4⟩, -, -, -, -, hqb⟩ := HQ4.out
                  dsimp only at f0 f1 f2 f3 f4 m0 m1 m2 m3 m4 l0 l1 l2 l3 l4 r0 r1 r2 r3 r4
                  go_wp2_with fail
                  refine (HI1.out W4 hqb).mono ?_
                  rintro e W5 ⟨rfl, hb⟩
                  have HQ5 := Lib.hid (HQ4.out.on hb)
                  clear hb hqb HQ4 f0 f1 f2 f3 f4 m0 m1 m2 m3 m4 l0 l1 l2 l3 l4 r0 r1 r2 r3 r4
                  obtain ⟨-, -, -, ⟨-, r1, -, -, -⟩, -, -, -, -, hqb⟩ := HQ5.out
                  dsimp only at r1
                  have HBE := Lib.hid hqb
                  clear hqb
                  go_wp2
                  go_roundw
                  case rel => exact ⟨k + 1, by omega, by go_num, HBE.out⟩
                  case measure => first | (simp [intOf]; done) | (simp [intOf]; omega)
                | false =>
                  have e2 : (ru.toList == u.toList) = true := by simpa [bne] using e1
                  obtain ⟨⟨f0, f1, f2, f3, f4⟩, ⟨m0, m1, m2, m3, m4⟩, ⟨l0, l1, l2, l3, l4⟩, ⟨r0, r1, r2, r3, r4⟩, -, -, -, -, hqb⟩ := HQ0.out
                  dsimp only at f0 f1 f2 f3 f4 m0 m1 m2 m3 m4 l0 l1 l2 l3 l4 r0 r1 r2 r3 r4
                  go_wp2_with fail
                  refine (HI1.out W0 hqb).mono ?_
                  rintro e W1 ⟨rfl, hb⟩
                  have HQ1 := Lib.hid (HQ0.out.on hb)
                  clear hb hqb HQ0 f0 f1 f2 f3 f4 m0 m1 m2 m3 m4 l0 l1 l2 l3 l4 r0 r1 r2 r3 r4
                  obtain ⟨⟨f0, f1, f2, f3, f4⟩, ⟨m0, m1, m2, m3, m4⟩, ⟨l0, l1, l2, l3, l4⟩, ⟨r0, r1, r2, r3, r4⟩, -, -, -, -, hqb⟩ := HQ1.out
                  dsimp only at f0 f1 f2 f3 f4 m0 m1 m2 m3 m4 l0 l1 l2 l3 l4 r0 r1 r2 r3 r4
                  go_wp2_with fail
                  refine (HI2.out W1 hqb).mono ?_
                  rintro e W2 ⟨rfl, hb⟩
                  have HQ2 := Lib.hid (HQ1.out.on hb)
                  clear hb hqb HQ1 f0 f1 f2 f3 f4 m0 m1 m2 m3 m4 l0 l1 l2 l3 l4 r0 r1 r2 r3 r4
                  obtain ⟨⟨f0, f1, f2, f3, f4⟩, ⟨m0, m1, m2, m3, m4⟩, ⟨l0, l1, l2, l3, l4⟩, ⟨r0, r1, r2, r3, r4⟩, -, -, -, -, hqb⟩ := HQ2.out
                  dsimp only at f0 f1 f2 f3 f4 m0 m1 m2 m3 m4 l0 l1 l2 l3 l4 r0 r1 r2 r3 r4
                  go_wp2_with fail
                  refine (HI3.out W2 hqb).mono ?_
                  rintro e W3 ⟨rfl, hb⟩
                  have HQ3 := Lib.hid (HQ2.out.on hb)
                  clear hb hqb HQ2 f0 f1 f2 f3 f4 m0 m1 m2 m3 m4 l0 l1 l2 l3 l4 r0 r1 r2 r3 r4
                  obtain ⟨⟨f0, f1, f2, f3, f4⟩, ⟨m0, m1, m2, m3, m4⟩, ⟨l0, l1, l2, l3, l4⟩, ⟨r0, r1, r2, r3, r4⟩, -, -, -, -, hqb⟩ := HQ3.out
                  dsimp only at f0 f1 f2 f3 f4 m0 m1 m2 m3 m4 l0 l1 l2 l3 l4 r0 r1 r2 r3 r4
                  go_wp2_with fail
                  refine (HI2.out W3 hqb).mono ?_
                  rintro e W4 ⟨rfl, hb⟩
                  have HQ4 := Lib.hid (HQ3.out.on hb)
                  clear hb hqb HQ3 f0 f1 f2 f3 f4 m0 m1 m2 m3 m4 l0 l1 l2 l3 l4 r0 r1 r2 r3 r4
                  obtain ⟨-, -, -, ⟨-, r1, -, -, -⟩, -, -, -, -, hqb⟩ := HQ4.out
                  dsimp only at r1
                  have HBE := Lib.hid hqb
                  clear hqb
                  go_wp2
                  go_roundw
                  case rel => exact ⟨k + 1, by omega, by go_num, HBE.out⟩
                  case measure => first | (simp [intOf]; done) | (simp [intOf]; omega)
            | false =>
              cases m with
              | true =>
                obtain rfl : t = false := by
                  cases t with
                  | false => rfl
                  | true => exact absurd (HP3.out rfl) (by simp)
                obtain rfl : ru = u := Decidable.byContradiction fun h => absurd (HP2.out rfl h) (by simp)
                have e1 : (ru.toList != ru.toList) = false := by simp
                have e2 : (ru.toList == ru.toList) = true := by simp
                obtain ⟨⟨f0, f1, f2, f3, f4⟩, ⟨m0, m1, m2, m3, m4⟩, ⟨l0, l1, l2, l3, l4⟩, ⟨r0, r1, r2, r3, r4⟩, -, -, -, -, hqb⟩ := HQ0.out
                dsimp only at f0 f1 f2 f3 f4 m0 m1 m2 m3 m4 l0 l1 l2 l3 l4 r0 r1 r2 r3 r4
                go_wp2_with fail
                refine (HI1.out W0 hqb).mono ?_
                rintro e W1 ⟨rfl, hb⟩
                have HQ1 := Lib.hid (HQ0.out.on hb)
                clear hb hqb HQ0 f0 f1 f2 f3 f4 m0 m1 m2 m3 m4 l0 l1 l2 l3 l4 r0 r1 r2 r3 r4
                obtain ⟨⟨f0, f1, f2, f3, f4⟩, ⟨m0, m1, m2, m3, m4⟩, ⟨l0, l1, l2, l3, l4⟩, ⟨r0, r1, r2, r3, r4⟩, -, -, -, -, hqb⟩ := HQ1.out
                dsimp only at f0 f1 f2 f3 f4 m0 m1 m2 m3 m4 l0 l1 l2 l3 l4 r0 r1 r2 r3 r4
                go_wp2_with fail
                refine (HI3.out W1 hqb).mono ?_
                rintro e W2 ⟨rfl, hb⟩
                have HQ2 := Lib.hid (HQ1.out.on hb)
                clear hb hqb HQ1 f0 f1 f2 f3 f4 m0 m1 m2 m3 m4 l0 l1 l2 l3 l4 r0 r1 r2 r3 r4
                obtain ⟨⟨f0, f1, f2, f3, f4⟩, ⟨m0, m1, m2, m3, m4⟩, ⟨l0, l1, l2, l3, l4⟩, ⟨r0, r1, r2, r3, r4⟩, -, -, -, -, hqb⟩ := HQ2.out
                dsimp only at f0 f1 f2 f3 f4 m0 m1 m2 m3 m4 l0 l1 l2 l3 l4 r0 r1 r2 r3 r4
                go_wp2_with fail
                refine (HI2.out W2 hqb).mono ?_
                rintro e W3 ⟨rfl, hb⟩
                have HQ3 := Lib.hid (HQ2.out.on hb)
                clear hb hqb HQ2 f0 f1 f2 f3 f4 m0 m1 m2 m3 m4 l0 l1 l2 l3 l4 r0 r1 r2 r3 r4
                obtain ⟨-, -, -, ⟨-, r1, -, -, -⟩, -, -, -, -, hqb⟩ := HQ3.out
                dsimp only at r1
                have HBE := Lib.hid hqb
                clear hqb
                go_wp2
                go_roundw
                case rel => exact ⟨k + 1, by omega, by go_num, HBE.out⟩
                case measure => first | (simp [intOf]; done) | (simp [intOf]; omega)
              | false =>
                obtain rfl : t = false := by
                  cases t with
                  | false => rfl
                  | true => exact absurd (HP3.out rfl) (by simp)
                obtain ⟨⟨f0, f1, f2, f3, f4⟩, ⟨m0, m1, m2, m3, m4⟩, ⟨l0, l1, l2, l3, l4⟩, ⟨r0, r1, r2, r3, r4⟩, -, -, -, -, hqb⟩ := HQ0.out
                dsimp only at f0 f1 f2 f3 f4 m0 m1 m2 m3 m4 l0 l1 l2 l3 l4 r0 r1 r2 r3 r4
                go_wp2_with fail
                refine (HI1.out W0 hqb).mono ?_
                rintro e W1 ⟨rfl, hb⟩
                have HQ1 := Lib.hid (HQ0.out.on hb)
                clear hb hqb HQ0 f0 f1 f2 f3 f4 m0 m1 m2 m3 m4 l0 l1 l2 l3 l4 r0 r1 r2 r3 r4
                obtain ⟨⟨f0, f1, f2, f3, f4⟩, ⟨m0, m1, m2, m3, m4⟩, ⟨l0, l1, l2, l3, l4⟩, ⟨r0, r1, r2, r3, r4⟩, -, -, -, -, hqb⟩ := HQ1.out
                dsimp only at f0 f1 f2 f3 f4 m0 m1 m2 m3 m4 l0 l1 l2 l3 l4 r0 r1 r2 r3 r4
                go_wp2_with fail
                refine (HI3.out W1 hqb).mono ?_
                rintro e W2 ⟨rfl, hb⟩
                have HQ2 := Lib.hid (HQ1.out.on hb)
                clear hb hqb HQ1 f0 f1 f2 f3 f4 m0 m1 m2 m3 m4 l0 l1 l2 l3 l4 r0 r1 r2 r3 r4
                obtain ⟨⟨f0, f1, f2, f3, f4⟩, ⟨m0, m1, m2, m3, m4⟩, ⟨l0, l1, l2, l3, l4⟩, ⟨r0, r1, r2, r3, r4⟩, -, -, -, -, hqb⟩ := HQ2.out
                dsimp only at f0 f1 f2 f3 f4 m0 m1 m2 m3 m4 l0 l1 l2 l3 l4 r0 r1 r2 r3 r4
                go_wp2_with fail
                refine (HI2.out W2 hqb).mono ?_
                rintro e W3 ⟨rfl, hb⟩
                have HQ3 := Lib.hid (HQ2.out.on hb)
                clear hb hqb HQ2 f0 f1 f2 f3 f4 m0 m1 m2 m3 m4 l0 l1 l2 l3 l4 r0 r1 r2 r3 r4
                obtain ⟨-, -, -, ⟨-, r1, -, -, -⟩, -, -, -, -, hqb⟩ := HQ3.out
                dsimp only at r1
                have HBE := Lib.hid hqb
                clear hqb
                go_wp2
                go_roundw
                case rel => exact ⟨k + 1, by omega, by go_num, HBE.out⟩
                case measure => first | (simp [intOf]; done) | (simp [intOf]; omega)
          · have tp : ¬ (0 : Int) < (fn : Int) := by omega
            clear hp
            cases a with
            | true =>
              cases m with
              | true =>
                cases t with
                | true =>
                  cases e1 : (ru.toList != u.toList) with
                  | true =>
                    have e2 : (ru.toList == u.toList) = false := by simpa [bne] using e1
                    obtain ⟨⟨f0, f1, f2, f3, f4⟩, ⟨m0, m1, m2, m3, m4⟩, ⟨l0, l1, l2, l3, l4⟩, ⟨r0, r1, r2, r3, r4⟩, -, -, -, -, hqb⟩ := HQ0.out
                    dsimp only at f0 f1 f2 f3 f4 m0 m1 m2 m3 m4 l0 l1 l2 l3 l4 r0 r1 r2 r3 r4
                    go_wp2_with fail
                    refine (HI3.out W0 hqb).mono ?_
                    rintro e W1 ⟨rfl, hb⟩
                    have HQ1 := Lib.hid (HQ0.out.on hb)
                    clear hb hqb HQ0 f0 f1 f2 f3 f4 m0 m1 m2 m3 m4 l0 l1 l2 l3 l4 r0 r1 r2 r3 r4
                    obtain ⟨⟨f0, f1, f2, f3, f4⟩, ⟨m0, m1, m2, m3, m4⟩, ⟨l0, l1, l2, l3, l4⟩, ⟨r0, r1, r2, r3, r4⟩, -, -, -, -, hqb⟩ := HQ1.out
                    dsimp only at f0 f1 f2 f3 f4 m0 m1 m2 m3 m4 l0 l1 l2 l3 l4 r0 r1 r2 r3 r4
                    go_wp2_with fail
                    refine (HI1.out W1 hqb).mono ?_
                    rintro e W2 ⟨rfl, hb⟩
                    have HQ2 := Lib.hid (HQ1.out.on hb)
                    clear hb hqb HQ1 f0 f1 f2 f3 f4 m0 m1 m2 m3 m4 l0 l1 l2 l3 l4 r0 r1 r2 r3 r4
                    obtain ⟨⟨f0, f1, f2, f3, f4⟩, ⟨m0, m1, m2, m3, m4⟩, ⟨l0, l1, l2, l3, l4⟩, ⟨r0, r1, r2, r3, r4⟩, -, -, -, -, hqb⟩ := HQ2.out
                    dsimp only at f0 f1 f2 f3 f4 m0 m1 m2 m3 m4 l0 l1 l2 l3 l4 r0 r1 r2 r3 r4
                    go_wp2_with fail
                    refine (HI2.out W2 hqb).mono ?_
                    rintro e W3 ⟨rfl, hb⟩
                    have HQ3 := Lib.hid (HQ2.out.on hb)
                    clear hb hqb HQ2 f0 f1 f2 f3 f4 m0 m1 m2 m3 m4 l0 l1 l2 l3 l4 r0 r1 r2 r3 r4
                    obtain ⟨⟨f0, f1, f2, f3, f4⟩, ⟨m0, m1, m2, m3, m4⟩, ⟨l0, l1, l2, l3, l4⟩, ⟨r0, r1, r2, r3, r4⟩, -, -, -, -, hqb⟩ := HQ3.out
                    dsimp only at f0 f1 f2 f3 f4 m0 m1 m2 m3 m4 l0 l1 l2 l3 l4 r0 r1 r2 r3 r4
                    go_wp2_with fail
                    refine (HI1.out W3 hqb).mono ?_
                    rintro e W4 ⟨rfl, hb⟩
                    have HQ4 := Lib.hid (HQ3.out.on hb)
                    clear hb hqb HQ3 f0 f1 f2 f3 f4 m0 m1 m2 m3 m4 l0 l1 l2 l3 l4 r0 r1 r2 r3 r4
                    obtain ⟨-, -, -, ⟨-, r1, -, -, -⟩, -, -, -, -, hqb⟩ := HQ4.out
                    dsimp only at r1
                    have HBE := Lib.hid hqb
                    clear hqb
                    go_wp2
                    go_roundw
                    case rel => exact ⟨k + 1, by omega, by go_num, HBE.out⟩
                    case measure => first | (simp [intOf]; done) | (simp [intOf]; omega)
                  | false =>
                    have e2 : (ru.toList == u.toList) = true := by simpa [bne] using e1
                    obtain ⟨⟨f0, f1, f2, f3, f4⟩, ⟨m0, m1, m2, m3, m4⟩, ⟨l0, l1, l2, l3, l4⟩, ⟨r0, r1, r2, r3, r4⟩, -, -, -, -, hqb⟩ := HQ0.out
                    dsimp only at f0 f1 f2 f3 f4 m0 m1 m2 m3 m4 l0 l1 l2 l3 l4 r0 r1 r2 r3 r4
                    go_wp2_with fail
                    refine (HI3.out W0 hqb).mono ?_
                    rintro e W1 ⟨rfl, hb⟩
                    have HQ1 := Lib.hid (HQ0.out.on hb)
                    clear hb hqb HQ0 f0 f1 f2 f3 f4 m0 m1 m2 m3 m4 l0 l1 l2 l3 l4 r0 r1 r2 r3 r4
                    obtain ⟨⟨f0, f1, f2, f3, f4⟩, ⟨m0, m1, m2, m3, m4⟩, ⟨l0, l1, l2, l3, l4⟩, ⟨r0, r1, r2, r3, r4⟩, -, -, -, -, hqb⟩ := HQ1.out
                    dsimp only at f0 f1 f2 f3 f4 m0 m1 m2 m3 m4 l0 l1 l2 l3 l4 r0 r1 r2 r3 r4
                    go_wp2_with fail
                    refine (HI1.out W1 hqb).mono ?_
                    rintro e W2 ⟨rfl, hb⟩
                    have HQ2 := Lib.hid (HQ1.out.on hb)
                    clear hb hqb HQ1 f0 f1 f2 f3 f4 m0 m1 m2 m3 m4 l0 l1 l2 l3 l4 r0 r1 r2 r3 r4
                    obtain ⟨⟨f0, f1, f2, f3, f4⟩, ⟨m0, m1, m2, m3, m4⟩, ⟨l0, l1, l2, l3, l4⟩, ⟨r0, r1, r2, r3, r4⟩, -, -, -, -, hqb⟩ := HQ2.out
                    dsimp only at f0 f1 f2 f3 f4 m0 m1 m2 m3 m4 l0 l1 l2 l3 l4 r0 r1 r2 r3 r4
                    go_wp2_with fail
                    refine (HI2.out W2 hqb).mono ?_
                    rintro e W3 ⟨rfl, hb⟩
                    have HQ3 := Lib.hid (HQ2.out.on hb)
                    clear hb hqb HQ2 f0 f1 f2 f3 f4 m0 m1 m2 m3 m4 l0 l1 l2 l3 l4 r0 r1 r2 r3 r4
                    obtain ⟨-, -, -, ⟨-, r1, -, -, -⟩, -, -, -, -, hqb⟩ := HQ3.out
                    dsimp only at r1
                    have HBE := Lib.hid hqb
                    clear hqb
                    go_wp2
                    go_roundw
                    case rel => exact ⟨k + 1, by omega, by go_num, HBE.out⟩
                    case measure => first | (simp [intOf]; done) | (simp [intOf]; omega)
                | false =>
                  cases e1 : (ru.toList != u.toList) with
                  | true =>
                    have e2 : (ru.toList == u.toList) = false := by simpa [bne] using e1
                    obtain ⟨⟨f0, f1, f2, f3, f4⟩, ⟨m0, m1, m2, m3, m4⟩, ⟨l0, l1, l2, l3, l4⟩, ⟨r0, r1, r2, r3, r4⟩, -, -, -, -, hqb⟩ := HQ0.out
                    dsimp only at f0 f1 f2 f3 f4 m0 m1 m2 m3 m4 l0 l1 l2 l3 l4 r0 r1 r2 r3 r4
                    go_wp2_with fail
                    refine (HI3.out W0 hqb).mono ?_
                    rintro e W1 ⟨rfl, hb⟩
                    have HQ1 := Lib.hid (HQ0.out.on hb)
                    clear hb hqb HQ0 f0 f1 f2 f3 f4 m0 m1 m2 m3 m4 l0 l1 l2 l3 l4 r0 r1 r2 r3 r4
                    obtain ⟨⟨f0, f1, f2, f3, f4⟩, ⟨m0, m1, m2, m3, m4⟩, ⟨l0, l1, l2, l3, l4⟩, ⟨r0, r1, r2, r3, r4⟩, -, -, -, -, hqb⟩ := HQ1.out
                    dsimp only at f0 f1 f2 f3 f4 m0 m1 m2 m3 m4 l0 l1 l2 l3 l4 r0 r1 r2 r3 r4
                    go_wp2_with fail
                    refine (HI2.out W1 hqb).mono ?_
                    rintro e W2 ⟨rfl, hb⟩
                    have HQ2 := Lib.hid (HQ1.out.on hb)
                    clear hb hqb HQ1 f0 f1 f2 f3 f4 m0 m1 m2 m3 m4 l0 l1 l2 l3 l4 r0 r1 r2 r3 r4
                    obtain ⟨⟨f0, f1, f2, f3, f4⟩, ⟨m0, m1, m2, m3, m4⟩, ⟨l0, l1, l2, l3, l4⟩, ⟨r0, r1, r2, r3, r4⟩, -, -, -, -, hqb⟩ := HQ2.out
                    dsimp only at f0 f1 f2 f3 f4 m0 m1 m2 m3 m4 l0 l1 l2 l3 l4 r0 r1 r2 r3 r4
                    go_wp2_with fail
                    refine (HI1.out W2 hqb).mono ?_
                    rintro e W3 ⟨rfl, hb⟩
                    have HQ3 := Lib.hid (HQ2.out.on hb)
                    clear hb hqb HQ2 f0 f1 f2 f3 f4 m0 m1 m2 m3 m4 l0 l1 l2 l3 l4 r0 r1 r2 r3 r4
                    obtain ⟨-, -, -, ⟨-, r1, -, -, -⟩, -, -, -, -, hqb⟩ := HQ3.out
                    dsimp only at r1
                    have HBE := Lib.hid hqb
                    clear hqb
                    go_wp2
                    go_roundw
                    case rel => exact ⟨k + 1, by omega, by go_num, HBE.out⟩
                    case measure => first | (simp [intOf]; done) | (simp [intOf]; omega)
                  | false =>
                    have e2 : (ru.toList == u.toList) = true := by simpa [bne] using e1
                    obtain ⟨⟨f0, f1, f2, f3, f4⟩, ⟨m0, m1, m2, m3, m4⟩, ⟨l0, l1, l2, l3, l4⟩, ⟨r0, r1, r2, r3, r4⟩, -, -, -, -, hqb⟩ := HQ0.out
                    dsimp only at f0 f1 f2 f3 f4 m0 m1 m2 m3 m4 l0 l1 l2 l3 l4 r0 r1 r2 r3 r4
                    go_wp2_with fail
                    refine (HI3.out W0 hqb).mono ?_
                    rintro e W1 ⟨rfl, hb⟩
                    have HQ1 := Lib.hid (HQ0.out.on hb)
                    clear hb hqb HQ0 f0 f1 f2 f3 f4 m0 m1 m2 m3 m4 l0 l1 l2 l3 l4 r0 r1 r2 r3 r4
                    obtain ⟨⟨f0, f1, f2, f3, f4⟩, ⟨m0, m1, m2, m3, m4⟩, ⟨l0, l1, l2, l3, l4⟩, ⟨r0, r1, r2, r3, r4⟩, -, -, -, -, hqb⟩ := HQ1.out
                    dsimp only at f0 f1 f2 f3 f4 m0 m1 m2 m3 m4 l0 l1 l2 l3 l4 r0 r1 r2 r3 r4
                    go_wp2_with fail
                    refine (HI2.out W1 hqb).mono ?_
                    rintro e W2 ⟨rfl, hb⟩
                    have HQ2 := Lib.hid (HQ1.out.on hb)
                    clear hb hqb HQ1 f0 f1 f2 f3 f4 m0 m1 m2 m3 m4 l0 l1 l2 l3 l4 r0 r1 r2 r3 r4
                    obtain ⟨-, -, -, ⟨-, r1, -, -, -⟩, -, -, -, -, hqb⟩ := HQ2.out
                    dsimp only at r1
                    have HBE := Lib.hid hqb
                    clear hqb
                    go_wp2
                    go_roundw
                    case rel => exact ⟨k + 1, by omega, by go_num, HBE.out⟩
                    case measure => first | (simp [intOf]; done) | (simp [intOf]; omega)
              | false =>
                cases t with
                | true =>
                  obtain ⟨⟨f0, f1, f2, f3, f4⟩, ⟨m0, m1, m2, m3, m4⟩, ⟨l0, l1, l2, l3, l4⟩, ⟨r0, r1, r2, r3, r4⟩, -, -, -, -, hqb⟩ := HQ0.out
                  dsimp only at f0 f1 f2 f3 f4 m0 m1 m2 m3 m4 l0 l1 l2 l3 l4 r0 r1 r2 r3 r4
                  go_wp2_with fail
                  refine (HI3.out W0 hqb).mono ?_
                  rintro e W1 ⟨rfl, hb⟩
                  have HQ1 := Lib.hid (HQ0.out.on hb)
                  clear hb hqb HQ0 f0 f1 f2 f3 f4 m0 m1 m2 m3 m4 l0 l1 l2 l3 l4 r0 r1 r2 r3 r4
                  obtain ⟨⟨f0, f1, f2, f3, f4⟩, ⟨m0, m1, m2, m3, m4⟩, ⟨l0, l1, l2, l3, l4⟩, ⟨r0, r1, r2, r3, r4⟩, -, -, -, -, hqb⟩ := HQ1.out
                  dsimp only at f0 f1 f2 f3 f4 m0 m1 m2 m3 m4 l0 l1 l2 l3 l4 r0 r1 r2 r3 r4
                  go_wp2_with fail
                  refine (HI1.out W1 hqb).mono ?_
                  rintro e W2 ⟨rfl, hb⟩
                  have HQ2 := Lib.hid (HQ1.out.on hb)
                  clear hb hqb HQ1 f0 f1 f2 f3 f4 m0 m1 m2 m3 m4 l0 l1 l2 l3 l4 r0 r1 r2 r3 r4
                  obtain ⟨⟨f0, f1, f2, f3, f4⟩, ⟨m0, m1, m2, m3, m4⟩, ⟨l0, l1, l2, l3, l4⟩, ⟨r0, r1, r2, r3, r4⟩, -, -, -, -, hqb⟩ := HQ2.out
                  dsimp only at f0 f1 f2 f3 f4 m0 m1 m2 m3 m4 l0 l1 l2 l3 l4 r0 r1 r2 r3 r4
                  go_wp2_with fail
                  refine (HI2.out W2 hqb).mono ?_
                  rintro e W3 ⟨rfl, hb⟩
                  have HQ3 := Lib.hid (HQ2.out.on hb)
                  clear hb hqb HQ2 f0 f1 f2 f3 f4 m0 m1 m2 m3 m4 l0 l1 l2 l3 l4 r0 r1 r2 r3 r4
                  obtain ⟨-, -, -, ⟨-, r1, -, -, -⟩, -, -, -, -, hqb⟩ := HQ3.out
                  dsimp only at r1
                  have HBE := Lib.hid hqb
                  clear hqb
                  go_wp2
                  go_roundw
                  case rel => exact ⟨k + 1, by omega, by go_num, HBE.out⟩
                  case measure => first | (simp [intOf]; done) | (simp [intOf]; omega)
                | false =>
                  obtain ⟨⟨f0, f1, f2, f3, f4⟩, ⟨m0, m1, m2, m3, m4⟩, ⟨l0, l1, l2, l3, l4⟩, ⟨r0, r1, r2, r3, r4⟩, -, -, -, -, hqb⟩ := HQ0.out
                  dsimp only at f0 f1 f2 f3 f4 m0 m1 m2 m3 m4 l0 l1 l2 l3 l4 r0 r1 r2 r3 r4
                  go_wp2_with fail
                  refine (HI3.out W0 hqb).mono ?_
                  rintro e W1 ⟨rfl, hb⟩
                  have HQ1 := Lib.hid (HQ0.out.on hb)
                  clear hb hqb HQ0 f0 f1 f2 f3 f4 m0 m1 m2 m3 m4 l0 l1 l2 l3 l4 r0 r1 r2 r3 r4
                  obtain ⟨⟨f0, f1, f2, f3, f4⟩, ⟨m0, m1, m2, m3, m4⟩, ⟨l0, l1, l2, l3, l4⟩, ⟨r0, r1, r2, r3, r4⟩, -, -, -, -, hqb⟩ := HQ1.out
                  dsimp only at f0 f1 f2 f3 f4 m0 m1 m2 m3 m4 l0 l1 l2 l3 l4 r0 r1 r2 r3 r4
                  go_wp2_with fail
                  refine (HI2.out W1 hqb).mono ?_
                  rintro e W2 ⟨rfl, hb⟩
                  have HQ2 := Lib.hid (HQ1.out.on hb)
                  clear hb hqb HQ1 f0 f1 f2 f3 f4 m0 m1 m2 m3 m4 l0 l1 l2 l3 l4 r0 r1 r2 r3 r4
                  obtain ⟨-, -, -, ⟨-, r1, -, -, -⟩, -, -, -, -, hqb⟩ := HQ2.out
                  dsimp only at r1
                  have HBE := Lib.hid hqb
                  clear hqb
                  go_wp2
                  go_roundw
                  case rel => exact ⟨k + 1, by omega, by go_num, HBE.out⟩
                  case measure => first | (simp [intOf]; done) | (simp [intOf]; omega)
            | false =>
              cases m with
              | true =>
                obtain rfl : t = false := by
                  cases t with
                  | false => rfl
                  | true => exact absurd (HP3.out rfl) (by simp)
                obtain rfl : ru = u := Decidable.byContradiction fun h => absurd (HP2.out rfl h) (by simp)
                have e1 : (ru.toList != ru.toList) = false := by simp
                have e2 : (ru.toList == ru.toList) = true := by simp
                obtain ⟨⟨f0, f1, f2, f3, f4⟩, ⟨m0, m1, m2, m3, m4⟩, ⟨l0, l1, l2, l3, l4⟩, ⟨r0, r1, r2, r3, r4⟩, -, -, -, -, hqb⟩ := HQ0.out
                dsimp only at f0 f1 f2 f3 f4 m0 m1 m2 m3 m4 l0 l1 l2 l3 l4 r0 r1 r2 r3 r4
                go_wp2_with fail
                refine (HI3.out W0 hqb).mono ?_
                rintro e W1 ⟨rfl, hb⟩
                have HQ1 := Lib.hid (HQ0.out.on hb)
                clear hb hqb HQ0 f0 f1 f2 f3 f4 m0 m1 m2 m3 m4 l0 l1 l2 l3 l4 r0 r1 r2 r3 r4
                obtain ⟨⟨f0, f1, f2, f3, f4⟩, ⟨m0, m1, m2, m3, m4⟩, ⟨l0, l1, l2, l3, l4⟩, ⟨r0, r1, r2, r3, r4⟩, -, -, -, -, hqb⟩ := HQ1.out
                dsimp only at f0 f1 f2 f3 f4 m0 m1 m2 m3 m4 l0 l1 l2 l3 l4 r0 r1 r2 r3 r4
                go_wp2_with fail
                refine (HI2.out W1 hqb).mono ?_
                rintro e W2 ⟨rfl, hb⟩
                have HQ2 := Lib.hid (HQ1.out.on hb)
                clear hb hqb HQ1 f0 f1 f2 f3 f4 m0 m1 m2 m3 m4 l0 l1 l2 l3 l4 r0 r1 r2 r3 r4
                obtain ⟨-, -, -, ⟨-, r1, -, -, -⟩, -, -, -, -, hqb⟩ := HQ2.out
                dsimp only at r1
                have HBE := Lib.hid hqb
                clear hqb
                go_wp2
                go_roundw
                case rel => exact ⟨k + 1, by omega, by go_num, HBE.out⟩
                case measure => first | (simp [intOf]; done) | (simp [intOf]; omega)
              | false =>
                obtain rfl : t = false := by
                  cases t with
                  | false => rfl
                  | true => exact absurd (HP3.out rfl) (by simp)
                obtain ⟨⟨f0, f1, f2, f3, f4⟩, ⟨m0, m1, m2, m3, m4⟩, ⟨l0, l1, l2, l3, l4⟩, ⟨r0, r1, r2, r3, r4⟩, -, -, -, -, hqb⟩ := HQ0.out
                dsimp only at f0 f1 f2 f3 f4 m0 m1 m2 m3 m4 l0 l1 l2 l3 l4 r0 r1 r2 r3 r4
                go_wp2_with fail
                refine (HI3.out W0 hqb).mono ?_
                rintro e W1 ⟨rfl, hb⟩
                have HQ1 := Lib.hid (HQ0.out.on hb)
                clear hb hqb HQ0 f0 f1 f2 f3 f4 m0 m1 m2 m3 m4 l0 l1 l2 l3 l4 r0 r1 r2 r3 r4
                obtain ⟨⟨f0, f1, f2, f3, f4⟩, ⟨m0, m1, m2, m3, m4⟩, ⟨l0, l1, l2, l3, l4⟩, ⟨r0, r1, r2, r3, r4⟩, -, -, -, -, hqb⟩ := HQ1.out
                dsimp only at f0 f1 f2 f3 f4 m0 m1 m2 m3 m4 l0 l1 l2 l3 l4 r0 r1 r2 r3 r4
                go_wp2_with fail
                refine (HI2.out W1 hqb).mono ?_
                rintro e W2 ⟨rfl, hb⟩
                have HQ2 := Lib.hid (HQ1.out.on hb)
                clear hb hqb HQ1 f0 f1 f2 f3 f4 m0 m1 m2 m3 m4 l0 l1 l2 l3 l4 r0 r1 r2 r3 r4
                obtain ⟨-, -, -, ⟨-, r1, -, -, -⟩, -, -, -, -, hqb⟩ := HQ2.out
                dsimp only at r1
                have HBE := Lib.hid hqb
                clear hqb
                go_wp2
                go_roundw
                case rel => exact ⟨k + 1, by omega, by go_num, HBE.out⟩
                case measure => first | (simp [intOf]; done) | (simp [intOf]; omega)
        · have x1 : ¬ (k : Int) < (n : Int) := by omega
          have HFIN := Lib.hid (since33_more HB9.out HB.out)
          clear HB
          go_wp2
          go_ret
          exact ⟨rfl, HFIN.out⟩

end Go.Proofs.YtkgbmeppflnejaaGreatDoor
