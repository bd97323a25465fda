/-
  A filter that is being read, in memory: its lists, its map of what was there; a unit is read: the program's walk.
-/
import Derived.Test.YtijfeeiplljnjaaGreatDoorUq
import Derived.Test.YtijfeeiplljnjaaGreatDoorUn
import Derived.Maps.OwnOps
import Derived.Maps.OwnSet
namespace Go.Proofs.YtijfeeiplljnjaaGreatDoor
open Go.RowKit Go.Shelf

theorem plainElem_bool_inv {H : Type} {P : Program} {e : TypeId} (he : P.underlying e = some .bool) {v : Value} {z : DataW H × List MemPlace} (h : plainElem P e v = some z) : ∃ x, v = .bool x ∧ z = (.lit (.bool x), []) := by
  unfold plainElem at h
  rw [he] at h
  cases v <;> simp at h
  exact ⟨_, rfl, h.symm⟩
theorem strKey : Go.Maps.Keyed Tryz.prog 9 := Go.Maps.string_keyed Tryz.underlying9
theorem zeroBool (w : World) : (zeroValue 4).run Tryz.prog w = .ok (.bool false) w := by kernel_rfl
def kS : Lit := .string [115, 105, 110, 99, 101]
def kT : Lit := .string [117, 110, 116, 105, 108]
def kW : Lit := .string [119, 111, 114, 100]
/-- block mb is a map that tells of three keys whether they were there -/
def Had (mb n : Nat) (h0 h1 h2 : Bool) (w : World) : Prop := ∃ D : DataW Unit, w.ownsMap Tryz.prog 9 (plainElem Tryz.prog 4) mb n D ∧ Go.Maps.IsMap D ∧ D.atKey kS (.lit (.bool false)) = .lit (.bool h0) ∧ D.atKey kT (.lit (.bool false)) = .lit (.bool h1) ∧ D.atKey kW (.lit (.bool false)) = .lit (.bool h2)
theorem Had.kept {mb n : Nat} {h0 h1 h2 : Bool} {w w' : World} {row : Option Nat} (h : Had mb n h0 h1 h2 w) (hg : w.grownBy w' row) (hr : ∀ g, row = some g → ∃ cs T fz, w.heap[g]? = some (.cells cs T fz)) : Had mb n h0 h1 h2 w' := by
  obtain ⟨D, h1, r⟩ := h
  refine ⟨D, h1.kept hg (fun e => ?_), r⟩
  obtain ⟨cs, T, fz, hc⟩ := hr mb e.symm
  obtain ⟨es, clock, hb, _⟩ := h1
  rw [hb] at hc
  cases hc
theorem Had.lt {mb n : Nat} {h0 h1 h2 : Bool} {w : World} (h : Had mb n h0 h1 h2 w) : mb < w.heap.size := by obtain ⟨D, h1, _⟩ := h; exact h1.lt
theorem Had.below {mb n : Nat} {h0 h1 h2 : Bool} {w w' : World} (h : Had mb n h0 h1 h2 w) (hb : Below w.heap.size w w') : Had mb n h0 h1 h2 w' :=
  h.kept (row := none) ⟨hb.os, hb.tape, hb.output, hb.size, fun k hk _ => hb.block k hk⟩ (fun g e => by cases e)
theorem Had.new (w : World) : Had w.heap.size 0 false false false (w.alloc (.map #[] 0)) := ⟨.map [], World.ownsMap_made w _ _ _, Go.Maps.isMap_empty, rfl, rfl, rfl⟩
theorem had_look {mb n : Nat} {w : World} {D : DataW Unit} (h : w.ownsMap Tryz.prog 9 (plainElem Tryz.prog 4) mb n D) (s : ByteArray) (hs : s.size ≤ 100) (b : Bool) (hat : D.atKey (.string s.data.toList) (.lit (.bool false)) = .lit (.bool b)) :
    (Instr.lookup 40 (.map (some mb)) (.string s) false).run Tryz.prog w = .ok (.bool b) w := by
  obtain ⟨v, ps, hrun, hv⟩ := h.lookup strKey Tryz.underlying40 (zeroBool w) (plainElem_bool Tryz.underlying4 false) (WideMaps.keyOf_string_mk Tryz.underlying9 (s := s) (by unfold maxLen; omega))
  obtain ⟨x, rfl, hz⟩ := plainElem_bool_inv Tryz.underlying4 hv
  rw [hat] at hz
  simp only [Prod.mk.injEq, DataW.lit.injEq, Lit.bool.injEq] at hz
  rw [hrun, hz.1]

/-- block b is a reader of a filter, its lists of the call's own -/
def FRm (B b mb n : Nat) (s : Sp.PS) (w : World) : Prop :=
  ∃ uv kv, (B ≤ b ∧ B ≤ mb) ∧ w.heap[b]? = some (.cells #[uv, kv, .int .i64 s.f.since, .int .i64 s.f.till, .string s.f.word, .map (some mb)] 42 (0, 0)) ∧ OwnS B uv s.f.units w ∧ OwnI B kv s.f.kinds w ∧ Had mb n s.h0 s.h1 s.h2 w
theorem FRm.lt {B b mb n : Nat} {s : Sp.PS} {w : World} (h : FRm B b mb n s w) : b < w.heap.size := by
  obtain ⟨_, _, _, h, _⟩ := h; exact (Array.getElem?_eq_some_iff.1 h).1
theorem OwnI.below {B B' : Nat} {v : Value} {xs : List Int} {w w' : World} (h : OwnI B v xs w) (hb : Below B' w w') (hB : w.heap.size ≤ B') : OwnI B v xs w' := by
  refine ⟨h.1, ?_⟩
  rcases h.2 with hv | ⟨g, cap, cur, hv, hg, hh, r⟩
  · exact .inl hv
  · exact .inr ⟨g, cap, cur, hv, hg, (hb.block g (by have := (Array.getElem?_eq_some_iff.1 hh).1; omega)).trans hh, r⟩
theorem FRm.below {B b mb n : Nat} {s : Sp.PS} {w w' : World} (h : FRm B b mb n s w) (hb : Below w.heap.size w w') : FRm B b mb n s w' := by
  have hlt := h.lt
  obtain ⟨uv, kv, h1, h2, h3, h4, h5⟩ := h
  exact ⟨uv, kv, h1, (hb.block b hlt).trans h2, h3.below hb (Nat.le_refl _), h4.below hb (Nat.le_refl _), h5.below hb⟩
theorem FRm.drewN {B b mb n : Nat} {s : Sp.PS} {w : World} (h : FRm B b mb n s w) (k : Nat) : FRm B b mb n s (w.drewN k) := h.below (belowQ (Below.refl _ _) k)
theorem own_other {B : Nat} {v : Value} {T : TypeId} {n : Nat} {xs : List Value} {w w' : World} {row : Option Nat} (h : w.ownsRow B T 1 v n xs) (hg : w.grownBy w' row) (hr : ∀ g, row = some g → ∃ cs T' fz, w.heap[g]? = some (.cells cs T' fz) ∧ T' ≠ T) : w'.ownsRow B T 1 v n xs := by
  refine h.kept hg ?_
  cases hv : v.ownBlock with
  | none => exact .inl rfl
  | some g =>
    refine .inr fun e => ?_
    obtain ⟨cs, T', fz, hc, hT⟩ := hr g e.symm
    rcases h.2 with ⟨hv2, _⟩ | ⟨g', cap, cur, hv2, _, hh, _⟩
    · rw [hv2] at hv; cases hv
    · rw [hv2] at hv
      injection hv with hv
      have : g' = g := hv
      subst this
      rw [hh] at hc
      injection hc with hc
      injection hc with _ hc _
      exact hT hc.symm
/-- one word's reading: an error, or a reader of what is there then -/
def StepR (B b mb n : Nat) (o : Except Int Sp.PS) (w : World) (e : Ending) (w' : World) : Prop :=
  Below B w w' ∧ match o with
  | .error x => e = .returned (.int .i64 x)
  | .ok s => e = .returned (.int .i64 0) ∧ FRm B b mb n s w'
theorem grown_below {B : Nat} {w w' : World} {row : Option Nat} (hg : w.grownBy w' row) (hB : B ≤ w.heap.size) (hr : ∀ g, row = some g → B ≤ g) : Below B w w' := (Below.refl B w).grown hg hB hr
/-- a new list of units is put into a reader -/
theorem FRm.units {B b mb n : Nat} {s : Sp.PS} {w w' : World} {uv kv uv' : Value} {ys : List ByteArray} (hB : B ≤ b ∧ B ≤ mb) (hb : w.heap[b]? = some (.cells #[uv, kv, .int .i64 s.f.since, .int .i64 s.f.till, .string s.f.word, .map (some mb)] 42 (0, 0))) (hu : OwnS B uv s.f.units w) (hk : OwnI B kv s.f.kinds w) (hh : Had mb n s.h0 s.h1 s.h2 w)
    (hy : OwnS B uv' ys w') (hg : w.grownBy w' uv.ownBlock) :
    (w'.heap[b]? = some (.cells #[uv, kv, .int .i64 s.f.since, .int .i64 s.f.till, .string s.f.word, .map (some mb)] 42 (0, 0))) ∧ Below B w w' ∧ FRm B b mb n ⟨⟨ys, s.f.kinds, s.f.since, s.f.till, s.f.word⟩, s.h0, s.h1, s.h2⟩ (w'.setCell ⟨b, 0, none⟩ uv') := by
  have hlt : b < w.heap.size := (Array.getElem?_eq_some_iff.1 hb).1
  have hub : uv.ownBlock ≠ some b := fun e => by
    obtain ⟨cs, hc⟩ := hu.row b e
    rw [hb] at hc
    injection hc with hc
    injection hc with _ hc _
    revert hc
    decide
  have hb' := (hg.block b hlt (fun e => hub e.symm)).trans hb
  have hrow : ∀ g, uv.ownBlock = some g → ∃ cs T' fz, w.heap[g]? = some (.cells cs T' fz) ∧ T' ≠ 3 := fun g e => by
    obtain ⟨cs, hc⟩ := hu.row g e
    exact ⟨cs, _, _, hc, by decide⟩
  refine ⟨hb', grown_below hg (by omega) (fun g e => (World.ownsRow.lt hu g e).1), ?_⟩
  have hgs := grown_setCell w' b 0 uv'
  have hrb : ∀ T, T ≠ 42 → ∀ g, (some b : Option Nat) = some g → ∃ cs T' fz, w'.heap[g]? = some (.cells cs T' fz) ∧ T' ≠ T := fun T hT g e => by
    injection e with e
    subst e
    exact ⟨_, _, _, hb', fun e => hT e.symm⟩
  refine ⟨uv', kv, hB, by simp [World.setCell, Array.getElem?_modify, hb'], own_other hy hgs (hrb _ (by decide)), own_other (own_other hk hg hrow) hgs (hrb _ (by decide)), (hh.kept hg (fun g e => ?_)).kept hgs (fun g e => ?_)⟩
  · obtain ⟨cs, T, fz, hc, _⟩ := hrow g e; exact ⟨cs, T, fz, hc⟩
  · obtain ⟨cs, T, fz, hc, _⟩ := hrb 3 (by decide) g e; exact ⟨cs, T, fz, hc⟩
theorem toL_is (s : ByteArray) (l : List UInt8) : (s.toList == l) = decide (s.data.toList = l) := by
  rw [Lib.toList_data, Bool.eq_iff_iff]; simp
set_option maxHeartbeats 4000000 in
set_option maxRecDepth 100000 in
theorem funit_any (B b mb n : Nat) (s : Sp.PS) (v : ByteArray) (w : World) (h : FRm B b mb n s w) (hm : Sp.MayF s.f) (hB : B ≤ w.heap.size) (hv : v.size ≤ 140737488355328) :
    Calls Tryz.prog 37 #[.pointer (some ⟨b, 0, none⟩), .string v] w (StepR B b mb n (Sp.stepU s v.data.toList) w) := by
  have tail : ∀ (x : ByteArray) (w0 : World), Below B w w0 → B ≤ w0.heap.size → FRm B b mb n s w0 → ∃ uv kv, (w0.cell? ⟨b, 0, none⟩ = some uv ∧ w0.frozen? ⟨b, 0, none⟩ = false) ∧ (∃ A c, uv = .slice A s.f.units.length c) ∧ w0.heap[b]? = some (.cells #[uv, kv, .int .i64 s.f.since, .int .i64 s.f.till, .string s.f.word, .map (some mb)] 42 (0, 0)) ∧ OwnS B uv s.f.units w0 ∧ OwnI B kv s.f.kinds w0 ∧ Had mb n s.h0 s.h1 s.h2 w0 ∧ Calls Tryz.prog 68 #[uv, .string x] w0 (PutsR B uv (Sp.putB s.f.units x) w0) := by
    intro x w0 _ hB0 h0
    obtain ⟨uv, kv, h1, h2, h3, h4, h5⟩ := h0
    refine ⟨uv, kv, ⟨by rw [Lib.cell_of_heap h2]; rfl, Lib.frozen_of_heap h2 0⟩, h3.form, h2, h3, h4, h5, put_s B uv s.f.units x w0 h3 hm.ru (by have := hm.few; omega) hB0⟩
  have HB1 : Hid (B ≤ b ∧ B ≤ mb) := Lib.hid (by obtain ⟨uv, kv, h1, _⟩ := h; exact h1)
  by_cases h45 : v.data.toList = [45]
  · have t45 : (v.toList == [45]) = true := by rw [toL_is]; exact decide_eq_true h45
    have hx : backW (Sp.toB v.data.toList) = ⟨#[]⟩ := by rw [h45]; unfold Sp.toB; rw [backW, if_pos (by rw [Sp.bytes_list]; rfl)]
    have HS : Hid (Sp.stepU s v.data.toList = if 16 < (Sp.putB s.f.units ⟨#[]⟩).length then .error 2 else .ok ⟨⟨Sp.putB s.f.units ⟨#[]⟩, s.f.kinds, s.f.since, s.f.till, s.f.word⟩, s.h0, s.h1, s.h2⟩) := Lib.hid (by rw [Sp.stepU, if_pos (.inl h45), hx])
    obtain ⟨uv, kv, ⟨c0, f0⟩, ⟨A, c, rfl⟩, hb, hu, hk, hh, hput⟩ := tail ⟨#[]⟩ w (Below.refl _ _) hB h
    have HP := Lib.hid hput
    have HU := Lib.hid (fun w' uv' hy hg => FRm.units (w' := w') (uv' := uv') (ys := Sp.putB s.f.units ⟨#[]⟩) HB1.out hb hu hk hh hy hg)
    generalize Sp.stepU s v.data.toList = o at *
    clear tail h hb hu hk hh hput h45 hx
    generalize Sp.putB s.f.units ⟨#[]⟩ = ys at *
    go_enter Tryz.func37, Tryz.ntmps37
    go_wp2_with fail
    refine HP.out.mono ?_
    rintro e w2 ⟨uv', rfl, hy, hg⟩
    obtain ⟨hb2, hbl, hfr⟩ := HU.out w2 uv' hy hg
    obtain ⟨A', c', rfl⟩ := hy.form
    have d0 : w2.cell? ⟨b, 0, none⟩ = some (.slice A s.f.units.length c) := by rw [Lib.cell_of_heap hb2]; rfl
    have g0 : w2.frozen? ⟨b, 0, none⟩ = false := Lib.frozen_of_heap hb2 0
    have HBL := Lib.hid hbl
    have HFR := Lib.hid hfr
    clear hy hg hb2 hbl hfr c0 f0
    by_cases h16 : 16 < ys.length
    · have t16 : (16 : Int) < (ys.length : Int) := by omega
      have H16 := Lib.hid h16
      clear h16
      go_wp2
      go_ret
      rw [HS.out, if_pos H16.out]
      exact ⟨HBL.out.setCell (p := ⟨b, 0, none⟩) HB1.out.1 _, rfl⟩
    · have t16 : ¬ (16 : Int) < (ys.length : Int) := by omega
      have H16 := Lib.hid h16
      clear h16
      go_wp2
      go_ret
      rw [HS.out, if_neg H16.out]
      exact ⟨HBL.out.setCell (p := ⟨b, 0, none⟩) HB1.out.1 _, rfl, HFR.out⟩
  · have t45 : (v.toList == [45]) = false := by rw [toL_is]; exact decide_eq_false h45
    have t45' : (v.toList != [45]) = true := by rw [bne, t45]; rfl
    have HM := Lib.hid (may_any v w (by omega))
    cases hmay : Sp.mayL v.data.toList with
    | false =>
      rw [hmay] at HM
      have HS : Hid (Sp.stepU s v.data.toList = .error 12) := Lib.hid (by rw [Sp.stepU, if_neg (by rintro (e | e); exact h45 e; rw [hmay] at e; cases e)])
      rw [HS.out]
      clear tail h h45 hmay
      go_enter Tryz.func37, Tryz.ntmps37
      go_wp2_with fail
      refine HM.out.mono ?_
      rintro e w2 ⟨rfl, hb2⟩
      have HB2 := Lib.hid (hb2.mono hB)
      clear hb2
      go_wp2
      go_ret
      exact ⟨HB2.out, rfl⟩
    | true =>
      rw [hmay] at HM
      have hx : backW (Sp.toB v.data.toList) = v := by
        rw [Sp.toB_of, backW, if_neg]
        rw [t45]; decide
      have HS : Hid (Sp.stepU s v.data.toList = if 16 < (Sp.putB s.f.units v).length then .error 2 else .ok ⟨⟨Sp.putB s.f.units v, s.f.kinds, s.f.since, s.f.till, s.f.word⟩, s.h0, s.h1, s.h2⟩) := Lib.hid (by rw [Sp.stepU, if_pos (.inr hmay), hx])
      have HT := Lib.hid (fun w0 (hb : Below w.heap.size w w0) => tail v w0 (hb.mono hB) (Nat.le_trans hB hb.size) (h.below hb))
      generalize Sp.stepU s v.data.toList = o at *
      clear tail h h45 hmay hx
      go_enter Tryz.func37, Tryz.ntmps37
      go_wp2_with fail
      refine HM.out.mono ?_
      rintro e w1 ⟨rfl, hb1⟩
      obtain ⟨uv, kv, ⟨c0, f0⟩, ⟨A, c, rfl⟩, hb, hu, hk, hh, hput⟩ := HT.out w1 hb1
      have HP := Lib.hid hput
      have HB2 := Lib.hid (hb1.mono hB)
      have HU := Lib.hid (fun w' uv' hy hg => FRm.units (w' := w') (uv' := uv') (ys := Sp.putB s.f.units v) HB1.out hb hu hk hh hy hg)
      clear hb1 hb hu hk hh hput
      generalize Sp.putB s.f.units v = ys at *
      go_wp2_with fail
      refine HP.out.mono ?_
      rintro e w2 ⟨uv', rfl, hy, hg⟩
      obtain ⟨hb2, hbl, hfr⟩ := HU.out w2 uv' hy hg
      obtain ⟨A', c', rfl⟩ := hy.form
      have d0 : w2.cell? ⟨b, 0, none⟩ = some (.slice A s.f.units.length c) := by rw [Lib.cell_of_heap hb2]; rfl
      have g0 : w2.frozen? ⟨b, 0, none⟩ = false := Lib.frozen_of_heap hb2 0
      have HBL := Lib.hid (HB2.out.trans hbl)
      have HFR := Lib.hid hfr
      clear hy hg hb2 hbl hfr c0 f0
      by_cases h16 : 16 < ys.length
      · have t16 : (16 : Int) < (ys.length : Int) := by omega
        have H16 := Lib.hid h16
        clear h16
        go_wp2
        go_ret
        rw [HS.out, if_pos H16.out]
        exact ⟨HBL.out.setCell (p := ⟨b, 0, none⟩) HB1.out.1 _, rfl⟩
      · have t16 : ¬ (16 : Int) < (ys.length : Int) := by omega
        have H16 := Lib.hid h16
        clear h16
        go_wp2
        go_ret
        rw [HS.out, if_neg H16.out]
        exact ⟨HBL.out.setCell (p := ⟨b, 0, none⟩) HB1.out.1 _, rfl, HFR.out⟩

end Go.Proofs.YtijfeeiplljnjaaGreatDoor
