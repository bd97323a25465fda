/-
  A filter by value; which may be: the program's walk.
-/
import Derived.Test.YtijfeeiplljnjaaGreatDoorUm
import Derived.Test.YtijfeeiplljnjaaGreatDoorRc
namespace Go.Proofs.YtijfeeiplljnjaaGreatDoor
open Go.RowKit Go.Shelf

def filtC (f : Sp.FD) (UA : Option Addr) (uc : Nat) (KA : Option Addr) (kc : Nat) : List Value := [.slice UA f.units.length uc, .slice KA f.kinds.length kc, .int .i64 f.since, .int .i64 f.till, .string f.word]
def filtV (f : Sp.FD) (UA : Option Addr) (uc : Nat) (KA : Option Addr) (kc : Nat) : Value := .agg (filtC f UA uc KA kc).toArray
/-- a filter whose lists lie so in memory -/
structure FGood (f : Sp.FD) (UA KA : Option Addr) (B : Nat) (w : World) : Prop where
  ru : Rd w B 1 UA f.units.length (strsV f.units)
  rk : Rd w B 1 KA f.kinds.length (intsV f.kinds)
  un : f.units.length ≤ 8796093022208
  kn : f.kinds.length ≤ 8796093022208
  us : ∀ u ∈ f.units, u.size ≤ 140737488355328
  ws : f.word.size ≤ 1048576
theorem FGood.on {f : Sp.FD} {UA KA : Option Addr} {B : Nat} {w w' : World} (h : FGood f UA KA B w) (hb : Below B w w') : FGood f UA KA B w' := ⟨h.ru.below hb, h.rk.below hb, h.un, h.kn, h.us, h.ws⟩
theorem FGood.more {f : Sp.FD} {UA KA : Option Addr} {B B' : Nat} {w : World} (h : FGood f UA KA B w) (hB : B ≤ B') : FGood f UA KA B' w := ⟨h.ru.more hB, h.rk.more hB, h.un, h.kn, h.us, h.ws⟩
/-- a filter in a block of its own -/
structure FB (w : World) (b : Nat) (x0 x1 x2 x3 x4 : Value) : Prop where
  c0 : w.cell? ⟨b, 0, none⟩ = some x0
  c1 : w.cell? ⟨b, 1, none⟩ = some x1
  c2 : w.cell? ⟨b, 2, none⟩ = some x2
  c3 : w.cell? ⟨b, 3, none⟩ = some x3
  c4 : w.cell? ⟨b, 4, none⟩ = some x4
theorem FB.on {w w' : World} {b : Nat} {x0 x1 x2 x3 x4 : Value} (h : FB w b x0 x1 x2 x3 x4) {B : Nat} (hB : b < B) (hb : Below B w w') : FB w' b x0 x1 x2 x3 x4 :=
  ⟨(hb.cell (p := ⟨b, 0, none⟩) hB).trans h.c0, (hb.cell (p := ⟨b, 1, none⟩) hB).trans h.c1, (hb.cell (p := ⟨b, 2, none⟩) hB).trans h.c2, (hb.cell (p := ⟨b, 3, none⟩) hB).trans h.c3, (hb.cell (p := ⟨b, 4, none⟩) hB).trans h.c4⟩
theorem FB.new (w : World) (x0 x1 x2 x3 x4 : Value) (t : TypeId) : FB (w.alloc (.cells #[x0, x1, x2, x3, x4] t)) w.heap.size x0 x1 x2 x3 x4 :=
  ⟨by simp, by simp, by simp, by simp, by simp⟩
theorem FB.drewN {w : World} {b : Nat} {x0 x1 x2 x3 x4 : Value} (h : FB w b x0 x1 x2 x3 x4) (n : Nat) : FB (w.drewN n) b x0 x1 x2 x3 x4 := ⟨h.c0, h.c1, h.c2, h.c3, h.c4⟩

set_option maxHeartbeats 1000000 in
theorem may1_any (x : ByteArray) (w : World) (hs : x.size ≤ 140737488355328) :
    Calls Tryz.prog 20 #[.string x] w fun e w' => e = .returned (.bool (!Sp.unitB x)) ∧ Below w.heap.size w w' := by
  have HM := Lib.hid (may_any x w (by omega))
  cases he : x.toList.isEmpty with
  | true =>
    have HE : Hid ((!Sp.unitB x) = false) := Lib.hid (by rw [Sp.unitB, he]; rfl)
    rw [HE.out]
    go_enter Tryz.func20, Tryz.ntmps20
    go_wp2
    go_ret
    exact ⟨rfl, Below.refl _ _⟩
  | false =>
    have HE : Hid ((!Sp.unitB x) = !Sp.mayL x.data.toList) := Lib.hid (by rw [Sp.unitB, he]; rfl)
    rw [HE.out]
    generalize Sp.mayL x.data.toList = m at *
    cases m with
    | true =>
      go_enter Tryz.func20, Tryz.ntmps20
      go_wp2_with (go_at_call 21; refine HM.out.mono ?_; rintro e w2 ⟨rfl, hb2⟩)
      go_ret
      exact ⟨rfl, hb2⟩
    | false =>
      go_enter Tryz.func20, Tryz.ntmps20
      go_wp2_with (go_at_call 21; refine HM.out.mono ?_; rintro e w2 ⟨rfl, hb2⟩)
      go_ret
      exact ⟨rfl, hb2⟩
theorem may2_any (k : Int) (w : World) :
    Calls Tryz.prog 23 #[.int .i64 k] w fun e w' => e = .returned (.bool (!Sp.kindB k)) ∧ Below w.heap.size w w' := by
  by_cases h1 : k < 1
  · have HE : Hid ((!Sp.kindB k) = true) := Lib.hid (by rw [Sp.kindB, decide_eq_false (by omega)]; rfl)
    rw [HE.out]
    go_enter Tryz.func23, Tryz.ntmps23
    go_wp2
    go_ret
    exact ⟨rfl, Below.refl _ _⟩
  · by_cases h2 : 6 < k
    · have HE : Hid ((!Sp.kindB k) = true) := Lib.hid (by rw [Sp.kindB, decide_eq_false (show ¬ k ≤ 6 by omega), Bool.and_false]; rfl)
      rw [HE.out]
      go_enter Tryz.func23, Tryz.ntmps23
      go_wp2
      go_ret
      exact ⟨rfl, Below.refl _ _⟩
    · have HE : Hid ((!Sp.kindB k) = false) := Lib.hid (by rw [Sp.kindB, decide_eq_true (show 1 ≤ k by omega), decide_eq_true (show k ≤ 6 by omega)]; rfl)
      rw [HE.out]
      go_enter Tryz.func23, Tryz.ntmps23
      go_wp2
      go_ret
      exact ⟨rfl, Below.refl _ _⟩
theorem any_not {α : Type} (p : α → Bool) (l : List α) : (l.any fun x => !p x) = !l.all p := by
  rw [Bool.eq_iff_iff]; simp

set_option maxHeartbeats 8000000 in
set_option maxRecDepth 100000 in
theorem fmay_any (f : Sp.FD) (UA KA : Option Addr) (uc kc : Nat) (w : World) (h : FGood f UA KA w.heap.size w) :
    Calls Tryz.prog 8 #[filtV f UA uc KA kc] w fun e w' => e = .returned (.bool (Sp.mayF f)) ∧ Below w.heap.size w w' := by
  have HU := Lib.hid (fun W (hb : Below w.heap.size w W) => rises_s f.units UA f.units.length uc W.heap.size W ((h.ru.below hb).more hb.size) (by have := h.un; omega))
  have HI := Lib.hid (fun W (hb : Below w.heap.size w W) => rises_i f.kinds KA f.kinds.length kc W.heap.size W ((h.rk.below hb).more hb.size) (by have := h.kn; omega))
  have HCU := Lib.hid (fun W (hb : Below w.heap.size w W) => scontainsf_any (fun x => !Sp.unitB x) 20 #[] (by
    intro args w
    exact enters_of Tryz.func20 (by kernel_rfl) rfl args w) f.units UA f.units.length uc W ((h.ru.below hb).more hb.size) (by have := h.un; omega) (fun W2 x hx _ => may1_any x W2 (h.us x hx)))
  have HCK := Lib.hid (fun W (hb : Below w.heap.size w W) => icontainsf_any (fun x => !Sp.kindB x) 23 #[] (by
    intro args w
    exact enters_of Tryz.func23 (by kernel_rfl) rfl args w) f.kinds KA f.kinds.length kc W ((h.rk.below hb).more hb.size) (by have := h.kn; omega) (fun W2 x _ _ => may2_any x W2))
  simp only [any_not] at HCU HCK
  have HT := Lib.hid (fun W => time_any f.since W)
  have HT2 := Lib.hid (fun W => time_any f.till W)
  have HW := Lib.hid (fun W => cleanm_any f.word 100 W (by have := h.ws; omega))
  have HF : Hid (Sp.mayF f = (decide (f.units.length ≤ 16) && (Sp.risesB f.units && (Sp.risesI f.kinds && (f.units.all Sp.unitB && (f.kinds.all Sp.kindB && (timeB f.since && (timeB f.till && (cleanL f.word.data.toList && decide (f.word.size ≤ 100)))))))))) := Lib.hid rfl
  have hb0 := (Below.refl w.heap.size w).alloc (Nat.le_refl _) (.cells #[.slice UA f.units.length uc, .slice KA f.kinds.length kc, .int .i64 f.since, .int .i64 f.till, .string f.word] 26)
  have hF0 := FB.new w (.slice UA f.units.length uc) (.slice KA f.kinds.length kc) (.int .i64 f.since) (.int .i64 f.till) (.string f.word) 26
  have HB0 := Lib.hid hb0
  have HF0 := Lib.hid hF0
  have hlt : w.heap.size < (w.alloc (.cells #[.slice UA f.units.length uc, .slice KA f.kinds.length kc, .int .i64 f.since, .int .i64 f.till, .string f.word] 26)).heap.size := by simp
  have HLT := Lib.hid hlt
  unfold filtV filtC
  clear hb0 hF0 hlt h
  generalize Sp.mayF f = R at *
  generalize Sp.risesB f.units = ru at *
  generalize Sp.risesI f.kinds = rk at *
  generalize f.units.all Sp.unitB = us at *
  generalize f.kinds.all Sp.kindB = ks at *
  generalize timeB f.since = ts at *
  generalize timeB f.till = tt at *
  generalize (cleanL f.word.data.toList && decide (f.word.size ≤ 100)) = tw at *
  obtain ⟨fu, fk, fs, ft, fw⟩ := f
  dsimp only at *
  by_cases h16 : 16 < fu.length
  · have t16 : (16 : Int) < (fu.length : Int) := by omega
    have e : R = false := by rw [HF.out, decide_eq_false (by omega)]; rfl
    subst e
    clear h16
    go_enter Tryz.func8, Tryz.ntmps8
    go_wp2
    go_ret
    exact ⟨rfl, HB0.out⟩
  · have t16 : ¬ (16 : Int) < (fu.length : Int) := by omega
    have HR : Hid (R = (ru && (rk && (us && (ks && (ts && (tt && tw))))))) := Lib.hid (by rw [HF.out, decide_eq_true (show fu.length ≤ 16 by omega)]; rfl)
    clear h16 HF

    cases ru with
    | false =>
      have e : R = false := by rw [HR.out]; rfl
      subst e
      go_enter Tryz.func8, Tryz.ntmps8
      go_wp2_with fail
      refine (HU.out _ HB0.out).mono ?_
      rintro e w2 ⟨rfl, n2, rfl⟩
      go_wp2
      go_ret
      exact ⟨rfl, belowQ HB0.out n2⟩
    | true =>
      cases rk with
      | false =>
        have e : R = false := by rw [HR.out]; rfl
        subst e
        go_enter Tryz.func8, Tryz.ntmps8
        go_wp2_with fail
        refine (HU.out _ HB0.out).mono ?_
        rintro e w2 ⟨rfl, n2, rfl⟩
        go_wp2_with fail
        refine (HI.out _ (belowQ HB0.out n2)).mono ?_
        rintro e w3 ⟨rfl, n3, rfl⟩
        go_wp2
        go_ret
        exact ⟨rfl, belowQ HB0.out _⟩
      | true =>
        cases us with
        | false =>
          have e : R = false := by rw [HR.out]; rfl
          subst e
          go_enter Tryz.func8, Tryz.ntmps8
          go_wp2_with fail
          refine (HU.out _ HB0.out).mono ?_
          rintro e w2 ⟨rfl, n2, rfl⟩
          go_wp2_with fail
          refine (HI.out _ (belowQ HB0.out n2)).mono ?_
          rintro e w3 ⟨rfl, n3, rfl⟩
          have HX3 : Hid (Below w.heap.size w ((w.alloc (.cells #[.slice UA fu.length uc, .slice KA fk.length kc, .int .i64 fs, .int .i64 ft, .string fw] 26)).drewN (n2 + n3))) := Lib.hid (belowQ HB0.out _)
          have HY3 : Hid (FB ((w.alloc (.cells #[.slice UA fu.length uc, .slice KA fk.length kc, .int .i64 fs, .int .i64 ft, .string fw] 26)).drewN (n2 + n3)) w.heap.size (.slice UA fu.length uc) (.slice KA fk.length kc) (.int .i64 fs) (.int .i64 ft) (.string fw)) := Lib.hid (HF0.out.drewN _)
          have HZ3 : Hid (w.heap.size < ((w.alloc (.cells #[.slice UA fu.length uc, .slice KA fk.length kc, .int .i64 fs, .int .i64 ft, .string fw] 26)).drewN (n2 + n3)).heap.size) := Lib.hid HLT.out
          go_wp2_with fail
          refine (HCU.out _ HX3.out).mono ?_
          rintro e w4 ⟨rfl, hb4⟩
          have HY4 := Lib.hid (HY3.out.on HZ3.out hb4)
          have HX4 := Lib.hid (HX3.out.trans (hb4.mono HX3.out.size))
          have HZ4 : Hid (w.heap.size < w4.heap.size) := Lib.hid (Nat.lt_of_lt_of_le HZ3.out hb4.size)
          have c1 := HY4.out.c1
          have c2 := HY4.out.c2
          have c3 := HY4.out.c3
          have c4 := HY4.out.c4
          clear hb4
          go_wp2
          go_ret
          exact ⟨rfl, HX4.out⟩
        | true =>
          cases ks with
          | false =>
            have e : R = false := by rw [HR.out]; rfl
            subst e
            go_enter Tryz.func8, Tryz.ntmps8
            go_wp2_with fail
            refine (HU.out _ HB0.out).mono ?_
            rintro e w2 ⟨rfl, n2, rfl⟩
            go_wp2_with fail
            refine (HI.out _ (belowQ HB0.out n2)).mono ?_
            rintro e w3 ⟨rfl, n3, rfl⟩
            have HX3 : Hid (Below w.heap.size w ((w.alloc (.cells #[.slice UA fu.length uc, .slice KA fk.length kc, .int .i64 fs, .int .i64 ft, .string fw] 26)).drewN (n2 + n3))) := Lib.hid (belowQ HB0.out _)
            have HY3 : Hid (FB ((w.alloc (.cells #[.slice UA fu.length uc, .slice KA fk.length kc, .int .i64 fs, .int .i64 ft, .string fw] 26)).drewN (n2 + n3)) w.heap.size (.slice UA fu.length uc) (.slice KA fk.length kc) (.int .i64 fs) (.int .i64 ft) (.string fw)) := Lib.hid (HF0.out.drewN _)
            have HZ3 : Hid (w.heap.size < ((w.alloc (.cells #[.slice UA fu.length uc, .slice KA fk.length kc, .int .i64 fs, .int .i64 ft, .string fw] 26)).drewN (n2 + n3)).heap.size) := Lib.hid HLT.out
            go_wp2_with fail
            refine (HCU.out _ HX3.out).mono ?_
            rintro e w4 ⟨rfl, hb4⟩
            have HY4 := Lib.hid (HY3.out.on HZ3.out hb4)
            have HX4 := Lib.hid (HX3.out.trans (hb4.mono HX3.out.size))
            have HZ4 : Hid (w.heap.size < w4.heap.size) := Lib.hid (Nat.lt_of_lt_of_le HZ3.out hb4.size)
            have c1 := HY4.out.c1
            have c2 := HY4.out.c2
            have c3 := HY4.out.c3
            have c4 := HY4.out.c4
            clear hb4
            go_wp2_with fail
            refine (HCK.out _ HX4.out).mono ?_
            rintro e w5 ⟨rfl, hb5⟩
            have HY5 := Lib.hid (HY4.out.on HZ4.out hb5)
            have HX5 := Lib.hid (HX4.out.trans (hb5.mono HX4.out.size))
            clear c1 c2 c3 c4 hb5
            have c2 := HY5.out.c2
            have c3 := HY5.out.c3
            have c4 := HY5.out.c4
            go_wp2
            go_ret
            exact ⟨rfl, HX5.out⟩
          | true =>
            cases ts with
            | false =>
              have e : R = false := by rw [HR.out]; rfl
              subst e
              go_enter Tryz.func8, Tryz.ntmps8
              go_wp2_with fail
              refine (HU.out _ HB0.out).mono ?_
              rintro e w2 ⟨rfl, n2, rfl⟩
              go_wp2_with fail
              refine (HI.out _ (belowQ HB0.out n2)).mono ?_
              rintro e w3 ⟨rfl, n3, rfl⟩
              have HX3 : Hid (Below w.heap.size w ((w.alloc (.cells #[.slice UA fu.length uc, .slice KA fk.length kc, .int .i64 fs, .int .i64 ft, .string fw] 26)).drewN (n2 + n3))) := Lib.hid (belowQ HB0.out _)
              have HY3 : Hid (FB ((w.alloc (.cells #[.slice UA fu.length uc, .slice KA fk.length kc, .int .i64 fs, .int .i64 ft, .string fw] 26)).drewN (n2 + n3)) w.heap.size (.slice UA fu.length uc) (.slice KA fk.length kc) (.int .i64 fs) (.int .i64 ft) (.string fw)) := Lib.hid (HF0.out.drewN _)
              have HZ3 : Hid (w.heap.size < ((w.alloc (.cells #[.slice UA fu.length uc, .slice KA fk.length kc, .int .i64 fs, .int .i64 ft, .string fw] 26)).drewN (n2 + n3)).heap.size) := Lib.hid HLT.out
              go_wp2_with fail
              refine (HCU.out _ HX3.out).mono ?_
              rintro e w4 ⟨rfl, hb4⟩
              have HY4 := Lib.hid (HY3.out.on HZ3.out hb4)
              have HX4 := Lib.hid (HX3.out.trans (hb4.mono HX3.out.size))
              have HZ4 : Hid (w.heap.size < w4.heap.size) := Lib.hid (Nat.lt_of_lt_of_le HZ3.out hb4.size)
              have c1 := HY4.out.c1
              have c2 := HY4.out.c2
              have c3 := HY4.out.c3
              have c4 := HY4.out.c4
              clear hb4
              go_wp2_with fail
              refine (HCK.out _ HX4.out).mono ?_
              rintro e w5 ⟨rfl, hb5⟩
              have HY5 := Lib.hid (HY4.out.on HZ4.out hb5)
              have HX5 := Lib.hid (HX4.out.trans (hb5.mono HX4.out.size))
              clear c1 c2 c3 c4 hb5
              have c2 := HY5.out.c2
              have c3 := HY5.out.c3
              have c4 := HY5.out.c4
              go_wp2_with fail
              refine (HT.out _).mono ?_
              rintro e w6 ⟨rfl, rfl⟩
              go_wp2
              go_ret
              exact ⟨rfl, HX5.out⟩
            | true =>
              cases tt with
              | false =>
                have e : R = false := by rw [HR.out]; rfl
                subst e
                go_enter Tryz.func8, Tryz.ntmps8
                go_wp2_with fail
                refine (HU.out _ HB0.out).mono ?_
                rintro e w2 ⟨rfl, n2, rfl⟩
                go_wp2_with fail
                refine (HI.out _ (belowQ HB0.out n2)).mono ?_
                rintro e w3 ⟨rfl, n3, rfl⟩
                have HX3 : Hid (Below w.heap.size w ((w.alloc (.cells #[.slice UA fu.length uc, .slice KA fk.length kc, .int .i64 fs, .int .i64 ft, .string fw] 26)).drewN (n2 + n3))) := Lib.hid (belowQ HB0.out _)
                have HY3 : Hid (FB ((w.alloc (.cells #[.slice UA fu.length uc, .slice KA fk.length kc, .int .i64 fs, .int .i64 ft, .string fw] 26)).drewN (n2 + n3)) w.heap.size (.slice UA fu.length uc) (.slice KA fk.length kc) (.int .i64 fs) (.int .i64 ft) (.string fw)) := Lib.hid (HF0.out.drewN _)
                have HZ3 : Hid (w.heap.size < ((w.alloc (.cells #[.slice UA fu.length uc, .slice KA fk.length kc, .int .i64 fs, .int .i64 ft, .string fw] 26)).drewN (n2 + n3)).heap.size) := Lib.hid HLT.out
                go_wp2_with fail
                refine (HCU.out _ HX3.out).mono ?_
                rintro e w4 ⟨rfl, hb4⟩
                have HY4 := Lib.hid (HY3.out.on HZ3.out hb4)
                have HX4 := Lib.hid (HX3.out.trans (hb4.mono HX3.out.size))
                have HZ4 : Hid (w.heap.size < w4.heap.size) := Lib.hid (Nat.lt_of_lt_of_le HZ3.out hb4.size)
                have c1 := HY4.out.c1
                have c2 := HY4.out.c2
                have c3 := HY4.out.c3
                have c4 := HY4.out.c4
                clear hb4
                go_wp2_with fail
                refine (HCK.out _ HX4.out).mono ?_
                rintro e w5 ⟨rfl, hb5⟩
                have HY5 := Lib.hid (HY4.out.on HZ4.out hb5)
                have HX5 := Lib.hid (HX4.out.trans (hb5.mono HX4.out.size))
                clear c1 c2 c3 c4 hb5
                have c2 := HY5.out.c2
                have c3 := HY5.out.c3
                have c4 := HY5.out.c4
                go_wp2_with fail
                refine (HT.out _).mono ?_
                rintro e w6 ⟨rfl, rfl⟩
                go_wp2_with fail
                refine (HT2.out _).mono ?_
                rintro e w7 ⟨rfl, rfl⟩
                go_wp2
                go_ret
                exact ⟨rfl, HX5.out⟩
              | true =>
                have e : tw = R := by rw [HR.out]; rfl
                subst e
                go_enter Tryz.func8, Tryz.ntmps8
                go_wp2_with fail
                refine (HU.out _ HB0.out).mono ?_
                rintro e w2 ⟨rfl, n2, rfl⟩
                go_wp2_with fail
                refine (HI.out _ (belowQ HB0.out n2)).mono ?_
                rintro e w3 ⟨rfl, n3, rfl⟩
                have HX3 : Hid (Below w.heap.size w ((w.alloc (.cells #[.slice UA fu.length uc, .slice KA fk.length kc, .int .i64 fs, .int .i64 ft, .string fw] 26)).drewN (n2 + n3))) := Lib.hid (belowQ HB0.out _)
                have HY3 : Hid (FB ((w.alloc (.cells #[.slice UA fu.length uc, .slice KA fk.length kc, .int .i64 fs, .int .i64 ft, .string fw] 26)).drewN (n2 + n3)) w.heap.size (.slice UA fu.length uc) (.slice KA fk.length kc) (.int .i64 fs) (.int .i64 ft) (.string fw)) := Lib.hid (HF0.out.drewN _)
                have HZ3 : Hid (w.heap.size < ((w.alloc (.cells #[.slice UA fu.length uc, .slice KA fk.length kc, .int .i64 fs, .int .i64 ft, .string fw] 26)).drewN (n2 + n3)).heap.size) := Lib.hid HLT.out
                go_wp2_with fail
                refine (HCU.out _ HX3.out).mono ?_
                rintro e w4 ⟨rfl, hb4⟩
                have HY4 := Lib.hid (HY3.out.on HZ3.out hb4)
                have HX4 := Lib.hid (HX3.out.trans (hb4.mono HX3.out.size))
                have HZ4 : Hid (w.heap.size < w4.heap.size) := Lib.hid (Nat.lt_of_lt_of_le HZ3.out hb4.size)
                have c1 := HY4.out.c1
                have c2 := HY4.out.c2
                have c3 := HY4.out.c3
                have c4 := HY4.out.c4
                clear hb4
                go_wp2_with fail
                refine (HCK.out _ HX4.out).mono ?_
                rintro e w5 ⟨rfl, hb5⟩
                have HY5 := Lib.hid (HY4.out.on HZ4.out hb5)
                have HX5 := Lib.hid (HX4.out.trans (hb5.mono HX4.out.size))
                clear c1 c2 c3 c4 hb5
                have c2 := HY5.out.c2
                have c3 := HY5.out.c3
                have c4 := HY5.out.c4
                go_wp2_with fail
                refine (HT.out _).mono ?_
                rintro e w6 ⟨rfl, rfl⟩
                go_wp2_with fail
                refine (HT2.out _).mono ?_
                rintro e w7 ⟨rfl, rfl⟩
                go_wp2_with fail
                refine (HW.out _).mono ?_
                rintro e w8 ⟨rfl, rfl⟩
                go_wp2
                go_ret
                exact ⟨rfl, HX5.out⟩

end Go.Proofs.YtijfeeiplljnjaaGreatDoor
