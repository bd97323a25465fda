/-
  Which rows a filter wants: the program's walk.
-/
import Derived.Test.YtijfeeiplljnjaaGreatDoorUn
namespace Go.Proofs.YtijfeeiplljnjaaGreatDoor
open Go.RowKit Go.Shelf

namespace Sp
def unitIs (f : FD) (r : RowD) : Bool := f.units.any (fun u => decide (u = r.unit))
def kindIs (f : FD) (r : RowD) : Bool := f.kinds.any (fun k => decide (k = r.kind))
def isF (f : FD) (r : RowD) : Bool := (decide (f.units.length = 0) || unitIs f r) && ((decide (f.kinds.length = 0) || kindIs f r) && (decide (f.since ≤ r.time) && (decide (r.time ≤ f.till) && Lib.contains r.text.data.toList f.word.data.toList)))
end Sp
set_option maxHeartbeats 8000000 in
set_option maxRecDepth 100000 in
theorem fis_any (f : Sp.FD) (UA KA : Option Addr) (uc kc : Nat) (r : RowD) (w : World) (h : FGood f UA KA w.heap.size w) (hx : r.text.size ≤ 4294967280) (E : Env w) :
    Calls Tryz.prog 9 #[filtV f UA uc KA kc, rowV r] w fun e w' => e = .returned (.bool (Sp.isF f r)) ∧ Below w.heap.size w w' := by
  have hW2 : Below w.heap.size w ((w.alloc (.cells (filtC f UA uc KA kc).toArray 26)).alloc (.cells (rowC r).toArray 33)) := ((Below.refl w.heap.size w).alloc (Nat.le_refl _) _).alloc (by simp) _
  have HB := Lib.hid hW2
  have HU := Lib.hid (scontains_any r.unit f.units UA f.units.length uc _ ((h.ru.below hW2).more hW2.size) (by have := h.un; omega))
  have HK := Lib.hid (icontains_any r.kind f.kinds KA f.kinds.length kc _ ((h.rk.below hW2).more hW2.size) (by have := h.kn; omega))
  have HC : Hid (Calls Tryz.prog 28 #[.string r.text, .string f.word] ((w.alloc (.cells (filtC f UA uc KA kc).toArray 26)).alloc (.cells (rowC r).toArray 33)) fun e w' => e = .returned (.bool (Lib.contains r.text.data.toList f.word.data.toList)) ∧ w' = ((w.alloc (.cells (filtC f UA uc KA kc).toArray 26)).alloc (.cells (rowC r).toArray 33))) := Lib.hid (by
    obtain ⟨m, hm⟩ := (E _ hW2).max
    exact Tryz.strings_Contains r.text f.word m _ (by omega) hm)
  have HR : Hid (Sp.isF f r = ((decide (f.units.length = 0) || Sp.unitIs f r) && ((decide (f.kinds.length = 0) || Sp.kindIs f r) && (decide (f.since ≤ r.time) && (decide (r.time ≤ f.till) && Lib.contains r.text.data.toList f.word.data.toList))))) := Lib.hid rfl
  rw [show f.units.any (fun d => decide (d = r.unit)) = Sp.unitIs f r from rfl] at HU
  rw [show f.kinds.any (fun d => decide (d = r.kind)) = Sp.kindIs f r from rfl] at HK
  clear h hx E hW2
  generalize Sp.isF f r = R at *
  generalize Sp.unitIs f r = ui at *
  generalize Sp.kindIs f r = ki at *
  generalize Lib.contains r.text.data.toList f.word.data.toList = ct at *
  obtain ⟨fu, fk, fs, ft, fw⟩ := f
  obtain ⟨rt, ru, rn, rk, rx⟩ := r
  unfold filtV rowV
  simp only [filtC, rowC] at *

  by_cases hu : fu.length = 0
  · have t1 : ¬ (0 : Int) < (fu.length : Int) := by omega
    by_cases hk : fk.length = 0
    · have t2 : ¬ (0 : Int) < (fk.length : Int) := by omega
      by_cases hs : fs ≤ rt
      · by_cases ht : rt ≤ ft
        · have d1 : decide (fs ≤ rt) = true := decide_eq_true hs
          have d2 : decide (rt ≤ ft) = true := decide_eq_true ht
          have e : ct = R := by
            rw [HR.out]; simp [hu, hk, hs, ht]
          subst e
          clear hs ht hu hk
          go_enter Tryz.func9, Tryz.ntmps9
          go_wp2_with fail
          refine HC.out.mono ?_
          rintro e w4 ⟨rfl, rfl⟩
          go_wp2
          go_ret
          exact ⟨rfl, HB.out⟩
        · have d1 : decide (fs ≤ rt) = true := decide_eq_true hs
          have d2 : decide (rt ≤ ft) = false := decide_eq_false ht
          have e : R = false := by
            rw [HR.out]; simp [hu, hk, hs, ht]
          subst e
          clear hu hk hs ht
          go_enter Tryz.func9, Tryz.ntmps9
          go_wp2
          go_ret
          exact ⟨rfl, HB.out⟩
      · have d1 : decide (fs ≤ rt) = false := decide_eq_false hs
        have e : R = false := by
          rw [HR.out]; simp [hu, hk, hs]
        subst e
        clear hu hk hs
        go_enter Tryz.func9, Tryz.ntmps9
        go_wp2
        go_ret
        exact ⟨rfl, HB.out⟩
    · have t2 : (0 : Int) < (fk.length : Int) := by omega
      have t2d : decide (0 < fk.length) = true := decide_eq_true (by omega)
      cases ki with
      | false =>
        have e : R = false := by
          rw [HR.out]; simp [hu, hk]
        subst e
        clear hu hk
        go_enter Tryz.func9, Tryz.ntmps9
        go_wp2_with fail
        refine HK.out.mono ?_
        rintro e w3 ⟨rfl, rfl⟩
        go_wp2
        go_ret
        exact ⟨rfl, HB.out⟩
      | true =>
        by_cases hs : fs ≤ rt
        · by_cases ht : rt ≤ ft
          · have d1 : decide (fs ≤ rt) = true := decide_eq_true hs
            have d2 : decide (rt ≤ ft) = true := decide_eq_true ht
            have e : ct = R := by
              rw [HR.out]; simp [hu, hk, hs, ht]
            subst e
            clear hs ht hu hk
            go_enter Tryz.func9, Tryz.ntmps9
            go_wp2_with fail
            refine HK.out.mono ?_
            rintro e w3 ⟨rfl, rfl⟩
            go_wp2_with fail
            refine HC.out.mono ?_
            rintro e w4 ⟨rfl, rfl⟩
            go_wp2
            go_ret
            exact ⟨rfl, HB.out⟩
          · have d1 : decide (fs ≤ rt) = true := decide_eq_true hs
            have d2 : decide (rt ≤ ft) = false := decide_eq_false ht
            have e : R = false := by
              rw [HR.out]; simp [hu, hk, hs, ht]
            subst e
            clear hu hk hs ht
            go_enter Tryz.func9, Tryz.ntmps9
            go_wp2_with fail
            refine HK.out.mono ?_
            rintro e w3 ⟨rfl, rfl⟩
            go_wp2
            go_ret
            exact ⟨rfl, HB.out⟩
        · have d1 : decide (fs ≤ rt) = false := decide_eq_false hs
          have e : R = false := by
            rw [HR.out]; simp [hu, hk, hs]
          subst e
          clear hu hk hs
          go_enter Tryz.func9, Tryz.ntmps9
          go_wp2_with fail
          refine HK.out.mono ?_
          rintro e w3 ⟨rfl, rfl⟩
          go_wp2
          go_ret
          exact ⟨rfl, HB.out⟩
  · have t1 : (0 : Int) < (fu.length : Int) := by omega
    have t1d : decide (0 < fu.length) = true := decide_eq_true (by omega)
    cases ui with
    | false =>
      have e : R = false := by
        rw [HR.out]; simp [hu]
      subst e
      clear hu
      go_enter Tryz.func9, Tryz.ntmps9
      go_wp2_with fail
      refine HU.out.mono ?_
      rintro e w2 ⟨rfl, rfl⟩
      go_wp2
      go_ret
      exact ⟨rfl, HB.out⟩
    | true =>
      by_cases hk : fk.length = 0
      · have t2 : ¬ (0 : Int) < (fk.length : Int) := by omega
        by_cases hs : fs ≤ rt
        · by_cases ht : rt ≤ ft
          · have d1 : decide (fs ≤ rt) = true := decide_eq_true hs
            have d2 : decide (rt ≤ ft) = true := decide_eq_true ht
            have e : ct = R := by
              rw [HR.out]; simp [hu, hk, hs, ht]
            subst e
            clear hs ht hu hk
            go_enter Tryz.func9, Tryz.ntmps9
            go_wp2_with fail
            refine HU.out.mono ?_
            rintro e w2 ⟨rfl, rfl⟩
            go_wp2_with fail
            refine HC.out.mono ?_
            rintro e w4 ⟨rfl, rfl⟩
            go_wp2
            go_ret
            exact ⟨rfl, HB.out⟩
          · have d1 : decide (fs ≤ rt) = true := decide_eq_true hs
            have d2 : decide (rt ≤ ft) = false := decide_eq_false ht
            have e : R = false := by
              rw [HR.out]; simp [hu, hk, hs, ht]
            subst e
            clear hu hk hs ht
            go_enter Tryz.func9, Tryz.ntmps9
            go_wp2_with fail
            refine HU.out.mono ?_
            rintro e w2 ⟨rfl, rfl⟩
            go_wp2
            go_ret
            exact ⟨rfl, HB.out⟩
        · have d1 : decide (fs ≤ rt) = false := decide_eq_false hs
          have e : R = false := by
            rw [HR.out]; simp [hu, hk, hs]
          subst e
          clear hu hk hs
          go_enter Tryz.func9, Tryz.ntmps9
          go_wp2_with fail
          refine HU.out.mono ?_
          rintro e w2 ⟨rfl, rfl⟩
          go_wp2
          go_ret
          exact ⟨rfl, HB.out⟩
      · have t2 : (0 : Int) < (fk.length : Int) := by omega
        have t2d : decide (0 < fk.length) = true := decide_eq_true (by omega)
        cases ki with
        | false =>
          have e : R = false := by
            rw [HR.out]; simp [hu, hk]
          subst e
          clear hu hk
          go_enter Tryz.func9, Tryz.ntmps9
          go_wp2_with fail
          refine HU.out.mono ?_
          rintro e w2 ⟨rfl, rfl⟩
          go_wp2_with fail
          refine HK.out.mono ?_
          rintro e w3 ⟨rfl, rfl⟩
          go_wp2
          go_ret
          exact ⟨rfl, HB.out⟩
        | true =>
          by_cases hs : fs ≤ rt
          · by_cases ht : rt ≤ ft
            · have d1 : decide (fs ≤ rt) = true := decide_eq_true hs
              have d2 : decide (rt ≤ ft) = true := decide_eq_true ht
              have e : ct = R := by
                rw [HR.out]; simp [hu, hk, hs, ht]
              subst e
              clear hs ht hu hk
              go_enter Tryz.func9, Tryz.ntmps9
              go_wp2_with fail
              refine HU.out.mono ?_
              rintro e w2 ⟨rfl, rfl⟩
              go_wp2_with fail
              refine HK.out.mono ?_
              rintro e w3 ⟨rfl, rfl⟩
              go_wp2_with fail
              refine HC.out.mono ?_
              rintro e w4 ⟨rfl, rfl⟩
              go_wp2
              go_ret
              exact ⟨rfl, HB.out⟩
            · have d1 : decide (fs ≤ rt) = true := decide_eq_true hs
              have d2 : decide (rt ≤ ft) = false := decide_eq_false ht
              have e : R = false := by
                rw [HR.out]; simp [hu, hk, hs, ht]
              subst e
              clear hu hk hs ht
              go_enter Tryz.func9, Tryz.ntmps9
              go_wp2_with fail
              refine HU.out.mono ?_
              rintro e w2 ⟨rfl, rfl⟩
              go_wp2_with fail
              refine HK.out.mono ?_
              rintro e w3 ⟨rfl, rfl⟩
              go_wp2
              go_ret
              exact ⟨rfl, HB.out⟩
          · have d1 : decide (fs ≤ rt) = false := decide_eq_false hs
            have e : R = false := by
              rw [HR.out]; simp [hu, hk, hs]
            subst e
            clear hu hk hs
            go_enter Tryz.func9, Tryz.ntmps9
            go_wp2_with fail
            refine HU.out.mono ?_
            rintro e w2 ⟨rfl, rfl⟩
            go_wp2_with fail
            refine HK.out.mono ?_
            rintro e w3 ⟨rfl, rfl⟩
            go_wp2
            go_ret
            exact ⟨rfl, HB.out⟩

end Go.Proofs.YtijfeeiplljnjaaGreatDoor
