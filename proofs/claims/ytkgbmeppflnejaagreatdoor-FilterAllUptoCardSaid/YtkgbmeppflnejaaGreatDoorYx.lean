/-
  FilterAll: the reference (what a filter wants, which may be, how it is written), and the law over what comes in.
-/
import Derived.Test.YtkgbmeppflnejaaGreatDoorUo
import Derived.Lib.IndexMore
import Derived.Deep.Cut
import Derived.Test.YtkgbmeppflnejaaGreatDoorYa
import Derived.Test.YtkgbmeppflnejaaGreatDoorUn
import Derived.Test.YtkgbmeppflnejaaGreatDoorRa
import Derived.Test.YtkgbmeppflnejaaGreatDoorUj
import Derived.Test.YtkgbmeppflnejaaGreatDoorUl
import Derived.Test.YtkgbmeppflnejaaGreatDoorUv
import Derived.Test.YtkgbmeppflnejaaGreatDoorYb
import Derived.Test.YtkgbmeppflnejaaGreatDoorYz
namespace Go.Proofs.YtkgbmeppflnejaaGreatDoor
section
open Go.RowKit Go.Shelf

set_option maxRecDepth 100000 in
set_option maxHeartbeats 8000000 in
theorem rwithin_any (s t : ByteArray) (w : World) (hs : s.size ≤ 140737488355328) (ht : t.size ≤ 140737488355328) :
    Calls Tryz.prog 42 #[.string s, .string t] w fun e w' => e = .returned (.bool (Lib.contains s.data.toList t.data.toList)) ∧ w' = w := by
  have HYES : Hid (∀ i : Nat, i + t.size ≤ s.size → Lib.NoOcc s.data.toList t.data.toList i → ((s.extract i (i + t.size)).toList == t.toList) = true → Lib.contains s.data.toList t.data.toList = true) := Lib.hid fun i hi hn h => by
    rw [← Lib.occ_of_piece s t i hi] at h
    unfold Lib.contains
    rw [Lib.index_first (by rw [Array.length_toList]; exact Nat.le_trans (Nat.le_add_right _ _) hi) h hn]
    simp
  have HNO : Hid (∀ i : Nat, s.size < i + t.size → Lib.NoOcc s.data.toList t.data.toList i → Lib.contains s.data.toList t.data.toList = false) := Lib.hid fun i hi hn => by
    unfold Lib.contains
    rw [Lib.index_none fun j hj => ?_]
    · simp
    · by_cases hji : j < i
      · exact hn j hji
      · cases h : Lib.occAt s.data.toList t.data.toList j with
        | false => rfl
        | true =>
          have e1 : s.data.toList.length = s.size := by rw [Array.length_toList]; rfl
          have e2 : t.data.toList.length = t.size := by rw [Array.length_toList]; rfl
          rcases Lib.occAt_room h with h2 | h2
          · omega
          · rw [h2] at e2
            simp at e2
            omega
  have HST : Hid (∀ i : Nat, i + t.size ≤ s.size → Lib.NoOcc s.data.toList t.data.toList i → ((s.extract i (i + t.size)).toList == t.toList) = false → Lib.NoOcc s.data.toList t.data.toList (i + 1)) := Lib.hid fun i hi hn h => by
    rw [← Lib.occ_of_piece s t i hi] at h
    exact hn.succ h
  generalize Lib.contains s.data.toList t.data.toList = R at *
  go_enter Tryz.func42, Tryz.ntmps42
  go_wp2_with fail
  go_loopw [5] (fun v wr => ∃ i : Nat, i ≤ s.size + 1 ∧ v = .int .i64 i ∧ Hid (Lib.NoOcc s.data.toList t.data.toList i) ∧ wr = w) (fun v _ => s.size + 1 - (intOf v).toNat)
  case atStart => exact ⟨0, Nat.zero_le _, rfl, Lib.hid (Lib.NoOcc.zero _ _), rfl⟩
  case round =>
    obtain ⟨i, hi, rfl, HN, rfl⟩ := hrel
    by_cases hlt : i + t.size ≤ s.size
    · have x1 : (0 : Int) ≤ (i : Int) := by omega
      have x2 : (i : Int) + (t.size : Int) ≤ (s.size : Int) := by omega
      have HY := Lib.hid (HYES.out i hlt HN.out)
      have HS := Lib.hid (HST.out i hlt HN.out)
      cases hc : ((s.extract i (i + t.size)).toList == t.toList) with
      | true =>
        obtain rfl := HY.out hc
        go_wp2
        go_ret
        exact ⟨rfl, rfl⟩
      | false =>
        have HN2 := Lib.hid (HS.out hc)
        go_wp2
        go_roundw
        case rel => exact ⟨i + 1, by omega, by go_num, HN2, trivial⟩
        case measure => first | (simp [intOf]; done) | (simp [intOf]; omega)
    · have x2 : ¬ (i : Int) + (t.size : Int) ≤ (s.size : Int) := by omega
      obtain rfl := HNO.out i (by omega) HN.out
      go_wp2
      go_ret
      exact ⟨rfl, rfl⟩
theorem any_take_no {α : Type} (p : α → Bool) (l : List α) (k : Nat) (hk : k < l.length) (h : (l.take k).any p = false) (g : p l[k] = false) : (l.take (k + 1)).any p = false := by
  rw [List.take_succ_eq_append_getElem hk, List.any_append, h, Bool.false_or, List.any_cons, List.any_nil, g]; rfl
theorem any_take_yes {α : Type} (p : α → Bool) (l : List α) (k : Nat) (hk : k < l.length) (g : p l[k] = true) : l.any p = true := List.any_eq_true.2 ⟨l[k], List.getElem_mem hk, g⟩
theorem bytes_dec (a b : ByteArray) : (a.toList == b.toList) = decide (a = b) := by
  by_cases h : a = b
  · subst h; simp
  · rw [decide_eq_false h]
    cases h2 : (a.toList == b.toList) with
    | false => rfl
    | true =>
      refine absurd ?_ h
      have h3 : a.toList = b.toList := by simpa using h2
      rw [Lib.toList_data, Lib.toList_data] at h3
      cases a; cases b
      congr 1
      exact Array.toList_inj.1 h3
set_option maxRecDepth 100000 in
set_option maxHeartbeats 8000000 in
theorem rhas_any (l : List ByteArray) (A : Option Addr) (n c B : Nat) (x : ByteArray) (w : World) (h : Rd w B 1 A n (strsV l)) (hn : n ≤ 140737488355328) :
    Calls Tryz.prog 41 #[.slice A n c, .string x] w fun e w' => e = .returned (.bool (l.any (fun d => decide (d = x)))) ∧ w' = w := by
  have hlen : l.length = n := by have := h.1; rw [strsV_len] at this; omega
  have HL := Lib.hid hlen
  have HROW := Lib.hid (fun k hk => Rd.strAt h k hk)
  have HYES := Lib.hid (fun k hk => any_take_yes (fun d => decide (d = x)) l k hk)
  have HNO := Lib.hid (fun k hk => any_take_no (fun d => decide (d = x)) l k hk)
  have HALL : Hid (l.any (fun d => decide (d = x)) = (l.take n).any (fun d => decide (d = x))) := Lib.hid (by rw [← hlen, List.take_length])
  clear hlen h
  generalize hR : l.any (fun d => decide (d = x)) = R at *
  clear hR
  go_enter Tryz.func41, Tryz.ntmps41
  go_wp2_with fail
  go_loopw [9] (fun v wr => ∃ k : Nat, k ≤ n ∧ v = .int .i64 k ∧ Hid ((l.take k).any (fun d => decide (d = x)) = false) ∧ wr = w) (fun v _ => n - (intOf v).toNat)
  case atStart => exact ⟨0, Nat.zero_le _, rfl, Lib.hid rfl, rfl⟩
  case round =>
    obtain ⟨k, hk, rfl, HA, rfl⟩ := hrel
    by_cases hlt : k < n
    · have hkl : k < l.length := by rw [HL.out]; exact hlt
      obtain ⟨ad, rfl, hc⟩ := HROW.out k hkl
      have c0 := hc wr (Below.refl _ _)
      have HY := Lib.hid (HYES.out k hkl)
      have HN := Lib.hid (HNO.out k hkl HA.out)
      clear hc
      generalize l[k] = y at *
      have x1 : (0 : Int) ≤ (k : Int) := by omega
      have x2 : (k : Int) < (n : Int) := by omega
      cases hc : (y.toList == x.toList) with
      | true =>
        obtain rfl := HY.out (by rw [← bytes_dec]; exact hc)
        go_wp2
        go_ret
        exact ⟨rfl, rfl⟩
      | false =>
        have HN2 := Lib.hid (HN.out (by rw [← bytes_dec]; exact hc))
        go_wp2
        go_roundw
        case rel => exact ⟨k + 1, by omega, by go_num, HN2, trivial⟩
        case measure => first | (simp [intOf]; done) | (simp [intOf]; omega)
    · have x2 : ¬ (k : Int) < (n : Int) := by omega
      have hkn : k = n := by omega
      have hr : R = false := by rw [HALL.out, ← hkn]; exact HA.out
      subst hr
      clear hkn
      go_wp2
      go_ret
      exact ⟨rfl, rfl⟩
end

section
open Go.RowKit Go.Shelf

theorem orTake (q : Bool) (rk : Int) (l : List Int) (k : Nat) (hk : k < l.length) : (q || (l.take (k + 1)).any (fun d => decide (d = rk))) = ((q || (l.take k).any (fun d => decide (d = rk))) || decide (l[k] = rk)) := by
  rw [List.take_succ_eq_append_getElem hk, List.any_append, List.any_cons, List.any_nil, Bool.or_false, Bool.or_assoc]
set_option maxHeartbeats 8000000 in
set_option maxRecDepth 100000 in
theorem ris_any (f : Sp.FD) (UA KA : Option Addr) (uc kc : Nat) (r : RowD) (w : World) (h : FGood f UA KA w.heap.size w) (hx : r.text.size ≤ 4294967280) :
    Calls Tryz.prog 14 #[filtV f UA uc KA kc, rowV r] w fun e w' => e = .returned (.bool (Sp.isF f r)) ∧ Below w.heap.size w w' := by
  have hW2 : Below w.heap.size w ((w.alloc (.cells (filtC f UA uc KA kc).toArray 26)).alloc (.cells (rowC r).toArray 37)) := ((Below.refl w.heap.size w).alloc (Nat.le_refl _) _).alloc (by simp) _
  have HB := Lib.hid hW2
  have HU := Lib.hid (rhas_any f.units UA f.units.length uc _ r.unit _ ((h.ru.below hW2).more hW2.size) (by have := h.un; omega))
  have HROW := Lib.hid (fun k hk => Rd.intAt ((h.rk.below hW2).more hW2.size) k hk)
  have HC := Lib.hid (rwithin_any r.text f.word ((w.alloc (.cells (filtC f UA uc KA kc).toArray 26)).alloc (.cells (rowC r).toArray 37)) (by omega) (by have := h.ws; omega))
  have HKN : Hid (f.kinds.length ≤ 8796093022208) := Lib.hid h.kn
  have HFF := Lib.hid (show FB ((w.alloc (.cells (filtC f UA uc KA kc).toArray 26)).alloc (.cells (rowC r).toArray 37)) w.heap.size (.slice UA f.units.length uc) (.slice KA f.kinds.length kc) (.int .i64 f.since) (.int .i64 f.till) (.string f.word) from (FB.new w _ _ _ _ _ _).on (B := w.heap.size + 1) (by omega) (Below.mono ((Below.refl _ _).alloc (Nat.le_refl _) _) (by simp)))
  have HFR := Lib.hid (show FB ((w.alloc (.cells (filtC f UA uc KA kc).toArray 26)).alloc (.cells (rowC r).toArray 37)) (w.heap.size + 1) (.int .i64 r.time) (.string r.unit) (.int .i64 r.n) (.int .i64 r.kind) (.string r.text) from by
    have h := FB.new (w.alloc (.cells (filtC f UA uc KA kc).toArray 26)) (.int .i64 r.time) (.string r.unit) (.int .i64 r.n) (.int .i64 r.kind) (.string r.text) 37
    rwa [show (w.alloc (.cells (filtC f UA uc KA kc).toArray 26)).heap.size = w.heap.size + 1 from by simp] at h)
  have HR : Hid (Sp.isF f r = ((decide (f.units.length = 0) || Sp.unitIs f r) && ((decide (f.kinds.length = 0) || Sp.kindIs f r) && (decide (f.since ≤ r.time) && (decide (r.time ≤ f.till) && Lib.contains r.text.data.toList f.word.data.toList))))) := Lib.hid rfl
  have HKI : Hid (Sp.kindIs f r = (f.kinds.take f.kinds.length).any (fun d => decide (d = r.kind))) := Lib.hid (by rw [List.take_length]; rfl)
  rw [show f.units.any (fun d => decide (d = r.unit)) = Sp.unitIs f r from rfl] at HU
  clear h hx hW2
  generalize Sp.isF f r = R at *
  generalize Sp.unitIs f r = ui at *
  generalize Sp.kindIs f r = ki at *
  generalize Lib.contains r.text.data.toList f.word.data.toList = ct at *
  obtain ⟨fu, fk, fs, ft, fw⟩ := f
  obtain ⟨rt, ru, rn, rk, rx⟩ := r
  unfold filtV rowV
  simp only [filtC, rowC] at *
  go_enter Tryz.func14, Tryz.ntmps14
  go_upto_region 1 with fail
  generalize ((w.alloc (.cells [.slice UA fu.length uc, .slice KA fk.length kc, .int .i64 fs, .int .i64 ft, .string fw].toArray 26)).alloc (.cells [.int .i64 rt, .string ru, .int .i64 rn, .int .i64 rk, .string rx].toArray 37)) = w1 at *
  obtain ⟨f0, f1, f2, f3, f4⟩ := HFF.out
  obtain ⟨r0, r1, r2, r3, r4⟩ := HFR.out
  obtain ⟨q, hq⟩ : ∃ q : Bool, q = decide (fk.length = 0) := ⟨_, rfl⟩
  have e0 : ((fk.length : Int) == 0) = q := by
    rw [hq]
    by_cases h : fk.length = 0
    · rw [h]; rfl
    · rw [decide_eq_false h]; simpa using h
  rw [← hq] at HR
  clear hq
  have HKB : Hid (fk.length ≤ 8796093022208) := HKN
  clear HFF HFR HKN
  go_wp2_with fail
  clear e0
  go_loopw [5, 15] (fun a v wr => ∃ (k : Nat) (b : Bool), k ≤ fk.length ∧ v = .int .i64 k ∧ a = .bool b ∧ Hid (b = (q || (fk.take k).any (fun d => decide (d = rk)))) ∧ wr = w1) (fun _ v _ => fk.length - (intOf v).toNat)
  case atStart => exact ⟨0, q, Nat.zero_le _, rfl, rfl, Lib.hid (by simp), rfl⟩
  case round =>
    obtain ⟨k, b, hk, rfl, rfl, HA, rfl⟩ := hrel
    by_cases hlt : k < fk.length
    · obtain ⟨ad, rfl, hc⟩ := HROW.out k hlt
      have c0 := hc wr (Below.refl _ _)
      have HS := Lib.hid (orTake q rk fk k hlt)
      rw [← HA.out] at HS
      clear hc
      generalize fk[k] = y at *
      have x1 : (0 : Int) ≤ (k : Int) := by omega
      have x2 : (k : Int) < (fk.length : Int) := by omega
      have hkb := HKB.out
      cases b with
      | true =>
        have HN := Lib.hid (HS.out.symm)
        go_wp2
        go_roundw
        case rel => exact ⟨k + 1, true, by omega, by go_num, rfl, Lib.hid (by rw [← HN.out]; rfl), trivial⟩
        case measure => first | (simp [intOf]; done) | (simp [intOf]; omega)
      | false =>
        cases hy : (y == rk) with
        | true =>
          have HN := Lib.hid (HS.out.symm)
          have hyd : decide (y = rk) = true := by simpa using hy
          rw [hyd] at HN
          clear hyd
          go_wp2
          go_roundw
          case rel => exact ⟨k + 1, true, by omega, by go_num, rfl, Lib.hid (by rw [← HN.out]; rfl), trivial⟩
          case measure => first | (simp [intOf]; done) | (simp [intOf]; omega)
        | false =>
          have HN := Lib.hid (HS.out.symm)
          have hyd : decide (y = rk) = false := by simpa using hy
          rw [hyd] at HN
          clear hyd
          go_wp2
          go_roundw
          case rel => exact ⟨k + 1, false, by omega, by go_num, rfl, Lib.hid (by rw [← HN.out]; rfl), trivial⟩
          case measure => first | (simp [intOf]; done) | (simp [intOf]; omega)
    · have x2 : ¬ (k : Int) < (fk.length : Int) := by omega
      have hkn : k = fk.length := by omega
      have HKK : Hid (b = (q || ki)) := Lib.hid (by rw [HA.out, HKI.out, hkn])
      clear hkn HA HKI
      rw [← HKK.out] at HR
      clear HKK
      cases b with
      | false =>
        obtain rfl : R = false := by rw [HR.out]; simp
        go_wp2
        go_ret
        exact ⟨rfl, HB.out⟩
      | true =>
        by_cases hu : fu.length = 0
        · have e1 : ((fu.length : Int) == 0) = true := by rw [hu]; rfl
          rw [decide_eq_true hu] at HR
          clear hu
          by_cases hs : fs ≤ rt
          · have d1 : decide (fs ≤ rt) = true := decide_eq_true hs
            by_cases ht : rt ≤ ft
            · have d2 : decide (rt ≤ ft) = true := decide_eq_true ht
              obtain rfl : R = ct := by rw [HR.out, d1, d2]; simp
              go_wp2_with fail
              refine HC.out.mono ?_
              rintro e w6 ⟨rfl, rfl⟩
              go_wp2
              go_ret
              exact ⟨rfl, HB.out⟩
            · have d2 : decide (rt ≤ ft) = false := decide_eq_false ht
              obtain rfl : R = false := by rw [HR.out, d1, d2]; simp
              go_wp2
              go_ret
              exact ⟨rfl, HB.out⟩
          · have d1 : decide (fs ≤ rt) = false := decide_eq_false hs
            obtain rfl : R = false := by rw [HR.out, d1]; simp
            go_wp2
            go_ret
            exact ⟨rfl, HB.out⟩
        · have e1 : ((fu.length : Int) == 0) = false := by simpa using hu
          rw [decide_eq_false hu] at HR
          clear hu
          cases ui with
          | false =>
            obtain rfl : R = false := by rw [HR.out]; simp
            go_wp2_with fail
            refine HU.out.mono ?_
            rintro e w5 ⟨rfl, rfl⟩
            go_wp2
            go_ret
            exact ⟨rfl, HB.out⟩
          | true =>
            by_cases hs : fs ≤ rt
            · have d1 : decide (fs ≤ rt) = true := decide_eq_true hs
              by_cases ht : rt ≤ ft
              · have d2 : decide (rt ≤ ft) = true := decide_eq_true ht
                obtain rfl : R = ct := by rw [HR.out, d1, d2]; simp
                go_wp2_with fail
                refine HU.out.mono ?_
                rintro e w5 ⟨rfl, rfl⟩
                go_wp2_with fail
                refine HC.out.mono ?_
                rintro e w6 ⟨rfl, rfl⟩
                go_wp2
                go_ret
                exact ⟨rfl, HB.out⟩
              · have d2 : decide (rt ≤ ft) = false := decide_eq_false ht
                obtain rfl : R = false := by rw [HR.out, d1, d2]; simp
                go_wp2_with fail
                refine HU.out.mono ?_
                rintro e w5 ⟨rfl, rfl⟩
                go_wp2
                go_ret
                exact ⟨rfl, HB.out⟩
            · have d1 : decide (fs ≤ rt) = false := decide_eq_false hs
              obtain rfl : R = false := by rw [HR.out, d1]; simp
              go_wp2_with fail
              refine HU.out.mono ?_
              rintro e w5 ⟨rfl, rfl⟩
              go_wp2
              go_ret
              exact ⟨rfl, HB.out⟩
end

section
open Go.RowKit Go.Shelf

set_option maxHeartbeats 8000000 in
set_option maxRecDepth 100000 in
theorem rrows_any (f : Sp.FD) (UA KA : Option Addr) (uc kc : Nat) (l : List RowD) (A : Option Addr) (n c B : Nat) (w : World) (h : FGood f UA KA w.heap.size w) (hr : Rd w B 5 A n (rowsC l)) (hB : B ≤ w.heap.size) (hx : ∀ r ∈ l, r.text.size ≤ 4294967280) (hn : n ≤ 137438953472) :
    Calls Tryz.prog 19 #[filtV f UA uc KA kc, .slice A n c] w fun e w' => ∃ A' c', e = .returned (.slice A' (Sp.rowsF f l).length c') ∧ Rd w' w'.heap.size 5 A' (Sp.rowsF f l).length (rowsC (Sp.rowsF f l)) ∧ Below w.heap.size w w' := by
  obtain ⟨i0, hi, hz, hsz, hby⟩ := rowInfo
  have HI := Lib.hid hi
  have HIZ := Lib.hid hz
  have HIS := Lib.hid hsz
  have HIB := Lib.hid hby
  clear hi hz hsz hby
  have hlen : l.length = n := by have := hr.1; rw [rowsC_len] at this; omega
  have HL := Lib.hid hlen
  have HX := Lib.hid hx
  have HROW := Lib.hid (fun k hk => Rd.rowAt hr k hk)
  have HIS2 := Lib.hid (fun W (hb : Below w.heap.size w W) (r : RowD) (hr : r.text.size ≤ 4294967280) => ris_any f UA KA uc kc r W ((h.on hb).more hb.size) hr)
  have HF1 := Lib.hid (filt_new w f UA KA uc kc)
  have HB1 : Hid (Below w.heap.size w (w.alloc (.cells #[.slice UA f.units.length uc, .slice KA f.kinds.length kc, .int .i64 f.since, .int .i64 f.till, .string f.word] 26))) := Lib.hid ((Below.refl _ _).alloc (Nat.le_refl _) _)
  have HL1 : Hid (w.heap.size < (w.alloc (.cells #[.slice UA f.units.length uc, .slice KA f.kinds.length kc, .int .i64 f.since, .int .i64 f.till, .string f.word] 26)).heap.size) := Lib.hid (by simp)
  clear hlen h hx hr
  unfold filtV filtC
  unfold filtV filtC at HIS2
  go_enter Tryz.func19, Tryz.ntmps19
  go_upto_region 2 with fail
  generalize w.alloc (.cells #[.slice UA f.units.length uc, .slice KA f.kinds.length kc, .int .i64 f.since, .int .i64 f.till, .string f.word] 26) = w1 at *
  go_wp2_with fail
  go_loopw [5, 10] (fun ov iv wr => ∃ (k m : Nat) (O : List RowD), k ≤ n ∧ iv = .int .i64 k ∧ wr.ownsRow w1.heap.size 37 5 ov m (rowsC O) ∧ Below w1.heap.size w1 wr ∧ m ≤ k ∧ Hid (O = Sp.rowsF f (l.take k) ∧ O.length = m)) (fun _ iv _ => n - (intOf iv).toNat)
  case atStart => exact ⟨0, 0, [], Nat.zero_le _, rfl, ⟨rfl, .inl ⟨rfl, rfl⟩⟩, Below.refl _ _, Nat.le_refl _, Lib.hid ⟨by simp [Sp.rowsF], rfl⟩⟩
  case round =>
    obtain ⟨k, m, O, hk, rfl, hown, hb, hmk, HO⟩ := hrel
    obtain ⟨OA, oc, rfl⟩ := own_slice hown
    have HBR : Hid (Below w.heap.size w wr) := Lib.hid (HB1.out.trans (hb.mono HB1.out.size))
    have HFR := Lib.hid (HF1.out.on HL1.out hb)
    have hzr : w.heap.size < wr.heap.size := by have := hb.size; have := HL1.out; omega
    have hw1r : w1.heap.size ≤ wr.heap.size := hb.size
    have HOWN := Lib.hid hown
    have HBB := Lib.hid hb
    clear hown hb
    by_cases hlt : k < n
    · have hkl : k < l.length := by rw [HL.out]; exact hlt
      obtain ⟨ad, rfl, hc⟩ := HROW.out k hkl
      obtain ⟨c0, c1, c2, c3, c4⟩ := hc wr (HBR.out.mono hB)
      have HYES := Lib.hid (Sp.rowsF_yes f l k hkl)
      have HNO := Lib.hid (Sp.rowsF_no f l k hkl)
      have HTX := Lib.hid (HX.out l[k] (List.getElem_mem hkl))
      rw [← HO.out.1] at HYES HNO
      clear hc
      generalize l[k] = r at *
      have HC := Lib.hid (fun W (hb : Below w.heap.size w W) => HIS2.out W hb r HTX.out)
      generalize Sp.isF f r = b at *
      have HROWC : Hid (rowsC O ++ rowC r = rowsC (O ++ [r])) := Lib.hid (by simp [rowsC])
      obtain ⟨rt, ru, rn, rk, rx⟩ := r
      simp only [rowV, rowC] at HC
      have HRC : Hid ((#[.int .i64 rt, .string ru, .int .i64 rn, .int .i64 rk, .string rx] : Array Value).toList = rowC ⟨rt, ru, rn, rk, rx⟩) := Lib.hid rfl
      dsimp only at c0 c1 c2 c3 c4
      have x1 : (0 : Int) ≤ (k : Int) := by omega
      have x2 : (k : Int) < (n : Int) := by omega
      have hba : Below wr.heap.size wr (wr.alloc (.cells #[.int .i64 rt, .string ru, .int .i64 rn, .int .i64 rk, .string rx] 37)) := (Below.refl _ _).alloc (Nat.le_refl _) _
      have HFA := Lib.hid (HFR.out.on hzr hba)
      have HRA := Lib.hid (row_new wr rt rn rk ru rx)
      have HBA := Lib.hid (HBB.out.alloc hw1r (.cells #[.int .i64 rt, .string ru, .int .i64 rn, .int .i64 rk, .string rx] 37))
      have HBW := Lib.hid (HBR.out.alloc HBR.out.size (.cells #[.int .i64 rt, .string ru, .int .i64 rn, .int .i64 rk, .string rx] 37))
      have HOA := Lib.hid (own_below HOWN.out hba)
      have hza : wr.heap.size < (wr.alloc (.cells #[.int .i64 rt, .string ru, .int .i64 rn, .int .i64 rk, .string rx] 37)).heap.size := by simp
      clear HOWN HBB HFR HBR hba
      go_upto_region 5 with fail
      clear c0 c1 c2 c3 c4
      generalize (wr.alloc (.cells #[.int .i64 rt, .string ru, .int .i64 rn, .int .i64 rk, .string rx] 37)) = w4 at *
      generalize wr.heap.size = br at *
      obtain ⟨r0, r1, r2, r3, r4⟩ := HRA.out
      obtain ⟨f0, f1, f2, f3, f4⟩ := HFA.out
      go_wp2_with fail
      refine (HC.out w4 HBW.out).mono ?_
      rintro e w5 ⟨rfl, hb5⟩
      clear r0 r1 r2 r3 r4 f0 f1 f2 f3 f4
      have HR5 := Lib.hid (HRA.out.on hza hb5)
      have HB5 := Lib.hid (HBA.out.trans (hb5.mono HBA.out.size))
      have HO5 := Lib.hid (own_below HOA.out hb5)
      clear hb5 HRA HBA HOA HFA
      cases b with
      | false =>
        have HN := Lib.hid (HNO.out rfl)
        go_wp2
        go_roundw
        case rel => exact ⟨k + 1, m, O, by omega, by go_num, HO5.out, HB5.out, by omega, Lib.hid ⟨HN.out.symm, HO.out.2⟩⟩
        case measure => first | (simp [intOf]; done) | (simp [intOf]; omega)
      | true =>
        have HN := Lib.hid (HYES.out rfl)
        obtain ⟨r0, r1, r2, r3, r4⟩ := HR5.out
        have HRB := Lib.hid (Rd.fresh w5 #[.int .i64 rt, .string ru, .int .i64 rn, .int .i64 rk, .string rx] 37 1 5 rfl)
        go_wp2_with (at_builtin; refine wpList_append_rd _ rfl _ _ 35 rfl w1.heap.size 37 i0 (.agg zeroRow) 5 56 Tryz.underlying35 HI.out HIZ.out HIS.out HIB.out rfl (by decide) _ m (rowsC O) rfl (World.ownsRow.alloc HO5.out _) (some ⟨w5.heap.size, 0, none⟩) 1 1 (w5.heap.size + 1) _ rfl HRB.out (by intro u hu; rw [HRC.out] at hu; exact rowsC_one [⟨rt, ru, rn, rk, rx⟩] u (by simpa [rowsC] using hu)) (by simp only [maxLen]; omega) (by omega) (by have := HB5.out.size; simp; omega) ?_)
        intro v6 w6 hown6 hgr6
        rw [HRC.out, HROWC.out] at hown6
        have HO6 := Lib.hid hown6
        have HB6 := Lib.hid ((HB5.out.alloc HB5.out.size _).grown hgr6 (by have := HB5.out.size; simp; omega) (own_base HO5.out))
        clear HRB r0 r1 r2 r3 r4 HO5 HB5 hgr6 hown6
        go_wp2
        go_roundw
        case rel => exact ⟨k + 1, m + 1, O ++ [⟨rt, ru, rn, rk, rx⟩], by omega, by go_num, HO6.out, HB6.out, by omega, Lib.hid ⟨HN.out.symm, by rw [List.length_append, HO.out.2]; rfl⟩⟩
        case measure => first | (simp [intOf]; done) | (simp [intOf]; omega)
    · have x1 : ¬ (k : Int) < (n : Int) := by omega
      have hO := HO.out
      rw [show k = l.length by have := HL.out; omega, List.take_length] at hO
      have HFIN : Hid (Rd wr wr.heap.size 5 OA m (rowsC O)) := Lib.hid (Rd.own HOWN.out).1
      have HM : Hid (O = Sp.rowsF f l ∧ O.length = m) := Lib.hid hO
      clear hO
      go_wp2
      go_ret
      rw [← HM.out.1, HM.out.2]
      first | exact ⟨OA, oc, rfl, HFIN.out, HBR.out⟩ | exact ⟨OA, ⟨oc, rfl⟩, HFIN.out, HBR.out⟩
end

section
open Go.RowKit Go.Shelf

namespace Sp
theorem may_unit (f : FD) (k : Nat) (hk : k < f.units.length) (h : unitB f.units[k] = false) : mayF f = false := by
  have : f.units.all unitB = false := by
    rw [Bool.eq_false_iff]
    intro e
    have := List.all_eq_true.1 e _ (List.getElem_mem hk)
    rw [h] at this
    cases this
  unfold mayF
  rw [this]; simp
theorem may_rise (f : FD) (q : Nat) (hq : q + 1 < f.units.length) (h : ltB f.units[q] f.units[q + 1] = false) : mayF f = false := by
  unfold mayF
  rw [risesB_no _ q hq h]; simp
theorem may_kind (f : FD) (k : Nat) (hk : k < f.kinds.length) (h : kindB f.kinds[k] = false) : mayF f = false := by
  have : f.kinds.all kindB = false := by
    rw [Bool.eq_false_iff]
    intro e
    have := List.all_eq_true.1 e _ (List.getElem_mem hk)
    rw [h] at this
    cases this
  unfold mayF
  rw [this]; simp
theorem may_kise (f : FD) (q : Nat) (hq : q + 1 < f.kinds.length) (h : ¬ f.kinds[q] < f.kinds[q + 1]) : mayF f = false := by
  unfold mayF
  rw [risesI_no _ q hq h]; simp
theorem all_next {α : Type} (p : α → Bool) (l : List α) (k : Nat) (hk : k < l.length) (h : (l.take k).all p = true) (g : p l[k] = true) : (l.take (k + 1)).all p = true := by
  rw [List.take_succ_eq_append_getElem hk, List.all_append, h, Bool.true_and, List.all_cons, List.all_nil, g]; rfl
end Sp
set_option maxHeartbeats 8000000 in
set_option maxRecDepth 100000 in
theorem rmayf_any (f : Sp.FD) (UA KA : Option Addr) (uc kc : Nat) (w : World) (h : FGood f UA KA w.heap.size w) :
    Calls Tryz.prog 15 #[filtV f UA uc KA kc] w fun e w' => e = .returned (.bool (Sp.mayF f)) ∧ Below w.heap.size w w' := by
  have hW2 : Below w.heap.size w (w.alloc (.cells (filtC f UA uc KA kc).toArray 26)) := (Below.refl w.heap.size w).alloc (Nat.le_refl _) _
  have HB := Lib.hid hW2
  have HROW := Lib.hid (fun k hk => Rd.strAt ((h.ru.below hW2).more hW2.size) k hk)
  have HKOW := Lib.hid (fun k hk => Rd.intAt ((h.rk.below hW2).more hW2.size) k hk)
  have HUN : Hid (f.units.length ≤ 8796093022208) := Lib.hid h.un
  have HKN : Hid (f.kinds.length ≤ 8796093022208) := Lib.hid h.kn
  have HWS : Hid (f.word.size ≤ 1048576) := Lib.hid h.ws
  have HFF := Lib.hid (show FB (w.alloc (.cells (filtC f UA uc KA kc).toArray 26)) w.heap.size (.slice UA f.units.length uc) (.slice KA f.kinds.length kc) (.int .i64 f.since) (.int .i64 f.till) (.string f.word) from FB.new w _ _ _ _ _ _)
  have HLT : Hid (w.heap.size < (w.alloc (.cells (filtC f UA uc KA kc).toArray 26)).heap.size) := Lib.hid (by simp)
  have HB1 := Lib.hid (Sp.may_unit f)
  have HB2 := Lib.hid (Sp.may_rise f)
  have HB3 := Lib.hid (Sp.may_kind f)
  have HB4 := Lib.hid (Sp.may_kise f)
  have HR : Hid (Sp.mayF f = (decide (f.units.length ≤ 16) && (Sp.risesB f.units && (Sp.risesI f.kinds && (f.units.all Sp.unitB && (f.kinds.all Sp.kindB && (timeB f.since && (timeB f.till && Sp.wordB f.word)))))))) := Lib.hid rfl
  have HG1 := Lib.hid (Sp.risesB_yes f.units)
  have HG2 := Lib.hid (Sp.risesI_yes f.kinds)
  clear h hW2
  generalize Sp.mayF f = R at *
  obtain ⟨fu, fk, fs, ft, fw⟩ := f
  unfold filtV
  simp only [filtC] at *
  have HMU := Lib.hid (fun (s : ByteArray) W => rmayL_any s W)
  go_enter Tryz.func15, Tryz.ntmps15
  go_upto_region 1 with fail
  generalize (w.alloc (.cells [.slice UA fu.length uc, .slice KA fk.length kc, .int .i64 fs, .int .i64 ft, .string fw].toArray 26)) = w1 at *
  have f0 := HFF.out.c0
  go_wp2_with fail
  clear f0
  go_loopw [10] (fun v wr => ∃ k : Nat, k ≤ fu.length ∧ v = .int .i64 k ∧ Hid (Below w1.heap.size w1 wr) ∧ Hid (∀ (q : Nat) (h : q + 1 < fu.length), q + 1 < k → Sp.ltB fu[q] fu[q + 1] = true) ∧ Hid ((fu.take k).all Sp.unitB = true)) (fun v _ => fu.length - (intOf v).toNat)
  case atStart => exact ⟨0, Nat.zero_le _, rfl, Lib.hid (Below.refl _ _), Lib.hid fun q h hq => absurd hq (by omega), Lib.hid rfl⟩
  case round =>
    obtain ⟨k, hk, rfl, HD, HK, HA⟩ := hrel
    have hfu := HUN.out
    by_cases hlt : k < fu.length
    · obtain ⟨ad, rfl, hc⟩ := HROW.out k hlt
      have HNX := Lib.hid (Sp.all_next Sp.unitB fu k hlt HA.out)
      have HBK := Lib.hid (HB1.out k hlt)
      have HCK := Lib.hid hc
      have c0 := hc wr HD.out
      have x1 : (0 : Int) ≤ (k : Int) := by omega
      have x2 : (k : Int) < (fu.length : Int) := by omega
      clear hc
      have HUB : Hid (∀ b, Sp.unitB fu[k] = b → b = (fu[k].toList.isEmpty || Sp.mayL fu[k].data.toList)) := Lib.hid (by intro b hb; rw [← hb]; rfl)
      go_upto_region 4 with fail
      clear c0
      cases hem : fu[k].toList.isEmpty with
      | true =>
        have e1 : (fu[k].toList != []) = false := by cases h : fu[k].toList with | nil => rfl | cons a b => rw [h] at hem; cases hem
        have e2 : (fu[k].toList == []) = true := by cases h : fu[k].toList with | nil => rfl | cons a b => rw [h] at hem; cases hem
        have HN2 := Lib.hid (HNX.out ((HUB.out _ rfl).trans (by rw [hem]; rfl)))
        have HE := HD
        clear HBK HNX HUB
        rcases Nat.eq_zero_or_pos k with hk0 | hk0
        · subst hk0
          have z1 : ¬ (0 : Int) < ((0 : Nat) : Int) := by decide
          have u0 := (HFF.out.on HLT.out HE.out).c0
          first | have v0 := HQK.out _ HE.out | skip
          go_wp2
          go_roundw
          case rel => exact ⟨1, by omega, by first | rfl | go_num, HE, Lib.hid fun q h hq => absurd hq (by omega), HN2⟩
          case measure => first | (simp [intOf]; done) | (simp [intOf]; omega)
        · obtain ⟨q, rfl⟩ : ∃ q, k = q + 1 := ⟨k - 1, by omega⟩
          have hql : q < fu.length := by omega
          obtain ⟨ad', had, hcq⟩ := HROW.out q hql
          injection had with had
          subst had
          have HQK := Lib.hid hcq
          have HRK := Lib.hid (HB2.out q hlt)
          have HKK : Hid (Sp.ltB fu[q] fu[q + 1] = true → ∀ (p : Nat) (h : p + 1 < fu.length), p + 1 < q + 1 + 1 → Sp.ltB fu[p] fu[p + 1] = true) := Lib.hid (fun e p h hp => by
            by_cases hpq : p = q
            · subst hpq; exact e
            · exact HK.out p h (by omega))
          clear hcq
          generalize fu[q + 1] = y at *
          generalize fu[q] = p at *
          have y0 : ((q + 1 : Nat) : Int) = (q : Int) + 1 := by omega
          rw [y0]
          have y1 : (0 : Int) ≤ (q : Int) := by omega
          have y2 : (q : Int) < (fu.length : Int) := by omega
          have y3 : (q : Int) + 1 < (fu.length : Int) := by omega
          have y4 : (0 : Int) ≤ (q : Int) + 1 := by omega
          have y5 : (0 : Int) < (q : Int) + 1 := by omega
          have ep : ((q : Int) + 1).toNat = q + 1 := by omega
          have hwp : IntKind.i64.wrap (q : Int) = (q : Int) := by rw [IntKind.wrap_i64]; omega
          clear y0 x1 x2
          cases hls : Sp.ltB p y with
          | true =>
            have t0 : Op.bytesLess p.toList y.toList = true := hls
            have t1 : Op.bytesLess y.toList p.toList = false := Sp.ltB_asym hls
            have HKN := Lib.hid (HKK.out hls)
            clear hls
            have u0 := (HFF.out.on HLT.out HE.out).c0
            first | have v0 := HQK.out _ HE.out | skip
            go_wp2
            go_roundw
            case rel => exact ⟨q + 1 + 1, by omega, by go_num, HE, HKN, HN2⟩
            case measure => first | (simp [intOf]; done) | (simp [intOf]; omega)
          | false =>
            have t0 : Op.bytesLess p.toList y.toList = false := hls
            obtain rfl := HRK.out hls
            clear hls
            have u0 := (HFF.out.on HLT.out HE.out).c0
            first | have v0 := HQK.out _ HE.out | skip
            go_wp2
            go_ret
            exact ⟨rfl, HB.out.trans (HE.out.mono HB.out.size)⟩
      | false =>
        have e1 : (fu[k].toList != []) = true := by cases h : fu[k].toList with | nil => rw [h] at hem; cases hem | cons a b => rfl
        have e2 : (fu[k].toList == []) = false := by cases h : fu[k].toList with | nil => rw [h] at hem; cases hem | cons a b => rfl
        go_wp2_with fail
        refine (HMU.out _ _).mono ?_
        rintro e w5 ⟨rfl, hb5⟩
        have HE := Lib.hid (HD.out.trans (hb5.mono HD.out.size))
        clear hb5
        cases hma : Sp.mayL fu[k].data.toList with
        | false =>
          obtain rfl := HBK.out ((HUB.out _ rfl).trans (by rw [hem, hma]; rfl))
          go_wp2
          go_ret
          exact ⟨rfl, HB.out.trans (HE.out.mono HB.out.size)⟩
        | true =>
          have HN2 := Lib.hid (HNX.out ((HUB.out _ rfl).trans (by rw [hem, hma]; rfl)))
          clear HBK HNX HUB hma
          rcases Nat.eq_zero_or_pos k with hk0 | hk0
          · subst hk0
            have z1 : ¬ (0 : Int) < ((0 : Nat) : Int) := by decide
            have u0 := (HFF.out.on HLT.out HE.out).c0
            first | have v0 := HQK.out _ HE.out | skip
            go_wp2
            go_roundw
            case rel => exact ⟨1, by omega, by first | rfl | go_num, HE, Lib.hid fun q h hq => absurd hq (by omega), HN2⟩
            case measure => first | (simp [intOf]; done) | (simp [intOf]; omega)
          · obtain ⟨q, rfl⟩ : ∃ q, k = q + 1 := ⟨k - 1, by omega⟩
            have hql : q < fu.length := by omega
            obtain ⟨ad', had, hcq⟩ := HROW.out q hql
            injection had with had
            subst had
            have HQK := Lib.hid hcq
            have HRK := Lib.hid (HB2.out q hlt)
            have HKK : Hid (Sp.ltB fu[q] fu[q + 1] = true → ∀ (p : Nat) (h : p + 1 < fu.length), p + 1 < q + 1 + 1 → Sp.ltB fu[p] fu[p + 1] = true) := Lib.hid (fun e p h hp => by
              by_cases hpq : p = q
              · subst hpq; exact e
              · exact HK.out p h (by omega))
            clear hcq
            generalize fu[q + 1] = y at *
            generalize fu[q] = p at *
            have y0 : ((q + 1 : Nat) : Int) = (q : Int) + 1 := by omega
            rw [y0]
            have y1 : (0 : Int) ≤ (q : Int) := by omega
            have y2 : (q : Int) < (fu.length : Int) := by omega
            have y3 : (q : Int) + 1 < (fu.length : Int) := by omega
            have y4 : (0 : Int) ≤ (q : Int) + 1 := by omega
            have y5 : (0 : Int) < (q : Int) + 1 := by omega
            have ep : ((q : Int) + 1).toNat = q + 1 := by omega
            have hwp : IntKind.i64.wrap (q : Int) = (q : Int) := by rw [IntKind.wrap_i64]; omega
            clear y0 x1 x2
            cases hls : Sp.ltB p y with
            | true =>
              have t0 : Op.bytesLess p.toList y.toList = true := hls
              have t1 : Op.bytesLess y.toList p.toList = false := Sp.ltB_asym hls
              have HKN := Lib.hid (HKK.out hls)
              clear hls
              have u0 := (HFF.out.on HLT.out HE.out).c0
              first | have v0 := HQK.out _ HE.out | skip
              go_wp2
              go_roundw
              case rel => exact ⟨q + 1 + 1, by omega, by go_num, HE, HKN, HN2⟩
              case measure => first | (simp [intOf]; done) | (simp [intOf]; omega)
            | false =>
              have t0 : Op.bytesLess p.toList y.toList = false := hls
              obtain rfl := HRK.out hls
              clear hls
              have u0 := (HFF.out.on HLT.out HE.out).c0
              first | have v0 := HQK.out _ HE.out | skip
              go_wp2
              go_ret
              exact ⟨rfl, HB.out.trans (HE.out.mono HB.out.size)⟩
    · have hkn : k = fu.length := by omega
      have x2 : ¬ (k : Int) < (fu.length : Int) := by omega
      have HRB : Hid (Sp.risesB fu = true) := Lib.hid (HG1.out fun q h => HK.out q h (by omega))
      have HAB : Hid (fu.all Sp.unitB = true) := Lib.hid (by have := HA.out; rwa [hkn, List.take_length] at this)
      have HKL : Hid (fk.length ≤ 8796093022208) := HKN
      have HFW := Lib.hid (HFF.out.on HLT.out HD.out)
      have HZ := Lib.hid (HB.out.trans (HD.out.mono HB.out.size))
      have HKW : Hid (∀ (k : Nat) (hk : k < fk.length), ∃ ad, KA = some ad ∧ wr.cell? (ad.add k) = some (.int .i64 fk[k])) := Lib.hid (fun k hk => by
        obtain ⟨ad, h1, h2⟩ := HKOW.out k hk
        exact ⟨ad, h1, h2 wr HD.out⟩)
      rw [HRB.out, HAB.out] at HR
      clear hkn HK HA HG1 HB1 HB2 HRB HAB HROW HKOW HUN HMU hk
      obtain ⟨w2, hw2⟩ : ∃ w2, w2 = wr := ⟨_, rfl⟩
      rw [← hw2] at HFW HZ HKW ⊢
      clear hw2 HD
      have f1 := HFW.out.c1
      go_wp2_with fail
      clear f1
      go_loopw [40] (fun v wr => ∃ k : Nat, k ≤ fk.length ∧ v = .int .i64 k ∧ wr = w2 ∧ Hid (∀ (q : Nat) (h : q + 1 < fk.length), q + 1 < k → fk[q] < fk[q + 1]) ∧ Hid ((fk.take k).all Sp.kindB = true)) (fun v _ => fk.length - (intOf v).toNat)
      case atStart => exact ⟨0, Nat.zero_le _, rfl, rfl, Lib.hid fun q h hq => absurd hq (by omega), Lib.hid rfl⟩
      case round =>
        obtain ⟨k, hk, rfl, rfl, HK, HA⟩ := hrel
        have hfk := HKL.out
        by_cases hlt : k < fk.length
        · obtain ⟨ad, rfl, c0⟩ := HKW.out k hlt
          have HNX := Lib.hid (Sp.all_next Sp.kindB fk k hlt HA.out)
          have HBK := Lib.hid (HB3.out k hlt)
          have x1 : (0 : Int) ≤ (k : Int) := by omega
          have x2 : (k : Int) < (fk.length : Int) := by omega
          go_upto_region 10 with fail
          clear c0
          by_cases g1 : fk[k] < 1
          · obtain rfl := HBK.out (by unfold Sp.kindB; rw [decide_eq_false (show ¬ (1 ≤ fk[k]) by omega)]; rfl)
            go_wp2
            go_ret
            exact ⟨rfl, HZ.out⟩
          · by_cases g2 : 6 < fk[k]
            · obtain rfl := HBK.out (by unfold Sp.kindB; rw [decide_eq_false (show ¬ (fk[k] ≤ 6) by omega), Bool.and_false])
              go_wp2
              go_ret
              exact ⟨rfl, HZ.out⟩
            · have HN2 := Lib.hid (HNX.out (by unfold Sp.kindB; rw [decide_eq_true (show 1 ≤ fk[k] by omega), decide_eq_true (show fk[k] ≤ 6 by omega)]; rfl))
              clear HBK HNX
              rcases Nat.eq_zero_or_pos k with hk0 | hk0
              · subst hk0
                have z1 : ¬ (0 : Int) < ((0 : Nat) : Int) := by decide
                go_wp2
                go_roundw
                case rel => exact ⟨1, by omega, by first | rfl | go_num, by first | rfl | trivial, Lib.hid fun q h hq => absurd hq (by omega), HN2⟩
                case measure => first | (simp [intOf]; done) | (simp [intOf]; omega)
              · obtain ⟨q, rfl⟩ : ∃ q, k = q + 1 := ⟨k - 1, by omega⟩
                obtain ⟨ad', had, d0⟩ := HKW.out q (by omega)
                injection had with had
                subst had
                have HRK := Lib.hid (HB4.out q hlt)
                have HKK : Hid (fk[q] < fk[q + 1] → ∀ (p : Nat) (h : p + 1 < fk.length), p + 1 < q + 1 + 1 → fk[p] < fk[p + 1]) := Lib.hid (fun e p h hp => by
                  by_cases hpq : p = q
                  · subst hpq; exact e
                  · exact HK.out p h (by omega))
                generalize fk[q + 1] = y at *
                generalize fk[q] = p at *
                have y0 : ((q + 1 : Nat) : Int) = (q : Int) + 1 := by omega
                rw [y0]
                have y1 : (0 : Int) ≤ (q : Int) := by omega
                have y2 : (q : Int) < (fk.length : Int) := by omega
                have y3 : (q : Int) + 1 < (fk.length : Int) := by omega
                have y4 : (0 : Int) ≤ (q : Int) + 1 := by omega
                have y5 : (0 : Int) < (q : Int) + 1 := by omega
                have ep : ((q : Int) + 1).toNat = q + 1 := by omega
                have hwp : IntKind.i64.wrap (q : Int) = (q : Int) := by rw [IntKind.wrap_i64]; omega
                have f1 := HFW.out.c1
                clear y0 x1 x2
                by_cases hls : p < y
                · have HKN2 := Lib.hid (HKK.out hls)
                  have t1 : ¬ y ≤ p := by omega
                  go_wp2
                  go_roundw
                  case rel => exact ⟨q + 1 + 1, by omega, by go_num, by first | rfl | trivial, HKN2, HN2⟩
                  case measure => first | (simp [intOf]; done) | (simp [intOf]; omega)
                · obtain rfl := HRK.out (by omega)
                  have t1 : y ≤ p := by omega
                  go_wp2
                  go_ret
                  exact ⟨rfl, HZ.out⟩
        · have hkn : k = fk.length := by omega
          have x2 : ¬ (k : Int) < (fk.length : Int) := by omega
          have HRB : Hid (Sp.risesI fk = true) := Lib.hid (HG2.out fun q h => HK.out q h (by omega))
          have HAB : Hid (fk.all Sp.kindB = true) := Lib.hid (by have := HA.out; rwa [hkn, List.take_length] at this)
          rw [HRB.out, HAB.out] at HR
          have HR2 : Hid (R = (decide (fu.length ≤ 16) && (timeB fs && (timeB ft && (cleanL fw.data.toList && decide (fw.size ≤ 100)))))) := Lib.hid (by rw [HR.out]; simp only [Bool.true_and]; rfl)
          clear HR hkn HK HA HG2 HB3 HB4 HRB HAB HKW hk HKL HKN
          obtain ⟨f0, f1, f2, f3, f4⟩ := HFW.out
          have HT1 := Lib.hid (rtime_any fs wr)
          have HT2 := Lib.hid (rtime_any ft wr)
          have HPL := Lib.hid (rplainm_any fw 100 wr (by have := HWS.out; omega))
          by_cases hu : fu.length ≤ 16
          · have t1 : (fu.length : Int) ≤ 16 := by omega
            rw [decide_eq_true hu] at HR2
            clear hu
            cases ht1 : timeB fs with
            | false =>
              obtain rfl : R = false := by rw [HR2.out, ht1]; rfl
              rw [ht1] at HT1
              go_wp2_with fail
              refine HT1.out.mono ?_
              rintro e w5 ⟨rfl, rfl⟩
              go_wp2
              go_ret
              exact ⟨rfl, HZ.out⟩
            | true =>
              rw [ht1] at HT1 HR2
              go_wp2_with fail
              refine HT1.out.mono ?_
              rintro e w5 ⟨rfl, rfl⟩
              cases ht2 : timeB ft with
              | false =>
                obtain rfl : R = false := by rw [HR2.out, ht2]; rfl
                rw [ht2] at HT2
                go_wp2_with fail
                refine HT2.out.mono ?_
                rintro e w5 ⟨rfl, rfl⟩
                go_wp2
                go_ret
                exact ⟨rfl, HZ.out⟩
              | true =>
                rw [ht2] at HT2 HR2
                obtain ⟨pl, hpl⟩ : ∃ pl, pl = (cleanL fw.data.toList && decide (fw.size ≤ 100)) := ⟨_, rfl⟩
                rw [← hpl] at HPL HR2
                clear hpl
                obtain rfl : R = pl := by rw [HR2.out]; rfl
                go_wp2_with fail
                refine HT2.out.mono ?_
                rintro e w5 ⟨rfl, rfl⟩
                go_wp2_with fail
                refine HPL.out.mono ?_
                rintro e w6 ⟨rfl, rfl⟩
                go_wp2
                go_ret
                exact ⟨rfl, HZ.out⟩
          · have t1 : ¬ (fu.length : Int) ≤ 16 := by omega
            obtain rfl : R = false := by rw [HR2.out, decide_eq_false hu]; rfl
            clear hu
            go_wp2
            go_ret
            exact ⟨rfl, HZ.out⟩
end

section
open Go.RowKit Go.Shelf

theorem plainC_is (c : UInt8) : Sp.plainC c = (!decide ((c.toNat : Int) < 33) && (!decide ((126 : Int) < (c.toNat : Int)) && (!((c.toNat : Int) == 39) && (!((c.toNat : Int) == 34) && !((c.toNat : Int) == 92))))) := by
  have h1 : decide (32 < c.toNat) = !decide ((c.toNat : Int) < 33) := by
    by_cases h : 32 < c.toNat
    · rw [decide_eq_true h, decide_eq_false (by omega)]; rfl
    · rw [decide_eq_false h, decide_eq_true (by omega)]; rfl
  have h2 : decide (c.toNat < 127) = !decide ((126 : Int) < (c.toNat : Int)) := by
    by_cases h : c.toNat < 127
    · rw [decide_eq_true h, decide_eq_false (by omega)]; rfl
    · rw [decide_eq_false h, decide_eq_true (by omega)]; rfl
  rw [show ((c.toNat : Int) == 39) = decide (c = 39) from byte_is c 39, show ((c.toNat : Int) == 34) = decide (c = 34) from byte_is c 34, show ((c.toNat : Int) == 92) = decide (c = 92) from byte_is c 92]
  unfold Sp.plainC
  rw [h1, h2]
  simp only [Bool.and_assoc]
set_option maxHeartbeats 4000000 in
set_option maxRecDepth 100000 in
theorem rsafe_any (s : ByteArray) (b : Bool) (hb : Sp.plainW s.data.toList = b) (w : World) (hs : s.size ≤ 140737488355328) :
    Calls Tryz.prog 76 #[.string s] w fun e w' => e = .returned (.bool b) ∧ w' = w := by
  match hl : s.data.toList with
  | [] =>
    have he : (s.toList == []) = true := by rw [Lib.toList_data, hl]; rfl
    have he' : s.toList.isEmpty = true := by rw [Lib.toList_data, hl]; rfl
    rw [hl] at hb
    have e : b = false := by rw [← hb]; rfl
    subst e
    clear hb hl
    go_enter Tryz.func76, Tryz.ntmps76
    go_wp2
    go_ret
    exact ⟨rfl, rfl⟩
  | c :: r =>
    have he : (s.toList == []) = false := by rw [Lib.toList_data, hl]; rfl
    have he' : s.toList.isEmpty = false := by rw [Lib.toList_data, hl]; rfl
    obtain ⟨h0, hc0⟩ := head_of s c r hl
    have hi0 : (0 : Int) < (s.size : Int) := by omega
    have hp : Sp.plainW s.data.toList = (!decide (c = 45) && Sp.allP s.data.toList) := by
      rw [hl]; unfold Sp.plainW Sp.allP
      have : decide ((c :: r).head? = some 45) = decide (c = 45) := by simp
      rw [this]; rfl
    rw [hp] at hb
    by_cases h45 : c = 45
    · have t1 : ((s[0].toNat : Int) == 45) = true := by rw [hc0]; exact (byte_is c 45).trans (decide_eq_true h45)
      rw [decide_eq_true h45] at hb
      have e : b = false := by rw [← hb]; rfl
      subst e
      clear hb hp hl hc0 h45
      go_enter Tryz.func76, Tryz.ntmps76
      go_wp2
      go_ret
      exact ⟨rfl, rfl⟩
    · have t1 : ((s[0].toNat : Int) == 45) = false := by rw [hc0]; exact (byte_is c 45).trans (decide_eq_false h45)
      rw [decide_eq_false h45] at hb
      have HB : Hid (Sp.allP s.data.toList = b) := Lib.hid (by rw [← hb]; rfl)
      have hz : s.data.toList.length = s.size := by simp
      have HF := Lib.hid (Sp.allP_false s)
      have HT := Lib.hid (Sp.allP_next s)
      have HE : Hid (s.data.toList.take s.size = s.data.toList) := Lib.hid (List.take_of_length_le (by omega))
      clear hb hp hl hc0 h45 hz
      go_enter Tryz.func76, Tryz.ntmps76
      go_wp2_with fail
      clear t1 he he'
      go_loopw [3] (fun i wr => ∃ k : Nat, k ≤ s.size ∧ i = .int .i64 k ∧ Hid (Sp.allP (s.data.toList.take k) = true) ∧ wr = w) (fun i _ => s.size - (intOf i).toNat)
      case atStart => exact ⟨0, Nat.zero_le _, rfl, Lib.hid rfl, rfl⟩
      case round =>
        obtain ⟨k, hk, rfl, HA, rfl⟩ := hrel
        by_cases hlt : k < s.size
        · have HNO := Lib.hid (HF.out k hlt)
          have HYES := Lib.hid (HT.out k hlt)
          rw [plainC_is] at HNO HYES
          have x1 : (0 : Int) ≤ (k : Int) := by omega
          have x2 : (k : Int) < (s.size : Int) := by omega
          by_cases a1 : (s[k].toNat : Int) < 33
          · obtain rfl : b = false := by rw [← HB.out]; exact HNO.out (by rw [decide_eq_true a1]; rfl)
            go_wp2
            go_ret
            exact ⟨rfl, rfl⟩
          · by_cases a2 : (126 : Int) < (s[k].toNat : Int)
            · obtain rfl : b = false := by rw [← HB.out]; exact HNO.out (by rw [decide_eq_false a1, decide_eq_true a2]; rfl)
              go_wp2
              go_ret
              exact ⟨rfl, rfl⟩
            · rw [decide_eq_false a1, decide_eq_false a2] at HNO HYES
              cases a3 : ((s[k].toNat : Int) == 39) with
              | true =>
                obtain rfl : b = false := by rw [← HB.out]; exact HNO.out (by rw [a3]; rfl)
                go_wp2
                go_ret
                exact ⟨rfl, rfl⟩
              | false =>
                cases a4 : ((s[k].toNat : Int) == 34) with
                | true =>
                  obtain rfl : b = false := by rw [← HB.out]; exact HNO.out (by rw [a3, a4]; rfl)
                  go_wp2
                  go_ret
                  exact ⟨rfl, rfl⟩
                | false =>
                  cases a5 : ((s[k].toNat : Int) == 92) with
                  | true =>
                    obtain rfl : b = false := by rw [← HB.out]; exact HNO.out (by rw [a3, a4, a5]; rfl)
                    go_wp2
                    go_ret
                    exact ⟨rfl, rfl⟩
                  | false =>
                    have HN := Lib.hid (show Sp.allP (s.data.toList.take (k + 1)) = true by rw [HYES.out, HA.out, a3, a4, a5]; rfl)
                    clear HNO HYES
                    go_wp2
                    go_roundw
                    case rel => exact ⟨k + 1, by omega, by go_num, HN, by first | rfl | trivial⟩
                    case measure => first | (simp [intOf]; done) | (simp [intOf]; omega)
        · obtain rfl : k = s.size := by omega
          have HR : Hid (b = true) := Lib.hid (by rw [← HB.out, ← HE.out]; exact HA.out)
          have x2 : ¬ (s.size : Int) < (s.size : Int) := by omega
          obtain rfl := HR.out
          go_wp2
          go_ret
          exact ⟨rfl, rfl⟩
end

section
open Go.RowKit Go.Shelf

set_option maxHeartbeats 4000000 in
set_option maxRecDepth 100000 in
theorem rquoted_any (s : ByteArray) (w : World) (hs : s.size ≤ 35184372088000) :
    Calls Tryz.prog 77 #[.string s] w fun e w' => e = .returned (.string ⟨(Sp.quoteW s.data.toList).toArray⟩) ∧ ∃ n, w' = w.drewN n := by
  have HTK : Hid (∀ k (h : k < s.size), s.data.toList.take (k + 1) = s.data.toList.take k ++ [s[k]]) := Lib.hid (fun k h => Sp.take_succ s k h)
  have HTE : Hid (s.data.toList.take s.size = s.data.toList) := Lib.hid (List.take_of_length_le (by simp))
  have HLN : Hid (∀ k, k ≤ s.size → ((34 : UInt8) :: (s.data.toList.take k).flatMap Sp.quoteC).length ≤ 4 * k + 1) := Lib.hid (fun k hk => by
    have h1 := Sp.quotes_len (s.data.toList.take k)
    rw [List.length_take] at h1
    simp only [List.length_cons]
    omega)
  go_enter Tryz.func77, Tryz.ntmps77
  go_wp2_with fail
  go_loopw [3, 4] (fun o i wr => ∃ (k n : Nat) (ob : ByteArray), k ≤ s.size ∧ i = .int .i64 k ∧ o = .string ob ∧ Hid (ob.data.toList = 34 :: (s.data.toList.take k).flatMap Sp.quoteC) ∧ wr = w.drewN n) (fun _ i _ => s.size - (intOf i).toNat)
  case atStart => exact ⟨0, 0, ⟨#[34]⟩, Nat.zero_le _, rfl, rfl, Lib.hid rfl, rfl⟩
  case round =>
    obtain ⟨k, n, ob, hk, rfl, rfl, HB, rfl⟩ := hrel
    have hob : ob.size ≤ 4 * k + 1 := by
      have h1 := HLN.out k hk
      rw [← HB.out] at h1
      have : ob.data.toList.length = ob.size := by simp
      omega
    by_cases hlt : k < s.size
    · have HS : Hid ((34 : UInt8) :: (s.data.toList.take (k + 1)).flatMap Sp.quoteC = ob.data.toList ++ Sp.quoteC s[k]) := Lib.hid (by
        rw [HB.out, HTK.out k hlt, List.flatMap_append, List.flatMap_singleton]; rfl)
      have x1 : (0 : Int) ≤ (k : Int) + 1 := by omega
      have x2 : (k : Int) + 1 ≤ (s.size : Int) := by omega
      have x3 : (k : Int) ≤ (k : Int) + 1 := by omega
      have HX : Hid ((s.extract k (k + 1)).data.toList = [s[k]]) := Lib.hid (by
        rw [Lib.extract_data]
        have h1 : k < s.data.toList.length := by simpa using hlt
        rw [show k + 1 - k = 1 from by omega, List.drop_eq_getElem_cons h1]
        simp [ByteArray.getElem_eq_getElem_data])
      have HQ : Hid (Sp.quoteC s[k] = if s[k] = 34 ∨ s[k] = 92 then [92, s[k]] else if 32 ≤ s[k].toNat ∧ s[k].toNat < 127 then [s[k]] else Sp.byteL s[k]) := Lib.hid rfl
      have e34 : ((s[k].toNat : Int) == 34) = decide (s[k] = 34) := byte_is s[k] 34
      have e92 : ((s[k].toNat : Int) == 92) = decide (s[k] = 92) := byte_is s[k] 92
      have H34 : Hid (((s[k].toNat : Int) == 34) = decide (s[k] = 34)) := Lib.hid e34
      have H92 : Hid (((s[k].toNat : Int) == 92) = decide (s[k] = 92)) := Lib.hid e92
      clear e34 e92
      cases t1 : ((s[k].toNat : Int) == 34) with
      | true =>
        have h34 : s[k] = 34 := by have := H34.out; rw [t1] at this; exact of_decide_eq_true this.symm
        have HE : Hid (Sp.quoteC s[k] = [92, s[k]]) := Lib.hid (by rw [HQ.out, if_pos (.inl h34)])
        clear h34 HQ
        go_wp2
        go_roundw
        case rel => exact ⟨k + 1, n, _, by omega, by go_num, rfl, Lib.hid (by rw [HS.out, HE.out, ← HX.out]; simp), rfl⟩
        case measure => simp [intOf]; omega
      | false =>
        have h34 : s[k] ≠ 34 := by have := H34.out; rw [t1] at this; exact of_decide_eq_false this.symm
        cases t2 : ((s[k].toNat : Int) == 92) with
        | true =>
          have h92 : s[k] = 92 := by have := H92.out; rw [t2] at this; exact of_decide_eq_true this.symm
          have HE : Hid (Sp.quoteC s[k] = [92, s[k]]) := Lib.hid (by rw [HQ.out, if_pos (.inr h92)])
          clear h34 h92 HQ
          go_wp2
          go_roundw
          case rel => exact ⟨k + 1, n, _, by omega, by go_num, rfl, Lib.hid (by rw [HS.out, HE.out, ← HX.out]; simp), rfl⟩
          case measure => simp [intOf]; omega
        | false =>
          have h92 : s[k] ≠ 92 := by have := H92.out; rw [t2] at this; exact of_decide_eq_false this.symm
          have HQ2 : Hid (Sp.quoteC s[k] = if 32 ≤ s[k].toNat ∧ s[k].toNat < 127 then [s[k]] else Sp.byteL s[k]) := Lib.hid (by rw [HQ.out, if_neg (fun h => h.elim h34 h92)])
          clear h34 h92 HQ
          by_cases g1 : (32 : Int) ≤ (s[k].toNat : Int)
          · by_cases g2 : (s[k].toNat : Int) ≤ 126
            · have HE : Hid (Sp.quoteC s[k] = [s[k]]) := Lib.hid (by rw [HQ2.out, if_pos ⟨by omega, by omega⟩])
              clear HQ2
              go_wp2
              go_roundw
              case rel => exact ⟨k + 1, n, _, by omega, by go_num, rfl, Lib.hid (by rw [HS.out, HE.out, ← HX.out]; simp), rfl⟩
              case measure => simp [intOf]; omega
            · have HE : Hid (Sp.quoteC s[k] = Sp.byteL s[k]) := Lib.hid (by rw [HQ2.out, if_neg (fun h => by have := h.2; omega)])
              clear HQ2
              go_wp2_with (go_at_call 104; refine (rhexByte_any _ _).mono ?_; rintro e w2 ⟨rfl, nb, rfl⟩)
              go_roundw
              case rel => exact ⟨k + 1, n + nb, _, by omega, by go_num, rfl, Lib.hid (by rw [HS.out, HE.out]; simp [Sp.byteL]), by simp⟩
              case measure => simp [intOf]; omega
          · have HE : Hid (Sp.quoteC s[k] = Sp.byteL s[k]) := Lib.hid (by rw [HQ2.out, if_neg (fun h => by have := h.1; omega)])
            clear HQ2
            go_wp2_with (go_at_call 104; refine (rhexByte_any _ _).mono ?_; rintro e w2 ⟨rfl, nb, rfl⟩)
            go_roundw
            case rel => exact ⟨k + 1, n + nb, _, by omega, by go_num, rfl, Lib.hid (by rw [HS.out, HE.out]; simp [Sp.byteL]), by simp⟩
            case measure => simp [intOf]; omega
    · obtain rfl : k = s.size := by omega
      have HF : Hid (ob ++ ⟨#[34]⟩ = ⟨(Sp.quoteW s.data.toList).toArray⟩) := Lib.hid (by
        apply ByteArray.ext
        apply Array.toList_inj.1
        have h2 := HB.out
        rw [HTE.out] at h2
        rw [ByteArray.data_append, Array.toList_append, h2]
        rfl)
      have x2 : ¬ (s.size : Int) < (s.size : Int) := by omega
      go_wp2
      go_ret
      rw [HF.out]
      exact ⟨rfl, n, rfl⟩
end

section
open Go.RowKit Go.Shelf

namespace Sp
theorem joinS_snoc : ∀ (ws : List (List UInt8)) (x : List UInt8), ws ≠ [] → joinS (ws ++ [x]) = joinS ws ++ 32 :: wordW x
  | [], x, h => absurd rfl h
  | [a], x, _ => rfl
  | a :: b :: r, x, _ => by
    have := joinS_snoc (b :: r) x (by simp)
    show wordW a ++ 32 :: joinS ((b :: r) ++ [x]) = _
    rw [this]
    simp [joinS]
def dat (xs : List ByteArray) : List (List UInt8) := xs.map fun x => x.data.toList
theorem dat_take (xs : List ByteArray) (k : Nat) (hk : k < xs.length) : dat (xs.take (k + 1)) = dat (xs.take k) ++ [xs[k].data.toList] := by
  rw [List.take_succ_eq_append_getElem hk]
  unfold dat
  rw [List.map_append]; rfl
theorem dat_len (xs : List ByteArray) : (dat xs).length = xs.length := by simp [dat]
theorem zero_next (x : ByteArray) (j : Nat) (hj : j < x.size) (h : hasZero (x.data.toList.take j) = false) (hb : x[j] ≠ 0) : hasZero (x.data.toList.take (j + 1)) = false := by
  unfold hasZero at *
  rw [take_succ x j hj, List.any_append, h, Bool.false_or, List.any_cons, List.any_nil, decide_eq_false hb]; rfl
theorem zero_here (x : ByteArray) (j : Nat) (hj : j < x.size) (hb : x[j] = 0) : hasZero x.data.toList = true := by
  refine List.any_eq_true.2 ⟨x[j], ?_, decide_eq_true hb⟩
  have h1 : j < x.data.toList.length := by simpa using hj
  have : x[j] = x.data.toList[j] := by simp [ByteArray.getElem_eq_getElem_data]
  rw [this]
  exact List.getElem_mem h1
theorem zero_in (xs : List ByteArray) (k : Nat) (hk : k < xs.length) (h : hasZero xs[k].data.toList = true) : (dat xs).any hasZero = true :=
  List.any_eq_true.2 ⟨xs[k].data.toList, List.mem_map.2 ⟨xs[k], List.getElem_mem hk, rfl⟩, h⟩
end Sp
set_option maxHeartbeats 8000000 in
set_option maxRecDepth 100000 in
theorem rjoin_any (xs : List ByteArray) (A : Option Addr) (n c B : Nat) (w : World) (h : Rd w B 1 A n (strsV xs)) (hM : ∀ x ∈ xs, x.size ≤ 1048576) (J : ByteArray) (hJ : J.data.toList = Sp.joinC (Sp.dat xs)) (hn : n ≤ 1000) :
    Calls Tryz.prog 49 #[.slice A n c] w fun e w' => e = .returned (.string J) ∧ ∃ m, w' = w.drewN m := by
  have hlen : xs.length = n := by have := h.1; rw [strsV_len] at this; omega
  have HN := Lib.hid hlen
  have HROW := Lib.hid (fun k hk => Rd.strAt h k hk)
  have HM := Lib.hid hM
  have HJE : Hid (∀ T : ByteArray, T.data.toList = J.data.toList → T = J) := Lib.hid fun T hT => ByteArray.ext (Array.toList_inj.1 hT)
  have HJC : Hid (J.data.toList = if 32 < n then [] else if (Sp.dat xs).any Sp.hasZero then [] else Sp.joinS (Sp.dat xs)) := Lib.hid (by rw [hJ, Sp.joinC, Sp.dat_len, hlen])
  clear hlen hM hJ h
  by_cases h32 : 32 < n
  · obtain rfl : ⟨#[]⟩ = J := HJE.out _ (by rw [HJC.out, if_pos h32])
    have t1 : (32 : Int) < (n : Int) := by omega
    go_enter Tryz.func49, Tryz.ntmps49
    go_wp2
    go_ret
    exact ⟨rfl, 0, rfl⟩
  · have t1 : ¬ (32 : Int) < (n : Int) := by omega
    have HJ2 : Hid (J.data.toList = if (Sp.dat xs).any Sp.hasZero then [] else Sp.joinS (Sp.dat xs)) := Lib.hid (by rw [HJC.out, if_neg h32])
    clear HJC
    go_enter Tryz.func49, Tryz.ntmps49
    go_wp2_with fail
    clear t1
    go_loopw [3, 12] (fun o i wr => ∃ (k m : Nat) (ob : ByteArray), k ≤ n ∧ i = .int .i64 k ∧ o = .string ob ∧ Hid (ob.data.toList = Sp.joinS (Sp.dat (xs.take k))) ∧ Hid ((Sp.dat (xs.take k)).any Sp.hasZero = false) ∧ wr = w.drewN m) (fun _ i _ => n - (intOf i).toNat)
    case atStart => exact ⟨0, 0, ⟨#[]⟩, Nat.zero_le _, rfl, rfl, Lib.hid rfl, Lib.hid rfl, rfl⟩
    case round =>
      obtain ⟨k, m, ob, hk, rfl, rfl, HO, HZ, rfl⟩ := hrel
      by_cases hlt : k < n
      · have hkl : k < xs.length := by rw [HN.out]; exact hlt
        obtain ⟨ad, rfl, hc⟩ := HROW.out k hkl
        have c0 : (w.drewN m).cell? (ad.add k) = some (.string xs[k]) := hc w (Below.refl _ _)
        have x1 : (0 : Int) ≤ (k : Int) := by omega
        have x2 : (k : Int) < (n : Int) := by omega
        have hob : ob.size ≤ 32 * (4 * 1048576 + 3) := by
          have h1 := Sp.joinS_len 1048576 (Sp.dat (xs.take k)) (fun l hl => by
            obtain ⟨x, hx, rfl⟩ := List.mem_map.1 hl
            have := HM.out x (List.mem_of_mem_take hx)
            have e : x.data.toList.length = x.size := by rw [Array.length_toList]; rfl
            omega)
          rw [← HO.out, Sp.dat_len, List.length_take] at h1
          have e : ob.data.toList.length = ob.size := by rw [Array.length_toList]; rfl
          have e2 : min k xs.length ≤ 32 := by omega
          have e3 := Nat.mul_le_mul_right (4 * 1048576 + 3) e2
          omega
        have hxs := HM.out xs[k] (List.getElem_mem hkl)
        have HDT := Lib.hid (Sp.dat_take xs k hkl)
        have HBAD := Lib.hid (Sp.zero_in xs k hkl)
        have HTL : Hid ((Sp.dat (xs.take k)).length = k) := Lib.hid (by rw [Sp.dat_len, List.length_take]; omega)
        clear hc HROW
        generalize xs[k] = x at *
        go_wp2_with fail
        clear c0
        go_loopw [6] (fun v wr => ∃ j : Nat, j ≤ x.size ∧ v = .int .i64 j ∧ Hid (Sp.hasZero (x.data.toList.take j) = false) ∧ wr = w.drewN m) (fun v _ => x.size - (intOf v).toNat)
        case atStart => exact ⟨0, Nat.zero_le _, rfl, Lib.hid rfl, rfl⟩
        case round =>
          obtain ⟨j, hj, rfl, HJZ, rfl⟩ := hrel
          by_cases hjl : j < x.size
          · have y1 : (0 : Int) ≤ (j : Int) := by omega
            have y2 : (j : Int) < (x.size : Int) := by omega
            have HE : Hid (((x[j].toNat : Int) == 0) = decide (x[j] = 0)) := Lib.hid (byte_is x[j] 0)
            cases t0 : ((x[j].toNat : Int) == 0) with
            | true =>
              have hz : x[j] = 0 := by have := HE.out; rw [t0] at this; exact of_decide_eq_true this.symm
              obtain rfl : ⟨#[]⟩ = J := HJE.out _ (by rw [HJ2.out, if_pos (HBAD.out (Sp.zero_here x j hjl hz))])
              clear hz
              go_wp2
              go_ret
              exact ⟨rfl, m, rfl⟩
            | false =>
              have hz : x[j] ≠ 0 := by have := HE.out; rw [t0] at this; exact of_decide_eq_false this.symm
              have HN2 := Lib.hid (Sp.zero_next x j hjl HJZ.out hz)
              clear hz
              go_wp2
              go_roundw
              case rel => exact ⟨j + 1, by omega, by go_num, HN2, by first | rfl | trivial⟩
              case measure => first | (simp [intOf]; done) | (simp [intOf]; omega)
          · obtain rfl : j = x.size := by omega
            have y2 : ¬ (x.size : Int) < (x.size : Int) := by omega
            have HXZ : Hid ((Sp.dat (xs.take (k + 1))).any Sp.hasZero = false) := Lib.hid (by
              have h1 := HJZ.out
              rw [List.take_of_length_le (by simp)] at h1
              rw [HDT.out, List.any_append, HZ.out, List.any_cons, List.any_nil, h1]; rfl)
            clear HBAD HJ2 HJE HJZ
            have HWW : Hid (Sp.wordW x.data.toList = if Sp.plainW x.data.toList then x.data.toList else Sp.quoteW x.data.toList) := Lib.hid rfl
            rcases Nat.eq_zero_or_pos k with hk0 | hk0
            · subst hk0
              have z1 : ¬ (0 : Int) < ((0 : Nat) : Int) := by decide
              have HJO : Hid (ob.data.toList = [] ∧ Sp.joinS (Sp.dat (xs.take (0 + 1))) = Sp.wordW x.data.toList) := Lib.hid ⟨HO.out, by rw [HDT.out]; rfl⟩
              cases hp : Sp.plainW x.data.toList with
              | true =>
                have HS := Lib.hid (fun w => rsafe_any x true hp w (by omega))
                rw [hp] at HWW
                clear hp
                go_wp2_with fail
                refine (HS.out _).mono ?_
                rintro e w5 ⟨rfl, rfl⟩
                go_wp2
                go_roundw
                case rel => exact ⟨1, m, _, by omega, by first | rfl | go_num, rfl, Lib.hid (by rw [HJO.out.2, HWW.out]; simp [HJO.out.1]), HXZ, rfl⟩
                case measure => first | (simp [intOf]; done) | (simp [intOf]; omega)
              | false =>
                have HS := Lib.hid (fun w => rsafe_any x false hp w (by omega))
                have HQ := Lib.hid (fun w => rquoted_any x w (by omega))
                obtain ⟨Q, hQ⟩ : ∃ Q : ByteArray, Q = ⟨(Sp.quoteW x.data.toList).toArray⟩ := ⟨_, rfl⟩
                rw [← hQ] at HQ
                have HQD : Hid (Q.data.toList = Sp.quoteW x.data.toList) := Lib.hid (by rw [hQ])
                have hqs : Q.size ≤ 4 * 1048576 + 2 := by
                  have h1 := Sp.quotes_len x.data.toList
                  have e1 : Q.data.toList.length = Q.size := by rw [Array.length_toList]; rfl
                  have e2 : x.data.toList.length = x.size := by rw [Array.length_toList]; rfl
                  rw [HQD.out] at e1
                  simp only [Sp.quoteW, List.length_cons, List.length_append, List.length_nil] at e1
                  omega
                clear hQ
                rw [hp, ← HQD.out] at HWW
                clear hp
                go_wp2_with fail
                refine (HS.out _).mono ?_
                rintro e w5 ⟨rfl, rfl⟩
                go_wp2_with fail
                refine (HQ.out _).mono ?_
                rintro e w6 ⟨rfl, q, rfl⟩
                go_wp2
                go_roundw
                case rel => exact ⟨1, m + q, _, by omega, by first | rfl | go_num, rfl, Lib.hid (by rw [HJO.out.2, HWW.out]; simp [HJO.out.1]), HXZ, rfl⟩
                case measure => first | (simp [intOf]; done) | (simp [intOf]; omega)
            · have z1 : (0 : Int) < (k : Int) := by omega
              have HJO : Hid (Sp.joinS (Sp.dat (xs.take (k + 1))) = ob.data.toList ++ 32 :: Sp.wordW x.data.toList) := Lib.hid (by
                rw [HDT.out, Sp.joinS_snoc _ _ (by intro e; have := HTL.out; rw [e] at this; simp at this; omega), HO.out])
              cases hp : Sp.plainW x.data.toList with
              | true =>
                have HS := Lib.hid (fun w => rsafe_any x true hp w (by omega))
                rw [hp] at HWW
                clear hp
                go_wp2_with fail
                refine (HS.out _).mono ?_
                rintro e w5 ⟨rfl, rfl⟩
                go_wp2
                go_roundw
                case rel => exact ⟨k + 1, m, _, by omega, by go_num, rfl, Lib.hid (by rw [HJO.out, HWW.out]; simp), HXZ, rfl⟩
                case measure => first | (simp [intOf]; done) | (simp [intOf]; omega)
              | false =>
                have HS := Lib.hid (fun w => rsafe_any x false hp w (by omega))
                have HQ := Lib.hid (fun w => rquoted_any x w (by omega))
                obtain ⟨Q, hQ⟩ : ∃ Q : ByteArray, Q = ⟨(Sp.quoteW x.data.toList).toArray⟩ := ⟨_, rfl⟩
                rw [← hQ] at HQ
                have HQD : Hid (Q.data.toList = Sp.quoteW x.data.toList) := Lib.hid (by rw [hQ])
                have hqs : Q.size ≤ 4 * 1048576 + 2 := by
                  have h1 := Sp.quotes_len x.data.toList
                  have e1 : Q.data.toList.length = Q.size := by rw [Array.length_toList]; rfl
                  have e2 : x.data.toList.length = x.size := by rw [Array.length_toList]; rfl
                  rw [HQD.out] at e1
                  simp only [Sp.quoteW, List.length_cons, List.length_append, List.length_nil] at e1
                  omega
                clear hQ
                rw [hp, ← HQD.out] at HWW
                clear hp
                go_wp2_with fail
                refine (HS.out _).mono ?_
                rintro e w5 ⟨rfl, rfl⟩
                go_wp2_with fail
                refine (HQ.out _).mono ?_
                rintro e w6 ⟨rfl, q, rfl⟩
                go_wp2
                go_roundw
                case rel => exact ⟨k + 1, m + q, _, by omega, by go_num, rfl, Lib.hid (by rw [HJO.out, HWW.out]; simp), HXZ, rfl⟩
                case measure => first | (simp [intOf]; done) | (simp [intOf]; omega)
      · have hkn : k = xs.length := by have := HN.out; omega
        have x2 : ¬ (k : Int) < (n : Int) := by omega
        have HF : Hid (ob = J) := Lib.hid (HJE.out ob (by
          have h1 := HZ.out
          have h2 := HO.out
          rw [hkn, List.take_length] at h1 h2
          rw [HJ2.out, h1, h2]; rfl))
        clear hkn
        obtain rfl := HF.out
        go_wp2
        go_ret
        exact ⟨rfl, m, rfl⟩
end

section
open Go.RowKit Go.Shelf

theorem rkinds_any (w : World) : Calls Tryz.prog 47 #[] w fun e w' => e = .returned (.slice (some ⟨w.heap.size, 0, none⟩) 7 7) ∧ w' = w.alloc (.cells #[.string ⟨#[]⟩, .string ⟨#[115, 97, 105, 100]⟩, .string ⟨#[115, 116, 97, 116, 101]⟩, .string ⟨#[106, 111, 98]⟩, .string ⟨#[99, 111, 110, 110]⟩, .string ⟨#[116, 105, 109, 101, 114]⟩, .string ⟨#[97, 115, 107]⟩] 9) := by
  go_enter Tryz.func47, Tryz.ntmps47
  go_wp2
  go_ret
  exact ⟨by simp, by simp⟩
theorem refunit_any (u : ByteArray) (w : World) : Calls Tryz.prog 46 #[.string u] w fun e w' => e = .returned (.string (unitW u)) ∧ w' = w := by
  cases he : u.toList.isEmpty with
  | true =>
    have e2 : (u.toList == []) = true := by cases h : u.toList with | nil => rfl | cons a b => rw [h] at he; cases he
    have hu : unitW u = ⟨#[45]⟩ := by rw [unitW, if_pos he]
    rw [hu]
    clear hu
    go_enter Tryz.func46, Tryz.ntmps46
    go_wp2
    go_ret
    exact ⟨rfl, rfl⟩
  | false =>
    have e2 : (u.toList == []) = false := by cases h : u.toList with | nil => rw [h] at he; cases he | cons a b => rfl
    have hu : unitW u = u := by rw [unitW, if_neg (by rw [he]; decide)]
    rw [hu]
    clear hu
    go_enter Tryz.func46, Tryz.ntmps46
    go_wp2
    go_ret
    exact ⟨rfl, rfl⟩
set_option maxHeartbeats 4000000 in
set_option maxRecDepth 100000 in
theorem rprint_no (f : Sp.FD) (UA KA : Option Addr) (uc kc : Nat) (w : World) (h : FGood f UA KA w.heap.size w) (hm : Sp.mayF f = false) :
    Calls Tryz.prog 16 #[filtV f UA uc KA kc] w fun e w' => e = .returned (.string ⟨#[]⟩) ∧ Below w.heap.size w w' := by
  have hb0 : Below w.heap.size w (w.alloc (.cells #[.slice UA f.units.length uc, .slice KA f.kinds.length kc, .int .i64 f.since, .int .i64 f.till, .string f.word] 26)) := (Below.refl _ _).alloc (Nat.le_refl _) _
  have HM := Lib.hid (rmayf_any f UA KA uc kc _ ((h.on hb0).more hb0.size))
  rw [hm] at HM
  have HB := Lib.hid hb0
  clear h hm hb0
  unfold filtV filtC at *
  go_enter Tryz.func16, Tryz.ntmps16
  go_wp2_with fail
  refine HM.out.mono ?_
  rintro e w2 ⟨rfl, hb2⟩
  have HB2 := Lib.hid (HB.out.trans (hb2.mono HB.out.size))
  clear hb2
  go_wp2
  go_ret
  exact ⟨rfl, HB2.out⟩
set_option maxHeartbeats 16000000 in
set_option maxRecDepth 100000 in
theorem rprint_yes (f : Sp.FD) (UA KA : Option Addr) (uc kc : Nat) (w : World) (h : FGood f UA KA w.heap.size w) (hm : Sp.mayF f = true) (T : ByteArray) (hT : T.data.toList = Sp.joinC (Sp.wordsF f)) :
    Calls Tryz.prog 16 #[filtV f UA uc KA kc] w fun e w' => e = .returned (.string T) ∧ Below w.heap.size w w' := by
  obtain ⟨i0, hi, hz0, hz1, hz2⟩ := info_parts str_info
  have hmf := (Sp.mayF_iff f).1 hm
  have hb0 : Below w.heap.size w (w.alloc (.cells #[.slice UA f.units.length uc, .slice KA f.kinds.length kc, .int .i64 f.since, .int .i64 f.till, .string f.word] 26)) := (Below.refl _ _).alloc (Nat.le_refl _) _
  have HM := Lib.hid (rmayf_any f UA KA uc kc _ ((h.on hb0).more hb0.size))
  rw [hm] at HM
  have HB := Lib.hid hb0
  have HF0 := Lib.hid (FB.new w (.slice UA f.units.length uc) (.slice KA f.kinds.length kc) (.int .i64 f.since) (.int .i64 f.till) (.string f.word) 26)
  have HLT : Hid (w.heap.size < (w.alloc (.cells #[.slice UA f.units.length uc, .slice KA f.kinds.length kc, .int .i64 f.since, .int .i64 f.till, .string f.word] 26)).heap.size) := Lib.hid (by simp)
  have HUR := Lib.hid (fun k hk => Rd.strAt h.ru k hk)
  have HKR := Lib.hid (fun k hk => Rd.intAt h.rk k hk)
  have HMF := Lib.hid hmf
  have hul := hmf.few
  have hkl := Sp.kindI_few _ hmf.rk hmf.ks
  have HUT : Hid (∀ k (h : k < f.units.length), f.units.take (k + 1) = f.units.take k ++ [f.units[k]]) := Lib.hid (fun k h => List.take_succ_eq_append_getElem h)
  have HKT : Hid (∀ k (h : k < f.kinds.length), f.kinds.take (k + 1) = f.kinds.take k ++ [f.kinds[k]]) := Lib.hid (fun k h => List.take_succ_eq_append_getElem h)
  have HTT := Lib.hid hT
  have hts := hmf.s
  have htt := hmf.t
  unfold timeB at hts htt
  simp only [Bool.and_eq_true, decide_eq_true_eq] at hts htt
  clear h hm hb0 hmf hT
  unfold filtV filtC
  generalize hw1 : w.alloc (.cells #[.slice UA f.units.length uc, .slice KA f.kinds.length kc, .int .i64 f.since, .int .i64 f.till, .string f.word] 26) = w1 at *
  have HW1 := Lib.hid hw1
  clear hw1
  go_enter Tryz.func16, Tryz.ntmps16
  go_wp2_with fail
  rw [show w.alloc (.cells (#[.slice UA f.units.length uc, .slice KA f.kinds.length kc, .int .i64 f.since, .int .i64 f.till, .string f.word]) 26) = w1 from HW1.out]
  refine HM.out.mono ?_
  rintro e w2 ⟨rfl, hb2⟩
  have HB2 := Lib.hid (HB.out.trans (hb2.mono HB.out.size))
  have HF2 := Lib.hid (HF0.out.on HLT.out hb2)
  have HL2 : Hid (w.heap.size < w2.heap.size) := Lib.hid (Nat.lt_of_lt_of_le HLT.out hb2.size)
  have c0 := HF2.out.c0
  clear hb2
  go_wp2_with fail
  go_loopw [3, 14] (fun ov iv wr => ∃ (k : Nat) (ys : List ByteArray), (k ≤ f.units.length ∧ ys.length = k) ∧ iv = .int .i64 k ∧ Hid (Below w2.heap.size w2 wr) ∧ Hid (Out w2.heap.size ov ys ((f.units.take k).map Sp.unitF) wr)) (fun _ iv _ => f.units.length - (intOf iv).toNat)
  case atStart => exact ⟨0, [], ⟨Nat.zero_le _, rfl⟩, rfl, Lib.hid (Below.refl _ _), Lib.hid ⟨World.ownsRow_nil _ _ _ _, rfl, fun y hy => by cases hy⟩⟩
  case round =>
    obtain ⟨k, ys, ⟨hk, hyk⟩, rfl, HB3, HO3⟩ := hrel
    obtain ⟨A3, c3, rfl⟩ := HO3.out.own.form
    have HYK := Lib.hid hyk
    have hy32 : ys.length ≤ 16 := by omega
    clear c0 hyk
    by_cases hlt : k < f.units.length
    · obtain ⟨ad, hA, hc⟩ := HUR.out k hlt
      subst hA
      have c0 : wr.cell? (ad.add k) = some (.string f.units[k]) := hc wr (HB2.out.trans (HB3.out.mono HB2.out.size))
      have hub : Sp.unitB f.units[k] = true := List.all_eq_true.1 HMF.out.us _ (List.getElem_mem hlt)
      have hus := unit_small' _ hub
      have HTK := Lib.hid (HUT.out k hlt)
      clear hc hub
      generalize f.units[k] = u at *
      obtain ⟨U, hU⟩ : ∃ U, U = unitW u := ⟨_, rfl⟩
      rw [← hU] at hus
      have hcat : ¬ 9223372036854775807 < 5 + U.size := by omega
      have HXL : Hid (((⟨#[117, 110, 105, 116, 61]⟩ : ByteArray) ++ U).data.toList = Sp.unitF u) := Lib.hid (by rw [dataApp, hU]; rfl)
      have HXS : Hid (((⟨#[117, 110, 105, 116, 61]⟩ : ByteArray) ++ U).size ≤ 200) := Lib.hid (by rw [ByteArray.size_append]; show 5 + U.size ≤ 200; omega)
      have x1 : (0 : Int) ≤ (k : Int) := by omega
      have x2 : (k : Int) < (f.units.length : Int) := by omega

      have HUN := Lib.hid (refunit_any u wr)
      rw [← hU] at HUN
      clear hU
      go_wp2_with fail
      refine HUN.out.mono ?_
      rintro e w5 ⟨rfl, rfl⟩
      clear HUN c0
      have hsz := HB3.out.size
      go_wp2_with (at_builtin; refine wpList_append_own _ rfl _ _ 23 rfl w2.heap.size 9 i0 (.string ⟨#[]⟩) 1 16 Tryz.underlying23 hi hz0 hz1 hz2 rfl (by decide) _ _ _ rfl (World.ownsRow.alloc HO3.out.own _) ⟨w5.heap.size, 0, none⟩ 1 1 [.string ((⟨#[117, 110, 105, 116, 61]⟩ : ByteArray) ++ U)] rfl rfl (cell_one_new _ _ _) (by simp [Value.oneCell']) (by simp only [maxLen]; omega) (by omega) (by simp; omega) ?_)
      intro v9 w9 hown9 hgrow9 _
      have HB9 := Lib.hid (grown_row HB3.out hsz (.cells #[.string ((⟨#[117, 110, 105, 116, 61]⟩ : ByteArray) ++ U)] 9) HO3.out.own hgrow9)
      have HO9 := Lib.hid (HO3.out.snoc ((⟨#[117, 110, 105, 116, 61]⟩ : ByteArray) ++ U) _ HXL.out HXS.out hown9)
      clear hown9 hgrow9
      go_wp2
      go_roundw
      case rel => exact ⟨k + 1, ys ++ [((⟨#[117, 110, 105, 116, 61]⟩ : ByteArray) ++ U)], ⟨by omega, by rw [List.length_append, HYK.out]; rfl⟩, by go_num, HB9, Lib.hid (by rw [HTK.out, List.map_append]; exact HO9.out)⟩
      case measure => simp [intOf]; omega
    · have hke : k = f.units.length := by omega
      have x2 : ¬ (k : Int) < (f.units.length : Int) := by omega
      have HO4 : Hid (Out w2.heap.size (.slice A3 ys.length c3) ys (f.units.map Sp.unitF) wr) := Lib.hid (by have := HO3.out; rwa [hke, List.take_length] at this)
      have HX4 := Lib.hid (HB2.out.trans (HB3.out.mono HB2.out.size))
      have HF4 := Lib.hid (HF2.out.on HL2.out HB3.out)
      have c1 := HF4.out.c1
      obtain ⟨w4, hw4⟩ : ∃ w4, w4 = wr := ⟨_, rfl⟩
      have HB4 : Hid (Below w2.heap.size w2 w4) := Lib.hid (by rw [hw4]; exact HB3.out)
      rw [← hw4] at HO4 HX4 HF4 c1 ⊢
      clear hw4 hke HB3 HO3 hk
      have HYK4 : Hid (ys.length ≤ 16) := Lib.hid hy32
      clear HYK hy32
      go_wp2_with fail
      go_loopw [3, 28] (fun ov iv wr => ∃ (k : Nat) (zs : List ByteArray), (k ≤ f.kinds.length ∧ zs.length ≤ 16 + k) ∧ iv = .int .i64 k ∧ Hid (Below w2.heap.size w2 wr) ∧ Hid (Out w2.heap.size ov zs (f.units.map Sp.unitF ++ (f.kinds.take k).map Sp.kindF) wr)) (fun _ iv _ => f.kinds.length - (intOf iv).toNat)
      case atStart => exact ⟨0, ys, ⟨Nat.zero_le _, by have := HYK4.out; omega⟩, rfl, HB4, Lib.hid (by simpa using HO4.out)⟩
      case round =>
        clear HB4 HO4 HX4 HF4 c1 HYK4
        obtain ⟨k, zs, ⟨hk, hyk⟩, rfl, HB3, HO3⟩ := hrel
        obtain ⟨A3, c3, rfl⟩ := HO3.out.own.form
        have HYK := Lib.hid hyk
        have hy32 : zs.length ≤ 22 := by omega
        clear hyk
        by_cases hlt : k < f.kinds.length
        · obtain ⟨ad, hA, hc⟩ := HKR.out k hlt
          subst hA
          have c0 : wr.cell? (ad.add k) = some (.int .i64 f.kinds[k]) := hc wr (HB2.out.trans (HB3.out.mono HB2.out.size))
          have hub : Sp.kindB f.kinds[k] = true := List.all_eq_true.1 HMF.out.ks _ (List.getElem_mem hlt)
          have HTK := Lib.hid (HKT.out k hlt)
          unfold Sp.kindB at hub
          simp only [Bool.and_eq_true, decide_eq_true_eq] at hub
          clear hc
          generalize f.kinds[k] = u at *
          have x1 : (0 : Int) ≤ (k : Int) := by omega
          have x2 : (k : Int) < (f.kinds.length : Int) := by omega
          have HKI := Lib.hid (rkinds_any wr)
          have HB5 : Hid (Below w2.heap.size w2 (wr.alloc (.cells #[.string ⟨#[]⟩, .string ⟨#[115, 97, 105, 100]⟩, .string ⟨#[115, 116, 97, 116, 101]⟩, .string ⟨#[106, 111, 98]⟩, .string ⟨#[99, 111, 110, 110]⟩, .string ⟨#[116, 105, 109, 101, 114]⟩, .string ⟨#[97, 115, 107]⟩] 9))) := Lib.hid (HB3.out.alloc HB3.out.size _)
          have HO5 : Hid (Out w2.heap.size (.slice A3 zs.length c3) zs (f.units.map Sp.unitF ++ (f.kinds.take k).map Sp.kindF) (wr.alloc (.cells #[.string ⟨#[]⟩, .string ⟨#[115, 97, 105, 100]⟩, .string ⟨#[115, 116, 97, 116, 101]⟩, .string ⟨#[106, 111, 98]⟩, .string ⟨#[99, 111, 110, 110]⟩, .string ⟨#[116, 105, 109, 101, 114]⟩, .string ⟨#[97, 115, 107]⟩] 9))) := Lib.hid (HO3.out.below ((Below.refl _ _).alloc (Nat.le_refl _) _) (Nat.le_refl _))
          have HKC := Lib.hid (fun j (x : Value) (hj : (#[.string ⟨#[]⟩, .string ⟨#[115, 97, 105, 100]⟩, .string ⟨#[115, 116, 97, 116, 101]⟩, .string ⟨#[106, 111, 98]⟩, .string ⟨#[99, 111, 110, 110]⟩, .string ⟨#[116, 105, 109, 101, 114]⟩, .string ⟨#[97, 115, 107]⟩] : Array Value)[j]? = some x) => (Lib.cell_of_heap (w := wr.alloc (.cells #[.string ⟨#[]⟩, .string ⟨#[115, 97, 105, 100]⟩, .string ⟨#[115, 116, 97, 116, 101]⟩, .string ⟨#[106, 111, 98]⟩, .string ⟨#[99, 111, 110, 110]⟩, .string ⟨#[116, 105, 109, 101, 114]⟩, .string ⟨#[97, 115, 107]⟩] 9)) (Array.getElem?_push_size (xs := wr.heap)) j).trans hj)
          have hcases : u = 1 ∨ u = 2 ∨ u = 3 ∨ u = 4 ∨ u = 5 ∨ u = 6 := by omega
          clear hub
          rcases hcases with rfl | rfl | rfl | rfl | rfl | rfl
          · have k0 := HKC.out 1 (.string ⟨#[115, 97, 105, 100]⟩) rfl
            have HXL : Hid (((⟨#[107, 105, 110, 100, 61]⟩ : ByteArray) ++ ⟨#[115, 97, 105, 100]⟩).data.toList = Sp.kindF 1) := Lib.hid (by rw [dataApp]; rfl)
            have HXS : Hid (((⟨#[107, 105, 110, 100, 61]⟩ : ByteArray) ++ ⟨#[115, 97, 105, 100]⟩).size ≤ 200) := Lib.hid (by decide)
            clear HKC
            go_wp2_with fail
            refine HKI.out.mono ?_
            rintro e w5 ⟨rfl, hw5⟩
            rw [← hw5] at HB5 HO5 k0
            clear hw5 HKI c0
            have hsz9 := HB5.out.size
            go_wp2_with (at_builtin; refine wpList_append_own _ rfl _ _ 23 rfl w2.heap.size 9 i0 (.string ⟨#[]⟩) 1 16 Tryz.underlying23 hi hz0 hz1 hz2 rfl (by decide) _ _ _ rfl (World.ownsRow.alloc HO5.out.own _) ⟨w5.heap.size, 0, none⟩ 1 1 [.string ((⟨#[107, 105, 110, 100, 61]⟩ : ByteArray) ++ ⟨#[115, 97, 105, 100]⟩)] rfl rfl (cell_one_new _ _ _) (by simp [Value.oneCell']) (by simp only [maxLen]; omega) (by omega) (by simp; omega) ?_)
            intro v9 w9 hown9 hgrow9 _
            have HB9 := Lib.hid (grown_row HB5.out hsz9 (.cells #[.string ((⟨#[107, 105, 110, 100, 61]⟩ : ByteArray) ++ ⟨#[115, 97, 105, 100]⟩)] 9) HO5.out.own hgrow9)
            have HO9 := Lib.hid (HO5.out.snoc ((⟨#[107, 105, 110, 100, 61]⟩ : ByteArray) ++ ⟨#[115, 97, 105, 100]⟩) _ HXL.out HXS.out hown9)
            clear hown9 hgrow9
            go_wp2
            go_roundw
            case rel => exact ⟨k + 1, zs ++ [((⟨#[107, 105, 110, 100, 61]⟩ : ByteArray) ++ ⟨#[115, 97, 105, 100]⟩)], ⟨by omega, by rw [List.length_append]; have := HYK.out; simp; omega⟩, by go_num, HB9, Lib.hid (by rw [HTK.out, List.map_append, ← List.append_assoc]; exact HO9.out)⟩
            case measure => simp [intOf]; omega
          · have k0 := HKC.out 2 (.string ⟨#[115, 116, 97, 116, 101]⟩) rfl
            have HXL : Hid (((⟨#[107, 105, 110, 100, 61]⟩ : ByteArray) ++ ⟨#[115, 116, 97, 116, 101]⟩).data.toList = Sp.kindF 2) := Lib.hid (by rw [dataApp]; rfl)
            have HXS : Hid (((⟨#[107, 105, 110, 100, 61]⟩ : ByteArray) ++ ⟨#[115, 116, 97, 116, 101]⟩).size ≤ 200) := Lib.hid (by decide)
            clear HKC
            go_wp2_with fail
            refine HKI.out.mono ?_
            rintro e w5 ⟨rfl, hw5⟩
            rw [← hw5] at HB5 HO5 k0
            clear hw5 HKI c0
            have hsz9 := HB5.out.size
            go_wp2_with (at_builtin; refine wpList_append_own _ rfl _ _ 23 rfl w2.heap.size 9 i0 (.string ⟨#[]⟩) 1 16 Tryz.underlying23 hi hz0 hz1 hz2 rfl (by decide) _ _ _ rfl (World.ownsRow.alloc HO5.out.own _) ⟨w5.heap.size, 0, none⟩ 1 1 [.string ((⟨#[107, 105, 110, 100, 61]⟩ : ByteArray) ++ ⟨#[115, 116, 97, 116, 101]⟩)] rfl rfl (cell_one_new _ _ _) (by simp [Value.oneCell']) (by simp only [maxLen]; omega) (by omega) (by simp; omega) ?_)
            intro v9 w9 hown9 hgrow9 _
            have HB9 := Lib.hid (grown_row HB5.out hsz9 (.cells #[.string ((⟨#[107, 105, 110, 100, 61]⟩ : ByteArray) ++ ⟨#[115, 116, 97, 116, 101]⟩)] 9) HO5.out.own hgrow9)
            have HO9 := Lib.hid (HO5.out.snoc ((⟨#[107, 105, 110, 100, 61]⟩ : ByteArray) ++ ⟨#[115, 116, 97, 116, 101]⟩) _ HXL.out HXS.out hown9)
            clear hown9 hgrow9
            go_wp2
            go_roundw
            case rel => exact ⟨k + 1, zs ++ [((⟨#[107, 105, 110, 100, 61]⟩ : ByteArray) ++ ⟨#[115, 116, 97, 116, 101]⟩)], ⟨by omega, by rw [List.length_append]; have := HYK.out; simp; omega⟩, by go_num, HB9, Lib.hid (by rw [HTK.out, List.map_append, ← List.append_assoc]; exact HO9.out)⟩
            case measure => simp [intOf]; omega
          · have k0 := HKC.out 3 (.string ⟨#[106, 111, 98]⟩) rfl
            have HXL : Hid (((⟨#[107, 105, 110, 100, 61]⟩ : ByteArray) ++ ⟨#[106, 111, 98]⟩).data.toList = Sp.kindF 3) := Lib.hid (by rw [dataApp]; rfl)
            have HXS : Hid (((⟨#[107, 105, 110, 100, 61]⟩ : ByteArray) ++ ⟨#[106, 111, 98]⟩).size ≤ 200) := Lib.hid (by decide)
            clear HKC
            go_wp2_with fail
            refine HKI.out.mono ?_
            rintro e w5 ⟨rfl, hw5⟩
            rw [← hw5] at HB5 HO5 k0
            clear hw5 HKI c0
            have hsz9 := HB5.out.size
            go_wp2_with (at_builtin; refine wpList_append_own _ rfl _ _ 23 rfl w2.heap.size 9 i0 (.string ⟨#[]⟩) 1 16 Tryz.underlying23 hi hz0 hz1 hz2 rfl (by decide) _ _ _ rfl (World.ownsRow.alloc HO5.out.own _) ⟨w5.heap.size, 0, none⟩ 1 1 [.string ((⟨#[107, 105, 110, 100, 61]⟩ : ByteArray) ++ ⟨#[106, 111, 98]⟩)] rfl rfl (cell_one_new _ _ _) (by simp [Value.oneCell']) (by simp only [maxLen]; omega) (by omega) (by simp; omega) ?_)
            intro v9 w9 hown9 hgrow9 _
            have HB9 := Lib.hid (grown_row HB5.out hsz9 (.cells #[.string ((⟨#[107, 105, 110, 100, 61]⟩ : ByteArray) ++ ⟨#[106, 111, 98]⟩)] 9) HO5.out.own hgrow9)
            have HO9 := Lib.hid (HO5.out.snoc ((⟨#[107, 105, 110, 100, 61]⟩ : ByteArray) ++ ⟨#[106, 111, 98]⟩) _ HXL.out HXS.out hown9)
            clear hown9 hgrow9
            go_wp2
            go_roundw
            case rel => exact ⟨k + 1, zs ++ [((⟨#[107, 105, 110, 100, 61]⟩ : ByteArray) ++ ⟨#[106, 111, 98]⟩)], ⟨by omega, by rw [List.length_append]; have := HYK.out; simp; omega⟩, by go_num, HB9, Lib.hid (by rw [HTK.out, List.map_append, ← List.append_assoc]; exact HO9.out)⟩
            case measure => simp [intOf]; omega
          · have k0 := HKC.out 4 (.string ⟨#[99, 111, 110, 110]⟩) rfl
            have HXL : Hid (((⟨#[107, 105, 110, 100, 61]⟩ : ByteArray) ++ ⟨#[99, 111, 110, 110]⟩).data.toList = Sp.kindF 4) := Lib.hid (by rw [dataApp]; rfl)
            have HXS : Hid (((⟨#[107, 105, 110, 100, 61]⟩ : ByteArray) ++ ⟨#[99, 111, 110, 110]⟩).size ≤ 200) := Lib.hid (by decide)
            clear HKC
            go_wp2_with fail
            refine HKI.out.mono ?_
            rintro e w5 ⟨rfl, hw5⟩
            rw [← hw5] at HB5 HO5 k0
            clear hw5 HKI c0
            have hsz9 := HB5.out.size
            go_wp2_with (at_builtin; refine wpList_append_own _ rfl _ _ 23 rfl w2.heap.size 9 i0 (.string ⟨#[]⟩) 1 16 Tryz.underlying23 hi hz0 hz1 hz2 rfl (by decide) _ _ _ rfl (World.ownsRow.alloc HO5.out.own _) ⟨w5.heap.size, 0, none⟩ 1 1 [.string ((⟨#[107, 105, 110, 100, 61]⟩ : ByteArray) ++ ⟨#[99, 111, 110, 110]⟩)] rfl rfl (cell_one_new _ _ _) (by simp [Value.oneCell']) (by simp only [maxLen]; omega) (by omega) (by simp; omega) ?_)
            intro v9 w9 hown9 hgrow9 _
            have HB9 := Lib.hid (grown_row HB5.out hsz9 (.cells #[.string ((⟨#[107, 105, 110, 100, 61]⟩ : ByteArray) ++ ⟨#[99, 111, 110, 110]⟩)] 9) HO5.out.own hgrow9)
            have HO9 := Lib.hid (HO5.out.snoc ((⟨#[107, 105, 110, 100, 61]⟩ : ByteArray) ++ ⟨#[99, 111, 110, 110]⟩) _ HXL.out HXS.out hown9)
            clear hown9 hgrow9
            go_wp2
            go_roundw
            case rel => exact ⟨k + 1, zs ++ [((⟨#[107, 105, 110, 100, 61]⟩ : ByteArray) ++ ⟨#[99, 111, 110, 110]⟩)], ⟨by omega, by rw [List.length_append]; have := HYK.out; simp; omega⟩, by go_num, HB9, Lib.hid (by rw [HTK.out, List.map_append, ← List.append_assoc]; exact HO9.out)⟩
            case measure => simp [intOf]; omega
          · have k0 := HKC.out 5 (.string ⟨#[116, 105, 109, 101, 114]⟩) rfl
            have HXL : Hid (((⟨#[107, 105, 110, 100, 61]⟩ : ByteArray) ++ ⟨#[116, 105, 109, 101, 114]⟩).data.toList = Sp.kindF 5) := Lib.hid (by rw [dataApp]; rfl)
            have HXS : Hid (((⟨#[107, 105, 110, 100, 61]⟩ : ByteArray) ++ ⟨#[116, 105, 109, 101, 114]⟩).size ≤ 200) := Lib.hid (by decide)
            clear HKC
            go_wp2_with fail
            refine HKI.out.mono ?_
            rintro e w5 ⟨rfl, hw5⟩
            rw [← hw5] at HB5 HO5 k0
            clear hw5 HKI c0
            have hsz9 := HB5.out.size
            go_wp2_with (at_builtin; refine wpList_append_own _ rfl _ _ 23 rfl w2.heap.size 9 i0 (.string ⟨#[]⟩) 1 16 Tryz.underlying23 hi hz0 hz1 hz2 rfl (by decide) _ _ _ rfl (World.ownsRow.alloc HO5.out.own _) ⟨w5.heap.size, 0, none⟩ 1 1 [.string ((⟨#[107, 105, 110, 100, 61]⟩ : ByteArray) ++ ⟨#[116, 105, 109, 101, 114]⟩)] rfl rfl (cell_one_new _ _ _) (by simp [Value.oneCell']) (by simp only [maxLen]; omega) (by omega) (by simp; omega) ?_)
            intro v9 w9 hown9 hgrow9 _
            have HB9 := Lib.hid (grown_row HB5.out hsz9 (.cells #[.string ((⟨#[107, 105, 110, 100, 61]⟩ : ByteArray) ++ ⟨#[116, 105, 109, 101, 114]⟩)] 9) HO5.out.own hgrow9)
            have HO9 := Lib.hid (HO5.out.snoc ((⟨#[107, 105, 110, 100, 61]⟩ : ByteArray) ++ ⟨#[116, 105, 109, 101, 114]⟩) _ HXL.out HXS.out hown9)
            clear hown9 hgrow9
            go_wp2
            go_roundw
            case rel => exact ⟨k + 1, zs ++ [((⟨#[107, 105, 110, 100, 61]⟩ : ByteArray) ++ ⟨#[116, 105, 109, 101, 114]⟩)], ⟨by omega, by rw [List.length_append]; have := HYK.out; simp; omega⟩, by go_num, HB9, Lib.hid (by rw [HTK.out, List.map_append, ← List.append_assoc]; exact HO9.out)⟩
            case measure => simp [intOf]; omega
          · have k0 := HKC.out 6 (.string ⟨#[97, 115, 107]⟩) rfl
            have HXL : Hid (((⟨#[107, 105, 110, 100, 61]⟩ : ByteArray) ++ ⟨#[97, 115, 107]⟩).data.toList = Sp.kindF 6) := Lib.hid (by rw [dataApp]; rfl)
            have HXS : Hid (((⟨#[107, 105, 110, 100, 61]⟩ : ByteArray) ++ ⟨#[97, 115, 107]⟩).size ≤ 200) := Lib.hid (by decide)
            clear HKC
            go_wp2_with fail
            refine HKI.out.mono ?_
            rintro e w5 ⟨rfl, hw5⟩
            rw [← hw5] at HB5 HO5 k0
            clear hw5 HKI c0
            have hsz9 := HB5.out.size
            go_wp2_with (at_builtin; refine wpList_append_own _ rfl _ _ 23 rfl w2.heap.size 9 i0 (.string ⟨#[]⟩) 1 16 Tryz.underlying23 hi hz0 hz1 hz2 rfl (by decide) _ _ _ rfl (World.ownsRow.alloc HO5.out.own _) ⟨w5.heap.size, 0, none⟩ 1 1 [.string ((⟨#[107, 105, 110, 100, 61]⟩ : ByteArray) ++ ⟨#[97, 115, 107]⟩)] rfl rfl (cell_one_new _ _ _) (by simp [Value.oneCell']) (by simp only [maxLen]; omega) (by omega) (by simp; omega) ?_)
            intro v9 w9 hown9 hgrow9 _
            have HB9 := Lib.hid (grown_row HB5.out hsz9 (.cells #[.string ((⟨#[107, 105, 110, 100, 61]⟩ : ByteArray) ++ ⟨#[97, 115, 107]⟩)] 9) HO5.out.own hgrow9)
            have HO9 := Lib.hid (HO5.out.snoc ((⟨#[107, 105, 110, 100, 61]⟩ : ByteArray) ++ ⟨#[97, 115, 107]⟩) _ HXL.out HXS.out hown9)
            clear hown9 hgrow9
            go_wp2
            go_roundw
            case rel => exact ⟨k + 1, zs ++ [((⟨#[107, 105, 110, 100, 61]⟩ : ByteArray) ++ ⟨#[97, 115, 107]⟩)], ⟨by omega, by rw [List.length_append]; have := HYK.out; simp; omega⟩, by go_num, HB9, Lib.hid (by rw [HTK.out, List.map_append, ← List.append_assoc]; exact HO9.out)⟩
            case measure => simp [intOf]; omega
        · have hke : k = f.kinds.length := by omega
          have x2 : ¬ (k : Int) < (f.kinds.length : Int) := by omega
          have HO4 : Hid (Out w2.heap.size (.slice A3 zs.length c3) zs (f.units.map Sp.unitF ++ f.kinds.map Sp.kindF) wr) := Lib.hid (by have := HO3.out; rwa [hke, List.take_length] at this)
          have HZL : Hid (zs.length ≤ 22) := Lib.hid hy32
          have HIT := Lib.hid (fun n (W : World) (h0 : 0 ≤ n) (h1 : n < 6311433600) => decB_any n W h0 (by omega))
          have hwz : f.word.size ≤ 100 := by
            have hw := HMF.out.w
            unfold Sp.wordB at hw
            rw [Bool.and_eq_true] at hw
            exact of_decide_eq_true hw.2
          have HF4 := Lib.hid (HF2.out.on HL2.out HB3.out)
          have c2 := HF4.out.c2
          have c3' := HF4.out.c3
          have c4 := HF4.out.c4
          clear hke hk HO3 HYK HUR HKR HUT HKT
          by_cases hs0 : f.since = 0
          · have us : (f.since != 0) = false := by rw [bne, hs0]; rfl
            by_cases ht0 : f.till = 6311433599
            · have ut : (f.till != 6311433599) = false := by rw [bne, ht0]; rfl
              cases hw0 : f.word.toList.isEmpty with
              | true =>
                have HWS : Hid ((f.units.map Sp.unitF ++ f.kinds.map Sp.kindF) = Sp.wordsF f) := Lib.hid (by rw [Sp.wordsF, Sp.sinceF, if_pos hs0, Sp.tillF, if_pos ht0, Sp.wordF, if_pos hw0]; simp)
                clear hs0 ht0
                have HZN : Hid (zs.length ≤ 1000) := Lib.hid (by have := HZL.out; omega)
                have HJ := Lib.hid (fun cq => rjoin_any zs _ zs.length cq _ wr (Rd.of_own HO4.out.own) (fun y hy => by have := HO4.out.few y hy; omega) T (by rw [HTT.out, show Sp.dat zs = _ from HO4.out.eq, HWS.out]) HZN.out)
                go_wp2_with fail
                refine (HJ.out _).mono ?_
                rintro e wj ⟨rfl, mj, rfl⟩
                have HBJ : Hid (Below w.heap.size w (wr.drewN mj)) := Lib.hid (belowQ (HB2.out.trans (HB3.out.mono HB2.out.size)) mj)
                go_wp2
                go_ret
                exact ⟨rfl, HBJ.out⟩
              | false =>
                have HWS : Hid (((f.units.map Sp.unitF ++ f.kinds.map Sp.kindF) ++ [Sp.kWord ++ 61 :: f.word.data.toList]) = Sp.wordsF f) := Lib.hid (by rw [Sp.wordsF, Sp.sinceF, if_pos hs0, Sp.tillF, if_pos ht0, Sp.wordF, if_neg (by rw [hw0]; decide)]; simp)
                clear hs0 ht0
                have hcat1 : ¬ 9223372036854775807 < 5 + f.word.size := by omega
                have HXL1 : Hid (((⟨#[119, 111, 114, 100, 61]⟩ : ByteArray) ++ f.word).data.toList = Sp.kWord ++ 61 :: f.word.data.toList) := Lib.hid (by rw [dataApp]; rfl)
                have HXS1 : Hid (((⟨#[119, 111, 114, 100, 61]⟩ : ByteArray) ++ f.word).size ≤ 200) := Lib.hid (by rw [ByteArray.size_append]; show 5 + f.word.size ≤ 200; omega)
                have hsz91 := HB3.out.size
                go_wp2_with (at_builtin; refine wpList_append_own _ rfl _ _ 23 rfl w2.heap.size 9 i0 (.string ⟨#[]⟩) 1 16 Tryz.underlying23 hi hz0 hz1 hz2 rfl (by decide) _ _ _ rfl (World.ownsRow.alloc HO4.out.own _) ⟨wr.heap.size, 0, none⟩ 1 1 [.string ((⟨#[119, 111, 114, 100, 61]⟩ : ByteArray) ++ f.word)] rfl rfl (cell_one_new _ _ _) (by simp [Value.oneCell']) (by simp only [maxLen]; omega) (by omega) (by simp; omega) ?_)
                intro v91 w91 hown91 hgrow91 _
                have HB91 := Lib.hid (grown_row HB3.out hsz91 (.cells #[.string ((⟨#[119, 111, 114, 100, 61]⟩ : ByteArray) ++ f.word)] 9) HO4.out.own hgrow91)
                obtain ⟨z1, hz1l, HOA1⟩ : ∃ z : List ByteArray, z.length ≤ 23 ∧ Hid (Out w2.heap.size v91 z _ w91) := ⟨zs ++ [((⟨#[119, 111, 114, 100, 61]⟩ : ByteArray) ++ f.word)], by have := HZL.out; simp; omega, Lib.hid (HO4.out.snoc ((⟨#[119, 111, 114, 100, 61]⟩ : ByteArray) ++ f.word) _ HXL1.out HXS1.out hown91)⟩
                have HFA1 := Lib.hid (HF2.out.on HL2.out HB91.out)
                obtain ⟨A91, c91, rfl⟩ := HOA1.out.own.form
                clear hown91 hgrow91 c2 c3' c4
                have c2 := HFA1.out.c2
                have c3' := HFA1.out.c3
                have c4 := HFA1.out.c4
                have HZN : Hid (z1.length ≤ 1000) := Lib.hid (by have := HZL.out; omega)
                have HJ := Lib.hid (fun cq => rjoin_any z1 _ z1.length cq _ w91 (Rd.of_own HOA1.out.own) (fun y hy => by have := HOA1.out.few y hy; omega) T (by rw [HTT.out, show Sp.dat z1 = _ from HOA1.out.eq, HWS.out]) HZN.out)
                go_wp2_with fail
                refine (HJ.out _).mono ?_
                rintro e wj ⟨rfl, mj, rfl⟩
                have HBJ : Hid (Below w.heap.size w (w91.drewN mj)) := Lib.hid (belowQ (HB2.out.trans (HB91.out.mono HB2.out.size)) mj)
                go_wp2
                go_ret
                exact ⟨rfl, HBJ.out⟩
            · have ut : (f.till != 6311433599) = true := by simpa using ht0
              cases hw0 : f.word.toList.isEmpty with
              | true =>
                have HWS : Hid (((f.units.map Sp.unitF ++ f.kinds.map Sp.kindF) ++ [Sp.kUntil ++ 61 :: Sp.decI f.till]) = Sp.wordsF f) := Lib.hid (by rw [Sp.wordsF, Sp.sinceF, if_pos hs0, Sp.tillF, if_neg ht0, Sp.wordF, if_pos hw0]; simp)
                clear hs0 ht0
                have hd1 := decB_size f.till htt.1 (by omega)
                obtain ⟨D1, hD1⟩ : ∃ D, D = Sp.toB (Sp.decI f.till) := ⟨_, rfl⟩
                have HI1 := Lib.hid (HIT.out f.till wr htt.1 htt.2)
                rw [← hD1] at hd1 HI1
                have hcat1 : ¬ 9223372036854775807 < 6 + D1.size := by omega
                have HXL1 : Hid (((⟨#[117, 110, 116, 105, 108, 61]⟩ : ByteArray) ++ D1).data.toList = Sp.kUntil ++ 61 :: Sp.decI f.till) := Lib.hid (by rw [dataApp, hD1, Sp.toB_list]; rfl)
                have HXS1 : Hid (((⟨#[117, 110, 116, 105, 108, 61]⟩ : ByteArray) ++ D1).size ≤ 200) := Lib.hid (by rw [ByteArray.size_append]; show 6 + D1.size ≤ 200; omega)
                clear hD1
                go_wp2_with fail
                refine HI1.out.mono ?_
                rintro e wi1 ⟨rfl, rfl⟩
                have hsz91 := HB3.out.size
                go_wp2_with (at_builtin; refine wpList_append_own _ rfl _ _ 23 rfl w2.heap.size 9 i0 (.string ⟨#[]⟩) 1 16 Tryz.underlying23 hi hz0 hz1 hz2 rfl (by decide) _ _ _ rfl (World.ownsRow.alloc HO4.out.own _) ⟨wr.heap.size, 0, none⟩ 1 1 [.string ((⟨#[117, 110, 116, 105, 108, 61]⟩ : ByteArray) ++ D1)] rfl rfl (cell_one_new _ _ _) (by simp [Value.oneCell']) (by simp only [maxLen]; omega) (by omega) (by simp; omega) ?_)
                intro v91 w91 hown91 hgrow91 _
                have HB91 := Lib.hid (grown_row HB3.out hsz91 (.cells #[.string ((⟨#[117, 110, 116, 105, 108, 61]⟩ : ByteArray) ++ D1)] 9) HO4.out.own hgrow91)
                obtain ⟨z1, hz1l, HOA1⟩ : ∃ z : List ByteArray, z.length ≤ 23 ∧ Hid (Out w2.heap.size v91 z _ w91) := ⟨zs ++ [((⟨#[117, 110, 116, 105, 108, 61]⟩ : ByteArray) ++ D1)], by have := HZL.out; simp; omega, Lib.hid (HO4.out.snoc ((⟨#[117, 110, 116, 105, 108, 61]⟩ : ByteArray) ++ D1) _ HXL1.out HXS1.out hown91)⟩
                have HFA1 := Lib.hid (HF2.out.on HL2.out HB91.out)
                obtain ⟨A91, c91, rfl⟩ := HOA1.out.own.form
                clear hown91 hgrow91 c2 c3' c4
                have c2 := HFA1.out.c2
                have c3' := HFA1.out.c3
                have c4 := HFA1.out.c4
                have HZN : Hid (z1.length ≤ 1000) := Lib.hid (by have := HZL.out; omega)
                have HJ := Lib.hid (fun cq => rjoin_any z1 _ z1.length cq _ w91 (Rd.of_own HOA1.out.own) (fun y hy => by have := HOA1.out.few y hy; omega) T (by rw [HTT.out, show Sp.dat z1 = _ from HOA1.out.eq, HWS.out]) HZN.out)
                go_wp2_with fail
                refine (HJ.out _).mono ?_
                rintro e wj ⟨rfl, mj, rfl⟩
                have HBJ : Hid (Below w.heap.size w (w91.drewN mj)) := Lib.hid (belowQ (HB2.out.trans (HB91.out.mono HB2.out.size)) mj)
                go_wp2
                go_ret
                exact ⟨rfl, HBJ.out⟩
              | false =>
                have HWS : Hid ((((f.units.map Sp.unitF ++ f.kinds.map Sp.kindF) ++ [Sp.kUntil ++ 61 :: Sp.decI f.till]) ++ [Sp.kWord ++ 61 :: f.word.data.toList]) = Sp.wordsF f) := Lib.hid (by rw [Sp.wordsF, Sp.sinceF, if_pos hs0, Sp.tillF, if_neg ht0, Sp.wordF, if_neg (by rw [hw0]; decide)]; simp)
                clear hs0 ht0
                have hd1 := decB_size f.till htt.1 (by omega)
                obtain ⟨D1, hD1⟩ : ∃ D, D = Sp.toB (Sp.decI f.till) := ⟨_, rfl⟩
                have HI1 := Lib.hid (HIT.out f.till wr htt.1 htt.2)
                rw [← hD1] at hd1 HI1
                have hcat1 : ¬ 9223372036854775807 < 6 + D1.size := by omega
                have HXL1 : Hid (((⟨#[117, 110, 116, 105, 108, 61]⟩ : ByteArray) ++ D1).data.toList = Sp.kUntil ++ 61 :: Sp.decI f.till) := Lib.hid (by rw [dataApp, hD1, Sp.toB_list]; rfl)
                have HXS1 : Hid (((⟨#[117, 110, 116, 105, 108, 61]⟩ : ByteArray) ++ D1).size ≤ 200) := Lib.hid (by rw [ByteArray.size_append]; show 6 + D1.size ≤ 200; omega)
                clear hD1
                go_wp2_with fail
                refine HI1.out.mono ?_
                rintro e wi1 ⟨rfl, rfl⟩
                have hsz91 := HB3.out.size
                go_wp2_with (at_builtin; refine wpList_append_own _ rfl _ _ 23 rfl w2.heap.size 9 i0 (.string ⟨#[]⟩) 1 16 Tryz.underlying23 hi hz0 hz1 hz2 rfl (by decide) _ _ _ rfl (World.ownsRow.alloc HO4.out.own _) ⟨wr.heap.size, 0, none⟩ 1 1 [.string ((⟨#[117, 110, 116, 105, 108, 61]⟩ : ByteArray) ++ D1)] rfl rfl (cell_one_new _ _ _) (by simp [Value.oneCell']) (by simp only [maxLen]; omega) (by omega) (by simp; omega) ?_)
                intro v91 w91 hown91 hgrow91 _
                have HB91 := Lib.hid (grown_row HB3.out hsz91 (.cells #[.string ((⟨#[117, 110, 116, 105, 108, 61]⟩ : ByteArray) ++ D1)] 9) HO4.out.own hgrow91)
                obtain ⟨z1, hz1l, HOA1⟩ : ∃ z : List ByteArray, z.length ≤ 23 ∧ Hid (Out w2.heap.size v91 z _ w91) := ⟨zs ++ [((⟨#[117, 110, 116, 105, 108, 61]⟩ : ByteArray) ++ D1)], by have := HZL.out; simp; omega, Lib.hid (HO4.out.snoc ((⟨#[117, 110, 116, 105, 108, 61]⟩ : ByteArray) ++ D1) _ HXL1.out HXS1.out hown91)⟩
                have HFA1 := Lib.hid (HF2.out.on HL2.out HB91.out)
                obtain ⟨A91, c91, rfl⟩ := HOA1.out.own.form
                clear hown91 hgrow91 c2 c3' c4
                have c2 := HFA1.out.c2
                have c3' := HFA1.out.c3
                have c4 := HFA1.out.c4
                have hcat2 : ¬ 9223372036854775807 < 5 + f.word.size := by omega
                have HXL2 : Hid (((⟨#[119, 111, 114, 100, 61]⟩ : ByteArray) ++ f.word).data.toList = Sp.kWord ++ 61 :: f.word.data.toList) := Lib.hid (by rw [dataApp]; rfl)
                have HXS2 : Hid (((⟨#[119, 111, 114, 100, 61]⟩ : ByteArray) ++ f.word).size ≤ 200) := Lib.hid (by rw [ByteArray.size_append]; show 5 + f.word.size ≤ 200; omega)
                have hsz92 := HB91.out.size
                go_wp2_with (at_builtin; refine wpList_append_own _ rfl _ _ 23 rfl w2.heap.size 9 i0 (.string ⟨#[]⟩) 1 16 Tryz.underlying23 hi hz0 hz1 hz2 rfl (by decide) _ _ _ rfl (World.ownsRow.alloc HOA1.out.own _) ⟨w91.heap.size, 0, none⟩ 1 1 [.string ((⟨#[119, 111, 114, 100, 61]⟩ : ByteArray) ++ f.word)] rfl rfl (cell_one_new _ _ _) (by simp [Value.oneCell']) (by simp only [maxLen]; omega) (by omega) (by simp; omega) ?_)
                intro v92 w92 hown92 hgrow92 _
                have HB92 := Lib.hid (grown_row HB91.out hsz92 (.cells #[.string ((⟨#[119, 111, 114, 100, 61]⟩ : ByteArray) ++ f.word)] 9) HOA1.out.own hgrow92)
                obtain ⟨z2, hz2l, HOA2⟩ : ∃ z : List ByteArray, z.length ≤ 24 ∧ Hid (Out w2.heap.size v92 z _ w92) := ⟨z1 ++ [((⟨#[119, 111, 114, 100, 61]⟩ : ByteArray) ++ f.word)], by have := HZL.out; simp; omega, Lib.hid (HOA1.out.snoc ((⟨#[119, 111, 114, 100, 61]⟩ : ByteArray) ++ f.word) _ HXL2.out HXS2.out hown92)⟩
                have HFA2 := Lib.hid (HF2.out.on HL2.out HB92.out)
                obtain ⟨A92, c92, rfl⟩ := HOA2.out.own.form
                clear hown92 hgrow92 c2 c3' c4
                have c2 := HFA2.out.c2
                have c3' := HFA2.out.c3
                have c4 := HFA2.out.c4
                have HZN : Hid (z2.length ≤ 1000) := Lib.hid (by have := HZL.out; omega)
                have HJ := Lib.hid (fun cq => rjoin_any z2 _ z2.length cq _ w92 (Rd.of_own HOA2.out.own) (fun y hy => by have := HOA2.out.few y hy; omega) T (by rw [HTT.out, show Sp.dat z2 = _ from HOA2.out.eq, HWS.out]) HZN.out)
                go_wp2_with fail
                refine (HJ.out _).mono ?_
                rintro e wj ⟨rfl, mj, rfl⟩
                have HBJ : Hid (Below w.heap.size w (w92.drewN mj)) := Lib.hid (belowQ (HB2.out.trans (HB92.out.mono HB2.out.size)) mj)
                go_wp2
                go_ret
                exact ⟨rfl, HBJ.out⟩
          · have us : (f.since != 0) = true := by simpa using hs0
            by_cases ht0 : f.till = 6311433599
            · have ut : (f.till != 6311433599) = false := by rw [bne, ht0]; rfl
              cases hw0 : f.word.toList.isEmpty with
              | true =>
                have HWS : Hid (((f.units.map Sp.unitF ++ f.kinds.map Sp.kindF) ++ [Sp.kSince ++ 61 :: Sp.decI f.since]) = Sp.wordsF f) := Lib.hid (by rw [Sp.wordsF, Sp.sinceF, if_neg hs0, Sp.tillF, if_pos ht0, Sp.wordF, if_pos hw0]; simp)
                clear hs0 ht0
                have hd1 := decB_size f.since hts.1 (by omega)
                obtain ⟨D1, hD1⟩ : ∃ D, D = Sp.toB (Sp.decI f.since) := ⟨_, rfl⟩
                have HI1 := Lib.hid (HIT.out f.since wr hts.1 hts.2)
                rw [← hD1] at hd1 HI1
                have hcat1 : ¬ 9223372036854775807 < 6 + D1.size := by omega
                have HXL1 : Hid (((⟨#[115, 105, 110, 99, 101, 61]⟩ : ByteArray) ++ D1).data.toList = Sp.kSince ++ 61 :: Sp.decI f.since) := Lib.hid (by rw [dataApp, hD1, Sp.toB_list]; rfl)
                have HXS1 : Hid (((⟨#[115, 105, 110, 99, 101, 61]⟩ : ByteArray) ++ D1).size ≤ 200) := Lib.hid (by rw [ByteArray.size_append]; show 6 + D1.size ≤ 200; omega)
                clear hD1
                go_wp2_with fail
                refine HI1.out.mono ?_
                rintro e wi1 ⟨rfl, rfl⟩
                have hsz91 := HB3.out.size
                go_wp2_with (at_builtin; refine wpList_append_own _ rfl _ _ 23 rfl w2.heap.size 9 i0 (.string ⟨#[]⟩) 1 16 Tryz.underlying23 hi hz0 hz1 hz2 rfl (by decide) _ _ _ rfl (World.ownsRow.alloc HO4.out.own _) ⟨wr.heap.size, 0, none⟩ 1 1 [.string ((⟨#[115, 105, 110, 99, 101, 61]⟩ : ByteArray) ++ D1)] rfl rfl (cell_one_new _ _ _) (by simp [Value.oneCell']) (by simp only [maxLen]; omega) (by omega) (by simp; omega) ?_)
                intro v91 w91 hown91 hgrow91 _
                have HB91 := Lib.hid (grown_row HB3.out hsz91 (.cells #[.string ((⟨#[115, 105, 110, 99, 101, 61]⟩ : ByteArray) ++ D1)] 9) HO4.out.own hgrow91)
                obtain ⟨z1, hz1l, HOA1⟩ : ∃ z : List ByteArray, z.length ≤ 23 ∧ Hid (Out w2.heap.size v91 z _ w91) := ⟨zs ++ [((⟨#[115, 105, 110, 99, 101, 61]⟩ : ByteArray) ++ D1)], by have := HZL.out; simp; omega, Lib.hid (HO4.out.snoc ((⟨#[115, 105, 110, 99, 101, 61]⟩ : ByteArray) ++ D1) _ HXL1.out HXS1.out hown91)⟩
                have HFA1 := Lib.hid (HF2.out.on HL2.out HB91.out)
                obtain ⟨A91, c91, rfl⟩ := HOA1.out.own.form
                clear hown91 hgrow91 c2 c3' c4
                have c2 := HFA1.out.c2
                have c3' := HFA1.out.c3
                have c4 := HFA1.out.c4
                have HZN : Hid (z1.length ≤ 1000) := Lib.hid (by have := HZL.out; omega)
                have HJ := Lib.hid (fun cq => rjoin_any z1 _ z1.length cq _ w91 (Rd.of_own HOA1.out.own) (fun y hy => by have := HOA1.out.few y hy; omega) T (by rw [HTT.out, show Sp.dat z1 = _ from HOA1.out.eq, HWS.out]) HZN.out)
                go_wp2_with fail
                refine (HJ.out _).mono ?_
                rintro e wj ⟨rfl, mj, rfl⟩
                have HBJ : Hid (Below w.heap.size w (w91.drewN mj)) := Lib.hid (belowQ (HB2.out.trans (HB91.out.mono HB2.out.size)) mj)
                go_wp2
                go_ret
                exact ⟨rfl, HBJ.out⟩
              | false =>
                have HWS : Hid ((((f.units.map Sp.unitF ++ f.kinds.map Sp.kindF) ++ [Sp.kSince ++ 61 :: Sp.decI f.since]) ++ [Sp.kWord ++ 61 :: f.word.data.toList]) = Sp.wordsF f) := Lib.hid (by rw [Sp.wordsF, Sp.sinceF, if_neg hs0, Sp.tillF, if_pos ht0, Sp.wordF, if_neg (by rw [hw0]; decide)]; simp)
                clear hs0 ht0
                have hd1 := decB_size f.since hts.1 (by omega)
                obtain ⟨D1, hD1⟩ : ∃ D, D = Sp.toB (Sp.decI f.since) := ⟨_, rfl⟩
                have HI1 := Lib.hid (HIT.out f.since wr hts.1 hts.2)
                rw [← hD1] at hd1 HI1
                have hcat1 : ¬ 9223372036854775807 < 6 + D1.size := by omega
                have HXL1 : Hid (((⟨#[115, 105, 110, 99, 101, 61]⟩ : ByteArray) ++ D1).data.toList = Sp.kSince ++ 61 :: Sp.decI f.since) := Lib.hid (by rw [dataApp, hD1, Sp.toB_list]; rfl)
                have HXS1 : Hid (((⟨#[115, 105, 110, 99, 101, 61]⟩ : ByteArray) ++ D1).size ≤ 200) := Lib.hid (by rw [ByteArray.size_append]; show 6 + D1.size ≤ 200; omega)
                clear hD1
                go_wp2_with fail
                refine HI1.out.mono ?_
                rintro e wi1 ⟨rfl, rfl⟩
                have hsz91 := HB3.out.size
                go_wp2_with (at_builtin; refine wpList_append_own _ rfl _ _ 23 rfl w2.heap.size 9 i0 (.string ⟨#[]⟩) 1 16 Tryz.underlying23 hi hz0 hz1 hz2 rfl (by decide) _ _ _ rfl (World.ownsRow.alloc HO4.out.own _) ⟨wr.heap.size, 0, none⟩ 1 1 [.string ((⟨#[115, 105, 110, 99, 101, 61]⟩ : ByteArray) ++ D1)] rfl rfl (cell_one_new _ _ _) (by simp [Value.oneCell']) (by simp only [maxLen]; omega) (by omega) (by simp; omega) ?_)
                intro v91 w91 hown91 hgrow91 _
                have HB91 := Lib.hid (grown_row HB3.out hsz91 (.cells #[.string ((⟨#[115, 105, 110, 99, 101, 61]⟩ : ByteArray) ++ D1)] 9) HO4.out.own hgrow91)
                obtain ⟨z1, hz1l, HOA1⟩ : ∃ z : List ByteArray, z.length ≤ 23 ∧ Hid (Out w2.heap.size v91 z _ w91) := ⟨zs ++ [((⟨#[115, 105, 110, 99, 101, 61]⟩ : ByteArray) ++ D1)], by have := HZL.out; simp; omega, Lib.hid (HO4.out.snoc ((⟨#[115, 105, 110, 99, 101, 61]⟩ : ByteArray) ++ D1) _ HXL1.out HXS1.out hown91)⟩
                have HFA1 := Lib.hid (HF2.out.on HL2.out HB91.out)
                obtain ⟨A91, c91, rfl⟩ := HOA1.out.own.form
                clear hown91 hgrow91 c2 c3' c4
                have c2 := HFA1.out.c2
                have c3' := HFA1.out.c3
                have c4 := HFA1.out.c4
                have hcat2 : ¬ 9223372036854775807 < 5 + f.word.size := by omega
                have HXL2 : Hid (((⟨#[119, 111, 114, 100, 61]⟩ : ByteArray) ++ f.word).data.toList = Sp.kWord ++ 61 :: f.word.data.toList) := Lib.hid (by rw [dataApp]; rfl)
                have HXS2 : Hid (((⟨#[119, 111, 114, 100, 61]⟩ : ByteArray) ++ f.word).size ≤ 200) := Lib.hid (by rw [ByteArray.size_append]; show 5 + f.word.size ≤ 200; omega)
                have hsz92 := HB91.out.size
                go_wp2_with (at_builtin; refine wpList_append_own _ rfl _ _ 23 rfl w2.heap.size 9 i0 (.string ⟨#[]⟩) 1 16 Tryz.underlying23 hi hz0 hz1 hz2 rfl (by decide) _ _ _ rfl (World.ownsRow.alloc HOA1.out.own _) ⟨w91.heap.size, 0, none⟩ 1 1 [.string ((⟨#[119, 111, 114, 100, 61]⟩ : ByteArray) ++ f.word)] rfl rfl (cell_one_new _ _ _) (by simp [Value.oneCell']) (by simp only [maxLen]; omega) (by omega) (by simp; omega) ?_)
                intro v92 w92 hown92 hgrow92 _
                have HB92 := Lib.hid (grown_row HB91.out hsz92 (.cells #[.string ((⟨#[119, 111, 114, 100, 61]⟩ : ByteArray) ++ f.word)] 9) HOA1.out.own hgrow92)
                obtain ⟨z2, hz2l, HOA2⟩ : ∃ z : List ByteArray, z.length ≤ 24 ∧ Hid (Out w2.heap.size v92 z _ w92) := ⟨z1 ++ [((⟨#[119, 111, 114, 100, 61]⟩ : ByteArray) ++ f.word)], by have := HZL.out; simp; omega, Lib.hid (HOA1.out.snoc ((⟨#[119, 111, 114, 100, 61]⟩ : ByteArray) ++ f.word) _ HXL2.out HXS2.out hown92)⟩
                have HFA2 := Lib.hid (HF2.out.on HL2.out HB92.out)
                obtain ⟨A92, c92, rfl⟩ := HOA2.out.own.form
                clear hown92 hgrow92 c2 c3' c4
                have c2 := HFA2.out.c2
                have c3' := HFA2.out.c3
                have c4 := HFA2.out.c4
                have HZN : Hid (z2.length ≤ 1000) := Lib.hid (by have := HZL.out; omega)
                have HJ := Lib.hid (fun cq => rjoin_any z2 _ z2.length cq _ w92 (Rd.of_own HOA2.out.own) (fun y hy => by have := HOA2.out.few y hy; omega) T (by rw [HTT.out, show Sp.dat z2 = _ from HOA2.out.eq, HWS.out]) HZN.out)
                go_wp2_with fail
                refine (HJ.out _).mono ?_
                rintro e wj ⟨rfl, mj, rfl⟩
                have HBJ : Hid (Below w.heap.size w (w92.drewN mj)) := Lib.hid (belowQ (HB2.out.trans (HB92.out.mono HB2.out.size)) mj)
                go_wp2
                go_ret
                exact ⟨rfl, HBJ.out⟩
            · have ut : (f.till != 6311433599) = true := by simpa using ht0
              cases hw0 : f.word.toList.isEmpty with
              | true =>
                have HWS : Hid ((((f.units.map Sp.unitF ++ f.kinds.map Sp.kindF) ++ [Sp.kSince ++ 61 :: Sp.decI f.since]) ++ [Sp.kUntil ++ 61 :: Sp.decI f.till]) = Sp.wordsF f) := Lib.hid (by rw [Sp.wordsF, Sp.sinceF, if_neg hs0, Sp.tillF, if_neg ht0, Sp.wordF, if_pos hw0]; simp)
                clear hs0 ht0
                have hd1 := decB_size f.since hts.1 (by omega)
                obtain ⟨D1, hD1⟩ : ∃ D, D = Sp.toB (Sp.decI f.since) := ⟨_, rfl⟩
                have HI1 := Lib.hid (HIT.out f.since wr hts.1 hts.2)
                rw [← hD1] at hd1 HI1
                have hcat1 : ¬ 9223372036854775807 < 6 + D1.size := by omega
                have HXL1 : Hid (((⟨#[115, 105, 110, 99, 101, 61]⟩ : ByteArray) ++ D1).data.toList = Sp.kSince ++ 61 :: Sp.decI f.since) := Lib.hid (by rw [dataApp, hD1, Sp.toB_list]; rfl)
                have HXS1 : Hid (((⟨#[115, 105, 110, 99, 101, 61]⟩ : ByteArray) ++ D1).size ≤ 200) := Lib.hid (by rw [ByteArray.size_append]; show 6 + D1.size ≤ 200; omega)
                clear hD1
                go_wp2_with fail
                refine HI1.out.mono ?_
                rintro e wi1 ⟨rfl, rfl⟩
                have hsz91 := HB3.out.size
                go_wp2_with (at_builtin; refine wpList_append_own _ rfl _ _ 23 rfl w2.heap.size 9 i0 (.string ⟨#[]⟩) 1 16 Tryz.underlying23 hi hz0 hz1 hz2 rfl (by decide) _ _ _ rfl (World.ownsRow.alloc HO4.out.own _) ⟨wr.heap.size, 0, none⟩ 1 1 [.string ((⟨#[115, 105, 110, 99, 101, 61]⟩ : ByteArray) ++ D1)] rfl rfl (cell_one_new _ _ _) (by simp [Value.oneCell']) (by simp only [maxLen]; omega) (by omega) (by simp; omega) ?_)
                intro v91 w91 hown91 hgrow91 _
                have HB91 := Lib.hid (grown_row HB3.out hsz91 (.cells #[.string ((⟨#[115, 105, 110, 99, 101, 61]⟩ : ByteArray) ++ D1)] 9) HO4.out.own hgrow91)
                obtain ⟨z1, hz1l, HOA1⟩ : ∃ z : List ByteArray, z.length ≤ 23 ∧ Hid (Out w2.heap.size v91 z _ w91) := ⟨zs ++ [((⟨#[115, 105, 110, 99, 101, 61]⟩ : ByteArray) ++ D1)], by have := HZL.out; simp; omega, Lib.hid (HO4.out.snoc ((⟨#[115, 105, 110, 99, 101, 61]⟩ : ByteArray) ++ D1) _ HXL1.out HXS1.out hown91)⟩
                have HFA1 := Lib.hid (HF2.out.on HL2.out HB91.out)
                obtain ⟨A91, c91, rfl⟩ := HOA1.out.own.form
                clear hown91 hgrow91 c2 c3' c4
                have c2 := HFA1.out.c2
                have c3' := HFA1.out.c3
                have c4 := HFA1.out.c4
                have hd2 := decB_size f.till htt.1 (by omega)
                obtain ⟨D2, hD2⟩ : ∃ D, D = Sp.toB (Sp.decI f.till) := ⟨_, rfl⟩
                have HI2 := Lib.hid (HIT.out f.till w91 htt.1 htt.2)
                rw [← hD2] at hd2 HI2
                have hcat2 : ¬ 9223372036854775807 < 6 + D2.size := by omega
                have HXL2 : Hid (((⟨#[117, 110, 116, 105, 108, 61]⟩ : ByteArray) ++ D2).data.toList = Sp.kUntil ++ 61 :: Sp.decI f.till) := Lib.hid (by rw [dataApp, hD2, Sp.toB_list]; rfl)
                have HXS2 : Hid (((⟨#[117, 110, 116, 105, 108, 61]⟩ : ByteArray) ++ D2).size ≤ 200) := Lib.hid (by rw [ByteArray.size_append]; show 6 + D2.size ≤ 200; omega)
                clear hD2
                go_wp2_with fail
                refine HI2.out.mono ?_
                rintro e wi2 ⟨rfl, rfl⟩
                have hsz92 := HB91.out.size
                go_wp2_with (at_builtin; refine wpList_append_own _ rfl _ _ 23 rfl w2.heap.size 9 i0 (.string ⟨#[]⟩) 1 16 Tryz.underlying23 hi hz0 hz1 hz2 rfl (by decide) _ _ _ rfl (World.ownsRow.alloc HOA1.out.own _) ⟨w91.heap.size, 0, none⟩ 1 1 [.string ((⟨#[117, 110, 116, 105, 108, 61]⟩ : ByteArray) ++ D2)] rfl rfl (cell_one_new _ _ _) (by simp [Value.oneCell']) (by simp only [maxLen]; omega) (by omega) (by simp; omega) ?_)
                intro v92 w92 hown92 hgrow92 _
                have HB92 := Lib.hid (grown_row HB91.out hsz92 (.cells #[.string ((⟨#[117, 110, 116, 105, 108, 61]⟩ : ByteArray) ++ D2)] 9) HOA1.out.own hgrow92)
                obtain ⟨z2, hz2l, HOA2⟩ : ∃ z : List ByteArray, z.length ≤ 24 ∧ Hid (Out w2.heap.size v92 z _ w92) := ⟨z1 ++ [((⟨#[117, 110, 116, 105, 108, 61]⟩ : ByteArray) ++ D2)], by have := HZL.out; simp; omega, Lib.hid (HOA1.out.snoc ((⟨#[117, 110, 116, 105, 108, 61]⟩ : ByteArray) ++ D2) _ HXL2.out HXS2.out hown92)⟩
                have HFA2 := Lib.hid (HF2.out.on HL2.out HB92.out)
                obtain ⟨A92, c92, rfl⟩ := HOA2.out.own.form
                clear hown92 hgrow92 c2 c3' c4
                have c2 := HFA2.out.c2
                have c3' := HFA2.out.c3
                have c4 := HFA2.out.c4
                have HZN : Hid (z2.length ≤ 1000) := Lib.hid (by have := HZL.out; omega)
                have HJ := Lib.hid (fun cq => rjoin_any z2 _ z2.length cq _ w92 (Rd.of_own HOA2.out.own) (fun y hy => by have := HOA2.out.few y hy; omega) T (by rw [HTT.out, show Sp.dat z2 = _ from HOA2.out.eq, HWS.out]) HZN.out)
                go_wp2_with fail
                refine (HJ.out _).mono ?_
                rintro e wj ⟨rfl, mj, rfl⟩
                have HBJ : Hid (Below w.heap.size w (w92.drewN mj)) := Lib.hid (belowQ (HB2.out.trans (HB92.out.mono HB2.out.size)) mj)
                go_wp2
                go_ret
                exact ⟨rfl, HBJ.out⟩
              | false =>
                have HWS : Hid (((((f.units.map Sp.unitF ++ f.kinds.map Sp.kindF) ++ [Sp.kSince ++ 61 :: Sp.decI f.since]) ++ [Sp.kUntil ++ 61 :: Sp.decI f.till]) ++ [Sp.kWord ++ 61 :: f.word.data.toList]) = Sp.wordsF f) := Lib.hid (by rw [Sp.wordsF, Sp.sinceF, if_neg hs0, Sp.tillF, if_neg ht0, Sp.wordF, if_neg (by rw [hw0]; decide)]; simp)
                clear hs0 ht0
                have hd1 := decB_size f.since hts.1 (by omega)
                obtain ⟨D1, hD1⟩ : ∃ D, D = Sp.toB (Sp.decI f.since) := ⟨_, rfl⟩
                have HI1 := Lib.hid (HIT.out f.since wr hts.1 hts.2)
                rw [← hD1] at hd1 HI1
                have hcat1 : ¬ 9223372036854775807 < 6 + D1.size := by omega
                have HXL1 : Hid (((⟨#[115, 105, 110, 99, 101, 61]⟩ : ByteArray) ++ D1).data.toList = Sp.kSince ++ 61 :: Sp.decI f.since) := Lib.hid (by rw [dataApp, hD1, Sp.toB_list]; rfl)
                have HXS1 : Hid (((⟨#[115, 105, 110, 99, 101, 61]⟩ : ByteArray) ++ D1).size ≤ 200) := Lib.hid (by rw [ByteArray.size_append]; show 6 + D1.size ≤ 200; omega)
                clear hD1
                go_wp2_with fail
                refine HI1.out.mono ?_
                rintro e wi1 ⟨rfl, rfl⟩
                have hsz91 := HB3.out.size
                go_wp2_with (at_builtin; refine wpList_append_own _ rfl _ _ 23 rfl w2.heap.size 9 i0 (.string ⟨#[]⟩) 1 16 Tryz.underlying23 hi hz0 hz1 hz2 rfl (by decide) _ _ _ rfl (World.ownsRow.alloc HO4.out.own _) ⟨wr.heap.size, 0, none⟩ 1 1 [.string ((⟨#[115, 105, 110, 99, 101, 61]⟩ : ByteArray) ++ D1)] rfl rfl (cell_one_new _ _ _) (by simp [Value.oneCell']) (by simp only [maxLen]; omega) (by omega) (by simp; omega) ?_)
                intro v91 w91 hown91 hgrow91 _
                have HB91 := Lib.hid (grown_row HB3.out hsz91 (.cells #[.string ((⟨#[115, 105, 110, 99, 101, 61]⟩ : ByteArray) ++ D1)] 9) HO4.out.own hgrow91)
                obtain ⟨z1, hz1l, HOA1⟩ : ∃ z : List ByteArray, z.length ≤ 23 ∧ Hid (Out w2.heap.size v91 z _ w91) := ⟨zs ++ [((⟨#[115, 105, 110, 99, 101, 61]⟩ : ByteArray) ++ D1)], by have := HZL.out; simp; omega, Lib.hid (HO4.out.snoc ((⟨#[115, 105, 110, 99, 101, 61]⟩ : ByteArray) ++ D1) _ HXL1.out HXS1.out hown91)⟩
                have HFA1 := Lib.hid (HF2.out.on HL2.out HB91.out)
                obtain ⟨A91, c91, rfl⟩ := HOA1.out.own.form
                clear hown91 hgrow91 c2 c3' c4
                have c2 := HFA1.out.c2
                have c3' := HFA1.out.c3
                have c4 := HFA1.out.c4
                have hd2 := decB_size f.till htt.1 (by omega)
                obtain ⟨D2, hD2⟩ : ∃ D, D = Sp.toB (Sp.decI f.till) := ⟨_, rfl⟩
                have HI2 := Lib.hid (HIT.out f.till w91 htt.1 htt.2)
                rw [← hD2] at hd2 HI2
                have hcat2 : ¬ 9223372036854775807 < 6 + D2.size := by omega
                have HXL2 : Hid (((⟨#[117, 110, 116, 105, 108, 61]⟩ : ByteArray) ++ D2).data.toList = Sp.kUntil ++ 61 :: Sp.decI f.till) := Lib.hid (by rw [dataApp, hD2, Sp.toB_list]; rfl)
                have HXS2 : Hid (((⟨#[117, 110, 116, 105, 108, 61]⟩ : ByteArray) ++ D2).size ≤ 200) := Lib.hid (by rw [ByteArray.size_append]; show 6 + D2.size ≤ 200; omega)
                clear hD2
                go_wp2_with fail
                refine HI2.out.mono ?_
                rintro e wi2 ⟨rfl, rfl⟩
                have hsz92 := HB91.out.size
                go_wp2_with (at_builtin; refine wpList_append_own _ rfl _ _ 23 rfl w2.heap.size 9 i0 (.string ⟨#[]⟩) 1 16 Tryz.underlying23 hi hz0 hz1 hz2 rfl (by decide) _ _ _ rfl (World.ownsRow.alloc HOA1.out.own _) ⟨w91.heap.size, 0, none⟩ 1 1 [.string ((⟨#[117, 110, 116, 105, 108, 61]⟩ : ByteArray) ++ D2)] rfl rfl (cell_one_new _ _ _) (by simp [Value.oneCell']) (by simp only [maxLen]; omega) (by omega) (by simp; omega) ?_)
                intro v92 w92 hown92 hgrow92 _
                have HB92 := Lib.hid (grown_row HB91.out hsz92 (.cells #[.string ((⟨#[117, 110, 116, 105, 108, 61]⟩ : ByteArray) ++ D2)] 9) HOA1.out.own hgrow92)
                obtain ⟨z2, hz2l, HOA2⟩ : ∃ z : List ByteArray, z.length ≤ 24 ∧ Hid (Out w2.heap.size v92 z _ w92) := ⟨z1 ++ [((⟨#[117, 110, 116, 105, 108, 61]⟩ : ByteArray) ++ D2)], by have := HZL.out; simp; omega, Lib.hid (HOA1.out.snoc ((⟨#[117, 110, 116, 105, 108, 61]⟩ : ByteArray) ++ D2) _ HXL2.out HXS2.out hown92)⟩
                have HFA2 := Lib.hid (HF2.out.on HL2.out HB92.out)
                obtain ⟨A92, c92, rfl⟩ := HOA2.out.own.form
                clear hown92 hgrow92 c2 c3' c4
                have c2 := HFA2.out.c2
                have c3' := HFA2.out.c3
                have c4 := HFA2.out.c4
                have hcat3 : ¬ 9223372036854775807 < 5 + f.word.size := by omega
                have HXL3 : Hid (((⟨#[119, 111, 114, 100, 61]⟩ : ByteArray) ++ f.word).data.toList = Sp.kWord ++ 61 :: f.word.data.toList) := Lib.hid (by rw [dataApp]; rfl)
                have HXS3 : Hid (((⟨#[119, 111, 114, 100, 61]⟩ : ByteArray) ++ f.word).size ≤ 200) := Lib.hid (by rw [ByteArray.size_append]; show 5 + f.word.size ≤ 200; omega)
                have hsz93 := HB92.out.size
                go_wp2_with (at_builtin; refine wpList_append_own _ rfl _ _ 23 rfl w2.heap.size 9 i0 (.string ⟨#[]⟩) 1 16 Tryz.underlying23 hi hz0 hz1 hz2 rfl (by decide) _ _ _ rfl (World.ownsRow.alloc HOA2.out.own _) ⟨w92.heap.size, 0, none⟩ 1 1 [.string ((⟨#[119, 111, 114, 100, 61]⟩ : ByteArray) ++ f.word)] rfl rfl (cell_one_new _ _ _) (by simp [Value.oneCell']) (by simp only [maxLen]; omega) (by omega) (by simp; omega) ?_)
                intro v93 w93 hown93 hgrow93 _
                have HB93 := Lib.hid (grown_row HB92.out hsz93 (.cells #[.string ((⟨#[119, 111, 114, 100, 61]⟩ : ByteArray) ++ f.word)] 9) HOA2.out.own hgrow93)
                obtain ⟨z3, hz3l, HOA3⟩ : ∃ z : List ByteArray, z.length ≤ 25 ∧ Hid (Out w2.heap.size v93 z _ w93) := ⟨z2 ++ [((⟨#[119, 111, 114, 100, 61]⟩ : ByteArray) ++ f.word)], by have := HZL.out; simp; omega, Lib.hid (HOA2.out.snoc ((⟨#[119, 111, 114, 100, 61]⟩ : ByteArray) ++ f.word) _ HXL3.out HXS3.out hown93)⟩
                have HFA3 := Lib.hid (HF2.out.on HL2.out HB93.out)
                obtain ⟨A93, c93, rfl⟩ := HOA3.out.own.form
                clear hown93 hgrow93 c2 c3' c4
                have c2 := HFA3.out.c2
                have c3' := HFA3.out.c3
                have c4 := HFA3.out.c4
                have HZN : Hid (z3.length ≤ 1000) := Lib.hid (by have := HZL.out; omega)
                have HJ := Lib.hid (fun cq => rjoin_any z3 _ z3.length cq _ w93 (Rd.of_own HOA3.out.own) (fun y hy => by have := HOA3.out.few y hy; omega) T (by rw [HTT.out, show Sp.dat z3 = _ from HOA3.out.eq, HWS.out]) HZN.out)
                go_wp2_with fail
                refine (HJ.out _).mono ?_
                rintro e wj ⟨rfl, mj, rfl⟩
                have HBJ : Hid (Below w.heap.size w (w93.drewN mj)) := Lib.hid (belowQ (HB2.out.trans (HB93.out.mono HB2.out.size)) mj)
                go_wp2
                go_ret
                exact ⟨rfl, HBJ.out⟩
end

section
open Go.RowKit Go.Shelf

noncomputable def prT (f : Sp.FD) : ByteArray := if Sp.mayF f then ⟨(Sp.joinC (Sp.wordsF f)).toArray⟩ else ⟨#[]⟩
theorem fprint_t (f : Sp.FD) (UA KA : Option Addr) (uc kc : Nat) (w : World) (h : FGood f UA KA w.heap.size w) (E : Env w) :
    Calls Tryz.prog 12 #[filtV f UA uc KA kc] w fun e w' => e = .returned (.string (prT f)) ∧ Below w.heap.size w w' := by
  cases hm : Sp.mayF f with
  | false => rw [prT, if_neg (by rw [hm]; decide)]; exact fprint_no f UA KA uc kc w h hm
  | true => rw [prT, if_pos hm]; exact fprint_yes f UA KA uc kc w h hm _ rfl E
theorem rprint_t (f : Sp.FD) (UA KA : Option Addr) (uc kc : Nat) (w : World) (h : FGood f UA KA w.heap.size w) :
    Calls Tryz.prog 16 #[filtV f UA uc KA kc] w fun e w' => e = .returned (.string (prT f)) ∧ Below w.heap.size w w' := by
  cases hm : Sp.mayF f with
  | false => rw [prT, if_neg (by rw [hm]; decide)]; exact rprint_no f UA KA uc kc w h hm
  | true => rw [prT, if_pos hm]; exact rprint_yes f UA KA uc kc w h hm _ rfl
theorem rrows_g {w : World} {f : Sp.FD} {UA KA : Option Addr} {uc kc : Nat} {l : List RowD} {A : Option Addr} {n : Nat} (c : Nat) (h : FGood f UA KA w.heap.size w) (hr : RdG w A n l) :
    Calls Tryz.prog 19 #[filtV f UA uc KA kc, .slice A n c] w fun e w' => ∃ A' n' c', e = .returned (.slice A' n' c') ∧ RdG w' A' n' (Sp.rowsF f l) ∧ Below w.heap.size w w' := by
  refine (rrows_any f UA KA uc kc l A n c w.heap.size w h hr.rd (Nat.le_refl _) hr.tx hr.few).mono ?_
  rintro e w' ⟨A', c', rfl, h1, h2⟩
  refine ⟨A', _, c', rfl, ⟨h1, fun r hx => hr.tx r (List.mem_filter.1 hx).1, rfl, ?_⟩, h2⟩
  have := Sp.rowsF_le f l
  have := hr.len
  have := hr.few
  omega
set_option maxHeartbeats 16000000 in
set_option maxRecDepth 100000 in
theorem filterall_any (f : Sp.FD) (UA KA : Option Addr) (uc kc : Nat) (l : List RowD) (A : Option Addr) (n c : Nat) (w : World) (hf : FGood f UA KA w.heap.size w) (hr : Rd w w.heap.size 5 A n (rowsC l)) (hx : ∀ r ∈ l, r.text.size ≤ 4294967280) (E : Env w) :
    Calls Tryz.prog 5 #[filtV f UA uc KA kc, .slice A n c] w fun e w' => e = .returned (.bool true) ∧ Below w.heap.size w w' := by
  have hlen : l.length = n := by have := hr.1; rw [rowsC_len] at this; omega
  have HN := Lib.hid hlen
  have HRD := Lib.hid hr
  have HTX := Lib.hid hx
  have HE := Lib.hid E
  have HGF := Lib.hid hf
  clear hlen hr hx E hf
  have HG : Hid (∀ W, Below w.heap.size w W → FGood f UA KA W.heap.size W) := Lib.hid fun W hW => (HGF.out.on hW).more hW.size
  have HI1 : Hid (∀ W, Below w.heap.size w W → ∀ r ∈ l, Calls Tryz.prog 13 #[filtV f UA uc KA kc, rowV r] W fun e w' => e = .returned (.bool (Sp.isF f r)) ∧ Below W.heap.size W w') := Lib.hid fun W hW r hr => fis_any f UA KA uc kc r W (HG.out W hW) (HTX.out r hr) (HE.out.on hW)
  have HI2 : Hid (∀ W, Below w.heap.size w W → ∀ r ∈ l, Calls Tryz.prog 14 #[filtV f UA uc KA kc, rowV r] W fun e w' => e = .returned (.bool (Sp.isF f r)) ∧ Below W.heap.size W w') := Lib.hid fun W hW r hr => ris_any f UA KA uc kc r W (HG.out W hW) (HTX.out r hr)
  have HM1 : Hid (∀ W, Below w.heap.size w W → Calls Tryz.prog 11 #[filtV f UA uc KA kc] W fun e w' => e = .returned (.bool (Sp.mayF f)) ∧ Below W.heap.size W w') := Lib.hid fun W hW => fmay_any f UA KA uc kc W (HG.out W hW)
  have HM2 : Hid (∀ W, Below w.heap.size w W → Calls Tryz.prog 15 #[filtV f UA uc KA kc] W fun e w' => e = .returned (.bool (Sp.mayF f)) ∧ Below W.heap.size W w') := Lib.hid fun W hW => rmayf_any f UA KA uc kc W (HG.out W hW)
  have HP1 : Hid (∀ W, Below w.heap.size w W → Calls Tryz.prog 12 #[filtV f UA uc KA kc] W fun e w' => e = .returned (.string (prT f)) ∧ Below W.heap.size W w') := Lib.hid fun W hW => fprint_t f UA KA uc kc W (HG.out W hW) (HE.out.on hW)
  have HP2 : Hid (∀ W, Below w.heap.size w W → Calls Tryz.prog 16 #[filtV f UA uc KA kc] W fun e w' => e = .returned (.string (prT f)) ∧ Below W.heap.size W w') := Lib.hid fun W hW => rprint_t f UA KA uc kc W (HG.out W hW)
  have HR1 : Hid (∀ W, Below w.heap.size w W → ∀ A n c L, RdG W A n L → Calls Tryz.prog 18 #[filtV f UA uc KA kc, .slice A n c] W fun e w' => ∃ A' n' c', e = .returned (.slice A' n' c') ∧ RdG w' A' n' (Sp.rowsF f L) ∧ Below W.heap.size W w') := Lib.hid fun W hW A n c L h => rows_g c (HG.out W hW) h (HE.out.on hW)
  have HR2 : Hid (∀ W, Below w.heap.size w W → ∀ A n c L, RdG W A n L → Calls Tryz.prog 19 #[filtV f UA uc KA kc, .slice A n c] W fun e w' => ∃ A' n' c', e = .returned (.slice A' n' c') ∧ RdG w' A' n' (Sp.rowsF f L) ∧ Below W.heap.size W w') := Lib.hid fun W hW A n c L h => rrows_g c (HG.out W hW) h
  have HBX := Lib.hid (filt_new w f UA KA uc kc)
  have HL1 : Hid (w.heap.size < (w.alloc (.cells #[.slice UA f.units.length uc, .slice KA f.kinds.length kc, .int .i64 f.since, .int .i64 f.till, .string f.word] 26)).heap.size) := Lib.hid (by simp)
  have HB1 : Hid (Below w.heap.size w (w.alloc (.cells #[.slice UA f.units.length uc, .slice KA f.kinds.length kc, .int .i64 f.since, .int .i64 f.till, .string f.word] 26))) := Lib.hid ((Below.refl _ _).alloc (Nat.le_refl _) _)
  have HS := Lib.hid (shown_any _ (HE.out.on HB1.out))
  generalize Sp.mayF f = mb at *
  generalize prT f = T at *
  unfold filtV filtC at *
  generalize f.units.length = fn at *
  generalize f.kinds.length = fkn at *
  generalize f.since = fs at *
  generalize f.till = ft at *
  generalize f.word = fw at *
  go_enter Tryz.func5, Tryz.ntmps5
  go_wp2_with fail
  generalize (w.alloc (.cells #[.slice UA fn uc, .slice KA fkn kc, .int .i64 fs, .int .i64 ft, .string fw] 26)) = w1 at *
  refine HS.out.mono ?_
  rintro e w2 ⟨rfl, hb2⟩
  have HB2 := Lib.hid (since33_more HB1.out hb2)
  have HF2 := Lib.hid (HBX.out.on HL1.out hb2)
  have HL2 : Hid (w.heap.size < w2.heap.size) := Lib.hid (Nat.lt_of_lt_of_le HL1.out hb2.size)
  clear hb2 HBX HB1 HL1 HS
  obtain ⟨f0, f1, f2, f3, f4⟩ := HF2.out
  by_cases q0 : (60 : Int) < (fn : Int)
  · go_wp2
    go_ret
    exact ⟨rfl, HB2.out⟩
  by_cases q1 : (60 : Int) < (fkn : Int)
  · go_wp2
    go_ret
    exact ⟨rfl, HB2.out⟩
  by_cases q2 : (200 : Int) < (n : Int)
  · go_wp2
    go_ret
    exact ⟨rfl, HB2.out⟩
  go_upto_region 5 with fail
  clear f0 f1 f2 f3 f4
  have hn1 : n ≤ 200 := by omega
  clear q0 q1 q2
  have HRW : Hid (∀ k (hk : k < l.length), _) := Lib.hid (fun k hk => Rd.rowAt (HRD.out.below HB2.out) k hk)
  go_wp2_with fail
  go_loopw [26] (fun v wr => ∃ k : Nat, k ≤ n ∧ v = .int .i64 k ∧ Hid (Below w2.heap.size w2 wr)) (fun v _ => n - (intOf v).toNat)
  case atStart => exact ⟨0, Nat.zero_le _, rfl, Lib.hid (Below.refl _ _)⟩
  case round =>
    obtain ⟨k, hk, rfl, HB⟩ := hrel
    by_cases hlt : k < n
    · have hkl : k < l.length := by rw [HN.out]; exact hlt
      obtain ⟨ad, rfl, hc⟩ := HRW.out k hkl
      obtain ⟨c0, c1, c2, c3, c4⟩ := hc wr (HB.out.mono HB2.out.size)
      have hin : l[k] ∈ l := List.getElem_mem hkl
      have x1 : (0 : Int) ≤ (k : Int) := by omega
      have x2 : (k : Int) < (n : Int) := by omega
      have HA1 := Lib.hid (fun W (hb : Below w.heap.size w W) => HI1.out W hb l[k] hin)
      have HA2 := Lib.hid (fun W (hb : Below w.heap.size w W) => HI2.out W hb l[k] hin)
      clear hc hin
      generalize l[k] = r at *
      generalize Sp.isF f r = b at *
      obtain ⟨rt, ru, rn, rk, rx⟩ := r
      simp only [rowV, rowC] at HA1 HA2
      dsimp only at c0 c1 c2 c3 c4
      have hsr := HB.out.size
      have hba : Below wr.heap.size wr (wr.alloc (.cells #[.int .i64 rt, .string ru, .int .i64 rn, .int .i64 rk, .string rx] 37)) := (Below.refl _ _).alloc (Nat.le_refl _) _
      have HBW := Lib.hid (HB.out.alloc hsr (.cells #[.int .i64 rt, .string ru, .int .i64 rn, .int .i64 rk, .string rx] 37))
      have HFA := Lib.hid (HF2.out.on HL2.out HBW.out)
      have HRA := Lib.hid (row_new wr rt rn rk ru rx)
      have hzf : w.heap.size < (wr.alloc (.cells #[.int .i64 rt, .string ru, .int .i64 rn, .int .i64 rk, .string rx] 37)).heap.size := by have := HL2.out; simp; omega
      have hza : wr.heap.size < (wr.alloc (.cells #[.int .i64 rt, .string ru, .int .i64 rn, .int .i64 rk, .string rx] 37)).heap.size := by simp
      clear hba HB
      go_upto_region 8 with fail
      clear c0 c1 c2 c3 c4
      generalize (wr.alloc (.cells #[.int .i64 rt, .string ru, .int .i64 rn, .int .i64 rk, .string rx] 37)) = w4 at *
      generalize wr.heap.size = br at *
      have HA3 : Hid (∀ W, Below w4.heap.size w4 W → _) := Lib.hid fun W hW => HA1.out W (HB2.out.trans ((HBW.out.trans (hW.mono HBW.out.size)).mono HB2.out.size))
      have HA4 : Hid (∀ W, Below w4.heap.size w4 W → _) := Lib.hid fun W hW => HA2.out W (HB2.out.trans ((HBW.out.trans (hW.mono HBW.out.size)).mono HB2.out.size))
      have k0 : ∀ V, Below w4.heap.size w4 V → V.cell? ⟨w.heap.size, 0, none⟩ = some (.slice UA fn uc) := fun V hV => (HFA.out.on hzf hV).c0
      have k1 : ∀ V, Below w4.heap.size w4 V → V.cell? ⟨w.heap.size, 1, none⟩ = some (.slice KA fkn kc) := fun V hV => (HFA.out.on hzf hV).c1
      have k2 : ∀ V, Below w4.heap.size w4 V → V.cell? ⟨w.heap.size, 2, none⟩ = some (.int .i64 fs) := fun V hV => (HFA.out.on hzf hV).c2
      have k3 : ∀ V, Below w4.heap.size w4 V → V.cell? ⟨w.heap.size, 3, none⟩ = some (.int .i64 ft) := fun V hV => (HFA.out.on hzf hV).c3
      have k4 : ∀ V, Below w4.heap.size w4 V → V.cell? ⟨w.heap.size, 4, none⟩ = some (.string fw) := fun V hV => (HFA.out.on hzf hV).c4
      have m0 : ∀ V, Below w4.heap.size w4 V → V.cell? ⟨br, 0, none⟩ = some (.int .i64 rt) := fun V hV => (HRA.out.on hza hV).c0
      have m1 : ∀ V, Below w4.heap.size w4 V → V.cell? ⟨br, 1, none⟩ = some (.string ru) := fun V hV => (HRA.out.on hza hV).c1
      have m2 : ∀ V, Below w4.heap.size w4 V → V.cell? ⟨br, 2, none⟩ = some (.int .i64 rn) := fun V hV => (HRA.out.on hza hV).c2
      have m3 : ∀ V, Below w4.heap.size w4 V → V.cell? ⟨br, 3, none⟩ = some (.int .i64 rk) := fun V hV => (HRA.out.on hza hV).c3
      have m4 : ∀ V, Below w4.heap.size w4 V → V.cell? ⟨br, 4, none⟩ = some (.string rx) := fun V hV => (HRA.out.on hza hV).c4
      have q0 : Below w4.heap.size w4 w4 := Below.refl _ _
      have q1 := since33_drew q0
      have hbb : (b != b) = false := by simp
      clear HA1 HA2 HI1 HI2 HM1 HM2 HP1 HP2 HR1 HR2
      go_region_held3 (fun W => Below w4.heap.size w4 W) (first | assumption | exact since33_drew (by assumption)) (first
        | (go_at_call 13; refine Calls.mono (HA3.out _ (by assumption)) ?_; rintro e wa ⟨rfl, hba⟩; have qa := since33_more (by assumption) hba)
        | (go_at_call 14; refine Calls.mono (HA4.out _ (by assumption)) ?_; rintro e wb ⟨rfl, hbb⟩; have qb := since33_more (by assumption) hbb))
      all_goals
        have HZ := Lib.hid (HBW.out.trans (Below.mono (show Below w4.heap.size w4 _ by assumption) HBW.out.size))
        go_wp2
        go_roundw
        case rel => exact ⟨k + 1, by omega, by go_num, HZ.out⟩
        case measure => first | (simp [intOf]; done) | (simp [intOf]; omega)
    · have x2 : ¬ (k : Int) < (n : Int) := by omega
      have HQ : Hid (∀ W, Below wr.heap.size wr W → Below w.heap.size w W) := Lib.hid fun W hW => HB2.out.trans ((HB.out.trans (hW.mono HB.out.size)).mono HB2.out.size)
      have HF9 := Lib.hid (HF2.out.on HL2.out HB.out)
      have hzf : w.heap.size < wr.heap.size := by have := HL2.out; have := HB.out.size; omega
      have HRL : Hid (RdG wr A n l) := Lib.hid ⟨(HRD.out.below (HQ.out _ (Below.refl _ _))).more (HQ.out _ (Below.refl _ _)).size, HTX.out, HN.out, by omega⟩
      clear HRW HI1 HI2 hk HB
      go_upto_region 11 with fail
      have k0 : ∀ V, Below wr.heap.size wr V → V.cell? ⟨w.heap.size, 0, none⟩ = some (.slice UA fn uc) := fun V hV => (HF9.out.on hzf hV).c0
      have k1 : ∀ V, Below wr.heap.size wr V → V.cell? ⟨w.heap.size, 1, none⟩ = some (.slice KA fkn kc) := fun V hV => (HF9.out.on hzf hV).c1
      have k2 : ∀ V, Below wr.heap.size wr V → V.cell? ⟨w.heap.size, 2, none⟩ = some (.int .i64 fs) := fun V hV => (HF9.out.on hzf hV).c2
      have k3 : ∀ V, Below wr.heap.size wr V → V.cell? ⟨w.heap.size, 3, none⟩ = some (.int .i64 ft) := fun V hV => (HF9.out.on hzf hV).c3
      have k4 : ∀ V, Below wr.heap.size wr V → V.cell? ⟨w.heap.size, 4, none⟩ = some (.string fw) := fun V hV => (HF9.out.on hzf hV).c4
      have q0 : Below wr.heap.size wr wr := Below.refl _ _
      have q1 := since33_drew q0
      have rl0 : RdG wr.drew A n l := HRL.out.on (Below.refl _ _).drew
      have e1 : (mb == mb) = true := by simp
      have e2 : (T.toList == T.toList) = true := by simp
      go_region_held3 (fun W => Below wr.heap.size wr W) (first | assumption | exact since33_drew (by assumption)) (first
        | (go_at_call 11; refine Calls.mono (HM1.out _ (HQ.out _ (by assumption))) ?_; rintro e wa ⟨rfl, hbwa⟩; have qwa := since33_more (by assumption) hbwa; have rl := RdG.on (l := l) (by assumption) hbwa)
        | (go_at_call 15; refine Calls.mono (HM2.out _ (HQ.out _ (by assumption))) ?_; rintro e wb ⟨rfl, hbwb⟩; have qwb := since33_more (by assumption) hbwb; have rl := RdG.on (l := l) (by assumption) hbwb)
        | (go_at_call 12; refine Calls.mono (HP1.out _ (HQ.out _ (by assumption))) ?_; rintro e wd ⟨rfl, hbwd⟩; have qwd := since33_more (by assumption) hbwd; have rl := RdG.on (l := l) (by assumption) hbwd)
        | (go_at_call 16; refine Calls.mono (HP2.out _ (HQ.out _ (by assumption))) ?_; rintro e we ⟨rfl, hbwe⟩; have qwe := since33_more (by assumption) hbwe; have rl := RdG.on (l := l) (by assumption) hbwe)
        | (go_at_call 18; refine Calls.mono (HR1.out _ (HQ.out _ (by assumption)) _ _ _ _ (by assumption)) ?_; rintro e wf ⟨A2, n2, c2, rfl, ra, hbf⟩; have qf := since33_more (by assumption) hbf; have rl := RdG.on (l := l) (by assumption) hbf; have sf : Stp33 _ wf := ⟨hbf⟩)
        | (go_at_call 19; refine Calls.mono (HR2.out _ (HQ.out _ (by assumption)) _ _ _ _ (by assumption)) ?_; rintro e wf ⟨A2, n2, c2, rfl, ra, hbf⟩; have qf := since33_more (by assumption) hbf; have rl := RdG.on (l := l) (by assumption) hbf; have sf : Stp33 _ wf := ⟨hbf⟩)
        | (go_at_call 17; refine Calls.mono (same_g _ _ (RdG.stp (l := Sp.rowsF f l) (by assumption) (by assumption)) (by assumption)) ?_; rintro e wg ⟨rfl, hbg⟩; have qg := since33_more (by assumption) hbg))
      all_goals
        have HZ := Lib.hid (HQ.out _ (show Below wr.heap.size wr _ by assumption))
        go_wp2
        go_ret
        exact ⟨rfl, HZ.out⟩
end

section
open Go.RowKit Go.Shelf

theorem filterall_r (D0 : FiltS) (D1 : RowsS) (w : World) (g0 : FGood D0.f D0.UA D0.KA w.heap.size w) (g1 : Rd w w.heap.size 5 D1.A D1.n (rowsC D1.l) ∧ ∀ r ∈ D1.l, r.text.size ≤ 4294967280) (E : Env w) :
    Calls Tryz.prog 5 #[D0.val, D1.val] w fun e w' => e = .returned (.bool true) ∧ Below w.heap.size w w' :=
  filterall_any D0.f D0.UA D0.KA D0.uc D0.kc D1.l D1.A D1.n D1.c w g0 g1.1 g1.2 E
end

end Go.Proofs.YtkgbmeppflnejaaGreatDoor
