/-
  Two filters of like lists are the same: the reference's walk.
-/
import Derived.Test.YtijfeeiplljnjaaGreatDoorUo
namespace Go.Proofs.YtijfeeiplljnjaaGreatDoor
open Go.RowKit Go.Shelf

set_option maxHeartbeats 4000000 in
theorem rsame_s (l : List ByteArray) (A1 A2 : Option Addr) (n c1 c2 B : Nat) (w : World) (h1 : Rd w B 1 A1 n (strsV l)) (h2 : Rd w B 1 A2 n (strsV l)) (hn : n ≤ 140737488355328) :
    Calls Tryz.prog 15 #[.slice A1 n c1, .slice A2 n c2] w fun e w' => e = .returned (.bool true) ∧ ∃ k, w' = w.drewN k := by
  have hlen : l.length = n := by have := h1.1; rw [strsV_len] at this; omega
  have HL := Lib.hid hlen
  have HR1 := Lib.hid (fun k hk => Rd.strAt h1 k hk)
  have HR2 := Lib.hid (fun k hk => Rd.strAt h2 k hk)
  clear hlen h1 h2
  go_enter Tryz.func15, Tryz.ntmps15
  go_wp2_with fail
  go_loopw [13] (fun iv wr => ∃ k : Nat, k ≤ n ∧ iv = .int .i64 k ∧ Hid (∃ m, wr = w.drewN m)) (fun iv _ => n - (intOf iv).toNat)
  case atStart => exact ⟨0, Nat.zero_le _, rfl, Lib.hid ⟨0, rfl⟩⟩
  case round =>
    obtain ⟨k, hk, rfl, HD⟩ := hrel
    by_cases hlt : k < n
    · have hkl : k < l.length := by rw [HL.out]; exact hlt
      obtain ⟨ad, rfl, hc⟩ := HR1.out k hkl
      obtain ⟨ad', rfl, hc'⟩ := HR2.out k hkl
      have c0 : wr.cell? (ad.add k) = some (.string l[k]) := by obtain ⟨m, hm⟩ := HD.out; rw [hm]; exact hc w (Below.refl _ _)
      have d0 : wr.cell? (ad'.add k) = some (.string l[k]) := by obtain ⟨m, hm⟩ := HD.out; rw [hm]; exact hc' w (Below.refl _ _)
      have x1 : (0 : Int) ≤ (k : Int) := by omega
      have x2 : (k : Int) < (n : Int) := by omega
      clear hc hc' HR1 HR2
      generalize l[k] = y at *
      go_wp2
      go_quiet (fail)
      have HD2 : Hid (∃ m, wr.drewN nq = w.drewN m) := Lib.hid (by obtain ⟨m, hm⟩ := HD.out; exact ⟨m + nq, by rw [hm, World.drewN_drewN]⟩)
      clear c0 d0
      generalize wr.drewN nq = w2 at *
      go_wp2
      go_roundw
      case rel => exact ⟨k + 1, by omega, by first | rfl | go_num, HD2⟩
      case measure => first | (simp [intOf]; done) | (simp [intOf]; omega)
    · have x2 : ¬ (k : Int) < (n : Int) := by omega
      go_wp2
      go_ret
      exact ⟨rfl, HD.out⟩

set_option maxHeartbeats 4000000 in
theorem rsame_i (l : List Int) (A1 A2 : Option Addr) (n c1 c2 B : Nat) (w : World) (h1 : Rd w B 1 A1 n (intsV l)) (h2 : Rd w B 1 A2 n (intsV l)) (hn : n ≤ 140737488355328) :
    Calls Tryz.prog 16 #[.slice A1 n c1, .slice A2 n c2] w fun e w' => e = .returned (.bool true) ∧ ∃ k, w' = w.drewN k := by
  have hlen : l.length = n := by have := h1.1; rw [intsV_len] at this; omega
  have HL := Lib.hid hlen
  have HR1 := Lib.hid (fun k hk => Rd.intAt h1 k hk)
  have HR2 := Lib.hid (fun k hk => Rd.intAt h2 k hk)
  clear hlen h1 h2
  go_enter Tryz.func16, Tryz.ntmps16
  go_wp2_with fail
  go_loopw [13] (fun iv wr => ∃ k : Nat, k ≤ n ∧ iv = .int .i64 k ∧ Hid (∃ m, wr = w.drewN m)) (fun iv _ => n - (intOf iv).toNat)
  case atStart => exact ⟨0, Nat.zero_le _, rfl, Lib.hid ⟨0, rfl⟩⟩
  case round =>
    obtain ⟨k, hk, rfl, HD⟩ := hrel
    by_cases hlt : k < n
    · have hkl : k < l.length := by rw [HL.out]; exact hlt
      obtain ⟨ad, rfl, hc⟩ := HR1.out k hkl
      obtain ⟨ad', rfl, hc'⟩ := HR2.out k hkl
      have c0 : wr.cell? (ad.add k) = some (.int .i64 l[k]) := by obtain ⟨m, hm⟩ := HD.out; rw [hm]; exact hc w (Below.refl _ _)
      have d0 : wr.cell? (ad'.add k) = some (.int .i64 l[k]) := by obtain ⟨m, hm⟩ := HD.out; rw [hm]; exact hc' w (Below.refl _ _)
      have x1 : (0 : Int) ≤ (k : Int) := by omega
      have x2 : (k : Int) < (n : Int) := by omega
      clear hc hc' HR1 HR2
      generalize l[k] = y at *
      go_wp2
      go_quiet (fail)
      have HD2 : Hid (∃ m, wr.drewN nq = w.drewN m) := Lib.hid (by obtain ⟨m, hm⟩ := HD.out; exact ⟨m + nq, by rw [hm, World.drewN_drewN]⟩)
      clear c0 d0
      generalize wr.drewN nq = w2 at *
      go_wp2
      go_roundw
      case rel => exact ⟨k + 1, by omega, by first | rfl | go_num, HD2⟩
      case measure => first | (simp [intOf]; done) | (simp [intOf]; omega)
    · have x2 : ¬ (k : Int) < (n : Int) := by omega
      go_wp2
      go_ret
      exact ⟨rfl, HD.out⟩

set_option maxHeartbeats 8000000 in
set_option maxRecDepth 100000 in
theorem rsamef_any (f : Sp.FD) (UA KA UA2 KA2 : Option Addr) (uc kc uc2 kc2 : Nat) (w : World) (h : FGood f UA KA w.heap.size w) (h2 : FGood f UA2 KA2 w.heap.size w) :
    Calls Tryz.prog 7 #[filtV f UA uc KA kc, filtV f UA2 uc2 KA2 kc2] w fun e w' => e = .returned (.bool true) ∧ Below w.heap.size w w' := by
  have hW2 : Below w.heap.size w ((w.alloc (.cells (filtC f UA uc KA kc).toArray 26)).alloc (.cells (filtC f UA2 uc2 KA2 kc2).toArray 26)) := ((Below.refl w.heap.size w).alloc (Nat.le_refl _) _).alloc (by simp) _
  have HB := Lib.hid hW2
  have HU := Lib.hid (fun W (hb : Below w.heap.size w W) => rsame_s f.units UA UA2 f.units.length uc uc2 w.heap.size W (h.ru.below hb) (h2.ru.below hb) (by have := h.un; omega))
  have HK := Lib.hid (fun W (hb : Below w.heap.size w W) => rsame_i f.kinds KA KA2 f.kinds.length kc kc2 w.heap.size W (h.rk.below hb) (h2.rk.below hb) (by have := h.kn; omega))
  clear h h2 hW2
  obtain ⟨fu, fk, fs, ft, fw⟩ := f
  unfold filtV
  simp only [filtC] at *
  go_enter Tryz.func7, Tryz.ntmps7
  go_wp2_with fail
  refine (HU.out _ HB.out).mono ?_
  rintro e w2 ⟨rfl, n2, rfl⟩
  go_wp2_with fail
  refine (HK.out _ (belowQ HB.out n2)).mono ?_
  rintro e w3 ⟨rfl, n3, rfl⟩
  go_wp2
  go_ret
  exact ⟨rfl, belowQ HB.out _⟩

end Go.Proofs.YtijfeeiplljnjaaGreatDoor
