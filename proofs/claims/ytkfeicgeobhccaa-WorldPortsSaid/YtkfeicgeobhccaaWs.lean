/-
  The walk of the law that says of any world whether it may be.
-/
import Derived.Test.YtkfeicgeobhccaaWr
namespace Go.Proofs.Ytkfeicgeobhccaa
open Go.RowKit

theorem small_any (aA : Option Addr) (an ac : Nat) (cA : Option Addr) (cn cc : Nat) (kA : Option Addr) (kn kc : Nat) (w : World) :
    Calls Try.prog 10 #[.agg #[.slice aA an ac, .slice cA cn cc, .slice kA kn kc]] w fun e w' => e = .returned (.bool (decide (an ≤ 300) && (decide (cn ≤ 200) && decide (kn ≤ 200)))) ∧ Below w.heap.size w w' := by
  have hbW := (Below.refl w.heap.size w).alloc (Nat.le_refl _) (.cells #[.slice aA an ac, .slice cA cn cc, .slice kA kn kc] 26)
  by_cases n1 : an ≤ 300
  · have y0 : (an : Int) ≤ (300 : Int) := by omega
    by_cases n2 : cn ≤ 200
    · have y1 : (cn : Int) ≤ (200 : Int) := by omega
      by_cases n3 : kn ≤ 200
      · have y2 : (kn : Int) ≤ (200 : Int) := by omega
        have hr : Hid ((decide (an ≤ 300) && (decide (cn ≤ 200) && decide (kn ≤ 200))) = true) := Lib.hid (by simp [n1, n2, n3])
        go_enter Try.func10, Try.ntmps10
        go_wp2
        go_ret
        exact ⟨by first | exact ret_bool hr.out.symm | rfl, hbW⟩
      · have y2 : ¬ (kn : Int) ≤ (200 : Int) := by omega
        have hr : Hid ((decide (an ≤ 300) && (decide (cn ≤ 200) && decide (kn ≤ 200))) = false) := Lib.hid (by simp [n3])
        go_enter Try.func10, Try.ntmps10
        go_wp2
        go_ret
        exact ⟨by first | exact ret_bool hr.out.symm | rfl, hbW⟩
    · have y1 : ¬ (cn : Int) ≤ (200 : Int) := by omega
      have hr : Hid ((decide (an ≤ 300) && (decide (cn ≤ 200) && decide (kn ≤ 200))) = false) := Lib.hid (by simp [n2])
      go_enter Try.func10, Try.ntmps10
      go_wp2
      go_ret
      exact ⟨by first | exact ret_bool hr.out.symm | rfl, hbW⟩
  · have y0 : ¬ (an : Int) ≤ (300 : Int) := by omega
    have hr : Hid ((decide (an ≤ 300) && (decide (cn ≤ 200) && decide (kn ≤ 200))) = false) := Lib.hid (by simp [n1])
    go_enter Try.func10, Try.ntmps10
    go_wp2
    go_ret
    exact ⟨by first | exact ret_bool hr.out.symm | rfl, hbW⟩

/-- of a world that came in: whether it may be -/
theorem may_good {w : World} {D : WorldD} (h : WorldGood w D) (w' : World) (hb : Below w.heap.size w w') :
    Calls Try.prog 11 #[worldV D] w' fun e w2 => e = .returned (.bool (mayWB D.an D.cn D.kn D.acts D.calls D.asks)) ∧ Below w'.heap.size w' w2 := by
  have hr := reach_le
  have b2 := h.bc
  have b3 := h.bk
  exact may_w_any D.aA D.an D.ac D.cA D.cn D.cc D.kA D.kn D.kc D.acts D.calls D.asks w' w.heap.size (h.ra.below hb) (fun a ha => (h.ga a ha).1.below hb) hb.size h.ca (h.rc.below hb) (h.rk.below hb) (fun p hp => by have := h.gk p hp; omega) (by omega) (by omega)
theorem rmay_good {w : World} {D : WorldD} (h : WorldGood w D) (w' : World) (hb : Below w.heap.size w w') :
    Calls Try.prog 12 #[worldV D] w' fun e w2 => e = .returned (.bool (mayWB D.an D.cn D.kn D.acts D.calls D.asks)) ∧ Below w'.heap.size w' w2 :=
  rmay_w_any D.aA D.an D.ac D.cA D.cn D.cc D.kA D.kn D.kc D.acts D.calls D.asks w' w.heap.size (h.ra.below hb) (fun a ha => (h.ga a ha).1.below hb) hb.size h.ca (h.rc.below hb) (h.rk.below hb)

set_option maxRecDepth 100000 in
set_option maxHeartbeats 4000000 in
theorem worldmay_any (D : WorldD) (w : World) (h : WorldGood w D) :
    Calls Try.prog 3 #[worldV D] w fun e w' => e = .returned (.bool true) ∧ Below w.heap.size w w' := by
  have HG := Lib.hid (may_good h)
  have HR := Lib.hid (rmay_good h)
  have HB := Lib.hid (fun hh w' => may_big D.aA D.an D.ac D.cA D.cn D.cc D.kA D.kn D.kc w' hh)
  have HS := Lib.hid (fun w' => small_any D.aA D.an D.ac D.cA D.cn D.cc D.kA D.kn D.kc w')
  have HBIG : Hid (D.an ≤ 300 ∧ D.cn ≤ 200 ∧ D.kn ≤ 200 ∨ (200 < D.an ∨ 100 < D.cn ∨ 100 < D.kn)) := Lib.hid (by omega)
  obtain ⟨aA, an, ac, l, cA, cn, cc, lc, kA, kn, kc, lk⟩ := D
  simp only [worldV] at HG HR HB HS HBIG ⊢
  generalize mayWB an cn kn l lc lk = r at *
  have hbW := (Below.refl w.heap.size w).alloc (Nat.le_refl _) (.cells #[.slice aA an ac, .slice cA cn cc, .slice kA kn kc] 26)
  clear h
  by_cases hs : an ≤ 300 ∧ cn ≤ 200 ∧ kn ≤ 200
  · have hr : Hid ((decide (an ≤ 300) && (decide (cn ≤ 200) && decide (kn ≤ 200))) = true) := Lib.hid (by simp [hs])
    clear hs
    go_enter Try.func3, Try.ntmps3
    go_wp2_with fail
    refine (shown_any _).mono ?_
    rintro e w1 ⟨rfl, hb1⟩
    have h1 := hbW.trans (hb1.mono hbW.size)
    have b0 : w1.cell? ⟨w.heap.size, 0, none⟩ = some (.slice aA an ac) := (hb1.cell (p := ⟨w.heap.size, 0, none⟩) (by simp)).trans (by go_simp)
    have b1 : w1.cell? ⟨w.heap.size, 1, none⟩ = some (.slice cA cn cc) := (hb1.cell (p := ⟨w.heap.size, 1, none⟩) (by simp)).trans (by go_simp)
    have b2 : w1.cell? ⟨w.heap.size, 2, none⟩ = some (.slice kA kn kc) := (hb1.cell (p := ⟨w.heap.size, 2, none⟩) (by simp)).trans (by go_simp)
    have hz1 : w.heap.size + 1 ≤ w1.heap.size := by have := hb1.size; simpa using this
    go_wp2_with fail
    refine (HS.out _).mono ?_
    rintro e w2 ⟨rfl, hb2⟩
    rw [hr.out]
    have h2 := h1.trans (hb2.mono h1.size)
    have c0 := (hb2.cell (p := ⟨w.heap.size, 0, none⟩) (by simp; omega)).trans b0
    have c1 := (hb2.cell (p := ⟨w.heap.size, 1, none⟩) (by simp; omega)).trans b1
    have c2 := (hb2.cell (p := ⟨w.heap.size, 2, none⟩) (by simp; omega)).trans b2
    have hz2 : w.heap.size + 1 ≤ w2.heap.size := Nat.le_trans hz1 hb2.size
    clear b0 b1 b2 hb1 hb2
    have k0 : ∀ p : Since w2.heap.size w2, p.w'.cell? ⟨w.heap.size, 0, none⟩ = some (.slice aA an ac) := fun p => (p.hb.cell (p := ⟨w.heap.size, 0, none⟩) (by simp; omega)).trans c0
    have k1 : ∀ p : Since w2.heap.size w2, p.w'.cell? ⟨w.heap.size, 1, none⟩ = some (.slice cA cn cc) := fun p => (p.hb.cell (p := ⟨w.heap.size, 1, none⟩) (by simp; omega)).trans c1
    have k2 : ∀ p : Since w2.heap.size w2, p.w'.cell? ⟨w.heap.size, 2, none⟩ = some (.slice kA kn kc) := fun p => (p.hb.cell (p := ⟨w.heap.size, 2, none⟩) (by simp; omega)).trans c2
    have HP : Hid (∀ p : Since w2.heap.size w2, Below w.heap.size w p.w') := Lib.hid (fun p => h2.trans (p.hb.mono h2.size))
    clear c0 c1 c2
    go_wp2_with fail
    refine wp_region_since w2.heap.size (by kernel_rfl) (by kernel_rfl) ?_
    repeat (go_big_quiet_step (first | (go_at_call 11; exact Calls.since_of (Nat.le_refl _) (HG.out _ (HP.out _))) | (go_at_call 12; exact Calls.since_of (Nat.le_refl _) (HR.out _ (HP.out _)))))
    refine wpQuiet_nil ?_
    intro _ hw'
    obtain ⟨ps, hw''⟩ := hw'
    subst hw''
    have hps := HP.out ps
    generalize ps.w' = wq at *
    go_wp2
    go_ret
    exact ⟨by simp, hps⟩
  · have hr : Hid ((decide (an ≤ 300) && (decide (cn ≤ 200) && decide (kn ≤ 200))) = false) := Lib.hid (by
      rw [Bool.eq_false_iff]; simpa using hs)
    have hbig := HBIG.out.resolve_left hs
    have HB2 := Lib.hid (HB.out hbig)
    clear hs hbig
    go_enter Try.func3, Try.ntmps3
    go_wp2_with fail
    refine (shown_any _).mono ?_
    rintro e w1 ⟨rfl, hb1⟩
    have h1 := hbW.trans (hb1.mono hbW.size)
    have b0 : w1.cell? ⟨w.heap.size, 0, none⟩ = some (.slice aA an ac) := (hb1.cell (p := ⟨w.heap.size, 0, none⟩) (by simp)).trans (by go_simp)
    have b1 : w1.cell? ⟨w.heap.size, 1, none⟩ = some (.slice cA cn cc) := (hb1.cell (p := ⟨w.heap.size, 1, none⟩) (by simp)).trans (by go_simp)
    have b2 : w1.cell? ⟨w.heap.size, 2, none⟩ = some (.slice kA kn kc) := (hb1.cell (p := ⟨w.heap.size, 2, none⟩) (by simp)).trans (by go_simp)
    have hz1 : w.heap.size + 1 ≤ w1.heap.size := by have := hb1.size; simpa using this
    go_wp2_with fail
    refine (HS.out _).mono ?_
    rintro e w2 ⟨rfl, hb2⟩
    rw [hr.out]
    have h2 := h1.trans (hb2.mono h1.size)
    have c0 := (hb2.cell (p := ⟨w.heap.size, 0, none⟩) (by simp; omega)).trans b0
    have c1 := (hb2.cell (p := ⟨w.heap.size, 1, none⟩) (by simp; omega)).trans b1
    have c2 := (hb2.cell (p := ⟨w.heap.size, 2, none⟩) (by simp; omega)).trans b2
    clear b0 b1 b2 hb1 hb2
    go_wp2_with fail
    refine (HB2.out _).mono ?_
    rintro e w3 ⟨rfl, hb3⟩
    have h3 := h2.trans (hb3.mono h2.size)
    clear hb3
    go_wp2
    go_ret
    exact ⟨rfl, h3⟩

end Go.Proofs.Ytkfeicgeobhccaa
