/-
  The walk of the law that says of any world who calls, and what is asked for.
-/
import Derived.Test.YtkfeicgeobhccaaSi
import Derived.Test.YtkfeicgeobhccaaWz
import Derived.Test.YtkfeicgeobhccaaWk
import Derived.Test.YtkfeicgeobhccaaWy
import Derived.Deep.RegionHeld3
namespace Go.Proofs.Ytkfeicgeobhccaa
open Go.RowKit

set_option maxRecDepth 100000 in
set_option maxHeartbeats 16000000 in
theorem worldhears_any (D : WorldD) (pA : Option Addr) (pn pc : Nat) (ps : List Int) (heard now : Int) (w : World) (h : WorldGood w D) (hp : Rd w w.heap.size 1 pA pn (ps.map (Value.int .i64))) (hpn : pn ≤ 140737488355328) :
    Calls Try.prog 5 #[worldV D, .slice pA pn pc, .int .i64 heard, .int .i64 now] w fun e w' => e = .returned (.bool true) ∧ Below w.heap.size w w' := by
  have HC := Lib.hid (fun (hs : D.cn ≤ 200) w' (hb : Below w.heap.size w w') => calls_row D.aA D.an D.ac D.cA D.cn D.cc D.kA D.kn D.kc D.calls pA pn pc ps w' w.heap.size (h.rc.below hb) (hp.below hb) hb.size (by omega) hpn)
  have HR := Lib.hid (fun (hs : D.cn ≤ 200) w' (hb : Below w.heap.size w w') => rcalls_row D.aA D.an D.ac D.cA D.cn D.cc D.kA D.kn D.kc D.calls pA pn pc ps w' w.heap.size (h.rc.below hb) (hp.below hb) hb.size (by omega) hpn)
  have HA := Lib.hid (fun (hs : D.kn ≤ 200) w' (hb : Below w.heap.size w w') => asks_any D.aA D.an D.ac D.cA D.cn D.cc D.kA D.kn D.kc D.asks heard now w' w.heap.size (h.rk.below hb) hb.size (by omega))
  have HE := Lib.hid (fun (hs : D.kn ≤ 200) w' (hb : Below w.heap.size w w') => rasks_any D.aA D.an D.ac D.cA D.cn D.cc D.kA D.kn D.kc D.asks heard now w' w.heap.size (h.rk.below hb) hb.size (by omega))
  have HS := Lib.hid (fun w' => small_any D.aA D.an D.ac D.cA D.cn D.cc D.kA D.kn D.kc w')
  have HCN : Hid (D.cn ≤ 200 → (callsF ps D.calls).length ≤ 200) := Lib.hid (fun hs => by
    have h1 := h.rc.1
    rw [callCells_len] at h1
    have := callsF_le ps D.calls
    omega)
  have HKN : Hid (D.kn ≤ 200 → (asksL D.asks heard now).length ≤ 200) := Lib.hid (fun hs => by
    have h1 := h.rk.1
    rw [askCells_len] at h1
    have := (asks_le D.asks heard now).2
    omega)
  obtain ⟨aA, an, ac, l, cA, cn, cc, lc, kA, kn, kc, lk⟩ := D
  simp only [worldV] at HC HR HA HE HS HCN HKN ⊢
  clear h hp
  generalize hsm : (decide (an ≤ 300) && (decide (cn ≤ 200) && decide (kn ≤ 200))) = sm at *
  have HSM : Hid (sm = true → cn ≤ 200 ∧ kn ≤ 200) := Lib.hid (fun e => by rw [← hsm] at e; simp at e; exact e.2)
  clear hsm
  generalize hTC : Mg.isort (callsF ps lc) = TC at *
  clear hTC
  generalize (callsF ps lc).length = nC at *
  generalize asksL lk heard now = LK at *
  have hbW := (Below.refl w.heap.size w).alloc (Nat.le_refl _) (.cells #[.slice aA an ac, .slice cA cn cc, .slice kA kn kc] 26)
  have hx0 : Box (w.alloc (.cells #[.slice aA an ac, .slice cA cn cc, .slice kA kn kc] 26)) w.heap.size [.slice aA an ac, .slice cA cn cc, .slice kA kn kc] := Box.new w #[.slice aA an ac, .slice cA cn cc, .slice kA kn kc] 26
  have HX0 := Lib.hid hx0
  clear hx0
  go_enter Try.func5, Try.ntmps5
  go_wp2_with fail
  have hsz0 : (w.alloc (.cells #[.slice aA an ac, .slice cA cn cc, .slice kA kn kc] 26)).heap.size = w.heap.size + 1 := by simp
  generalize (w.alloc (.cells #[.slice aA an ac, .slice cA cn cc, .slice kA kn kc] 26)) = w0 at *
  refine (shown_any _).mono ?_
  rintro e w1 ⟨rfl, hb1⟩
  have h1 := hbW.trans (hb1.mono hbW.size)
  have HX1 := Lib.hid (HX0.out.below hb1 (by omega))
  have hz1 : w.heap.size + 1 ≤ w1.heap.size := by have := hb1.size; omega
  clear hb1 HX0 hbW hsz0
  have c0 := HX1.out 0 _ rfl
  have c1 := HX1.out 1 _ rfl
  have c2 := HX1.out 2 _ rfl
  go_wp2_with fail
  refine (HS.out _).mono ?_
  rintro e w2 ⟨rfl, hb2⟩
  have h2 := h1.trans (hb2.mono h1.size)
  have HX2 := Lib.hid (HX1.out.below hb2 (by omega))
  have hz2 : w.heap.size + 1 ≤ w2.heap.size := by have := hb2.size; omega
  clear hb2 HX1 c0 c1 c2 hz1 h1
  cases sm with
  | false =>
    go_wp2
    go_ret
    exact ⟨rfl, h2⟩
  | true =>
    by_cases t1 : (50 : Int) < (pn : Int)
    · go_wp2
      go_ret
      exact ⟨rfl, h2⟩
    · have hs := HSM.out rfl
      have HLC := Lib.hid (HCN.out hs.1)
      have HLK := Lib.hid (HKN.out hs.2)
      have HC := Lib.hid (fun w' (hb : Below w2.heap.size w2 w') => HC.out hs.1 w' (h2.trans (hb.mono h2.size)))
      have HR := Lib.hid (fun w' (hb : Below w2.heap.size w2 w') => HR.out hs.1 w' (h2.trans (hb.mono h2.size)))
      have HA := Lib.hid (fun w' (hb : Below w2.heap.size w2 w') => HA.out hs.2 w' (h2.trans (hb.mono h2.size)))
      have HE := Lib.hid (fun w' (hb : Below w2.heap.size w2 w') => HE.out hs.2 w' (h2.trans (hb.mono h2.size)))
      have m0 : ∀ W, Below w2.heap.size w2 W → W.cell? ⟨w.heap.size, 0, none⟩ = some (.slice aA an ac) := fun W hW => (HX2.out.below hW (by omega)) 0 _ rfl
      have m1 : ∀ W, Below w2.heap.size w2 W → W.cell? ⟨w.heap.size, 1, none⟩ = some (.slice cA cn cc) := fun W hW => (HX2.out.below hW (by omega)) 1 _ rfl
      have m2 : ∀ W, Below w2.heap.size w2 W → W.cell? ⟨w.heap.size, 2, none⟩ = some (.slice kA kn kc) := fun W hW => (HX2.out.below hW (by omega)) 2 _ rfl
      have hq : Below w2.heap.size w2 w2.drew := (Below.refl _ _).drew
      have HFIN := Lib.hid (fun w' (hb : Below w2.heap.size w2 w') => h2.trans (hb.mono h2.size))
      have c0 := HX2.out 0 _ rfl
      have c1 := HX2.out 1 _ rfl
      have c2 := HX2.out 2 _ rfl
      clear hs HSM HCN HKN h2 hz2 HX2 HS
      go_wp2_with fail
      clear c0 c1 c2
      go_region_held3 (fun W => Below w2.heap.size w2 W) (assumption) (first | (go_at_call 19; refine (HC.out _ (by assumption)).mono ?_; rintro e w3 ⟨A3, c3, rfl, hr3, hb3⟩; have q3 := since_more (by assumption) hb3) | (go_at_call 20; refine (HR.out _ (by assumption)).mono ?_; rintro e w4 ⟨A4, c4, rfl, hr4, hb4⟩; have q4 := since_more (by assumption) hb4; have hr3' := (hr3.below hb4).more hb4.size) | (go_at_call 18; refine (samecalls_any A3 A4 _ c3 c4 w4.heap.size TC _ hr3' hr4 (Nat.le_refl _) (Nat.le_trans HLC.out (by omega))).mono ?_; rintro e w5 ⟨rfl, hb5⟩; have q5 := since_more (by assumption) hb5) | (go_at_call 22; refine (HA.out _ (by assumption)).mono ?_; rintro e w6 ⟨A6, c6, rfl, hown6, hb6⟩; have hr6 := Rd.of_own hown6; clear hown6; have q6 := since_more (by assumption) hb6) | (go_at_call 23; refine (HE.out _ (by assumption)).mono ?_; rintro e w7 ⟨A7, c7, rfl, hown7, hb7⟩; have hr7 := Rd.of_own hown7; clear hown7; have q7 := since_more (by assumption) hb7; have hr6' := (hr6.below hb7).more hb7.size) | (go_at_call 21; refine (sameasks_any A6 A7 _ c6 c7 w7.heap.size LK _ hr6' hr7 (Nat.le_refl _) (Nat.le_trans HLK.out (by omega))).mono ?_; rintro e w8 ⟨rfl, hb8⟩; have q8 := since_more (by assumption) hb8))
      all_goals
        have hfin := HFIN.out _ (by assumption)
        go_wp2
        go_ret
        exact ⟨rfl, hfin⟩

end Go.Proofs.Ytkfeicgeobhccaa
