/-
  The walk of the law that says who calls two ports.
-/
import Derived.Test.YtkfeicgeobhccaaSj
import Derived.Test.YtkfeicgeobhccaaSo
import Derived.Deep.DeepCutAuto
namespace Go.Proofs.Ytkfeicgeobhccaa
open Go.RowKit

/-- the next world: what lay there lies there -/
structure Nxt (W W' : World) : Prop where
  out : Below W.heap.size W W'
theorem Rd.nxt {W W' : World} {size n : Nat} {A : Option Addr} {xs : List Value} (h : Nxt W W') (hr : Rd W W.heap.size size A n xs) : Rd W' W'.heap.size size A n xs := (Rd.below hr h.out).more h.out.size
theorem Rd.nxtAlloc {W : World} {o : Obj} {size n : Nat} {A : Option Addr} {xs : List Value} (hr : Rd W W.heap.size size A n xs) : Rd (W.alloc o) (W.alloc o).heap.size size A n xs := (hr.alloc (Nat.le_refl _) o).more (by simp)
theorem Rd.nxtDrew {W : World} {size n : Nat} {A : Option Addr} {xs : List Value} (hr : Rd W W.heap.size size A n xs) : Rd W.drew W.drew.heap.size size A n xs := hr.drewN 1
theorem Rd.newRow {W : World} {cs : Array Value} {t : TypeId} {n b : Nat} (hb : b = W.heap.size) (h : cs.size = n * 1) : Rd (W.alloc (.cells cs t)) (W.alloc (.cells cs t)).heap.size 1 (some ⟨b, 0, none⟩) n cs.toList := by
  subst hb
  have := Rd.fresh W cs t n 1 h
  rwa [← World.size_alloc W (.cells cs t)] at this
theorem own_other {w w' : World} {base : Nat} {e : TypeId} {size n : Nat} {v : Value} {xs : List Value} {row : Option Nat} (h : w.ownsRow base e size v n xs) (hg : w.grownBy w' row) (hne : ∀ k, v.ownBlock = some k → some k ≠ row) : w'.ownsRow base e size v n xs := by
  refine ⟨h.1, ?_⟩
  rcases h.2 with h0 | ⟨g, cap, cur, h1, h2, h3, h4⟩
  · exact .inl h0
  · refine .inr ⟨g, cap, cur, h1, h2, ?_, h4⟩
    rw [hg.block g (Array.getElem?_eq_some_iff.1 h3).1 (hne g (by rw [h1]; rfl))]
    exact h3
/-- two rows of one's own that lie apart -/
def Apart (v u : Value) : Prop := ∀ k, v.ownBlock = some k → u.ownBlock ≠ some k

theorem may_target (w : World) : Calls Try.prog 24 #[.string ⟨#[97, 46, 116, 97, 114, 103, 101, 116]⟩] w fun e w' => e = .returned (.bool true) ∧ Below w.heap.size w w' := by
  refine (rmay_any ⟨#[97, 46, 116, 97, 114, 103, 101, 116]⟩ w).mono ?_
  rintro e w' ⟨rfl, hb⟩
  rw [show decide (0 < (Sp.ofL (⟨#[97, 46, 116, 97, 114, 103, 101, 116]⟩ : ByteArray).data.toList).1) = true from by decide]
  exact ⟨rfl, hb⟩

theorem Apart.left {v u v' : Value} {W : World} {base : Nat} {e : TypeId} {size n m : Nat} {xs : List Value} (h : Apart v u) (hu : W.ownsRow base e size u n xs) (hx : v'.ownBlock = v.ownBlock ∨ v'.ownBlock = some m) (hm : W.heap.size ≤ m) : Apart v' u := fun k hk e => by
  rcases hx with h9 | h9
  · exact h k (h9.symm.trans hk) e
  · have h8 := (hu.lt k e).2
    rw [h9] at hk
    injection hk with hk
    omega
theorem Apart.right {v u u' : Value} {W : World} {base : Nat} {e : TypeId} {size n m : Nat} {xs : List Value} (h : Apart v u) (hv : W.ownsRow base e size v n xs) (hx : u'.ownBlock = u.ownBlock ∨ u'.ownBlock = some m) (hm : W.heap.size ≤ m) : Apart v u' := fun k hk e => by
  rcases hx with h9 | h9
  · exact h k hk (h9.symm.trans e)
  · have h8 := (hv.lt k hk).2
    rw [h9] at e
    injection e with e
    omega
theorem own_box {W : World} {base : Nat} {e : TypeId} {size n : Nat} {v : Value} {xs : List Value} (h : W.ownsRow base e size v n xs) (o : Obj) (q : Nat) : ((W.alloc o).drewN q).ownsRow base e size v n xs := World.ownsRow.alloc h o

set_option maxRecDepth 100000 in
set_option maxHeartbeats 16000000 in
theorem worldports_any (D : WorldD) (p q : Int) (w : World) (h : WorldGood w D) :
    Calls Try.prog 8 #[worldV D, .int .i64 p, .int .i64 q] w fun e w' => e = .returned (.bool true) ∧ Below w.heap.size w w' := by
  obtain ⟨i0, hi, hz0, hz1, hz2⟩ := info_parts call_info
  have HC := Lib.hid (fun (hs : D.cn ≤ 200) (ps : List Int) (A : Option Addr) (n c : Nat) w' (hb : Below w.heap.size w w') (hn : n ≤ 3) (hp : Rd w' w'.heap.size 1 A n (ps.map (Value.int .i64))) => calls_row D.aA D.an D.ac D.cA D.cn D.cc D.kA D.kn D.kc D.calls A n c ps w' w'.heap.size ((h.rc.below hb).more hb.size) hp (Nat.le_refl _) (by omega) (by omega))
  have HS := Lib.hid (fun w' => small_any D.aA D.an D.ac D.cA D.cn D.cc D.kA D.kn D.kc w')
  have HCN : Hid (D.cn ≤ 200 → ∀ ps, (callsF ps D.calls).length ≤ 200) := Lib.hid (fun hs ps => by
    have h1 := h.rc.1
    rw [callCells_len] at h1
    have := callsF_le ps D.calls
    omega)
  obtain ⟨aA, an, ac, l, cA, cn, cc, lc, kA, kn, kc, lk⟩ := D
  simp only [worldV] at HC HS HCN ⊢
  clear h
  generalize hsm : (decide (an ≤ 300) && (decide (cn ≤ 200) && decide (kn ≤ 200))) = sm at *
  have HSM : Hid (sm = true → cn ≤ 200 ∧ kn ≤ 200) := Lib.hid (fun e => by rw [← hsm] at e; simp at e; exact e.2)
  clear hsm
  have hbW := (Below.refl w.heap.size w).alloc (Nat.le_refl _) (.cells #[.slice aA an ac, .slice cA cn cc, .slice kA kn kc] 26)
  have hx0 : Box (w.alloc (.cells #[.slice aA an ac, .slice cA cn cc, .slice kA kn kc] 26)) w.heap.size [.slice aA an ac, .slice cA cn cc, .slice kA kn kc] := Box.new w #[.slice aA an ac, .slice cA cn cc, .slice kA kn kc] 26
  have HX0 := Lib.hid hx0
  clear hx0
  go_enter Try.func8, Try.ntmps8
  go_wp2_with fail
  have hsz0 : (w.alloc (.cells #[.slice aA an ac, .slice cA cn cc, .slice kA kn kc] 26)).heap.size = w.heap.size + 1 := by simp
  generalize (w.alloc (.cells #[.slice aA an ac, .slice cA cn cc, .slice kA kn kc] 26)) = w0 at *
  refine (shown_any _).mono ?_
  rintro e w1 ⟨rfl, hb1⟩
  have h1 := hbW.trans (hb1.mono hbW.size)
  have HX1 := Lib.hid (HX0.out.below hb1 (by omega))
  have hz1' : w.heap.size + 1 ≤ w1.heap.size := by have := hb1.size; omega
  clear hb1 HX0 hbW hsz0
  have c0 := HX1.out 0 _ rfl
  have c1 := HX1.out 1 _ rfl
  have c2 := HX1.out 2 _ rfl
  go_wp2_with fail
  refine (HS.out _).mono ?_
  rintro e w2 ⟨rfl, hb2⟩
  have h2 := h1.trans (hb2.mono h1.size)
  have HX2 := Lib.hid (HX1.out.below hb2 (by omega))
  have hz2' : w.heap.size + 1 ≤ w2.heap.size := by have := hb2.size; omega
  clear hb2 HX1 c0 c1 c2 hz1' h1
  cases sm with
  | false =>
    go_wp2
    go_ret
    exact ⟨rfl, h2⟩
  | true =>
    by_cases hpq : p = q
    · have t1 : (p == q) = true := by simp [hpq]
      clear hpq
      go_wp2
      go_ret
      exact ⟨rfl, h2⟩
    · have t1 : (p == q) = false := by simp [hpq]
      have hs := HSM.out rfl
      have HC := Lib.hid (fun ps A n c w' (hb : Below w2.heap.size w2 w') => HC.out hs.1 ps A n c w' (h2.trans (hb.mono h2.size)))
      have HN1 := Lib.hid (HCN.out hs.1 [p])
      have HN2 := Lib.hid (HCN.out hs.1 [q])
      have HN3 := Lib.hid (HCN.out hs.1 [p, q, p])
      have HP1 := Lib.hid (ports_one p q lc)
      have HP2 := Lib.hid (ports_two p q hpq lc)
      have HUP := Lib.hid (Mg.up_isort (callsF [p, q, p] lc))
      have HL1 : Hid ((Mg.isort (callsF [p] lc)).length = (callsF [p] lc).length) := Lib.hid (Mg.isort_len _)
      have HL2 : Hid ((Mg.isort (callsF [q] lc)).length = (callsF [q] lc).length) := Lib.hid (Mg.isort_len _)
      have HL3 : Hid ((Mg.isort (callsF [p, q, p] lc)).length = (callsF [p, q, p] lc).length) := Lib.hid (Mg.isort_len _)
      have HC1 := Lib.hid (HC.out [p])
      have HC2 := Lib.hid (HC.out [q])
      have HC3 := Lib.hid (HC.out [p, q, p])
      generalize Mg.isort (callsF [p] lc) = T1 at *
      generalize Mg.isort (callsF [q] lc) = T2 at *
      generalize Mg.isort (callsF [p, q, p] lc) = T3 at *
      generalize (callsF [p] lc).length = m1 at *
      generalize (callsF [q] lc).length = m2 at *
      generalize (callsF [p, q, p] lc).length = m3 at *
      have k0 : ∀ W, Below w2.heap.size w2 W → W.cell? ⟨w.heap.size, 0, none⟩ = some (.slice aA an ac) := fun W hW => (HX2.out.below hW (by omega)) 0 _ rfl
      have k1 : ∀ W, Below w2.heap.size w2 W → W.cell? ⟨w.heap.size, 1, none⟩ = some (.slice cA cn cc) := fun W hW => (HX2.out.below hW (by omega)) 1 _ rfl
      have k2 : ∀ W, Below w2.heap.size w2 W → W.cell? ⟨w.heap.size, 2, none⟩ = some (.slice kA kn kc) := fun W hW => (HX2.out.below hW (by omega)) 2 _ rfl
      have hq : Below w2.heap.size w2 w2.drew := (Below.refl _ _).drew
      have HFIN := Lib.hid (fun w' (hb : Below w2.heap.size w2 w') => h2.trans (hb.mono h2.size))
      have c0 := HX2.out 0 _ rfl
      have c1 := HX2.out 1 _ rfl
      have c2 := HX2.out 2 _ rfl
      clear hs HSM HCN h2 hz2' HX2 HS HC hpq
      go_upto_region 5 with fail
      clear c0 c1 c2
      go_cut [7, 8, 9] (fun a b c wx => ∃ (A1 : Option Addr) (c1 : Nat) (A2 : Option Addr) (c2 : Nat) (A3 : Option Addr) (c3 : Nat), a = .slice A1 m1 c1 ∧ b = .slice A2 m2 c2 ∧ c = .slice A3 m3 c3 ∧ Rd wx wx.heap.size 3 A1 m1 (callCells T1) ∧ Rd wx wx.heap.size 3 A2 m2 (callCells T2) ∧ Rd wx wx.heap.size 3 A3 m3 (callCells T3) ∧ Below w2.heap.size w2 wx)
      case first =>
        go_region_held3 (fun W => Below w2.heap.size w2 W) (first | assumption | exact since_alloc (by assumption) _) (first | (go_at_call 19; refine Calls.mono (HC1.out _ _ _ _ ?_ ?_ ?_) ?_; (focus assumption); (focus decide); (focus ((repeat' (first | (refine Rd.newRow ?_ rfl; (first | (focus rfl) | (focus (simp only [World.size_alloc]; done)))) | refine Rd.nxtAlloc ?_ | (apply Rd.nxt; (focus assumption)))) <;> fail)); rintro e w3 ⟨A3, c3, rfl, hr3, hb3⟩; have n3 : Nxt _ w3 := ⟨hb3⟩; have q3 := since_more (by assumption) hb3; clear hb3) | (go_at_call 19; refine Calls.mono (HC2.out _ _ _ _ ?_ ?_ ?_) ?_; (focus assumption); (focus decide); (focus ((repeat' (first | (refine Rd.newRow ?_ rfl; (first | (focus rfl) | (focus (simp only [World.size_alloc]; done)))) | refine Rd.nxtAlloc ?_ | (apply Rd.nxt; (focus assumption)))) <;> fail)); rintro e w4 ⟨A4, c4, rfl, hr4, hb4⟩; have n4 : Nxt _ w4 := ⟨hb4⟩; have q4 := since_more (by assumption) hb4; clear hb4) | (go_at_call 19; refine Calls.mono (HC3.out _ _ _ _ ?_ ?_ ?_) ?_; (focus assumption); (focus decide); (focus ((repeat' (first | (refine Rd.newRow ?_ rfl; (first | (focus rfl) | (focus (simp only [World.size_alloc]; done)))) | refine Rd.nxtAlloc ?_ | (apply Rd.nxt; (focus assumption)))) <;> fail)); rintro e w5 ⟨A5, c5, rfl, hr5, hb5⟩; have n5 : Nxt _ w5 := ⟨hb5⟩; have q5 := since_more (by assumption) hb5; clear hb5))
        all_goals
          go_wp2_with fail
          go_meet
          refine ⟨A3, c3, A4, c4, A5, c5, rfl, rfl, rfl, ?_, ?_, ?_, ?_⟩
          all_goals (repeat' (first | assumption | refine Rd.nxtAlloc ?_ | (apply Rd.nxt; (focus assumption))))
      case rest =>
        obtain ⟨A1, ca1, A2, ca2, A3, ca3, rfl, rfl, rfl, hr1, hr2, hr3, hS⟩ := hcut
        have hfw := HFIN.out _ hS
        have HR1 := Lib.hid hr1
        have HR2 := Lib.hid hr2
        have HR3 := Lib.hid hr3
        have hm3 := HN3.out
        have HT3 := HL3
        clear hr1 hr2 hr3 hS hq k0 k1 k2 HC1 HC2 HC3 HN1 HN2 HN3 HFIN
        go_wp2_with fail
        go_loopw [10, 11, 40] (fun xv yv iv wr => ∃ (k : Nat) (L1 L2 : List Mg.C), k ≤ m3 ∧ iv = .int .i64 k ∧ wr.ownsRow wc.heap.size 54 3 xv L1.length (callCells L1) ∧ wr.ownsRow wc.heap.size 54 3 yv L2.length (callCells L2) ∧ Apart xv yv ∧ Below wc.heap.size wc wr ∧ L1.length ≤ k ∧ L2.length ≤ k ∧ Hid (L1 = portL p (T3.take k) ∧ L2 = elseL p (T3.take k))) (fun _ _ iv _ => m3 - (intOf iv).toNat)
        case atStart => exact ⟨0, [], [], Nat.zero_le _, rfl, ⟨by simp [callCells], .inl ⟨rfl, rfl⟩⟩, ⟨by simp [callCells], .inl ⟨rfl, rfl⟩⟩, (fun k hk => by cases hk), Below.refl _ _, by simp, by simp, Lib.hid ⟨rfl, rfl⟩⟩
        case round =>
          obtain ⟨k, L1, L2, hk, rfl, hox0, hoy0, hap, hb, hl1, hl2, HA⟩ := hrel
          by_cases hlt : k < m3
          · obtain ⟨ad, rfl, hadB, hc⟩ := (HR3.out.below hb).here (by omega)
            have hkl : k < T3.length := by rw [HT3.out]; exact hlt
            obtain ⟨p1, p2, p3⟩ := callCells_at T3 k hkl
            have c1 := hc _ _ p1
            have c2 := hc _ _ p2
            have c3 := hc _ _ p3
            rw [Mem.add_field _ _ 1 (by omega)] at c2
            rw [Mem.add_field _ _ 2 (by omega)] at c3
            have HCC := Lib.hid hc
            have HY := Lib.hid (portL_snoc p T3 k hkl)
            have HNO := Lib.hid (elseL_snoc p T3 k hkl)
            have HLE : Hid (∀ (i : Nat) (hi : i < k), (T3[i]'(by omega)).1 ≤ T3[k].1) := Lib.hid (fun i hi => Mg.up_le HUP.out i k (by omega) hkl)
            generalize T3[k] = pp at *
            obtain ⟨pt, pu, py⟩ := pp
            dsimp only at c1 c2 c3
            have x1 : (0 : Int) ≤ (k : Int) := by omega
            have x2 : (k : Int) < (m3 : Int) := by omega
            clear p1 p2 p3 hc
            go_upto_region 10 with fail
            have d0 : (wr.alloc (.cells #[.int .i64 pt, .int .i64 pu, .int .i64 py] 54)).cell? ⟨wr.heap.size, 0, none⟩ = some (.int .i64 pt) := by simp
            have HD1 : Hid ((wr.alloc (.cells #[.int .i64 pt, .int .i64 pu, .int .i64 py] 54)).cell? ⟨wr.heap.size, 1, none⟩ = some (.int .i64 pu)) := Lib.hid (by simp)
            have HD2 : Hid ((wr.alloc (.cells #[.int .i64 pt, .int .i64 pu, .int .i64 py] 54)).cell? ⟨wr.heap.size, 2, none⟩ = some (.int .i64 py)) := Lib.hid (by simp)
            have HOX := Lib.hid (fun nq => own_box hox0 (.cells #[.int .i64 pt, .int .i64 pu, .int .i64 py] 54) nq)
            have HOY := Lib.hid (fun nq => own_box hoy0 (.cells #[.int .i64 pt, .int .i64 pu, .int .i64 py] 54) nq)
            have hbA : Below wc.heap.size wc (wr.alloc (.cells #[.int .i64 pt, .int .i64 pu, .int .i64 py] 54)) := hb.alloc hb.size _
            have HRA := Lib.hid (HR3.out.below hbA)
            clear c1 c2 c3 hox0 hoy0 hb HCC
            generalize hba : wr.heap.size = ba at *
            generalize (wr.alloc (.cells #[.int .i64 pt, .int .i64 pu, .int .i64 py] 54)) = wa at *
            go_cut [57] (fun a wx => a = .bool false ∧ ∃ nq, wx = wa.drewN nq)
            case first =>
              by_cases hk0 : k = 0
              · have y5 : decide ((0 : Int) < (k : Int)) = false := decide_eq_false (by omega)
                have y6 : decide (0 < k) = false := decide_eq_false (by omega)
                clear hk0 HLE hkl
                go_quiet (fail)
                go_wp2_with fail
                go_meet
                exact ⟨rfl, _, rfl⟩
              · obtain ⟨i, hki⟩ : ∃ i, k = i + 1 := ⟨k - 1, by omega⟩
                have hil : i < T3.length := by omega
                obtain ⟨ad', hA3, hadB', hc'⟩ := HRA.out.here (by omega)
                injection hA3 with hA3
                subst hA3
                have e0 := hc' _ _ (callCells_at T3 i hil).1
                have ht : ¬ pt < T3[i].1 := by have := HLE.out i (by omega); omega
                generalize T3[i].1 = lt at *
                have y1 : (0 : Int) ≤ (i : Int) := by omega
                have y2 : (i : Int) < (m3 : Int) := by omega
                have y4 : IntKind.i64.wrap ((k : Int) - 1) = (i : Int) := by rw [show (k : Int) - 1 = (i : Int) from by omega, IntKind.wrap_i64]; omega
                have y7 : (k : Int) - 1 = (i : Int) := by omega
                have y8 : IntKind.i64.wrap (i : Int) = (i : Int) := by rw [IntKind.wrap_i64]; omega
                have y5 : decide ((0 : Int) < (k : Int)) = true := decide_eq_true (by omega)
                have y6 : decide (0 < k) = true := decide_eq_true (by omega)
                clear hki hk0 hil hc' HLE hkl hba hlt hk hm3 hl1 hl2
                go_quiet (fail)
                go_wp2_with fail
                go_meet
                exact ⟨rfl, _, rfl⟩
            case rest =>
              obtain ⟨rfl, nq, rfl⟩ := hcut
              have g0 : (wa.drewN nq).cell? ⟨ba, 0, none⟩ = some (.int .i64 pt) := by simpa using d0
              have g1 : (wa.drewN nq).cell? ⟨ba, 1, none⟩ = some (.int .i64 pu) := by simpa using HD1.out
              have g2 : (wa.drewN nq).cell? ⟨ba, 2, none⟩ = some (.int .i64 py) := by simpa using HD2.out
              have hbB : Below wc.heap.size wc (wa.drewN nq) := belowQ' hbA nq
              have hox := HOX.out nq
              have hoy := HOY.out nq
              clear d0 HD1 HD2 HOX HOY hbA HRA
              generalize wa.drewN nq = W3 at *
              cases hpu : (pu == p) with
              | true =>
                have HN := Lib.hid (HY.out hpu)
                have HFR : Hid (Rd (W3.alloc (.cells #[.int .i64 pt, .int .i64 pu, .int .i64 py] 54)) (W3.heap.size + 1) 3 (some ⟨W3.heap.size, 0, none⟩) 1 [.int .i64 pt, .int .i64 pu, .int .i64 py]) := Lib.hid (Rd.fresh W3 #[.int .i64 pt, .int .i64 pu, .int .i64 py] 54 1 3 rfl)
                have HOK := Lib.hid hoy
                have HOA := Lib.hid (World.ownsRow.alloc hox (.cells #[.int .i64 pt, .int .i64 pu, .int .i64 py] 54))
                have HLT := Lib.hid (fun k hk => (hox.lt k hk).1)
                have hbC := hbB.alloc hbB.size (.cells #[.int .i64 pt, .int .i64 pu, .int .i64 py] 54)
                clear hox hoy
                go_wp2_with (at_builtin; refine wpList_app _ rfl _ _ 23 rfl wc.heap.size 54 i0 (.agg #[.int .i64 0, .int .i64 0, .int .i64 0]) 3 24 Try.underlying23 hi hz0 hz1 hz2 rfl (by decide) _ L1.length (callCells L1) rfl HOA.out (W3.heap.size + 1) (some ⟨W3.heap.size, 0, none⟩) 1 1 [.int .i64 pt, .int .i64 pu, .int .i64 py] rfl HFR.out (callCells_one [(pt, pu, py)]) (by unfold maxLen; omega) (by omega) hbC.size ?_)
                intro v' w4 hown' hgr hx'
                have HO1 := Lib.hid hown'
                have HO2 := Lib.hid (own_other (World.ownsRow.alloc HOK.out _) hgr (fun k hk e => hap k e.symm hk))
                have HAP := Lib.hid (Apart.left hap HOK.out hx' (by simp))
                have hb4 := hbC.grown hgr hbC.size HLT.out
                clear hown' hgr hx' hap
                go_wp2
                go_roundw
                case rel => exact ⟨k + 1, L1 ++ [(pt, pu, py)], L2, by omega, by go_num, (by have := HO1.out; rw [callCells_app, List.length_append]; exact this), HO2.out, HAP.out, hb4, by simp; omega, by omega, Lib.hid (by rw [HN.out.1, HN.out.2, HA.out.1, HA.out.2]; exact ⟨rfl, rfl⟩)⟩
                case measure => first | (simp [intOf]; done) | (simp [intOf]; omega)
              | false =>
                have HN := Lib.hid (HNO.out hpu)
                have HFR : Hid (Rd (W3.alloc (.cells #[.int .i64 pt, .int .i64 pu, .int .i64 py] 54)) (W3.heap.size + 1) 3 (some ⟨W3.heap.size, 0, none⟩) 1 [.int .i64 pt, .int .i64 pu, .int .i64 py]) := Lib.hid (Rd.fresh W3 #[.int .i64 pt, .int .i64 pu, .int .i64 py] 54 1 3 rfl)
                have HOK := Lib.hid hox
                have HOA := Lib.hid (World.ownsRow.alloc hoy (.cells #[.int .i64 pt, .int .i64 pu, .int .i64 py] 54))
                have HLT := Lib.hid (fun k hk => (hoy.lt k hk).1)
                have hbC := hbB.alloc hbB.size (.cells #[.int .i64 pt, .int .i64 pu, .int .i64 py] 54)
                clear hox hoy
                go_wp2_with (at_builtin; refine wpList_app _ rfl _ _ 23 rfl wc.heap.size 54 i0 (.agg #[.int .i64 0, .int .i64 0, .int .i64 0]) 3 24 Try.underlying23 hi hz0 hz1 hz2 rfl (by decide) _ L2.length (callCells L2) rfl HOA.out (W3.heap.size + 1) (some ⟨W3.heap.size, 0, none⟩) 1 1 [.int .i64 pt, .int .i64 pu, .int .i64 py] rfl HFR.out (callCells_one [(pt, pu, py)]) (by unfold maxLen; omega) (by omega) hbC.size ?_)
                intro v' w4 hown' hgr hx'
                have HO1 := Lib.hid hown'
                have HO2 := Lib.hid (own_other (World.ownsRow.alloc HOK.out _) hgr (fun k hk e => hap k hk e.symm))
                have HAP := Lib.hid (Apart.right hap HOK.out hx' (by simp))
                have hb4 := hbC.grown hgr hbC.size HLT.out
                clear hown' hgr hx' hap
                go_wp2
                go_roundw
                case rel => exact ⟨k + 1, L1, L2 ++ [(pt, pu, py)], by omega, by go_num, HO2.out, (by have := HO1.out; rw [callCells_app, List.length_append]; exact this), HAP.out, hb4, by omega, by simp; omega, Lib.hid (by rw [HN.out.1, HN.out.2, HA.out.1, HA.out.2]; exact ⟨rfl, rfl⟩)⟩
                case measure => first | (simp [intOf]; done) | (simp [intOf]; omega)
          · have x2 : ¬ (k : Int) < (m3 : Int) := by omega
            have HE : Hid (L1 = T1 ∧ L2 = T2) := Lib.hid (by
              have h9 := HA.out
              rw [List.take_of_length_le (by rw [HT3.out]; omega)] at h9
              exact ⟨h9.1.trans HP1.out, h9.2.trans HP2.out⟩)
            obtain ⟨B1, d1, rfl⟩ := own_slice hox0
            obtain ⟨B2, d2, rfl⟩ := own_slice hoy0
            have HQ1 := Lib.hid (Rd.of_own hox0)
            have HQ2 := Lib.hid (Rd.of_own hoy0)
            have HZ1 : Hid (Rd wr wr.heap.size 3 A1 m1 (callCells T1)) := Lib.hid ((HR1.out.below hb).more hb.size)
            have HZ2 : Hid (Rd wr wr.heap.size 3 A2 m2 (callCells T2)) := Lib.hid ((HR2.out.below hb).more hb.size)
            have hbf := hfw.trans (hb.mono hfw.size)
            clear hox0 hoy0 hap HA
            rw [HE.out.1, HL1.out] at HQ1 ⊢
            rw [HE.out.2, HL2.out] at HQ2 ⊢
            have HW : Hid (m1 ≤ 140737488355328 ∧ m2 ≤ 140737488355328) := Lib.hid ⟨by have := congrArg List.length HE.out.1; rw [HL1.out] at this; omega, by have := congrArg List.length HE.out.2; rw [HL2.out] at this; omega⟩
            clear HE
            go_wp2_with fail
            refine (samecalls_any A1 B1 m1 ca1 d1 wr.heap.size T1 wr HZ1.out HQ1.out (Nat.le_refl _) HW.out.1).mono ?_
            rintro e w5 ⟨rfl, hb5⟩
            have h5 := hbf.trans (hb5.mono hbf.size)
            have HZ3 := Lib.hid (HZ2.out.below hb5)
            have HQ3 := Lib.hid (HQ2.out.below hb5)
            have hs5 := hb5.size
            clear hb5
            go_wp2_with fail
            refine (samecalls_any A2 B2 m2 ca2 d2 wr.heap.size T2 w5 HZ3.out HQ3.out hs5 HW.out.2).mono ?_
            rintro e w6 ⟨rfl, hb6⟩
            have h6 := h5.trans (hb6.mono h5.size)
            clear hb6
            go_wp2_with fail
            refine (may_target w6).mono ?_
            rintro e w7 ⟨rfl, hb7⟩
            have h7 := h6.trans (hb7.mono h6.size)
            clear hb7
            go_wp2
            go_ret
            exact ⟨rfl, h7⟩

end Go.Proofs.Ytkfeicgeobhccaa
