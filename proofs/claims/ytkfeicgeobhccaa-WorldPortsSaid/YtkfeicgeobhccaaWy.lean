/-
  The walk of the law that asks are heard once.
-/
import Derived.Test.YtkfeicgeobhccaaWt
import Derived.Deep.RegionHeld3
namespace Go.Proofs.Ytkfeicgeobhccaa
open Go.RowKit

theorem take_once {α : Type} (p q : α → Bool) (hpq : ∀ x, p x = true → q x = true) (d : List α) : d.takeWhile p ++ (d.drop (d.takeWhile p).length).takeWhile q = d.takeWhile q := by
  induction d with
  | nil => rfl
  | cons x r ih =>
    cases hx : p x with
    | true =>
      rw [List.takeWhile_cons, hx, List.takeWhile_cons, hpq x hx]
      simpa using ih
    | false => rw [List.takeWhile_cons, hx]; rfl
theorem once_eq (l : List (Int × ByteArray × Int)) (heard now later : Int) (h0 : 0 ≤ heard) (hn : now ≤ later) : asksL l heard now ++ asksL l (heard + ((asksL l heard now).length : Int)) later = asksL l heard later := by
  have h := take_once (fun p : Int × ByteArray × Int => decide (p.1 ≤ now)) (fun p => decide (p.1 ≤ later)) (fun x hx => by simp at hx ⊢; omega) (l.drop heard.toNat)
  have e : (heard + ((asksL l heard now).length : Int)).toNat = heard.toNat + (asksL l heard now).length := by omega
  unfold asksL at e ⊢
  rw [e, ← List.drop_drop]
  exact h
theorem asks_le (l : List (Int × ByteArray × Int)) (heard now : Int) : (∀ p ∈ asksL l heard now, p.1 ≤ now) ∧ (asksL l heard now).length ≤ l.length := by
  have ht : ∀ d : List (Int × ByteArray × Int), (∀ p ∈ d.takeWhile fun p => decide (p.1 ≤ now), p.1 ≤ now) ∧ (d.takeWhile fun p => decide (p.1 ≤ now)).length ≤ d.length := by
    intro d
    induction d with
    | nil => simp
    | cons x r ih =>
      rw [List.takeWhile_cons]
      by_cases hx : x.1 ≤ now
      · rw [if_pos (by simpa using hx)]
        refine ⟨fun p hp => ?_, by simp only [List.length_cons]; omega⟩
        cases List.mem_cons.1 hp with
        | inl e => subst e; exact hx
        | inr e => exact ih.1 p e
      · rw [if_neg (by simpa using hx)]
        exact ⟨fun p hp => (by cases hp), by simp⟩
  unfold asksL asksFrom
  have h1 := ht (l.drop heard.toNat)
  exact ⟨h1.1, Nat.le_trans h1.2 (by rw [List.length_drop]; omega)⟩
theorem may_kn {na nc nk : Nat} {acts : List ActD} {calls : List (Int × Int × Int)} {asks : List (Int × ByteArray × Int)} (h : mayWB na nc nk acts calls asks = true) : nk ≤ 100 := by
  unfold mayWB at h
  simp at h
  exact h.2.2.1
theorem below_grown {W0 W W' : World} {row : Option Nat} (h : Below W0.heap.size W0 W) (hg : W.grownBy W' row) (hr : ∀ k, row = some k → W0.heap.size ≤ k) : Below W0.heap.size W0 W' := h.grown hg h.size hr
theorem since_more2 {W0 W W' : World} (h : Below W0.heap.size W0 W) (hb : Below W.heap.size W W') : Below W0.heap.size W0 W' := h.trans (hb.mono h.size)
set_option maxRecDepth 100000 in
set_option maxHeartbeats 16000000 in
theorem worldonce_any (D : WorldD) (heard now later : Int) (w : World) (h : WorldGood w D) :
    Calls Try.prog 7 #[worldV D, .int .i64 heard, .int .i64 now, .int .i64 later] w fun e w' => e = .returned (.bool true) ∧ Below w.heap.size w w' := by
  have hrl := reach_le
  have hbk := h.bk
  obtain ⟨i0, hi, hz0, hz1, hz2⟩ := info_parts ask_info
  have HM := Lib.hid (rmay_good h)
  have HK0 := Lib.hid (fun (hk : D.kn ≤ 100) w' (hb : Below w.heap.size w w') (a b : Int) => asks_any D.aA D.an D.ac D.cA D.cn D.cc D.kA D.kn D.kc D.asks a b w' w.heap.size (h.rk.below hb) hb.size (by omega))
  have HKN := Lib.hid (fun hm => may_kn (na := D.an) (nc := D.cn) (nk := D.kn) (acts := D.acts) (calls := D.calls) (asks := D.asks) hm)
  have hlen : D.asks.length = D.kn := by have h1 := h.rk.1; rw [askCells_len] at h1; omega
  obtain ⟨aA, an, ac, l, cA, cn, cc, lc, kA, kn, kc, lk⟩ := D
  simp only [worldV] at HM HK0 HKN hlen ⊢
  clear h hbk
  have HLEN := Lib.hid hlen
  clear hlen
  generalize mayWB an cn kn l lc lk = r at *
  have hbW := (Below.refl w.heap.size w).alloc (Nat.le_refl _) (.cells #[.slice aA an ac, .slice cA cn cc, .slice kA kn kc] 26)
  go_enter Try.func7, Try.ntmps7
  go_wp2_with fail
  refine (shown_any _).mono ?_
  rintro e w1 ⟨rfl, hb1⟩
  have h1 := hbW.trans (hb1.mono hbW.size)
  have hz1' : w.heap.size + 1 ≤ w1.heap.size := by have := hb1.size; simpa using this
  have b0 : w1.cell? ⟨w.heap.size, 0, none⟩ = some (.slice aA an ac) := (hb1.cell (p := ⟨w.heap.size, 0, none⟩) (by simp)).trans (by go_simp)
  have b1 : w1.cell? ⟨w.heap.size, 1, none⟩ = some (.slice cA cn cc) := (hb1.cell (p := ⟨w.heap.size, 1, none⟩) (by simp)).trans (by go_simp)
  have b2 : w1.cell? ⟨w.heap.size, 2, none⟩ = some (.slice kA kn kc) := (hb1.cell (p := ⟨w.heap.size, 2, none⟩) (by simp)).trans (by go_simp)
  clear hb1
  go_wp2_with fail
  refine (HM.out _ h1).mono ?_
  rintro e w2 ⟨rfl, hb2⟩
  have h2 := h1.trans (hb2.mono h1.size)
  have hz2' : w.heap.size + 1 ≤ w2.heap.size := by have := hb2.size; omega
  have c0 : w2.cell? ⟨w.heap.size, 0, none⟩ = some (.slice aA an ac) := (hb2.cell (p := ⟨w.heap.size, 0, none⟩) (by simp; omega)).trans b0
  have c1 : w2.cell? ⟨w.heap.size, 1, none⟩ = some (.slice cA cn cc) := (hb2.cell (p := ⟨w.heap.size, 1, none⟩) (by simp; omega)).trans b1
  have c2 : w2.cell? ⟨w.heap.size, 2, none⟩ = some (.slice kA kn kc) := (hb2.cell (p := ⟨w.heap.size, 2, none⟩) (by simp; omega)).trans b2
  clear hb2 b0 b1 b2 hz1' h1
  cases r with
  | false =>
    go_wp2
    go_ret
    exact ⟨rfl, h2⟩
  | true =>
    have hkn := HKN.out rfl
    have HK := Lib.hid (HK0.out hkn)
    clear HK0
    by_cases t1 : heard < 0
    · skip
      go_wp2
      go_ret
      exact ⟨rfl, h2⟩
    · skip
      by_cases t2 : (kn : Int) < heard
      · skip
        go_wp2
        go_ret
        exact ⟨rfl, h2⟩
      · skip
        by_cases t3 : later < now
        · skip
          go_wp2
          go_ret
          exact ⟨rfl, h2⟩
        · skip
          have HON := Lib.hid (once_eq lk heard now later (by omega) (by omega))
          have HLE := Lib.hid (asks_le lk heard now)
          have HLB := Lib.hid (asks_le lk (heard + ((asksL lk heard now).length : Int)) later)
          have HKA := Lib.hid (HK.out w2 h2 heard now)
          have HKB := Lib.hid (fun w' (hb : Below w.heap.size w w') => HK.out w' hb (heard + ((asksL lk heard now).length : Int)) later)
          have HKC := Lib.hid (fun w' (hb : Below w.heap.size w w') => HK.out w' hb heard later)
          rw [← HON.out] at HKC
          generalize asksL lk (heard + ((asksL lk heard now).length : Int)) later = Lb at *
          generalize asksL lk heard now = La at *
          clear HON HK
          simp only [List.length_append] at HKC
          have hla : La.length ≤ 100 := by have := HLE.out.2; have := HLEN.out; omega
          have hlb : Lb.length ≤ 100 := by have := HLB.out.2; have := HLEN.out; omega
          have HALE := Lib.hid HLE.out.1
          clear HLE HLB
          go_wp2_with fail
          refine HKA.out.mono ?_
          rintro e w3 ⟨A1, c1', rfl, hown1, hb3⟩
          have h3 := h2.trans (hb3.mono h2.size)
          have hz3' : w.heap.size + 1 ≤ w3.heap.size := by have := hb3.size; omega
          have HR1 := Lib.hid (Rd.of_own hown1)
          clear hown1
          have d0 : w3.cell? ⟨w.heap.size, 0, none⟩ = some (.slice aA an ac) := (hb3.cell (p := ⟨w.heap.size, 0, none⟩) (by simp; omega)).trans c0
          have d1 : w3.cell? ⟨w.heap.size, 1, none⟩ = some (.slice cA cn cc) := (hb3.cell (p := ⟨w.heap.size, 1, none⟩) (by simp; omega)).trans c1
          have d2 : w3.cell? ⟨w.heap.size, 2, none⟩ = some (.slice kA kn kc) := (hb3.cell (p := ⟨w.heap.size, 2, none⟩) (by simp; omega)).trans c2
          clear hb3 c0 c1 c2 HKA h2 hz2'
          go_wp2_with fail
          refine (HKB.out _ h3).mono ?_
          rintro e w4 ⟨A2, c2', rfl, hown2, hb4⟩
          have h4 := h3.trans (hb4.mono h3.size)
          have hz4' : w.heap.size + 1 ≤ w4.heap.size := by have := hb4.size; omega
          have HR2 := Lib.hid (Rd.of_own hown2)
          have HR1' := Lib.hid (HR1.out.below hb4)
          have hs34 := hb4.size
          clear hown2
          have e0 : w4.cell? ⟨w.heap.size, 0, none⟩ = some (.slice aA an ac) := (hb4.cell (p := ⟨w.heap.size, 0, none⟩) (by simp; omega)).trans d0
          have e1 : w4.cell? ⟨w.heap.size, 1, none⟩ = some (.slice cA cn cc) := (hb4.cell (p := ⟨w.heap.size, 1, none⟩) (by simp; omega)).trans d1
          have e2 : w4.cell? ⟨w.heap.size, 2, none⟩ = some (.slice kA kn kc) := (hb4.cell (p := ⟨w.heap.size, 2, none⟩) (by simp; omega)).trans d2
          clear hb4 d0 d1 d2 HKB h3 hz3' HR1
          go_wp2_with fail
          go_loopw [47] (fun iv wr => ∃ k : Nat, k ≤ La.length ∧ iv = .int .i64 k ∧ Below w4.heap.size w4 wr) (fun iv _ => La.length - (intOf iv).toNat)
          case atStart => exact ⟨0, Nat.zero_le _, rfl, Below.refl _ _⟩
          case round =>
            obtain ⟨k, hk, rfl, hb⟩ := hrel
            by_cases hlt : k < La.length
            · obtain ⟨ad, rfl, hadB, hc⟩ := (HR1'.out.below (hb.mono hs34)).here (by omega)
              obtain ⟨p0, p1, p2⟩ := askCells_at La k hlt
              have g0 := hc _ _ p0
              have g1 := hc _ _ p1
              have g2 := hc _ _ p2
              rw [Mem.add_field _ _ 1 (by omega)] at g1
              rw [Mem.add_field _ _ 2 (by omega)] at g2
              have hle := HALE.out _ (List.getElem_mem hlt)
              generalize La[k] = p at *
              obtain ⟨pat, pun, pty⟩ := p
              dsimp only at g0 g1 g2 hle
              have x1 : (0 : Int) ≤ (k : Int) := by omega
              have x2 : (k : Int) < (La.length : Int) := by omega
              have x3 : ¬ now < pat := by omega
              have hbA := hb.alloc hb.size (.cells #[.int .i64 pat, .string pun, .int .i64 pty] 51)
              clear p0 p1 p2 hc hle
              go_wp2
              go_roundw
              case rel => exact ⟨k + 1, by omega, by go_num, hbA⟩
              case measure => first | (simp [intOf]; done) | (simp [intOf]; omega)
            · have x2 : ¬ (k : Int) < (La.length : Int) := by omega
              have k0 : ∀ W, Below wr.heap.size wr W → W.cell? ⟨w.heap.size, 0, none⟩ = some (.slice aA an ac) := fun W hW => (hW.cell (p := ⟨w.heap.size, 0, none⟩) (by have := hb.size; simp; omega)).trans ((hb.cell (p := ⟨w.heap.size, 0, none⟩) (by simp; omega)).trans e0)
              have k1 : ∀ W, Below wr.heap.size wr W → W.cell? ⟨w.heap.size, 1, none⟩ = some (.slice cA cn cc) := fun W hW => (hW.cell (p := ⟨w.heap.size, 1, none⟩) (by have := hb.size; simp; omega)).trans ((hb.cell (p := ⟨w.heap.size, 1, none⟩) (by simp; omega)).trans e1)
              have k2 : ∀ W, Below wr.heap.size wr W → W.cell? ⟨w.heap.size, 2, none⟩ = some (.slice kA kn kc) := fun W hW => (hW.cell (p := ⟨w.heap.size, 2, none⟩) (by have := hb.size; simp; omega)).trans ((hb.cell (p := ⟨w.heap.size, 2, none⟩) (by simp; omega)).trans e2)
              have hwr := hb.size
              have HRA := Lib.hid ((HR1'.out.below (hb.mono hs34)).more (Nat.le_trans hs34 hwr))
              have HRB := Lib.hid ((HR2.out.below hb).more hwr)
              have h5 := h4.trans (hb.mono h4.size)
              have HKD := Lib.hid (fun W (hW : Below wr.heap.size wr W) => HKC.out W (h5.trans (hW.mono h5.size)))
              have hq : Below wr.heap.size wr wr.drew := (Below.refl _ _).drew
              clear e0 e1 e2 HR1' HR2 hb h4 hs34 HKC hk HALE
              go_wp2_with fail
              go_region_held3 (fun W => Below wr.heap.size wr W) (assumption) (first | (go_at_call 22; refine (HKD.out _ (by assumption)).mono ?_; rintro e w7 ⟨A7, c7, rfl, hown7, hb7⟩; have q7 := since_more2 (by assumption) hb7; have hr6 := (Rd.of_own hown6).below hb7; have hs6 := hb7.size) | (go_at_call 21; refine (sameasks_any A6 A7 (La.length + Lb.length) c6 c7 w7.heap.size (La ++ Lb) w7 (hr6.more hs6) (Rd.of_own hown7) (Nat.le_refl _) (by omega)).mono ?_; rintro e w9 ⟨rfl, hb9⟩; have q9 := since_more2 q7 hb9) | (refine step_app _ rfl _ _ 24 rfl wr.heap.size 51 i0 (.agg #[.int .i64 0, .string ⟨#[]⟩, .int .i64 0]) 3 32 Try.underlying24 hi hz0 hz1 hz2 rfl (by decide) _ 0 [] rfl ⟨rfl, .inl ⟨rfl, rfl⟩⟩ wr.heap.size A1 La.length c1' (askCells La) rfl (HRA.out.below (by assumption)) (askCells_one La) (by unfold maxLen; omega) (by omega) (Below.size (by assumption)) ?_; intro v5 w5 hown5 hgr5 hx5; clear hx5; have q5 := below_grown (by assumption) hgr5 (by intro k hk; cases hk); simp only [List.nil_append, Nat.zero_add] at hown5) | (refine step_app _ rfl _ _ 24 rfl wr.heap.size 51 i0 (.agg #[.int .i64 0, .string ⟨#[]⟩, .int .i64 0]) 3 32 Try.underlying24 hi hz0 hz1 hz2 rfl (by decide) v5 La.length (askCells La) rfl hown5 wr.heap.size A2 Lb.length c2' (askCells Lb) rfl (HRB.out.below (by assumption)) (askCells_one Lb) (by unfold maxLen; omega) (by omega) (Below.size (by assumption)) ?_; intro v6 w6 hown6 hgr6 hx6; clear hx6; have q6 := below_grown (by assumption) hgr6 (fun k hk => (hown5.lt k hk).1); obtain ⟨A6, c6, rfl⟩ := own_slice hown6; rw [← askCells_app] at hown6))
              all_goals
                have hfin := h5.trans (q9.mono h5.size)
                go_wp2
                go_ret
                exact ⟨rfl, hfin⟩

end Go.Proofs.Ytkfeicgeobhccaa
