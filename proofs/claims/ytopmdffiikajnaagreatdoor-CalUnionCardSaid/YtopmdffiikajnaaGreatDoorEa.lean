/-
  The parts of two in one field: the law's walk.
-/
import Derived.Test.YtopmdffiikajnaaGreatDoorDz
import Derived.Test.YtopmdffiikajnaaGreatDoorGa
import Derived.Test.YtopmdffiikajnaaGreatDoorDh
namespace Go.Proofs.YtopmdffiikajnaaGreatDoor
open Go.RowKit Go.Shelf

theorem own_base {w : World} {base : Nat} {e : TypeId} {size n : Nat} {v : Value} {xs : List Value} (h : w.ownsRow base e size v n xs) : ∀ k, v.ownBlock = some k → base ≤ k := by
  intro k hk
  rcases h.2 with ⟨rfl, _⟩ | ⟨g, cap, cur, rfl, hb, _⟩
  · cases hk
  · injection hk with hk
    rw [← hk]; exact hb
theorem partsC_one (l : List Sp.PartD) : ∀ u ∈ partsC l, u.oneCell' = true := by
  intro u hu
  unfold partsC at hu
  obtain ⟨p, _, hp⟩ := List.mem_flatMap.1 hu
  exact part_oneCell p u hp
theorem partsC_app (a b : List Sp.PartD) : partsC a ++ partsC b = partsC (a ++ b) := by
  unfold partsC; rw [List.flatMap_append]
theorem putN_lt (k : Int) : Sp.putN k < 6 := by
  unfold Sp.putN
  repeat (split; decide)
  decide
theorem fresh_ne {B : Nat} {v : Value} {W : World} (h : FreshAt B v W) : v ≠ .pointer (some ⟨W.heap.size, 0, none⟩) := by
  obtain ⟨b, rfl, _, hlt, _⟩ := h
  intro e
  injection e with e
  injection e with e
  injection e with e
  omega
theorem CV.far7 {w : World} {b b' : Nat} {d : SlA} {f : Nat → SlA} (h : CV w b d f) (hne : b' ≠ b) (x0 x1 x2 x3 x4 x5 x6 : Value) : CV (((((((w.setCell ⟨b', 0, none⟩ x0).setCell ⟨b', 1, none⟩ x1).setCell ⟨b', 2, none⟩ x2).setCell ⟨b', 3, none⟩ x3).setCell ⟨b', 4, none⟩ x4).setCell ⟨b', 5, none⟩ x5).setCell ⟨b', 6, none⟩ x6) b d f := by
  have k : ∀ (W : World) (j : Nat) (v : Value), (W.setCell ⟨b', j, none⟩ v).heap[b]? = W.heap[b]? := fun W j v => Below.heap_setCell W ⟨b', j, none⟩ v b (fun e => hne e.symm)
  unfold CV at h ⊢
  rw [k, k, k, k, k, k, k]
  exact h
structure UniA (w3 : World) (cs fv pv qv uv ra rb ru : Value) (D : Nat → Bool) (x : Nat → Value) (W : World) : Prop where
  hS : InS w3 W
  h0 : D 0 = true → x 0 = cs
  h1 : D 1 = true → x 1 = fv
  h2 : D 2 = true → x 2 = pv
  h3 : D 3 = true → x 3 = ra
  h4 : D 4 = true → x 4 = cs
  h5 : D 5 = true → x 5 = fv
  h6 : D 6 = true → x 6 = qv
  h7 : D 7 = true → x 7 = rb
  h8 : D 8 = true → x 8 = cs
  h9 : D 9 = true → x 9 = fv
  h10 : D 10 = true → x 10 = uv
  h11 : D 11 = true → x 11 = ru
  h12 : D 12 = true → FreshAt w3.heap.size (x 12) W
  h13 : D 13 = true → FreshAt w3.heap.size (x 13) W
  h14 : D 14 = true → FreshAt w3.heap.size (x 14) W
  n1 : D 12 = true → D 13 = true → x 12 ≠ x 13
  n2 : D 12 = true → D 14 = true → x 12 ≠ x 14
  n3 : D 13 = true → D 14 = true → x 13 ≠ x 14
def UniB1 (w3 : World) (sA : CalS) (rb ru : Value) (x : Nat → Value) (W : World) : Prop :=
  InS w3 W ∧ x 7 = rb ∧ x 11 = ru ∧ ∃ b1 b2 b3, x 12 = .pointer (some ⟨b1, 0, none⟩) ∧ x 13 = .pointer (some ⟨b2, 0, none⟩) ∧ x 14 = .pointer (some ⟨b3, 0, none⟩) ∧ b1 ≠ b2 ∧ b1 ≠ b3 ∧ b2 ≠ b3 ∧ w3.heap.size ≤ b2 ∧ w3.heap.size ≤ b3 ∧ b1 < W.heap.size ∧ b2 < W.heap.size ∧ b3 < W.heap.size ∧ CV W b1 sA.d sA.sl ∧ CV W b2 nilS (fun _ => nilS) ∧ CV W b3 nilS (fun _ => nilS)
def UniB2 (w3 : World) (sA sB : CalS) (ru : Value) (x : Nat → Value) (W : World) : Prop :=
  InS w3 W ∧ x 11 = ru ∧ ∃ b1 b2 b3, x 12 = .pointer (some ⟨b1, 0, none⟩) ∧ x 13 = .pointer (some ⟨b2, 0, none⟩) ∧ x 14 = .pointer (some ⟨b3, 0, none⟩) ∧ b1 ≠ b2 ∧ b1 ≠ b3 ∧ b2 ≠ b3 ∧ w3.heap.size ≤ b3 ∧ b1 < W.heap.size ∧ b2 < W.heap.size ∧ b3 < W.heap.size ∧ CV W b1 sA.d sA.sl ∧ CV W b2 sB.d sB.sl ∧ CV W b3 nilS (fun _ => nilS)
def UniF (w3 : World) (sA sB sU : CalS) (x : Nat → Value) (W : World) : Prop :=
  InS w3 W ∧ ∃ b1 b2 b3, x 12 = .pointer (some ⟨b1, 0, none⟩) ∧ x 13 = .pointer (some ⟨b2, 0, none⟩) ∧ x 14 = .pointer (some ⟨b3, 0, none⟩) ∧ b1 < W.heap.size ∧ b2 < W.heap.size ∧ b3 < W.heap.size ∧ CV W b1 sA.d sA.sl ∧ CV W b2 sB.d sB.sl ∧ CV W b3 sU.d sU.sl
def UniJ (w3 : World) (sA sB sU : CalS) (cs fv pv qv uv ra rb ru : Value) (D : Nat → Bool) (x : Nat → Value) (W : World) : Prop :=
  (D 15 = false → UniA w3 cs fv pv qv uv ra rb ru D x W) ∧ (D 15 = true → D 16 = false → UniB1 w3 sA rb ru x W) ∧ (D 16 = true → D 17 = false → UniB2 w3 sA sB ru x W) ∧ (D 17 = true → UniF w3 sA sB sU x W)
set_option maxRecDepth 100000 in
set_option maxHeartbeats 16000000 in
theorem calunion_any (s : CalS) (P Q : PartsS) (field after : Int) (w : World) (h : CalGood w s) (gp : PartsGood w P) (gq : PartsGood w Q) (_hf1 : -9223372036854775808 ≤ field) (_hf2 : field ≤ 9223372036854775807) (ha1 : -9223372036854775808 ≤ after) (_ha2 : after ≤ 9223372036854775807) (E : Env w) :
    Calls Tryz.prog 11 #[calV s, partsV P, partsV Q, .int .i64 field, .int .i64 after] w fun e w' => e = .returned (.bool true) ∧ Below w.heap.size w w' := by
  obtain ⟨pA, pn, pc, pl⟩ := P
  obtain ⟨qA, qn, qc, ql⟩ := Q
  obtain ⟨hpr, hpb⟩ := gp
  obtain ⟨hqr, hqb⟩ := gq
  dsimp only at hpr hpb hqr hqb
  simp only [partsV]
  have HPL : Hid (pl.length = pn) := Lib.hid (by have := hpr.1; rw [partsC_len] at this; omega)
  have HQL : Hid (ql.length = qn) := Lib.hid (by have := hqr.1; rw [partsC_len] at this; omega)
  have HPR := Lib.hid hpr
  have HQR := Lib.hid hqr
  clear hpr hqr
  obtain ⟨⟨dA, dn, dc⟩, ⟨A0, n0, c0⟩, ⟨A1, n1, c1⟩, ⟨A2, n2, c2⟩, ⟨A3, n3, c3⟩, ⟨A4, n4, c4⟩, ⟨A5, n5, c5⟩, cal⟩ := s
  have hA : Below w.heap.size w (w.alloc (.cells #[.slice dA dn dc, .slice A0 n0 c0, .slice A1 n1 c1, .slice A2 n2 c2, .slice A3 n3 c3, .slice A4 n4 c4, .slice A5 n5 c5] 26)) := (Below.refl _ w).alloc (Nat.le_refl _) _
  have hcb := CBox.new w ⟨⟨dA, dn, dc⟩, ⟨A0, n0, c0⟩, ⟨A1, n1, c1⟩, ⟨A2, n2, c2⟩, ⟨A3, n3, c3⟩, ⟨A4, n4, c4⟩, ⟨A5, n5, c5⟩, cal⟩
  have hlt : w.heap.size < (w.alloc (.cells #[.slice dA dn dc, .slice A0 n0 c0, .slice A1 n1 c1, .slice A2 n2 c2, .slice A3 n3 c3, .slice A4 n4 c4, .slice A5 n5 c5] 26)).heap.size := by simp
  have HSH := Lib.hid (shown_any _ (E.on hA))
  have HG := Lib.hid h
  simp only [calV, slV] at hcb HSH ⊢
  clear h E
  go_enter Tryz.func11, Tryz.ntmps11
  go_wp2_with fail
  refine HSH.out.mono ?_
  rintro e w1 ⟨rfl, hb1'⟩
  have HC1 : Hid (CBox w1 w.heap.size ⟨⟨dA, dn, dc⟩, ⟨A0, n0, c0⟩, ⟨A1, n1, c1⟩, ⟨A2, n2, c2⟩, ⟨A3, n3, c3⟩, ⟨A4, n4, c4⟩, ⟨A5, n5, c5⟩, cal⟩) := Lib.hid (CBox.on hcb hb1' hlt)
  have HW1 := Lib.hid (hA.trans (hb1'.mono hA.size))
  have hl1 : w.heap.size < w1.heap.size := Nat.lt_of_lt_of_le hlt hb1'.size
  have HNX : Hid (∀ (z : Int) (W : World), -9223372036854775808 ≤ z → Below w1.heap.size w1 W → Calls Tryz.prog 23 #[.agg #[.slice dA dn dc, .slice A0 n0 c0, .slice A1 n1 c1, .slice A2 n2 c2, .slice A3 n3 c3, .slice A4 n4 c4, .slice A5 n5 c5], .int .i64 z] W fun e w' => (∃ v ok, e = .returned (.tuple #[.int .i64 v, .bool ok]) ∧ Sp.NextIs cal z v ok) ∧ Below W.heap.size W w') := Lib.hid (fun z W hz hW => next_any ⟨⟨dA, dn, dc⟩, ⟨A0, n0, c0⟩, ⟨A1, n1, c1⟩, ⟨A2, n2, c2⟩, ⟨A3, n3, c3⟩, ⟨A4, n4, c4⟩, ⟨A5, n5, c5⟩, cal⟩ z W (HG.out.on (HW1.out.trans (hW.mono HW1.out.size))) hz)
  have HMT : Hid (∀ (z : Int) (W : World), -9223372036854775808 ≤ z → z ≤ 9223372036854775807 → Below w1.heap.size w1 W → Calls Tryz.prog 21 #[.agg #[.slice dA dn dc, .slice A0 n0 c0, .slice A1 n1 c1, .slice A2 n2 c2, .slice A3 n3 c3, .slice A4 n4 c4, .slice A5 n5 c5], .int .i64 z] W fun e w' => e = .returned (.bool (Sp.matchB cal z)) ∧ Below W.heap.size W w') := Lib.hid (fun z W hz hz2 hW => match_any ⟨⟨dA, dn, dc⟩, ⟨A0, n0, c0⟩, ⟨A1, n1, c1⟩, ⟨A2, n2, c2⟩, ⟨A3, n3, c3⟩, ⟨A4, n4, c4⟩, ⟨A5, n5, c5⟩, cal⟩ z W (HG.out.on (HW1.out.trans (hW.mono HW1.out.size))) ⟨hz, hz2⟩)
  clear hA hcb hlt HSH hb1'
  clear HNX HMT
  have v0 : IntKind.i64.wrap ((pn : Int) + (qn : Int)) = (pn : Int) + (qn : Int) := by rw [IntKind.wrap_i64]; omega
  by_cases cc1 : pn < 1
  · have x1 : (pn : Int) < 1 := by omega
    go_wp2
    go_ret
    exact ⟨rfl, HW1.out⟩
  · have x1 : ¬ (pn : Int) < 1 := by omega
    by_cases cc2 : qn < 1
    · have x2 : (qn : Int) < 1 := by omega
      go_wp2
      go_ret
      exact ⟨rfl, HW1.out⟩
    · have x2 : ¬ (qn : Int) < 1 := by omega
      by_cases cc3 : 4 < pn + qn
      · have x3 : 4 < (pn : Int) + (qn : Int) := by omega
        go_wp2
        go_ret
        exact ⟨rfl, HW1.out⟩
      · have x3 : ¬ 4 < (pn : Int) + (qn : Int) := by omega
        obtain ⟨i0, hi, hz0, hz1, hz2⟩ := info_parts info_part
        have HI := Lib.hid hi
        have HZ0 := Lib.hid hz0
        have HZ1 := Lib.hid hz1
        have HZ2 := Lib.hid hz2
        have HP1 := Lib.hid (((HPR.out.below HW1.out).more HW1.out.size))
        clear hi hz0 hz1 hz2
        go_upto_region 5 with fail
        go_wp2_with (at_builtin; refine wpList_append_rd _ rfl _ _ 24 rfl w1.heap.size 43 i0 (.agg #[.int .i64 0, .int .i64 0, .int .i64 0]) 3 24 Tryz.underlying24 HI.out HZ0.out HZ1.out HZ2.out rfl (by decide) (.slice none 0 0) 0 [] rfl ⟨rfl, .inl ⟨rfl, rfl⟩⟩ pA pn pc w1.heap.size (partsC pl) rfl HP1.out (partsC_one _) (by simp only [maxLen]; omega) (by omega) (Nat.le_refl _) ?_)
        intro v1 wa hown1 hgr1
        have HO1 := Lib.hid hown1
        have HBa : Hid (Below w1.heap.size w1 wa) := Lib.hid ((Below.refl _ _).grown hgr1 (Nat.le_refl _) (by intro k hk; cases hk))
        have hsz := HBa.out.size
        have HQ1 := Lib.hid (((HQR.out.below (HW1.out.trans (HBa.out.mono HW1.out.size))).more (HW1.out.trans (HBa.out.mono HW1.out.size)).size))
        clear hown1 hgr1
        go_wp2_with (at_builtin; refine wpList_append_rd _ rfl _ _ 24 rfl w1.heap.size 43 i0 (.agg #[.int .i64 0, .int .i64 0, .int .i64 0]) 3 24 Tryz.underlying24 HI.out HZ0.out HZ1.out HZ2.out rfl (by decide) _ _ _ rfl HO1.out qA qn qc wa.heap.size (partsC ql) rfl HQ1.out (partsC_one _) (by simp only [maxLen]; omega) (by omega) hsz ?_)
        intro v2 w3 hown2 hgr2
        have HB3 : Hid (Below w1.heap.size w1 w3) := Lib.hid (HBa.out.grown hgr2 HBa.out.size (own_base HO1.out))
        obtain ⟨uA, uc, rfl⟩ := own_slice hown2
        have hrv := (Rd.own hown2).1
        simp only [partsC_app] at hrv
        try simp only [Nat.zero_add] at hrv
        try simp only [Nat.zero_add]
        have HRV := Lib.hid hrv
        have HUL : Hid ((pl ++ ql).length = pn + qn) := Lib.hid (by rw [List.length_append, HPL.out, HQL.out])
        clear hown2 hgr2 hrv HO1 HBa hsz HQ1 HP1
        have hubd : pn + qn ≤ 5864062014805 := by omega
        have x3b : pn + qn ≤ 4 := by omega
        have hl3 : w.heap.size < w3.heap.size := Nat.lt_of_lt_of_le hl1 HB3.out.size
        have HC3 : Hid (CBox w3 w.heap.size ⟨⟨dA, dn, dc⟩, ⟨A0, n0, c0⟩, ⟨A1, n1, c1⟩, ⟨A2, n2, c2⟩, ⟨A3, n3, c3⟩, ⟨A4, n4, c4⟩, ⟨A5, n5, c5⟩, cal⟩) := Lib.hid (CBox.on HC1.out HB3.out hl1)
        have HW3 := Lib.hid (HW1.out.trans (HB3.out.mono HW1.out.size))
        obtain ⟨i, hi⟩ : ∃ i, i = Sp.putN (bits BinOp.and IntKind.i64 field 7) := ⟨_, rfl⟩
        have hi6 : i < 6 := by rw [hi]; exact putN_lt _
        obtain ⟨sA, hsA⟩ : ∃ S, S = CalS.putS ⟨⟨dA, dn, dc⟩, ⟨A0, n0, c0⟩, ⟨A1, n1, c1⟩, ⟨A2, n2, c2⟩, ⟨A3, n3, c3⟩, ⟨A4, n4, c4⟩, ⟨A5, n5, c5⟩, cal⟩ ⟨pA, pn, pc⟩ pl i := ⟨_, rfl⟩
        obtain ⟨sB, hsB⟩ : ∃ S, S = CalS.putS ⟨⟨dA, dn, dc⟩, ⟨A0, n0, c0⟩, ⟨A1, n1, c1⟩, ⟨A2, n2, c2⟩, ⟨A3, n3, c3⟩, ⟨A4, n4, c4⟩, ⟨A5, n5, c5⟩, cal⟩ ⟨qA, qn, qc⟩ ql i := ⟨_, rfl⟩
        obtain ⟨sU, hsU⟩ : ∃ S, S = CalS.putS ⟨⟨dA, dn, dc⟩, ⟨A0, n0, c0⟩, ⟨A1, n1, c1⟩, ⟨A2, n2, c2⟩, ⟨A3, n3, c3⟩, ⟨A4, n4, c4⟩, ⟨A5, n5, c5⟩, cal⟩ ⟨uA, pn + qn, uc⟩ (pl ++ ql) i := ⟨_, rfl⟩
        have HWA : Hid (∀ W : World, Calls Tryz.prog 27 #[.agg #[.slice dA dn dc, .slice A0 n0 c0, .slice A1 n1 c1, .slice A2 n2 c2, .slice A3 n3 c3, .slice A4 n4 c4, .slice A5 n5 c5], .int .i64 field, .slice pA pn pc] W fun e w' => e = .returned (.agg #[.slice sA.d.A sA.d.n sA.d.c, .slice sA.f0.A sA.f0.n sA.f0.c, .slice sA.f1.A sA.f1.n sA.f1.c, .slice sA.f2.A sA.f2.n sA.f2.c, .slice sA.f3.A sA.f3.n sA.f3.c, .slice sA.f4.A sA.f4.n sA.f4.c, .slice sA.f5.A sA.f5.n sA.f5.c]) ∧ Below W.heap.size W w') := Lib.hid (fun W => by
          have := with_any field ⟨⟨dA, dn, dc⟩, ⟨A0, n0, c0⟩, ⟨A1, n1, c1⟩, ⟨A2, n2, c2⟩, ⟨A3, n3, c3⟩, ⟨A4, n4, c4⟩, ⟨A5, n5, c5⟩, cal⟩ ⟨pA, pn, pc⟩ pl W
          rw [← hi, ← hsA] at this
          exact this)
        have HWB : Hid (∀ W : World, Calls Tryz.prog 27 #[.agg #[.slice dA dn dc, .slice A0 n0 c0, .slice A1 n1 c1, .slice A2 n2 c2, .slice A3 n3 c3, .slice A4 n4 c4, .slice A5 n5 c5], .int .i64 field, .slice qA qn qc] W fun e w' => e = .returned (.agg #[.slice sB.d.A sB.d.n sB.d.c, .slice sB.f0.A sB.f0.n sB.f0.c, .slice sB.f1.A sB.f1.n sB.f1.c, .slice sB.f2.A sB.f2.n sB.f2.c, .slice sB.f3.A sB.f3.n sB.f3.c, .slice sB.f4.A sB.f4.n sB.f4.c, .slice sB.f5.A sB.f5.n sB.f5.c]) ∧ Below W.heap.size W w') := Lib.hid (fun W => by
          have := with_any field ⟨⟨dA, dn, dc⟩, ⟨A0, n0, c0⟩, ⟨A1, n1, c1⟩, ⟨A2, n2, c2⟩, ⟨A3, n3, c3⟩, ⟨A4, n4, c4⟩, ⟨A5, n5, c5⟩, cal⟩ ⟨qA, qn, qc⟩ ql W
          rw [← hi, ← hsB] at this
          exact this)
        have HWU : Hid (∀ W : World, Calls Tryz.prog 27 #[.agg #[.slice dA dn dc, .slice A0 n0 c0, .slice A1 n1 c1, .slice A2 n2 c2, .slice A3 n3 c3, .slice A4 n4 c4, .slice A5 n5 c5], .int .i64 field, .slice uA (pn + qn) uc] W fun e w' => e = .returned (.agg #[.slice sU.d.A sU.d.n sU.d.c, .slice sU.f0.A sU.f0.n sU.f0.c, .slice sU.f1.A sU.f1.n sU.f1.c, .slice sU.f2.A sU.f2.n sU.f2.c, .slice sU.f3.A sU.f3.n sU.f3.c, .slice sU.f4.A sU.f4.n sU.f4.c, .slice sU.f5.A sU.f5.n sU.f5.c]) ∧ Below W.heap.size W w') := Lib.hid (fun W => by
          have := with_any field ⟨⟨dA, dn, dc⟩, ⟨A0, n0, c0⟩, ⟨A1, n1, c1⟩, ⟨A2, n2, c2⟩, ⟨A3, n3, c3⟩, ⟨A4, n4, c4⟩, ⟨A5, n5, c5⟩, cal⟩ ⟨uA, pn + qn, uc⟩ (pl ++ ql) W
          rw [← hi, ← hsU] at this
          exact this)
        have hG3 := HG.out.on HW3.out
        have HGA : Hid (CalGood w3 sA ∧ sA.cal = cal.put pl i) := Lib.hid (by rw [hsA]; exact ⟨CalGood.putS hG3 _ _ ((HPR.out.below HW3.out).more HW3.out.size) (Nat.le_trans hpb (by decide)) i hi6, putS_cal _ _ _ i hi6⟩)
        have HGB : Hid (CalGood w3 sB ∧ sB.cal = cal.put ql i) := Lib.hid (by rw [hsB]; exact ⟨CalGood.putS hG3 _ _ ((HQR.out.below HW3.out).more HW3.out.size) (Nat.le_trans hqb (by decide)) i hi6, putS_cal _ _ _ i hi6⟩)
        have HGU : Hid (CalGood w3 sU ∧ sU.cal = cal.put (pl ++ ql) i) := Lib.hid (by rw [hsU]; exact ⟨CalGood.putS hG3 _ _ HRV.out (Nat.le_trans hubd (by decide)) i hi6, putS_cal _ _ _ i hi6⟩)
        clear hi hsA hsB hsU hG3 HPR HQR HRV
        generalize pn + qn = un at *
        go_upto_region 6 with fail
        refine wp_region_inv (by kernel_rfl) (UniJ w3 sA sB sU (.agg #[.slice dA dn dc, .slice A0 n0 c0, .slice A1 n1 c1, .slice A2 n2 c2, .slice A3 n3 c3, .slice A4 n4 c4, .slice A5 n5 c5]) (.int .i64 field) (.slice pA pn pc) (.slice qA qn qc) (.slice uA un uc) (.agg #[.slice sA.d.A sA.d.n sA.d.c, .slice sA.f0.A sA.f0.n sA.f0.c, .slice sA.f1.A sA.f1.n sA.f1.c, .slice sA.f2.A sA.f2.n sA.f2.c, .slice sA.f3.A sA.f3.n sA.f3.c, .slice sA.f4.A sA.f4.n sA.f4.c, .slice sA.f5.A sA.f5.n sA.f5.c]) (.agg #[.slice sB.d.A sB.d.n sB.d.c, .slice sB.f0.A sB.f0.n sB.f0.c, .slice sB.f1.A sB.f1.n sB.f1.c, .slice sB.f2.A sB.f2.n sB.f2.c, .slice sB.f3.A sB.f3.n sB.f3.c, .slice sB.f4.A sB.f4.n sB.f4.c, .slice sB.f5.A sB.f5.n sB.f5.c]) (.agg #[.slice sU.d.A sU.d.n sU.d.c, .slice sU.f0.A sU.f0.n sU.f0.c, .slice sU.f1.A sU.f1.n sU.f1.c, .slice sU.f2.A sU.f2.n sU.f2.c, .slice sU.f3.A sU.f3.n sU.f3.c, .slice sU.f4.A sU.f4.n sU.f4.c, .slice sU.f5.A sU.f5.n sU.f5.c])) (by kernel_rfl) (by kernel_rfl) (fun x => ⟨fun _ => ⟨⟨(Below.refl _ _).drew⟩, fun h => (by cases h), fun h => (by cases h), fun h => (by cases h), fun h => (by cases h), fun h => (by cases h), fun h => (by cases h), fun h => (by cases h), fun h => (by cases h), fun h => (by cases h), fun h => (by cases h), fun h => (by cases h), fun h => (by cases h), fun h => (by cases h), fun h => (by cases h), fun h => (by cases h), fun h _ => (by cases h), fun h _ => (by cases h), fun h _ => (by cases h)⟩, fun h => (by cases h), fun h => (by cases h), fun h => (by cases h)⟩) ?_ ?_
        · refine And.intro ?_ (And.intro ?_ (And.intro ?_ (And.intro ?_ (And.intro ?_ (And.intro ?_ (And.intro ?_ (And.intro ?_ (And.intro ?_ (And.intro ?_ (And.intro ?_ (And.intro ?_ (And.intro ?_ (And.intro ?_ (And.intro ?_ (And.intro ?_ (And.intro ?_ (And.intro ?_ trivial)))))))))))))))))
          · refine stepO_plain rfl (fun D x W hJ hp hn hcl K hK => ?_)
            have hD : D 15 = false := by
              cases h : D 15 with
              | false => rfl
              | true => exact absurd (hcl 15 _ rfl h 0 (of_decide_eq_true (by kernel_rfl))) (by rw [hn]; decide)
            have hE : D 16 = false := by
              cases h : D 16 with
              | false => rfl
              | true => exact absurd (hcl 16 _ rfl h 15 (of_decide_eq_true (by kernel_rfl))) (by rw [hD]; decide)
            have hF : D 17 = false := by
              cases h : D 17 with
              | false => rfl
              | true => exact absurd (hcl 17 _ rfl h 15 (of_decide_eq_true (by kernel_rfl))) (by rw [hD]; decide)
            obtain ⟨hS, h0, h1, h2, h3, h4, h5, h6, h7, h8, h9, h10, h11, h12, h13, h14, n1, n2, n3⟩ := hJ.1 hD
            have hK := hK.out
            simp only [fillO, Act.put, List.setIfInBounds_toArray, List.set_cons_zero, List.set_cons_succ, Nat.reduceAdd] at hK ⊢
            obtain ⟨k0, k1, k2, k3, k4, k5, k6⟩ := CBox.on HC3.out hS.hb hl3
            simp only [slV] at k0 k1 k2 k3 k4 k5 k6
            have hb := Below.refl W.heap.size W
            refine Wrap.mk ?_
            go_simp
            refine hK _ _ ?_
            exact ⟨fun _ => ⟨hS.more hb, fun _ => rfl, h1, h2, h3, h4, h5, h6, h7, h8, h9, h10, h11, fun h => (h12 h).more hb, fun h => (h13 h).more hb, fun h => (h14 h).more hb, n1, n2, n3⟩, fun h => absurd (hD.symm.trans h) (by decide), fun h => absurd (hE.symm.trans h) (by decide), fun h => absurd (hF.symm.trans h) (by decide)⟩
          · refine stepO_plain rfl (fun D x W hJ hp hn hcl K hK => ?_)
            have hD : D 15 = false := by
              cases h : D 15 with
              | false => rfl
              | true => exact absurd (hcl 15 _ rfl h 1 (of_decide_eq_true (by kernel_rfl))) (by rw [hn]; decide)
            have hE : D 16 = false := by
              cases h : D 16 with
              | false => rfl
              | true => exact absurd (hcl 16 _ rfl h 15 (of_decide_eq_true (by kernel_rfl))) (by rw [hD]; decide)
            have hF : D 17 = false := by
              cases h : D 17 with
              | false => rfl
              | true => exact absurd (hcl 17 _ rfl h 15 (of_decide_eq_true (by kernel_rfl))) (by rw [hD]; decide)
            obtain ⟨hS, h0, h1, h2, h3, h4, h5, h6, h7, h8, h9, h10, h11, h12, h13, h14, n1, n2, n3⟩ := hJ.1 hD
            have hK := hK.out
            simp only [fillO, Act.put, List.setIfInBounds_toArray, List.set_cons_zero, List.set_cons_succ, Nat.reduceAdd] at hK ⊢
            have hb := Below.refl W.heap.size W
            refine Wrap.mk ?_
            go_simp
            refine hK _ _ ?_
            exact ⟨fun _ => ⟨hS.more hb, h0, fun _ => rfl, h2, h3, h4, h5, h6, h7, h8, h9, h10, h11, fun h => (h12 h).more hb, fun h => (h13 h).more hb, fun h => (h14 h).more hb, n1, n2, n3⟩, fun h => absurd (hD.symm.trans h) (by decide), fun h => absurd (hE.symm.trans h) (by decide), fun h => absurd (hF.symm.trans h) (by decide)⟩
          · refine stepO_plain rfl (fun D x W hJ hp hn hcl K hK => ?_)
            have hD : D 15 = false := by
              cases h : D 15 with
              | false => rfl
              | true => exact absurd (hcl 15 _ rfl h 2 (of_decide_eq_true (by kernel_rfl))) (by rw [hn]; decide)
            have hE : D 16 = false := by
              cases h : D 16 with
              | false => rfl
              | true => exact absurd (hcl 16 _ rfl h 15 (of_decide_eq_true (by kernel_rfl))) (by rw [hD]; decide)
            have hF : D 17 = false := by
              cases h : D 17 with
              | false => rfl
              | true => exact absurd (hcl 17 _ rfl h 15 (of_decide_eq_true (by kernel_rfl))) (by rw [hD]; decide)
            obtain ⟨hS, h0, h1, h2, h3, h4, h5, h6, h7, h8, h9, h10, h11, h12, h13, h14, n1, n2, n3⟩ := hJ.1 hD
            have hK := hK.out
            simp only [fillO, Act.put, List.setIfInBounds_toArray, List.set_cons_zero, List.set_cons_succ, Nat.reduceAdd] at hK ⊢
            have hb := Below.refl W.heap.size W
            refine Wrap.mk ?_
            go_simp
            refine hK _ _ ?_
            exact ⟨fun _ => ⟨hS.more hb, h0, h1, fun _ => rfl, h3, h4, h5, h6, h7, h8, h9, h10, h11, fun h => (h12 h).more hb, fun h => (h13 h).more hb, fun h => (h14 h).more hb, n1, n2, n3⟩, fun h => absurd (hD.symm.trans h) (by decide), fun h => absurd (hE.symm.trans h) (by decide), fun h => absurd (hF.symm.trans h) (by decide)⟩
          · refine stepO_plain rfl (fun D x W hJ hp hn hcl K hK => ?_)
            have hD : D 15 = false := by
              cases h : D 15 with
              | false => rfl
              | true => exact absurd (hcl 15 _ rfl h 3 (of_decide_eq_true (by kernel_rfl))) (by rw [hn]; decide)
            have hE : D 16 = false := by
              cases h : D 16 with
              | false => rfl
              | true => exact absurd (hcl 16 _ rfl h 15 (of_decide_eq_true (by kernel_rfl))) (by rw [hD]; decide)
            have hF : D 17 = false := by
              cases h : D 17 with
              | false => rfl
              | true => exact absurd (hcl 17 _ rfl h 15 (of_decide_eq_true (by kernel_rfl))) (by rw [hD]; decide)
            obtain ⟨hS, h0, h1, h2, h3, h4, h5, h6, h7, h8, h9, h10, h11, h12, h13, h14, n1, n2, n3⟩ := hJ.1 hD
            have hK := hK.out
            have d0 : D 0 = true := hp 0 (of_decide_eq_true (by kernel_rfl))
            have d1 : D 1 = true := hp 1 (of_decide_eq_true (by kernel_rfl))
            have d2 : D 2 = true := hp 2 (of_decide_eq_true (by kernel_rfl))
            have e0 := h0 d0
            have e1 := h1 d1
            have e2 := h2 d2
            simp only [fillO, Act.put, List.setIfInBounds_toArray, List.set_cons_zero, List.set_cons_succ, Nat.reduceAdd] at hK ⊢
            simp only [e0, e1, e2] at hK ⊢
            refine Wrap.mk ?_
            go_simp
            refine (HWA.out W).mono ?_
            rintro e W' ⟨rfl, hb⟩
            go_wp2_with fail
            exact ⟨fun _ => ⟨hS.more hb, h0, h1, h2, fun _ => rfl, h4, h5, h6, h7, h8, h9, h10, h11, fun h => (h12 h).more hb, fun h => (h13 h).more hb, fun h => (h14 h).more hb, n1, n2, n3⟩, fun h => absurd (hD.symm.trans h) (by decide), fun h => absurd (hE.symm.trans h) (by decide), fun h => absurd (hF.symm.trans h) (by decide)⟩
          · refine stepO_plain rfl (fun D x W hJ hp hn hcl K hK => ?_)
            have hD : D 15 = false := by
              cases h : D 15 with
              | false => rfl
              | true => exact absurd (hcl 7 _ rfl (hcl 11 _ rfl (hcl 15 _ rfl h 11 (of_decide_eq_true (by kernel_rfl))) 7 (of_decide_eq_true (by kernel_rfl))) 4 (of_decide_eq_true (by kernel_rfl))) (by rw [hn]; decide)
            have hE : D 16 = false := by
              cases h : D 16 with
              | false => rfl
              | true => exact absurd (hcl 16 _ rfl h 15 (of_decide_eq_true (by kernel_rfl))) (by rw [hD]; decide)
            have hF : D 17 = false := by
              cases h : D 17 with
              | false => rfl
              | true => exact absurd (hcl 17 _ rfl h 15 (of_decide_eq_true (by kernel_rfl))) (by rw [hD]; decide)
            obtain ⟨hS, h0, h1, h2, h3, h4, h5, h6, h7, h8, h9, h10, h11, h12, h13, h14, n1, n2, n3⟩ := hJ.1 hD
            have hK := hK.out
            simp only [fillO, Act.put, List.setIfInBounds_toArray, List.set_cons_zero, List.set_cons_succ, Nat.reduceAdd] at hK ⊢
            obtain ⟨k0, k1, k2, k3, k4, k5, k6⟩ := CBox.on HC3.out hS.hb hl3
            simp only [slV] at k0 k1 k2 k3 k4 k5 k6
            have hb := Below.refl W.heap.size W
            refine Wrap.mk ?_
            go_simp
            refine hK _ _ ?_
            exact ⟨fun _ => ⟨hS.more hb, h0, h1, h2, h3, fun _ => rfl, h5, h6, h7, h8, h9, h10, h11, fun h => (h12 h).more hb, fun h => (h13 h).more hb, fun h => (h14 h).more hb, n1, n2, n3⟩, fun h => absurd (hD.symm.trans h) (by decide), fun h => absurd (hE.symm.trans h) (by decide), fun h => absurd (hF.symm.trans h) (by decide)⟩
          · refine stepO_plain rfl (fun D x W hJ hp hn hcl K hK => ?_)
            have hD : D 15 = false := by
              cases h : D 15 with
              | false => rfl
              | true => exact absurd (hcl 7 _ rfl (hcl 11 _ rfl (hcl 15 _ rfl h 11 (of_decide_eq_true (by kernel_rfl))) 7 (of_decide_eq_true (by kernel_rfl))) 5 (of_decide_eq_true (by kernel_rfl))) (by rw [hn]; decide)
            have hE : D 16 = false := by
              cases h : D 16 with
              | false => rfl
              | true => exact absurd (hcl 16 _ rfl h 15 (of_decide_eq_true (by kernel_rfl))) (by rw [hD]; decide)
            have hF : D 17 = false := by
              cases h : D 17 with
              | false => rfl
              | true => exact absurd (hcl 17 _ rfl h 15 (of_decide_eq_true (by kernel_rfl))) (by rw [hD]; decide)
            obtain ⟨hS, h0, h1, h2, h3, h4, h5, h6, h7, h8, h9, h10, h11, h12, h13, h14, n1, n2, n3⟩ := hJ.1 hD
            have hK := hK.out
            simp only [fillO, Act.put, List.setIfInBounds_toArray, List.set_cons_zero, List.set_cons_succ, Nat.reduceAdd] at hK ⊢
            have hb := Below.refl W.heap.size W
            refine Wrap.mk ?_
            go_simp
            refine hK _ _ ?_
            exact ⟨fun _ => ⟨hS.more hb, h0, h1, h2, h3, h4, fun _ => rfl, h6, h7, h8, h9, h10, h11, fun h => (h12 h).more hb, fun h => (h13 h).more hb, fun h => (h14 h).more hb, n1, n2, n3⟩, fun h => absurd (hD.symm.trans h) (by decide), fun h => absurd (hE.symm.trans h) (by decide), fun h => absurd (hF.symm.trans h) (by decide)⟩
          · refine stepO_plain rfl (fun D x W hJ hp hn hcl K hK => ?_)
            have hD : D 15 = false := by
              cases h : D 15 with
              | false => rfl
              | true => exact absurd (hcl 7 _ rfl (hcl 11 _ rfl (hcl 15 _ rfl h 11 (of_decide_eq_true (by kernel_rfl))) 7 (of_decide_eq_true (by kernel_rfl))) 6 (of_decide_eq_true (by kernel_rfl))) (by rw [hn]; decide)
            have hE : D 16 = false := by
              cases h : D 16 with
              | false => rfl
              | true => exact absurd (hcl 16 _ rfl h 15 (of_decide_eq_true (by kernel_rfl))) (by rw [hD]; decide)
            have hF : D 17 = false := by
              cases h : D 17 with
              | false => rfl
              | true => exact absurd (hcl 17 _ rfl h 15 (of_decide_eq_true (by kernel_rfl))) (by rw [hD]; decide)
            obtain ⟨hS, h0, h1, h2, h3, h4, h5, h6, h7, h8, h9, h10, h11, h12, h13, h14, n1, n2, n3⟩ := hJ.1 hD
            have hK := hK.out
            simp only [fillO, Act.put, List.setIfInBounds_toArray, List.set_cons_zero, List.set_cons_succ, Nat.reduceAdd] at hK ⊢
            have hb := Below.refl W.heap.size W
            refine Wrap.mk ?_
            go_simp
            refine hK _ _ ?_
            exact ⟨fun _ => ⟨hS.more hb, h0, h1, h2, h3, h4, h5, fun _ => rfl, h7, h8, h9, h10, h11, fun h => (h12 h).more hb, fun h => (h13 h).more hb, fun h => (h14 h).more hb, n1, n2, n3⟩, fun h => absurd (hD.symm.trans h) (by decide), fun h => absurd (hE.symm.trans h) (by decide), fun h => absurd (hF.symm.trans h) (by decide)⟩
          · refine stepO_plain rfl (fun D x W hJ hp hn hcl K hK => ?_)
            have hD : D 15 = false := by
              cases h : D 15 with
              | false => rfl
              | true => exact absurd (hcl 11 _ rfl (hcl 15 _ rfl h 11 (of_decide_eq_true (by kernel_rfl))) 7 (of_decide_eq_true (by kernel_rfl))) (by rw [hn]; decide)
            have hE : D 16 = false := by
              cases h : D 16 with
              | false => rfl
              | true => exact absurd (hcl 16 _ rfl h 15 (of_decide_eq_true (by kernel_rfl))) (by rw [hD]; decide)
            have hF : D 17 = false := by
              cases h : D 17 with
              | false => rfl
              | true => exact absurd (hcl 17 _ rfl h 15 (of_decide_eq_true (by kernel_rfl))) (by rw [hD]; decide)
            obtain ⟨hS, h0, h1, h2, h3, h4, h5, h6, h7, h8, h9, h10, h11, h12, h13, h14, n1, n2, n3⟩ := hJ.1 hD
            have hK := hK.out
            have d4 : D 4 = true := hp 4 (of_decide_eq_true (by kernel_rfl))
            have d5 : D 5 = true := hp 5 (of_decide_eq_true (by kernel_rfl))
            have d6 : D 6 = true := hp 6 (of_decide_eq_true (by kernel_rfl))
            have e0 := h4 d4
            have e1 := h5 d5
            have e2 := h6 d6
            simp only [fillO, Act.put, List.setIfInBounds_toArray, List.set_cons_zero, List.set_cons_succ, Nat.reduceAdd] at hK ⊢
            simp only [e0, e1, e2] at hK ⊢
            refine Wrap.mk ?_
            go_simp
            refine (HWB.out W).mono ?_
            rintro e W' ⟨rfl, hb⟩
            go_wp2_with fail
            exact ⟨fun _ => ⟨hS.more hb, h0, h1, h2, h3, h4, h5, h6, fun _ => rfl, h8, h9, h10, h11, fun h => (h12 h).more hb, fun h => (h13 h).more hb, fun h => (h14 h).more hb, n1, n2, n3⟩, fun h => absurd (hD.symm.trans h) (by decide), fun h => absurd (hE.symm.trans h) (by decide), fun h => absurd (hF.symm.trans h) (by decide)⟩
          · refine stepO_plain rfl (fun D x W hJ hp hn hcl K hK => ?_)
            have hD : D 15 = false := by
              cases h : D 15 with
              | false => rfl
              | true => exact absurd (hcl 11 _ rfl (hcl 15 _ rfl h 11 (of_decide_eq_true (by kernel_rfl))) 8 (of_decide_eq_true (by kernel_rfl))) (by rw [hn]; decide)
            have hE : D 16 = false := by
              cases h : D 16 with
              | false => rfl
              | true => exact absurd (hcl 16 _ rfl h 15 (of_decide_eq_true (by kernel_rfl))) (by rw [hD]; decide)
            have hF : D 17 = false := by
              cases h : D 17 with
              | false => rfl
              | true => exact absurd (hcl 17 _ rfl h 15 (of_decide_eq_true (by kernel_rfl))) (by rw [hD]; decide)
            obtain ⟨hS, h0, h1, h2, h3, h4, h5, h6, h7, h8, h9, h10, h11, h12, h13, h14, n1, n2, n3⟩ := hJ.1 hD
            have hK := hK.out
            simp only [fillO, Act.put, List.setIfInBounds_toArray, List.set_cons_zero, List.set_cons_succ, Nat.reduceAdd] at hK ⊢
            obtain ⟨k0, k1, k2, k3, k4, k5, k6⟩ := CBox.on HC3.out hS.hb hl3
            simp only [slV] at k0 k1 k2 k3 k4 k5 k6
            have hb := Below.refl W.heap.size W
            refine Wrap.mk ?_
            go_simp
            refine hK _ _ ?_
            exact ⟨fun _ => ⟨hS.more hb, h0, h1, h2, h3, h4, h5, h6, h7, fun _ => rfl, h9, h10, h11, fun h => (h12 h).more hb, fun h => (h13 h).more hb, fun h => (h14 h).more hb, n1, n2, n3⟩, fun h => absurd (hD.symm.trans h) (by decide), fun h => absurd (hE.symm.trans h) (by decide), fun h => absurd (hF.symm.trans h) (by decide)⟩
          · refine stepO_plain rfl (fun D x W hJ hp hn hcl K hK => ?_)
            have hD : D 15 = false := by
              cases h : D 15 with
              | false => rfl
              | true => exact absurd (hcl 11 _ rfl (hcl 15 _ rfl h 11 (of_decide_eq_true (by kernel_rfl))) 9 (of_decide_eq_true (by kernel_rfl))) (by rw [hn]; decide)
            have hE : D 16 = false := by
              cases h : D 16 with
              | false => rfl
              | true => exact absurd (hcl 16 _ rfl h 15 (of_decide_eq_true (by kernel_rfl))) (by rw [hD]; decide)
            have hF : D 17 = false := by
              cases h : D 17 with
              | false => rfl
              | true => exact absurd (hcl 17 _ rfl h 15 (of_decide_eq_true (by kernel_rfl))) (by rw [hD]; decide)
            obtain ⟨hS, h0, h1, h2, h3, h4, h5, h6, h7, h8, h9, h10, h11, h12, h13, h14, n1, n2, n3⟩ := hJ.1 hD
            have hK := hK.out
            simp only [fillO, Act.put, List.setIfInBounds_toArray, List.set_cons_zero, List.set_cons_succ, Nat.reduceAdd] at hK ⊢
            have hb := Below.refl W.heap.size W
            refine Wrap.mk ?_
            go_simp
            refine hK _ _ ?_
            exact ⟨fun _ => ⟨hS.more hb, h0, h1, h2, h3, h4, h5, h6, h7, h8, fun _ => rfl, h10, h11, fun h => (h12 h).more hb, fun h => (h13 h).more hb, fun h => (h14 h).more hb, n1, n2, n3⟩, fun h => absurd (hD.symm.trans h) (by decide), fun h => absurd (hE.symm.trans h) (by decide), fun h => absurd (hF.symm.trans h) (by decide)⟩
          · refine stepO_plain rfl (fun D x W hJ hp hn hcl K hK => ?_)
            have hD : D 15 = false := by
              cases h : D 15 with
              | false => rfl
              | true => exact absurd (hcl 11 _ rfl (hcl 15 _ rfl h 11 (of_decide_eq_true (by kernel_rfl))) 10 (of_decide_eq_true (by kernel_rfl))) (by rw [hn]; decide)
            have hE : D 16 = false := by
              cases h : D 16 with
              | false => rfl
              | true => exact absurd (hcl 16 _ rfl h 15 (of_decide_eq_true (by kernel_rfl))) (by rw [hD]; decide)
            have hF : D 17 = false := by
              cases h : D 17 with
              | false => rfl
              | true => exact absurd (hcl 17 _ rfl h 15 (of_decide_eq_true (by kernel_rfl))) (by rw [hD]; decide)
            obtain ⟨hS, h0, h1, h2, h3, h4, h5, h6, h7, h8, h9, h10, h11, h12, h13, h14, n1, n2, n3⟩ := hJ.1 hD
            have hK := hK.out
            simp only [fillO, Act.put, List.setIfInBounds_toArray, List.set_cons_zero, List.set_cons_succ, Nat.reduceAdd] at hK ⊢
            have hb := Below.refl W.heap.size W
            refine Wrap.mk ?_
            go_simp
            refine hK _ _ ?_
            exact ⟨fun _ => ⟨hS.more hb, h0, h1, h2, h3, h4, h5, h6, h7, h8, h9, fun _ => rfl, h11, fun h => (h12 h).more hb, fun h => (h13 h).more hb, fun h => (h14 h).more hb, n1, n2, n3⟩, fun h => absurd (hD.symm.trans h) (by decide), fun h => absurd (hE.symm.trans h) (by decide), fun h => absurd (hF.symm.trans h) (by decide)⟩
          · refine stepO_plain rfl (fun D x W hJ hp hn hcl K hK => ?_)
            have hD : D 15 = false := by
              cases h : D 15 with
              | false => rfl
              | true => exact absurd (hcl 15 _ rfl h 11 (of_decide_eq_true (by kernel_rfl))) (by rw [hn]; decide)
            have hE : D 16 = false := by
              cases h : D 16 with
              | false => rfl
              | true => exact absurd (hcl 16 _ rfl h 15 (of_decide_eq_true (by kernel_rfl))) (by rw [hD]; decide)
            have hF : D 17 = false := by
              cases h : D 17 with
              | false => rfl
              | true => exact absurd (hcl 17 _ rfl h 15 (of_decide_eq_true (by kernel_rfl))) (by rw [hD]; decide)
            obtain ⟨hS, h0, h1, h2, h3, h4, h5, h6, h7, h8, h9, h10, h11, h12, h13, h14, n1, n2, n3⟩ := hJ.1 hD
            have hK := hK.out
            have d8 : D 8 = true := hp 8 (of_decide_eq_true (by kernel_rfl))
            have d9 : D 9 = true := hp 9 (of_decide_eq_true (by kernel_rfl))
            have d10 : D 10 = true := hp 10 (of_decide_eq_true (by kernel_rfl))
            have e0 := h8 d8
            have e1 := h9 d9
            have e2 := h10 d10
            simp only [fillO, Act.put, List.setIfInBounds_toArray, List.set_cons_zero, List.set_cons_succ, Nat.reduceAdd] at hK ⊢
            simp only [e0, e1, e2] at hK ⊢
            refine Wrap.mk ?_
            go_simp
            refine (HWU.out W).mono ?_
            rintro e W' ⟨rfl, hb⟩
            go_wp2_with fail
            exact ⟨fun _ => ⟨hS.more hb, h0, h1, h2, h3, h4, h5, h6, h7, h8, h9, h10, fun _ => rfl, fun h => (h12 h).more hb, fun h => (h13 h).more hb, fun h => (h14 h).more hb, n1, n2, n3⟩, fun h => absurd (hD.symm.trans h) (by decide), fun h => absurd (hE.symm.trans h) (by decide), fun h => absurd (hF.symm.trans h) (by decide)⟩
          · refine stepO_plain rfl (fun D x W hJ hp hn hcl K hK => ?_)
            have hD : D 15 = false := by
              cases h : D 15 with
              | false => rfl
              | true => exact absurd (hcl 15 _ rfl h 12 (of_decide_eq_true (by kernel_rfl))) (by rw [hn]; decide)
            have hE : D 16 = false := by
              cases h : D 16 with
              | false => rfl
              | true => exact absurd (hcl 16 _ rfl h 15 (of_decide_eq_true (by kernel_rfl))) (by rw [hD]; decide)
            have hF : D 17 = false := by
              cases h : D 17 with
              | false => rfl
              | true => exact absurd (hcl 17 _ rfl h 15 (of_decide_eq_true (by kernel_rfl))) (by rw [hD]; decide)
            obtain ⟨hS, h0, h1, h2, h3, h4, h5, h6, h7, h8, h9, h10, h11, h12, h13, h14, n1, n2, n3⟩ := hJ.1 hD
            have hK := hK.out
            simp only [fillO, Act.put, List.setIfInBounds_toArray, List.set_cons_zero, List.set_cons_succ, Nat.reduceAdd] at hK ⊢
            have hb := (Below.refl W.heap.size W).alloc (Nat.le_refl _) (.cells #[.slice none 0 0, .slice none 0 0, .slice none 0 0, .slice none 0 0, .slice none 0 0, .slice none 0 0, .slice none 0 0] 26)
            refine Wrap.mk ?_
            go_simp
            refine hK _ _ ?_
            exact ⟨fun _ => ⟨hS.more hb, h0, h1, h2, h3, h4, h5, h6, h7, h8, h9, h10, h11, fun _ => ⟨_, rfl, hS.hb.size, by simp, CV.new W⟩, fun h => (h13 h).more hb, fun h => (h14 h).more hb, fun _ h => (fresh_ne (h13 h)).symm, fun _ h => (fresh_ne (h14 h)).symm, n3⟩, fun h => absurd (hD.symm.trans h) (by decide), fun h => absurd (hE.symm.trans h) (by decide), fun h => absurd (hF.symm.trans h) (by decide)⟩
          · refine stepO_plain rfl (fun D x W hJ hp hn hcl K hK => ?_)
            have hD : D 15 = false := by
              cases h : D 15 with
              | false => rfl
              | true => exact absurd (hcl 15 _ rfl h 13 (of_decide_eq_true (by kernel_rfl))) (by rw [hn]; decide)
            have hE : D 16 = false := by
              cases h : D 16 with
              | false => rfl
              | true => exact absurd (hcl 16 _ rfl h 15 (of_decide_eq_true (by kernel_rfl))) (by rw [hD]; decide)
            have hF : D 17 = false := by
              cases h : D 17 with
              | false => rfl
              | true => exact absurd (hcl 17 _ rfl h 15 (of_decide_eq_true (by kernel_rfl))) (by rw [hD]; decide)
            obtain ⟨hS, h0, h1, h2, h3, h4, h5, h6, h7, h8, h9, h10, h11, h12, h13, h14, n1, n2, n3⟩ := hJ.1 hD
            have hK := hK.out
            simp only [fillO, Act.put, List.setIfInBounds_toArray, List.set_cons_zero, List.set_cons_succ, Nat.reduceAdd] at hK ⊢
            have hb := (Below.refl W.heap.size W).alloc (Nat.le_refl _) (.cells #[.slice none 0 0, .slice none 0 0, .slice none 0 0, .slice none 0 0, .slice none 0 0, .slice none 0 0, .slice none 0 0] 26)
            refine Wrap.mk ?_
            go_simp
            refine hK _ _ ?_
            exact ⟨fun _ => ⟨hS.more hb, h0, h1, h2, h3, h4, h5, h6, h7, h8, h9, h10, h11, fun h => (h12 h).more hb, fun _ => ⟨_, rfl, hS.hb.size, by simp, CV.new W⟩, fun h => (h14 h).more hb, fun h _ => fresh_ne (h12 h), n2, fun _ h => (fresh_ne (h14 h)).symm⟩, fun h => absurd (hD.symm.trans h) (by decide), fun h => absurd (hE.symm.trans h) (by decide), fun h => absurd (hF.symm.trans h) (by decide)⟩
          · refine stepO_plain rfl (fun D x W hJ hp hn hcl K hK => ?_)
            have hD : D 15 = false := by
              cases h : D 15 with
              | false => rfl
              | true => exact absurd (hcl 15 _ rfl h 14 (of_decide_eq_true (by kernel_rfl))) (by rw [hn]; decide)
            have hE : D 16 = false := by
              cases h : D 16 with
              | false => rfl
              | true => exact absurd (hcl 16 _ rfl h 15 (of_decide_eq_true (by kernel_rfl))) (by rw [hD]; decide)
            have hF : D 17 = false := by
              cases h : D 17 with
              | false => rfl
              | true => exact absurd (hcl 17 _ rfl h 15 (of_decide_eq_true (by kernel_rfl))) (by rw [hD]; decide)
            obtain ⟨hS, h0, h1, h2, h3, h4, h5, h6, h7, h8, h9, h10, h11, h12, h13, h14, n1, n2, n3⟩ := hJ.1 hD
            have hK := hK.out
            simp only [fillO, Act.put, List.setIfInBounds_toArray, List.set_cons_zero, List.set_cons_succ, Nat.reduceAdd] at hK ⊢
            have hb := (Below.refl W.heap.size W).alloc (Nat.le_refl _) (.cells #[.slice none 0 0, .slice none 0 0, .slice none 0 0, .slice none 0 0, .slice none 0 0, .slice none 0 0, .slice none 0 0] 26)
            refine Wrap.mk ?_
            go_simp
            refine hK _ _ ?_
            exact ⟨fun _ => ⟨hS.more hb, h0, h1, h2, h3, h4, h5, h6, h7, h8, h9, h10, h11, fun h => (h12 h).more hb, fun h => (h13 h).more hb, fun _ => ⟨_, rfl, hS.hb.size, by simp, CV.new W⟩, n1, fun h _ => fresh_ne (h12 h), fun h _ => fresh_ne (h13 h)⟩, fun h => absurd (hD.symm.trans h) (by decide), fun h => absurd (hE.symm.trans h) (by decide), fun h => absurd (hF.symm.trans h) (by decide)⟩
          · refine stepO_plain rfl (fun D x W hJ hp hn hcl K hK => ?_)
            have hD : D 15 = false := hn
            have hE : D 16 = false := by
              cases h : D 16 with
              | false => rfl
              | true => exact absurd (hcl 16 _ rfl h 15 (of_decide_eq_true (by kernel_rfl))) (by rw [hD]; decide)
            have hF : D 17 = false := by
              cases h : D 17 with
              | false => rfl
              | true => exact absurd (hcl 17 _ rfl h 15 (of_decide_eq_true (by kernel_rfl))) (by rw [hD]; decide)
            obtain ⟨hS, h0, h1, h2, h3, h4, h5, h6, h7, h8, h9, h10, h11, h12, h13, h14, n1, n2, n3⟩ := hJ.1 hD
            have hK := hK.out
            have d3 : D 3 = true := hp 3 (of_decide_eq_true (by kernel_rfl))
            have d11 : D 11 = true := hp 11 (of_decide_eq_true (by kernel_rfl))
            have d12 : D 12 = true := hp 12 (of_decide_eq_true (by kernel_rfl))
            have d13 : D 13 = true := hp 13 (of_decide_eq_true (by kernel_rfl))
            have d14 : D 14 = true := hp 14 (of_decide_eq_true (by kernel_rfl))
            have d7 : D 7 = true := hcl 11 _ rfl d11 7 (of_decide_eq_true (by kernel_rfl))
            have e3 := h3 d3
            have e7 := h7 d7
            have e11 := h11 d11
            obtain ⟨b1, q1, hB1, hl1', hv1⟩ := h12 d12
            obtain ⟨b2, q2, hB2, hl2', hv2⟩ := h13 d13
            obtain ⟨b3, q3, hB3, hl3', hv3⟩ := h14 d14
            have t1 : b1 ≠ b2 := fun h => n1 d12 d13 (by rw [q1, q2, h])
            have t2 : b1 ≠ b3 := fun h => n2 d12 d14 (by rw [q1, q3, h])
            have t3 : b2 ≠ b3 := fun h => n3 d13 d14 (by rw [q2, q3, h])
            clear n1 n2 n3 h0 h1 h2 h3 h4 h5 h6 h7 h8 h9 h10 h11 h12 h13 h14
            simp only [fillO, Act.put, List.setIfInBounds_toArray, List.set_cons_zero, List.set_cons_succ, Nat.reduceAdd] at hK ⊢
            simp only [e3, e7, e11, q1, q2, q3] at hK ⊢
            have k0 := hv1.cd
            have f0 := hv1.fz 0
            have k1 := hv1.cell 0 (by decide)
            have f1 := hv1.fz 1
            have k2 := hv1.cell 1 (by decide)
            have f2 := hv1.fz 2
            have k3 := hv1.cell 2 (by decide)
            have f3 := hv1.fz 3
            have k4 := hv1.cell 3 (by decide)
            have f4 := hv1.fz 4
            have k5 := hv1.cell 4 (by decide)
            have f5 := hv1.fz 5
            have k6 := hv1.cell 5 (by decide)
            have f6 := hv1.fz 6
            simp only [slV, nilS] at k0 k1 k2 k3 k4 k5 k6
            refine Wrap.mk ?_
            go_simp
            refine hK undef _ ?_
            exact ⟨fun h => absurd (show true = false from h) (by decide), fun _ _ => ⟨⟨below_put7c hS.hb hB1 _ _ _ _ _ _ _⟩, e7, e11, b1, b2, b3, q1, q2, q3, t1, t2, t3, hB2, hB3, by simpa using hl1', by simpa using hl2', by simpa using hl3', CV.put hv1 sA.d sA.f0 sA.f1 sA.f2 sA.f3 sA.f4 sA.f5, CV.far7 hv2 t1 _ _ _ _ _ _ _, CV.far7 hv3 t2 _ _ _ _ _ _ _⟩, fun h => absurd (hE.symm.trans h) (by decide), fun h => absurd (hF.symm.trans h) (by decide)⟩
          · refine stepO_plain rfl (fun D x W hJ hp hn hcl K hK => ?_)
            have hE : D 16 = false := hn
            have hD : D 15 = true := hp 15 (of_decide_eq_true (by kernel_rfl))
            have hF : D 17 = false := by
              cases h : D 17 with
              | false => rfl
              | true => exact absurd (hcl 17 _ rfl h 16 (of_decide_eq_true (by kernel_rfl))) (by rw [hE]; decide)
            obtain ⟨hS, e7, e11, b1, b2, b3, q1, q2, q3, t1, t2, t3, hB2, hB3, hl1', hl2', hl3', hv1, hv2, hv3⟩ := hJ.2.1 hD hE
            have hK := hK.out
            simp only [fillO, Act.put, List.setIfInBounds_toArray, List.set_cons_zero, List.set_cons_succ, Nat.reduceAdd] at hK ⊢
            simp only [e7, e11, q1, q2, q3] at hK ⊢
            have k0 := hv2.cd
            have f0 := hv2.fz 0
            have k1 := hv2.cell 0 (by decide)
            have f1 := hv2.fz 1
            have k2 := hv2.cell 1 (by decide)
            have f2 := hv2.fz 2
            have k3 := hv2.cell 2 (by decide)
            have f3 := hv2.fz 3
            have k4 := hv2.cell 3 (by decide)
            have f4 := hv2.fz 4
            have k5 := hv2.cell 4 (by decide)
            have f5 := hv2.fz 5
            have k6 := hv2.cell 5 (by decide)
            have f6 := hv2.fz 6
            simp only [slV, nilS] at k0 k1 k2 k3 k4 k5 k6
            refine Wrap.mk ?_
            go_simp
            refine hK undef _ ?_
            exact ⟨fun h => absurd (hD.symm.trans h) (by decide), fun _ h => absurd (show true = false from h) (by decide), fun _ _ => ⟨⟨below_put7c hS.hb hB2 _ _ _ _ _ _ _⟩, e11, b1, b2, b3, q1, q2, q3, t1, t2, t3, hB3, by simpa using hl1', by simpa using hl2', by simpa using hl3', CV.far7 hv1 t1.symm _ _ _ _ _ _ _, CV.put hv2 sB.d sB.f0 sB.f1 sB.f2 sB.f3 sB.f4 sB.f5, CV.far7 hv3 t3 _ _ _ _ _ _ _⟩, fun h => absurd (hF.symm.trans h) (by decide)⟩
          · refine stepO_plain rfl (fun D x W hJ hp hn hcl K hK => ?_)
            have hF : D 17 = false := hn
            have hE : D 16 = true := hp 16 (of_decide_eq_true (by kernel_rfl))
            have hD : D 15 = true := hp 15 (of_decide_eq_true (by kernel_rfl))
            obtain ⟨hS, e11, b1, b2, b3, q1, q2, q3, t1, t2, t3, hB3, hl1', hl2', hl3', hv1, hv2, hv3⟩ := hJ.2.2.1 hE hF
            have hK := hK.out
            simp only [fillO, Act.put, List.setIfInBounds_toArray, List.set_cons_zero, List.set_cons_succ, Nat.reduceAdd] at hK ⊢
            simp only [e11, q1, q2, q3] at hK ⊢
            have k0 := hv3.cd
            have f0 := hv3.fz 0
            have k1 := hv3.cell 0 (by decide)
            have f1 := hv3.fz 1
            have k2 := hv3.cell 1 (by decide)
            have f2 := hv3.fz 2
            have k3 := hv3.cell 2 (by decide)
            have f3 := hv3.fz 3
            have k4 := hv3.cell 3 (by decide)
            have f4 := hv3.fz 4
            have k5 := hv3.cell 4 (by decide)
            have f5 := hv3.fz 5
            have k6 := hv3.cell 5 (by decide)
            have f6 := hv3.fz 6
            simp only [slV, nilS] at k0 k1 k2 k3 k4 k5 k6
            refine Wrap.mk ?_
            go_simp
            refine hK undef _ ?_
            exact ⟨fun h => absurd (hD.symm.trans h) (by decide), fun _ h => absurd (hE.symm.trans h) (by decide), fun _ h => absurd (show true = false from h) (by decide), fun _ => ⟨⟨below_put7c hS.hb hB3 _ _ _ _ _ _ _⟩, b1, b2, b3, q1, q2, q3, by simpa using hl1', by simpa using hl2', by simpa using hl3', CV.far7 hv1 t2.symm _ _ _ _ _ _ _, CV.far7 hv2 t3.symm _ _ _ _ _ _ _, CV.put hv3 sU.d sU.f0 sU.f1 sU.f2 sU.f3 sU.f4 sU.f5⟩⟩
        · intro x W hJ
          obtain ⟨hS, b1, b2, b3, q1, q2, q3, hl1', hl2', hl3', hv1, hv2, hv3⟩ := hJ.2.2.2 (by decide)
          clear hJ
          simp only [fillO, Act.put, List.setIfInBounds_toArray, List.set_cons_zero, List.set_cons_succ, Nat.reduceAdd, q1, q2, q3]
          generalize x 0 = x0
          generalize x 1 = x1
          generalize x 2 = x2
          generalize x 3 = x3
          generalize x 4 = x4
          generalize x 5 = x5
          generalize x 6 = x6
          generalize x 7 = x7
          generalize x 8 = x8
          generalize x 9 = x9
          generalize x 10 = x10
          generalize x 11 = x11
          clear q1 q2 q3 x
          have HS := Lib.hid hS.hb
          have HV1 := Lib.hid (fun (W' : World) (hb : Below W.heap.size W W') => show CV W' b1 sA.d sA.sl from CV.under hv1 hb)
          have HV2 := Lib.hid (fun (W' : World) (hb : Below W.heap.size W W') => show CV W' b2 sB.d sB.sl from CV.under hv2 hb)
          have HV3 := Lib.hid (fun (W' : World) (hb : Below W.heap.size W W') => show CV W' b3 sU.d sU.sl from CV.under hv3 hb)
          have HFIN := Lib.hid (fun (W' : World) (hb : Below W.heap.size W W') => HW3.out.trans ((hS.hb.trans (hb.mono hS.hb.size)).mono HW3.out.size))
          have HMA := Lib.hid (fun (W' : World) (hb : Below W.heap.size W W') => may_any sA W' (HGA.out.1.on (hS.hb.trans (hb.mono hS.hb.size))))
          have HMB := Lib.hid (fun (W' : World) (hb : Below W.heap.size W W') => may_any sB W' (HGB.out.1.on (hS.hb.trans (hb.mono hS.hb.size))))
          have HMU := Lib.hid (fun (W' : World) (hb : Below W.heap.size W W') => may_any sU W' (HGU.out.1.on (hS.hb.trans (hb.mono hS.hb.size))))
          have HNA := Lib.hid (fun (W' : World) (hb : Below W.heap.size W W') => next_any sA after W' (HGA.out.1.on (hS.hb.trans (hb.mono hS.hb.size))) ha1)
          have HNB := Lib.hid (fun (W' : World) (hb : Below W.heap.size W W') => next_any sB after W' (HGB.out.1.on (hS.hb.trans (hb.mono hS.hb.size))) ha1)
          have HNU := Lib.hid (fun (W' : World) (hb : Below W.heap.size W W') => next_any sU after W' (HGU.out.1.on (hS.hb.trans (hb.mono hS.hb.size))) ha1)
          obtain ⟨MA, hMA⟩ : ∃ m, m = Sp.mayCal sA.cal := ⟨_, rfl⟩
          obtain ⟨MB, hMB⟩ : ∃ m, m = Sp.mayCal sB.cal := ⟨_, rfl⟩
          obtain ⟨MU, hMU⟩ : ∃ m, m = Sp.mayCal sU.cal := ⟨_, rfl⟩
          rw [← hMA] at HMA
          rw [← hMB] at HMB
          rw [← hMU] at HMU
          have HMAB : Hid (MU = (MA && MB)) := Lib.hid (by
            rw [hMU, hMA, hMB, HGA.out.2, HGB.out.2, HGU.out.2]
            exact Sp.may_union cal pl ql i (by rw [HPL.out]; omega) (by rw [HQL.out]; omega) (by rw [HPL.out, HQL.out]; omega))
          have HMT : Hid (MU = true → ∀ t, Sp.matchB sU.cal t = (Sp.matchB sA.cal t || Sp.matchB sB.cal t)) := Lib.hid (fun hm t => by
            rw [HGA.out.2, HGB.out.2, HGU.out.2]
            exact Sp.match_union cal pl ql i (by rw [HPL.out]; omega) (by rw [HQL.out]; omega) (by rw [HPL.out, HQL.out]; omega) (by rw [← HGU.out.2, ← hMU]; exact hm) t)
          simp only [calV] at HMA HMB HMU HNA HNB HNU
          simp only [slV] at HMA HMB HMU HNA HNB HNU
          clear hMA hMB hMU hv1 hv2 hv3 hS HGA HGB HGU HWA HWB HWU HC3 HC1 HG HI HZ0 HZ1 HZ2
          have hb0 : Below W.heap.size W W := Below.refl _ _
          have m0 := (HV3.out _ hb0).cd
          have m1 := (HV3.out _ hb0).cell 0 (by decide)
          have m2 := (HV3.out _ hb0).cell 1 (by decide)
          have m3 := (HV3.out _ hb0).cell 2 (by decide)
          have m4 := (HV3.out _ hb0).cell 3 (by decide)
          have m5 := (HV3.out _ hb0).cell 4 (by decide)
          have m6 := (HV3.out _ hb0).cell 5 (by decide)
          simp only [slV, CalS.sl] at m0 m1 m2 m3 m4 m5 m6
          go_wp2_with fail
          refine (HMU.out W hb0).mono ?_
          rintro e w4 ⟨rfl, hb4⟩
          clear m0 m1 m2 m3 m4 m5 m6 hb0
          have HB4 := Lib.hid hb4
          clear hb4
          cases MU with
          | false =>
            have m0 := (HV1.out _ HB4.out).cd
            have m1 := (HV1.out _ HB4.out).cell 0 (by decide)
            have m2 := (HV1.out _ HB4.out).cell 1 (by decide)
            have m3 := (HV1.out _ HB4.out).cell 2 (by decide)
            have m4 := (HV1.out _ HB4.out).cell 3 (by decide)
            have m5 := (HV1.out _ HB4.out).cell 4 (by decide)
            have m6 := (HV1.out _ HB4.out).cell 5 (by decide)
            simp only [slV, CalS.sl] at m0 m1 m2 m3 m4 m5 m6
            go_wp2_with fail
            refine (HMA.out w4 HB4.out).mono ?_
            rintro e w5 ⟨rfl, hb5⟩
            have HB5 := Lib.hid (HB4.out.trans (hb5.mono HB4.out.size))
            clear m0 m1 m2 m3 m4 m5 m6 hb5 HB4
            cases MA with
            | false =>
              go_wp2
              go_ret
              exact ⟨rfl, HFIN.out _ HB5.out⟩
            | true =>
              obtain rfl : MB = false := by have := HMAB.out; rw [Bool.true_and] at this; exact this.symm
              have m0 := (HV2.out _ HB5.out).cd
              have m1 := (HV2.out _ HB5.out).cell 0 (by decide)
              have m2 := (HV2.out _ HB5.out).cell 1 (by decide)
              have m3 := (HV2.out _ HB5.out).cell 2 (by decide)
              have m4 := (HV2.out _ HB5.out).cell 3 (by decide)
              have m5 := (HV2.out _ HB5.out).cell 4 (by decide)
              have m6 := (HV2.out _ HB5.out).cell 5 (by decide)
              simp only [slV, CalS.sl] at m0 m1 m2 m3 m4 m5 m6
              go_wp2_with fail
              refine (HMB.out w5 HB5.out).mono ?_
              rintro e w6 ⟨rfl, hb6⟩
              have HB6 := Lib.hid (HB5.out.trans (hb6.mono HB5.out.size))
              clear m0 m1 m2 m3 m4 m5 m6 hb6 HB5
              go_wp2
              go_ret
              exact ⟨rfl, HFIN.out _ HB6.out⟩
          | true =>
            have m0 := (HV1.out _ HB4.out).cd
            have m1 := (HV1.out _ HB4.out).cell 0 (by decide)
            have m2 := (HV1.out _ HB4.out).cell 1 (by decide)
            have m3 := (HV1.out _ HB4.out).cell 2 (by decide)
            have m4 := (HV1.out _ HB4.out).cell 3 (by decide)
            have m5 := (HV1.out _ HB4.out).cell 4 (by decide)
            have m6 := (HV1.out _ HB4.out).cell 5 (by decide)
            simp only [slV, CalS.sl] at m0 m1 m2 m3 m4 m5 m6
            go_wp2_with fail
            refine (HNA.out w4 HB4.out).mono ?_
            rintro e w5 ⟨⟨X, ox, rfl, hnx⟩, hb5⟩
            have HX := Lib.hid hnx
            have HB5 := Lib.hid (HB4.out.trans (hb5.mono HB4.out.size))
            clear m0 m1 m2 m3 m4 m5 m6 hb5 HB4 hnx
            have m0 := (HV2.out _ HB5.out).cd
            have m1 := (HV2.out _ HB5.out).cell 0 (by decide)
            have m2 := (HV2.out _ HB5.out).cell 1 (by decide)
            have m3 := (HV2.out _ HB5.out).cell 2 (by decide)
            have m4 := (HV2.out _ HB5.out).cell 3 (by decide)
            have m5 := (HV2.out _ HB5.out).cell 4 (by decide)
            have m6 := (HV2.out _ HB5.out).cell 5 (by decide)
            simp only [slV, CalS.sl] at m0 m1 m2 m3 m4 m5 m6
            go_wp2_with fail
            refine (HNB.out w5 HB5.out).mono ?_
            rintro e w6 ⟨⟨Y, oy, rfl, hny⟩, hb6⟩
            have HY := Lib.hid hny
            have HB6 := Lib.hid (HB5.out.trans (hb6.mono HB5.out.size))
            clear m0 m1 m2 m3 m4 m5 m6 hb6 HB5 hny
            have m0 := (HV3.out _ HB6.out).cd
            have m1 := (HV3.out _ HB6.out).cell 0 (by decide)
            have m2 := (HV3.out _ HB6.out).cell 1 (by decide)
            have m3 := (HV3.out _ HB6.out).cell 2 (by decide)
            have m4 := (HV3.out _ HB6.out).cell 3 (by decide)
            have m5 := (HV3.out _ HB6.out).cell 4 (by decide)
            have m6 := (HV3.out _ HB6.out).cell 5 (by decide)
            simp only [slV, CalS.sl] at m0 m1 m2 m3 m4 m5 m6
            go_wp2_with fail
            refine (HNU.out w6 HB6.out).mono ?_
            rintro e w7 ⟨⟨Z, oz, rfl, hnz⟩, hb7⟩
            have HU := Lib.hid (Sp.next_union (HMT.out (by first | exact trivial | rfl)) HX.out HY.out hnz)
            have HB7 := Lib.hid (HB6.out.trans (hb7.mono HB6.out.size))
            clear m0 m1 m2 m3 m4 m5 m6 hb7 HB6 hnz
            cases ox with
            | true =>
              cases oy with
              | true =>
                obtain ⟨rfl, rfl⟩ := HU.out.1 rfl rfl
                go_wp2
                go_ret
                exact ⟨by simp, HFIN.out _ HB7.out⟩
              | false =>
                obtain ⟨rfl, rfl⟩ := HU.out.2.1 rfl rfl
                go_wp2
                go_ret
                exact ⟨by simp, HFIN.out _ HB7.out⟩
            | false =>
              cases oy with
              | true =>
                obtain ⟨rfl, rfl⟩ := HU.out.2.2.1 rfl rfl
                go_wp2
                go_ret
                exact ⟨by simp, HFIN.out _ HB7.out⟩
              | false =>
                obtain rfl := HU.out.2.2.2 rfl rfl
                go_wp2
                go_ret
                exact ⟨by simp, HFIN.out _ HB7.out⟩

end Go.Proofs.YtopmdffiikajnaaGreatDoor
