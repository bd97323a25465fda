/-
  Fewer weekdays, Steps that are multiples: the law's walk.
-/
import Derived.Test.YtopmdffiikajnaaGreatDoorDr
import Derived.Test.YtopmdffiikajnaaGreatDoorGa
import Derived.Test.YtopmdffiikajnaaGreatDoorDh
import Derived.Test.YtopmdffiikajnaaGreatDoorDi
namespace Go.Proofs.YtopmdffiikajnaaGreatDoor
open Go.RowKit Go.Shelf

theorem list_head {α : Type} : ∀ (l : List α) (h : 0 < l.length), ∃ r, l = l[0] :: r
  | [], h => by cases h
  | a :: r, _ => ⟨r, rfl⟩
theorem own_base {w : World} {base : Nat} {e : TypeId} {size n : Nat} {v : Value} {xs : List Value} (h : w.ownsRow base e size v n xs) : ∀ k, v.ownBlock = some k → base ≤ k := by
  intro k hk
  rcases h.2 with ⟨rfl, _⟩ | ⟨g, cap, cur, rfl, hb, _⟩
  · cases hk
  · injection hk with hk
    rw [← hk]; exact hb
def lessF (f : Nat → SlA) (a : SlA) : Nat → SlA := fun i => if i = 5 then a else f i
/-- what is there of the other calendar behind k parts -/
structure LessW (w2 : World) (b : Nat) (f : Nat → SlA) (day times : Int) (sec : List Sp.PartD) (k : Nat) (a : SlA) (wr : World) : Prop where
  hb : Below b w2 wr
  hd : CV wr b ⟨some ⟨b + 1, 0, none⟩, 1, 1⟩ (lessF f a)
  hy : wr.heap[b + 1]? = some (.cells #[.int .i64 day] 3 (0, 0))
  ho : wr.ownsRow (b + 2) 43 3 (slV a) k (partsC ((sec.take k).map (Sp.timesP times)))
  hs : ∀ p ∈ sec.take k, p.st * times ≤ 9999
theorem LessW.step {w2 wr w3 : World} {b : Nat} {f : Nat → SlA} {day times : Int} {sec : List Sp.PartD} {k : Nat} {a : SlA} (h : LessW w2 b f day times sec k a wr) (o1 o2 : Obj) (hk : k < sec.length) (hp : sec[k].st * times ≤ 9999) {A : Option Addr} {c : Nat}
    (hg : ((wr.alloc o1).alloc o2).grownBy w3 (slV a).ownBlock) (ho : w3.ownsRow (b + 2) 43 3 (.slice A (k + 1) c) (k + 1) (partsC ((sec.take k).map (Sp.timesP times)) ++ [.int .i64 sec[k].fr, .int .i64 sec[k].to, .int .i64 (sec[k].st * times)])) :
    CV w3 b ⟨some ⟨b + 1, 0, none⟩, 1, 1⟩ (lessF f a) ∧ LessW w2 b f day times sec (k + 1) ⟨A, k + 1, c⟩ (w3.setCell ⟨b, 6, none⟩ (.slice A (k + 1) c)) := by
  have hb2 := own_base h.ho
  have hbs : b < wr.heap.size := h.hd.lt
  have hbs1 : b + 1 < wr.heap.size := (Array.getElem?_eq_some_iff.1 h.hy).1
  have hz : wr.heap.size ≤ ((wr.alloc o1).alloc o2).heap.size := by simp; omega
  have g0 : ((wr.alloc o1).alloc o2).heap[b]? = wr.heap[b]? := ((Below.heap_alloc _ o2 b (by simp; omega))).trans (Below.heap_alloc wr o1 b hbs)
  have g1 : ((wr.alloc o1).alloc o2).heap[b + 1]? = wr.heap[b + 1]? := ((Below.heap_alloc _ o2 (b + 1) (by simp; omega))).trans (Below.heap_alloc wr o1 (b + 1) hbs1)
  have e0 : w3.heap[b]? = wr.heap[b]? := (hg.block b (by omega) (fun e => by have := hb2 b e.symm; omega)).trans g0
  have e1 : w3.heap[b + 1]? = wr.heap[b + 1]? := (hg.block (b + 1) (by omega) (fun e => by have := hb2 (b + 1) e.symm; omega)).trans g1
  have hcv : CV w3 b ⟨some ⟨b + 1, 0, none⟩, 1, 1⟩ (lessF f a) := CV.same h.hd e0
  have hbo : ∀ q, (Value.slice A (k + 1) c).ownBlock = some q → b + 2 ≤ q := own_base ho
  refine ⟨hcv, ?_, ?_, ?_, ?_, ?_⟩
  · exact (((h.hb.alloc (by omega) o1).alloc (by simp; omega) o2).grown hg (by simp; omega) (fun q hq => by have := hb2 q hq; omega)).setCell (p := ⟨b, 6, none⟩) (Nat.le_refl _) _
  · exact CV.set hcv 5 (by decide) ⟨A, k + 1, c⟩ (fun i _ => by unfold lessF; split <;> rfl)
  · rw [Below.heap_setCell w3 ⟨b, 6, none⟩ _ (b + 1) (by simp)]
    exact e1.trans h.hy
  · have e : partsC ((sec.take (k + 1)).map (Sp.timesP times)) = partsC ((sec.take k).map (Sp.timesP times)) ++ [.int .i64 sec[k].fr, .int .i64 sec[k].to, .int .i64 (sec[k].st * times)] := by
      rw [List.take_succ_eq_append_getElem hk, List.map_append, List.map_singleton, partsC_snoc]
      rfl
    rw [e]
    exact ho.kept (grownBy_setCellAt w3 b 6 _) (.inr (fun e => by have := hbo b e; omega))
  · intro p hp2
    rw [List.take_succ_eq_append_getElem hk, List.mem_append] at hp2
    rcases hp2 with hp2 | hp2
    · exact h.hs p hp2
    · obtain rfl : p = sec[k] := by simpa using hp2
      exact hp
theorem step_may {p : Sp.PartD} {f : Nat} (h : Sp.mayPartB p f = true) : 0 ≤ p.st ∧ p.st ≤ 9999 := by
  unfold Sp.mayPartB at h
  split at h
  · cases h
  · omega
theorem less_start (w2 : World) (f : Nat → SlA) (day times : Int) (sec : List Sp.PartD) (v0 v1 v2 v3 v4 : Value) (h0 : v0 = slV (f 0)) (h1 : v1 = slV (f 1)) (h2 : v2 = slV (f 2)) (h3 : v3 = slV (f 3)) (h4 : v4 = slV (f 4)) :
    LessW w2 w2.heap.size f day times sec 0 nilS ((w2.alloc (.cells #[.slice (some ⟨w2.heap.size + 1, 0, none⟩) 1 1, v0, v1, v2, v3, v4, .slice none 0 0] 26)).alloc (.cells #[.int .i64 day] 3)) := by
  subst h0 h1 h2 h3 h4
  refine ⟨((Below.refl _ _).alloc (Nat.le_refl _) _).alloc (by simp) _, ?_, ?_, ⟨rfl, .inl ⟨rfl, rfl⟩⟩, fun p hp => (by cases hp)⟩
  · exact (Below.heap_alloc _ _ _ (by simp)).trans (World.alloc_heap_new w2 _)
  · have := World.alloc_heap_new (w2.alloc (.cells #[.slice (some ⟨w2.heap.size + 1, 0, none⟩) 1 1, slV (f 0), slV (f 1), slV (f 2), slV (f 3), slV (f 4), .slice none 0 0] 26)) (.cells #[.int .i64 day] 3)
    simpa using this
set_option maxRecDepth 100000 in
set_option maxHeartbeats 16000000 in
theorem calless_any (s : CalS) (day times after : Int) (w : World) (h : CalGood w s) (_hd1 : -9223372036854775808 ≤ day) (_hd2 : day ≤ 9223372036854775807) (_ht1 : -9223372036854775808 ≤ times) (_ht2 : times ≤ 9223372036854775807) (ha1 : -9223372036854775808 ≤ after) (_ha2 : after ≤ 9223372036854775807) (E : Env w) :
    Calls Tryz.prog 12 #[calV s, .int .i64 day, .int .i64 times, .int .i64 after] w fun e w' => e = .returned (.bool true) ∧ Below w.heap.size w w' := by
  obtain ⟨⟨dA, dn, dc⟩, ⟨A0, n0, c0⟩, ⟨A1, n1, c1⟩, ⟨A2, n2, c2⟩, ⟨A3, n3, c3⟩, ⟨A4, n4, c4⟩, ⟨A5, n5, c5⟩, cal⟩ := s
  have hA : Below w.heap.size w (w.alloc (.cells #[.slice dA dn dc, .slice A0 n0 c0, .slice A1 n1 c1, .slice A2 n2 c2, .slice A3 n3 c3, .slice A4 n4 c4, .slice A5 n5 c5] 26)) := (Below.refl _ w).alloc (Nat.le_refl _) _
  have hcb := CBox.new w ⟨⟨dA, dn, dc⟩, ⟨A0, n0, c0⟩, ⟨A1, n1, c1⟩, ⟨A2, n2, c2⟩, ⟨A3, n3, c3⟩, ⟨A4, n4, c4⟩, ⟨A5, n5, c5⟩, cal⟩
  have hlt : w.heap.size < (w.alloc (.cells #[.slice dA dn dc, .slice A0 n0 c0, .slice A1 n1 c1, .slice A2 n2 c2, .slice A3 n3 c3, .slice A4 n4 c4, .slice A5 n5 c5] 26)).heap.size := by simp
  have HSH := Lib.hid (shown_any _ (E.on hA))
  have HG := Lib.hid h
  simp only [calV, slV] at hcb HSH ⊢
  clear h E
  go_enter Tryz.func12, Tryz.ntmps12
  go_wp2_with fail
  refine HSH.out.mono ?_
  rintro e w1 ⟨rfl, hb1'⟩
  have HC1 : Hid (CBox w1 w.heap.size ⟨⟨dA, dn, dc⟩, ⟨A0, n0, c0⟩, ⟨A1, n1, c1⟩, ⟨A2, n2, c2⟩, ⟨A3, n3, c3⟩, ⟨A4, n4, c4⟩, ⟨A5, n5, c5⟩, cal⟩) := Lib.hid (CBox.on hcb hb1' hlt)
  have HW1 := Lib.hid (hA.trans (hb1'.mono hA.size))
  have hl1 : w.heap.size < w1.heap.size := Nat.lt_of_lt_of_le hlt hb1'.size
  have HNX : Hid (∀ (z : Int) (W : World), -9223372036854775808 ≤ z → Below w1.heap.size w1 W → Calls Tryz.prog 23 #[.agg #[.slice dA dn dc, .slice A0 n0 c0, .slice A1 n1 c1, .slice A2 n2 c2, .slice A3 n3 c3, .slice A4 n4 c4, .slice A5 n5 c5], .int .i64 z] W fun e w' => (∃ v ok, e = .returned (.tuple #[.int .i64 v, .bool ok]) ∧ Sp.NextIs cal z v ok) ∧ Below W.heap.size W w') := Lib.hid (fun z W hz hW => next_any ⟨⟨dA, dn, dc⟩, ⟨A0, n0, c0⟩, ⟨A1, n1, c1⟩, ⟨A2, n2, c2⟩, ⟨A3, n3, c3⟩, ⟨A4, n4, c4⟩, ⟨A5, n5, c5⟩, cal⟩ z W (HG.out.on (HW1.out.trans (hW.mono HW1.out.size))) hz)
  have HMT : Hid (∀ (z : Int) (W : World), -9223372036854775808 ≤ z → z ≤ 9223372036854775807 → Below w1.heap.size w1 W → Calls Tryz.prog 21 #[.agg #[.slice dA dn dc, .slice A0 n0 c0, .slice A1 n1 c1, .slice A2 n2 c2, .slice A3 n3 c3, .slice A4 n4 c4, .slice A5 n5 c5], .int .i64 z] W fun e w' => e = .returned (.bool (Sp.matchB cal z)) ∧ Below W.heap.size W w') := Lib.hid (fun z W hz hz2 hW => match_any ⟨⟨dA, dn, dc⟩, ⟨A0, n0, c0⟩, ⟨A1, n1, c1⟩, ⟨A2, n2, c2⟩, ⟨A3, n3, c3⟩, ⟨A4, n4, c4⟩, ⟨A5, n5, c5⟩, cal⟩ z W (HG.out.on (HW1.out.trans (hW.mono HW1.out.size))) ⟨hz, hz2⟩)
  clear hA hcb hlt HSH hb1'
  clear HMT
  obtain ⟨M, hM⟩ : ∃ M, M = Sp.mayCal cal := ⟨_, rfl⟩
  have HMY : Hid (∀ W : World, Below w1.heap.size w1 W → Calls Tryz.prog 17 #[.agg #[.slice dA dn dc, .slice A0 n0 c0, .slice A1 n1 c1, .slice A2 n2 c2, .slice A3 n3 c3, .slice A4 n4 c4, .slice A5 n5 c5]] W fun e w' => e = .returned (.bool M) ∧ Below W.heap.size W w') := Lib.hid (fun W hW => by
    rw [hM]
    exact may_any ⟨⟨dA, dn, dc⟩, ⟨A0, n0, c0⟩, ⟨A1, n1, c1⟩, ⟨A2, n2, c2⟩, ⟨A3, n3, c3⟩, ⟨A4, n4, c4⟩, ⟨A5, n5, c5⟩, cal⟩ W (HG.out.on (HW1.out.trans (hW.mono HW1.out.size))))
  have HM := Lib.hid hM
  clear hM
  obtain ⟨k0, k1, k2, k3, k4, k5, k6⟩ := HC1.out.on (Below.refl _ _) hl1
  simp only [slV] at k0 k1 k2 k3 k4 k5 k6
  go_wp2_with fail
  refine (HMY.out w1 (Below.refl _ _)).mono ?_
  rintro e w2 ⟨rfl, hb2⟩
  have HB2 := Lib.hid hb2
  clear hb2 k0 k1 k2 k3 k4 k5 k6
  cases M with
  | false =>
    go_wp2
    go_ret
    exact ⟨rfl, (HW1.out.trans (HB2.out.mono HW1.out.size))⟩
  | true =>
    by_cases g1 : times < 1
    · go_wp2
      go_ret
      exact ⟨rfl, (HW1.out.trans (HB2.out.mono HW1.out.size))⟩
    · by_cases g2 : 9 < times
      · go_wp2
        go_ret
        exact ⟨rfl, (HW1.out.trans (HB2.out.mono HW1.out.size))⟩
      · by_cases g3 : day < 1
        · go_wp2
          go_ret
          exact ⟨rfl, (HW1.out.trans (HB2.out.mono HW1.out.size))⟩
        · by_cases g4 : 7 < day
          · go_wp2
            go_ret
            exact ⟨rfl, (HW1.out.trans (HB2.out.mono HW1.out.size))⟩
          · have hl2 : w.heap.size < w2.heap.size := Nat.lt_of_lt_of_le hl1 HB2.out.size
            obtain ⟨k0, k1, k2, k3, k4, k5, k6⟩ := HC1.out.on HB2.out hl1
            simp only [slV] at k0 k1 k2 k3 k4 k5 k6
            have hn5 : n5 ≤ 4 := by
              have h1 := Sp.mayCal_lens HM.out.symm 5 (by decide)
              have h2 := (HG.out.rf 5 (by decide)).1
              rw [partsC_len] at h2
              have h3 : (⟨⟨dA, dn, dc⟩, ⟨A0, n0, c0⟩, ⟨A1, n1, c1⟩, ⟨A2, n2, c2⟩, ⟨A3, n3, c3⟩, ⟨A4, n4, c4⟩, ⟨A5, n5, c5⟩, cal⟩ : CalS).cal.field 5 = cal.field 5 := rfl
              rw [h3] at h2
              have h4 : ((⟨⟨dA, dn, dc⟩, ⟨A0, n0, c0⟩, ⟨A1, n1, c1⟩, ⟨A2, n2, c2⟩, ⟨A3, n3, c3⟩, ⟨A4, n4, c4⟩, ⟨A5, n5, c5⟩, cal⟩ : CalS).sl 5).n = n5 := rfl
              rw [h4] at h2
              omega
            have HL5 : Hid (cal.sec.length = n5) := Lib.hid (by
              have h2 := (HG.out.rf 5 (by decide)).1
              rw [partsC_len] at h2
              have h3 : (⟨⟨dA, dn, dc⟩, ⟨A0, n0, c0⟩, ⟨A1, n1, c1⟩, ⟨A2, n2, c2⟩, ⟨A3, n3, c3⟩, ⟨A4, n4, c4⟩, ⟨A5, n5, c5⟩, cal⟩ : CalS).cal.field 5 = cal.sec := rfl
              rw [h3] at h2
              have h4 : ((⟨⟨dA, dn, dc⟩, ⟨A0, n0, c0⟩, ⟨A1, n1, c1⟩, ⟨A2, n2, c2⟩, ⟨A3, n3, c3⟩, ⟨A4, n4, c4⟩, ⟨A5, n5, c5⟩, cal⟩ : CalS).sl 5).n = n5 := rfl
              rw [h4] at h2
              omega)
            have HPA : Hid (∀ k (hk : k < cal.sec.length), ∃ ad, A5 = some ad ∧ ∀ W, Below w.heap.size w W → W.cell? (ad.add (k * 3)) = some (.int .i64 cal.sec[k].fr) ∧ W.cell? ⟨(ad.add (k * 3)).block, (ad.add (k * 3)).off + 1, none⟩ = some (.int .i64 cal.sec[k].to) ∧ W.cell? ⟨(ad.add (k * 3)).block, (ad.add (k * 3)).off + 2, none⟩ = some (.int .i64 cal.sec[k].st)) := Lib.hid (fun k hk => Rd.partAt (HG.out.rf 5 (by decide)) k hk)
            have HST : Hid (∀ p ∈ cal.sec, 0 ≤ p.st ∧ p.st ≤ 9999) := Lib.hid (fun p hp => step_may (Sp.mayCal_lists HM.out.symm 5 (by decide) p hp))
            obtain ⟨i0, hi, hz0, hz1, hz2⟩ := info_parts info_part
            have HI := Lib.hid hi
            have HZ0 := Lib.hid hz0
            have HZ1 := Lib.hid hz1
            have HZ2 := Lib.hid hz2
            clear hi hz0 hz1 hz2
            go_upto_region 8 with fail
            have hls := less_start w2 (fun i => [(⟨A0, n0, c0⟩ : SlA), ⟨A1, n1, c1⟩, ⟨A2, n2, c2⟩, ⟨A3, n3, c3⟩, ⟨A4, n4, c4⟩][i]?.getD nilS) day times cal.sec (.slice A0 n0 c0) (.slice A1 n1 c1) (.slice A2 n2 c2) (.slice A3 n3 c3) (.slice A4 n4 c4) rfl rfl rfl rfl rfl
            generalize (w2.alloc (.cells #[.slice (some ⟨w2.heap.size + 1, 0, none⟩) 1 1, .slice A0 n0 c0, .slice A1 n1 c1, .slice A2 n2 c2, .slice A3 n3 c3, .slice A4 n4 c4, .slice none 0 0] 26)).alloc (.cells #[.int .i64 day] 3) = w3 at *
            have HLS := Lib.hid hls
            have HC3 := Lib.hid (fun (W : World) (hb : Below w2.heap.size w2 W) => CBox.on HC1.out (HB2.out.trans (hb.mono HB2.out.size)) hl1)
            have HWF := Lib.hid (fun (W : World) (hb : Below w2.heap.size w2 W) => HW1.out.trans ((HB2.out.trans (hb.mono HB2.out.size)).mono HW1.out.size))
            have h12 : w1.heap.size ≤ w2.heap.size := HB2.out.size
            clear hls k0 k1 k2 k3 k4 k5 k6
            generalize w2.heap.size = b at *
            have p6 := (HC3.out w3 HLS.out.hb).c6
            simp only [slV] at p6
            go_wp2_with fail
            clear p6
            go_loopw [45] (fun iv wr => ∃ (k : Nat) (aA : Option Addr) (ac : Nat), k ≤ n5 ∧ iv = .int .i64 k ∧ Hid (LessW w2 b (fun i => [(⟨A0, n0, c0⟩ : SlA), ⟨A1, n1, c1⟩, ⟨A2, n2, c2⟩, ⟨A3, n3, c3⟩, ⟨A4, n4, c4⟩][i]?.getD nilS) day times cal.sec k ⟨aA, k, ac⟩ wr)) (fun iv _ => n5 - (intOf iv).toNat)
            case atStart => exact ⟨0, none, 0, Nat.zero_le _, rfl, HLS⟩
            case round =>
              obtain ⟨k, aA, ac, hk, rfl, HLW⟩ := hrel
              by_cases hlt : k < n5
              · have hx1 : (k : Int) < (n5 : Int) := by omega
                have hx0 : (0 : Int) ≤ (k : Int) := by omega
                have hkl : k < cal.sec.length := by rw [HL5.out]; exact hlt
                obtain ⟨ad, rfl, hc⟩ := HPA.out k hkl
                obtain ⟨m0, m1, m2⟩ := hc wr (HWF.out wr HLW.out.hb)
                have hst := HST.out cal.sec[k] (List.getElem_mem hkl)
                have HSTEP := Lib.hid (fun (w3 : World) (o1 o2 : Obj) (hp : cal.sec[k].st * times ≤ 9999) (A : Option Addr) (c : Nat) => LessW.step (w3 := w3) HLW.out o1 o2 hkl hp (A := A) (c := c))
                clear hc
                generalize cal.sec[k] = pr at *
                obtain ⟨fr, tt, st⟩ := pr
                dsimp only at m0 m1 m2 hst HSTEP
                have hpr : 0 ≤ st * times ∧ st * times ≤ 89991 := by
                  constructor
                  · exact Int.mul_nonneg hst.1 (by omega)
                  · exact Int.le_trans (Int.mul_le_mul_of_nonneg_right hst.2 (by omega)) (by omega)
                have v2 : IntKind.i64.wrap (st * times) = st * times := by rw [IntKind.wrap_i64]; omega
                have v1 : IntKind.i64.wrap ((k : Int) + 1) = ((k + 1 : Nat) : Int) := by rw [IntKind.wrap_i64]; omega
                have q6 := HLW.out.hd.cell 5 (by decide)
                simp only [slV, lessF, if_true] at q6
                by_cases g9 : 9999 < st * times
                · go_wp2
                  go_ret
                  exact ⟨rfl, HWF.out _ (HLW.out.hb.alloc (Nat.le_of_lt HLW.out.hd.lt) _)⟩
                · have HNEW := Lib.hid (rd_part (PB.new (wr.alloc (.cells #[.int .i64 fr, .int .i64 tt, .int .i64 (st * times)] 43)) fr tt (st * times)))
                  have esz : (wr.alloc (.cells #[.int .i64 fr, .int .i64 tt, .int .i64 (st * times)] 43)).heap.size = wr.heap.size + 1 := by simp
                  rw [esz] at HNEW
                  clear esz
                  have hbw : b < wr.heap.size := HLW.out.hd.lt
                  have hbw1 : b + 2 ≤ ((wr.alloc (.cells #[.int .i64 fr, .int .i64 tt, .int .i64 (st * times)] 43)).alloc (.cells #[.int .i64 fr, .int .i64 tt, .int .i64 (st * times)] 43)).heap.size := by
                    have := (Array.getElem?_eq_some_iff.1 HLW.out.hy).1
                    simp
                    omega
                  have HBW := Lib.hid hbw1
                  clear hbw1
                  go_wp2_with (at_builtin; refine wpList_append_rd _ rfl _ _ 24 rfl (b + 2) 43 i0 (.agg #[.int .i64 0, .int .i64 0, .int .i64 0]) 3 24 Tryz.underlying24 HI.out HZ0.out HZ1.out HZ2.out rfl (by decide) _ k _ rfl ((HLW.out.ho.alloc _).alloc _) (some ⟨wr.heap.size + 1, 0, none⟩) 1 1 _ (partsC [⟨fr, tt, st * times⟩]) rfl HNEW.out (part_oneCell ⟨fr, tt, st * times⟩) (by simp only [maxLen]; omega) (by omega) HBW.out ?_)
                  intro v' w4 hown' hgr'
                  obtain ⟨vA, vc, rfl⟩ := own_slice hown'
                  have hz4 : ((wr.alloc (.cells #[.int .i64 fr, .int .i64 tt, .int .i64 (st * times)] 43)).alloc (.cells #[.int .i64 fr, .int .i64 tt, .int .i64 (st * times)] 43)).heap.size ≤ w4.heap.size := hgr'.size
                  obtain ⟨hcv4, hls4⟩ := HSTEP.out w4 _ _ (by omega) vA vc hgr' (by rw [List.map_take]; exact hown')
                  have HLS4 := Lib.hid hls4
                  have k6 := hcv4.cell 5 (by decide)
                  have f6 := hcv4.fz 6
                  simp only [slV, lessF, if_true] at k6
                  clear hown' hgr' hcv4 hls4 HSTEP HNEW HBW q6 m0 m1 m2
                  try simp only [Nat.zero_add]
                  go_wp2
                  go_roundw
                  case rel => exact ⟨k + 1, vA, vc, by omega, by first | rfl | go_num, HLS4⟩
                  case measure => simp [intOf]; omega
              · obtain rfl : k = n5 := by omega
                have HDN := Lib.hid HG.out.bd
                have HEQ : Hid (cal.sec.take k = cal.sec) := Lib.hid (List.take_of_length_le (by rw [HL5.out]; omega))
                have hls := HLW.out
                have hgd : CalGood wr ⟨⟨some ⟨b + 1, 0, none⟩, 1, 1⟩, ⟨A0, n0, c0⟩, ⟨A1, n1, c1⟩, ⟨A2, n2, c2⟩, ⟨A3, n3, c3⟩, ⟨A4, n4, c4⟩, ⟨aA, k, ac⟩, { cal with days := [day], sec := cal.sec.map (Sp.timesP times) }⟩ := by
                  have hgw := HG.out.on (HWF.out wr hls.hb)
                  have ho := hls.ho
                  rw [HEQ.out] at ho
                  have hr5 := (Rd.own ho).1
                  refine ⟨⟨rfl, fun _ => ⟨⟨b + 1, 0, none⟩, rfl, (Array.getElem?_eq_some_iff.1 hls.hy).1, fun j u hu => ?_⟩⟩, fun i hi => ?_, (show (1 : Nat) ≤ 9223372036854775807 by decide), fun i => ?_⟩
                  · have hj : j = 0 := by
                      have := (List.getElem?_eq_some_iff.1 hu).1
                      have e : (intsC ([day] : List Int)).length = 1 := rfl
                      have h2 : j < (intsC ([day] : List Int)).length := this
                      omega
                    subst hj
                    injection hu with hu
                    subst hu
                    simp [World.cell?, hls.hy, Addr.add]
                  · have e : i = 0 ∨ i = 1 ∨ i = 2 ∨ i = 3 ∨ i = 4 ∨ i = 5 := by omega
                    rcases e with rfl | rfl | rfl | rfl | rfl | rfl
                    · exact hgw.rf 0 (by decide)
                    · exact hgw.rf 1 (by decide)
                    · exact hgw.rf 2 (by decide)
                    · exact hgw.rf 3 (by decide)
                    · exact hgw.rf 4 (by decide)
                    · exact hr5
                  · match i with
                    | 0 => exact hgw.bf 0
                    | 1 => exact hgw.bf 1
                    | 2 => exact hgw.bf 2
                    | 3 => exact hgw.bf 3
                    | 4 => exact hgw.bf 4
                    | q + 5 => exact (show k ≤ 9223372036854775807 by omega)
                have hbr : b < wr.heap.size := hls.hd.lt
                have HDB := Lib.hid (fun (W : World) (hb : Below wr.heap.size wr W) => show CV W b ⟨some ⟨b + 1, 0, none⟩, 1, 1⟩ (lessF (fun i => [(⟨A0, n0, c0⟩ : SlA), ⟨A1, n1, c1⟩, ⟨A2, n2, c2⟩, ⟨A3, n3, c3⟩, ⟨A4, n4, c4⟩][i]?.getD nilS) ⟨aA, k, ac⟩) from CV.under hls.hd hb)
                have HXB := Lib.hid (fun (W : World) (hb : Below wr.heap.size wr W) => hls.hb.trans (hb.mono (Nat.le_of_lt hbr)))
                have HMD : Hid (Sp.mayCal { cal with days := [day], sec := cal.sec.map (Sp.timesP times) } = true) := Lib.hid (Sp.may_less cal day times (by omega) (by omega) (by omega) HM.out.symm (fun p hp => hls.hs p (by rw [HEQ.out]; exact hp)))
                have HGD := Lib.hid hgd
                have HND := Lib.hid (fun (W : World) (hb : Below wr.heap.size wr W) => next_any ⟨⟨some ⟨b + 1, 0, none⟩, 1, 1⟩, ⟨A0, n0, c0⟩, ⟨A1, n1, c1⟩, ⟨A2, n2, c2⟩, ⟨A3, n3, c3⟩, ⟨A4, n4, c4⟩, ⟨aA, k, ac⟩, { cal with days := [day], sec := cal.sec.map (Sp.timesP times) }⟩ after W (HGD.out.on hb) ha1)
                have HMM := Lib.hid (fun (W : World) (hb : Below wr.heap.size wr W) => may_any ⟨⟨some ⟨b + 1, 0, none⟩, 1, 1⟩, ⟨A0, n0, c0⟩, ⟨A1, n1, c1⟩, ⟨A2, n2, c2⟩, ⟨A3, n3, c3⟩, ⟨A4, n4, c4⟩, ⟨aA, k, ac⟩, { cal with days := [day], sec := cal.sec.map (Sp.timesP times) }⟩ W (HGD.out.on hb))
                simp only [HMD.out] at HMM
                simp only [calV, slV] at HND HMM
                have HNC := Lib.hid (fun (W : World) (hb : Below b w2 W) => HNX.out after W ha1 (HB2.out.trans (hb.mono h12)))
                have hr0 : Below wr.heap.size wr wr := Below.refl _ _
                have HRD := Lib.hid (fun k hk => Rd.intAt HG.out.rd k hk)
                have HDL : Hid (cal.days.length = dn) := Lib.hid (by have := HG.out.rd.1; dsimp only at this; rw [intsC_len] at this; omega)
                clear hls hgd
                have p0 := (HC3.out wr (HXB.out wr hr0)).c0
                simp only [slV] at p0
                by_cases hdn : dn = 0
                · have hxd : ¬ 0 < (dn : Int) := by omega
                  have hxd2 : decide (0 < dn) = false := decide_eq_false (by omega)
                  have hday : cal.days = [] ∨ ∃ r, cal.days = day :: r := .inl (List.length_eq_zero_iff.1 (by rw [HDL.out, hdn]))
                  have HDAY := Lib.hid hday
                  clear hday hdn
                  obtain ⟨k0, k1, k2, k3, k4, k5, k6⟩ := HC3.out wr (HXB.out wr hr0)
                  simp only [slV] at k0 k1 k2 k3 k4 k5 k6
                  go_wp2_with fail
                  refine (HNC.out wr (HXB.out wr hr0)).mono ?_
                  rintro e w5 ⟨⟨X, ox, rfl, hnx⟩, hb5⟩
                  have HX := Lib.hid hnx
                  have HB5 := Lib.hid hb5
                  clear k0 k1 k2 k3 k4 k5 k6 hnx hb5
                  have m0 := (HDB.out _ HB5.out).cd
                  have m1 := (HDB.out _ HB5.out).cell 0 (by decide)
                  have m2 := (HDB.out _ HB5.out).cell 1 (by decide)
                  have m3 := (HDB.out _ HB5.out).cell 2 (by decide)
                  have m4 := (HDB.out _ HB5.out).cell 3 (by decide)
                  have m5 := (HDB.out _ HB5.out).cell 4 (by decide)
                  have m6 := (HDB.out _ HB5.out).cell 5 (by decide)
                  simp only [slV, lessF] at m0 m1 m2 m3 m4 m5 m6
                  simp at m1 m2 m3 m4 m5 m6
                  go_wp2_with fail
                  refine (HND.out w5 HB5.out).mono ?_
                  rintro e w6 ⟨⟨Y, oy, rfl, hny⟩, hb6⟩
                  have HL := Lib.hid (Sp.next_less (fun t => Sp.match_less cal _ times t (by omega) HDAY.out HM.out.symm) HX.out hny)
                  have HB6 := Lib.hid (HB5.out.trans (hb6.mono HB5.out.size))
                  clear m0 m1 m2 m3 m4 m5 m6 hny hb6
                  have m0 := (HDB.out _ HB6.out).cd
                  have m1 := (HDB.out _ HB6.out).cell 0 (by decide)
                  have m2 := (HDB.out _ HB6.out).cell 1 (by decide)
                  have m3 := (HDB.out _ HB6.out).cell 2 (by decide)
                  have m4 := (HDB.out _ HB6.out).cell 3 (by decide)
                  have m5 := (HDB.out _ HB6.out).cell 4 (by decide)
                  have m6 := (HDB.out _ HB6.out).cell 5 (by decide)
                  simp only [slV, lessF] at m0 m1 m2 m3 m4 m5 m6
                  simp at m1 m2 m3 m4 m5 m6
                  go_wp2_with fail
                  refine (HMM.out w6 HB6.out).mono ?_
                  rintro e w7 ⟨rfl, hb7⟩
                  have HB7 := Lib.hid (HB6.out.trans (hb7.mono HB6.out.size))
                  clear m0 m1 m2 m3 m4 m5 m6 hb7
                  cases oy with
                  | false =>
                    go_wp2
                    go_ret
                    exact ⟨rfl, HWF.out _ (HXB.out _ HB7.out)⟩
                  | true =>
                    obtain ⟨rfl, hxy⟩ : ox = true ∧ X ≤ Y := HL.out.resolve_left (by decide)
                    go_wp2
                    go_ret
                    exact ⟨by simp, HWF.out _ (HXB.out _ HB7.out)⟩
                · have hxd : 0 < (dn : Int) := by omega
                  have hxd2 : decide (0 < dn) = true := decide_eq_true (by omega)
                  have hkl : 0 < cal.days.length := by rw [HDL.out]; omega
                  obtain ⟨ad, rfl, hc⟩ := HRD.out 0 hkl
                  have c9 := hc wr (HWF.out wr (HXB.out wr hr0))
                  obtain ⟨y, hy0⟩ : ∃ y, cal.days[0] = y := ⟨_, rfl⟩
                  rw [hy0] at c9
                  have HD0 : Hid (∃ r, cal.days = y :: r) := Lib.hid (by
                    rw [← hy0]
                    exact list_head cal.days hkl)
                  clear hc hdn hy0
                  have ea : ad.add 0 = ad := by simp [Addr.add]
                  rw [ea] at c9
                  clear ea
                  by_cases hyd : y = day
                  · subst hyd
                    have hyq : (y != y) = false := by simp
                    have HDAY : Hid (cal.days = [] ∨ ∃ r, cal.days = y :: r) := Lib.hid (.inr HD0.out)
                    clear HD0
                    obtain ⟨k0, k1, k2, k3, k4, k5, k6⟩ := HC3.out wr (HXB.out wr hr0)
                    simp only [slV] at k0 k1 k2 k3 k4 k5 k6
                    go_wp2_with fail
                    refine (HNC.out wr (HXB.out wr hr0)).mono ?_
                    rintro e w5 ⟨⟨X, ox, rfl, hnx⟩, hb5⟩
                    have HX := Lib.hid hnx
                    have HB5 := Lib.hid hb5
                    clear k0 k1 k2 k3 k4 k5 k6 hnx hb5
                    have m0 := (HDB.out _ HB5.out).cd
                    have m1 := (HDB.out _ HB5.out).cell 0 (by decide)
                    have m2 := (HDB.out _ HB5.out).cell 1 (by decide)
                    have m3 := (HDB.out _ HB5.out).cell 2 (by decide)
                    have m4 := (HDB.out _ HB5.out).cell 3 (by decide)
                    have m5 := (HDB.out _ HB5.out).cell 4 (by decide)
                    have m6 := (HDB.out _ HB5.out).cell 5 (by decide)
                    simp only [slV, lessF] at m0 m1 m2 m3 m4 m5 m6
                    simp at m1 m2 m3 m4 m5 m6
                    go_wp2_with fail
                    refine (HND.out w5 HB5.out).mono ?_
                    rintro e w6 ⟨⟨Y, oy, rfl, hny⟩, hb6⟩
                    have HL := Lib.hid (Sp.next_less (fun t => Sp.match_less cal _ times t (by omega) HDAY.out HM.out.symm) HX.out hny)
                    have HB6 := Lib.hid (HB5.out.trans (hb6.mono HB5.out.size))
                    clear m0 m1 m2 m3 m4 m5 m6 hny hb6
                    have m0 := (HDB.out _ HB6.out).cd
                    have m1 := (HDB.out _ HB6.out).cell 0 (by decide)
                    have m2 := (HDB.out _ HB6.out).cell 1 (by decide)
                    have m3 := (HDB.out _ HB6.out).cell 2 (by decide)
                    have m4 := (HDB.out _ HB6.out).cell 3 (by decide)
                    have m5 := (HDB.out _ HB6.out).cell 4 (by decide)
                    have m6 := (HDB.out _ HB6.out).cell 5 (by decide)
                    simp only [slV, lessF] at m0 m1 m2 m3 m4 m5 m6
                    simp at m1 m2 m3 m4 m5 m6
                    go_wp2_with fail
                    refine (HMM.out w6 HB6.out).mono ?_
                    rintro e w7 ⟨rfl, hb7⟩
                    have HB7 := Lib.hid (HB6.out.trans (hb7.mono HB6.out.size))
                    clear m0 m1 m2 m3 m4 m5 m6 hb7
                    cases oy with
                    | false =>
                      go_wp2
                      go_ret
                      exact ⟨rfl, HWF.out _ (HXB.out _ HB7.out)⟩
                    | true =>
                      obtain ⟨rfl, hxy⟩ : ox = true ∧ X ≤ Y := HL.out.resolve_left (by decide)
                      go_wp2
                      go_ret
                      exact ⟨by simp, HWF.out _ (HXB.out _ HB7.out)⟩
                  · have hyq : (y != day) = true := by simpa using hyd
                    have HYD := Lib.hid hyd
                    clear hyd
                    go_wp2
                    go_ret
                    exact ⟨rfl, HWF.out _ (HXB.out _ hr0)⟩

end Go.Proofs.YtopmdffiikajnaaGreatDoor
