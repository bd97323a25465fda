/-
  The iterator over a field's numbers, for loops whose rounds may turn some blocks.
-/
import Derived.Test.YtpkpoglmmjaoeaaGreatDoorCu
namespace Go.Proofs.YtpkpoglmmjaoeaaGreatDoor
open Go.RowKit Go.Shelf
attribute [local go_sem] Oper.semAt_some

/-- what a round keeps: the cells of the good blocks -/
structure KeepsOn (n₀ : Nat) (K : World → World → Prop) (good : Nat → Prop) : Prop where
  refl : ∀ W, K W W
  trans : ∀ {A B C : World}, K A B → K B C → K A C
  below : ∀ {A B : World}, n₀ ≤ A.heap.size → Below A.heap.size A B → K A B
  size : ∀ {A B : World}, K A B → A.heap.size ≤ B.heap.size
  cell : ∀ {A B : World}, K A B → ∀ p : Addr, good p.block → B.cell? p = A.cell? p
set_option maxRecDepth 100000 in
set_option maxHeartbeats 4000000 in
/-- numbers's closure, for every loop body that keeps what lay below n₀ -/
theorem numbers1_on (n : Nat) (hn : 1 ≤ n) (l bf ba bl nr n₀ : Nat) (K : World → World → Prop) (good : Nat → Prop) (HK : KeepsOn n₀ K good) (ps : List Sp.PartD) (f : Nat) (a : Int) (A : Option Addr) (k c : Nat) (hk : k ≤ 9223372036854775807) (hm : ∀ q ∈ ps, Sp.mayPartB q f = true) (hb1 : good bf) (hb3 : good bl) (J Jx : List Small → World → Prop)
    (hJ : ∀ (s : List Small) (W W' : World), J s W → Below W.heap.size W W' → J s W') (W : World) (hn0 : n₀ ≤ W.heap.size) (hnr : nr ≤ W.heap.size) (hgr : ∀ b, b < nr → good b) (hrd : Rd W nr 3 A k (partsC ps))
    (hY : ∀ (pre : List Small) (x : Small) W, J pre W → pre.length < 2200 → YieldAt Fence.wide (n - 1) Tryz.prog l #[.int .i64 x.1] W fun e W' =>
      (e = .returned (.bool true) ∧ J (pre ++ [x]) W' ∧ K W W') ∨ (e = .returned (.bool false) ∧ Jx (pre ++ [x]) W'))
    (hcf : W.cell? ⟨bf, 0, none⟩ = some (.int .i64 f)) (hca : W.cell? ⟨ba, 0, none⟩ = some (.int .i64 a)) (hcl : W.cell? ⟨bl, 0, none⟩ = some (.slice A k c)) (h0 : J [] W) :
    CallsIn Fence.wide n Tryz.prog 71 #[.func (.yield l) #[] #[], .pointer (some ⟨bf, 0, none⟩), .pointer (some ⟨ba, 0, none⟩), .pointer (some ⟨bl, 0, none⟩)] W fun e W' => (∃ v, e = .returned v) ∧
      ((∃ ys, ys = toS (Sp.numsF ps f a) ∧ J ys W') ∨ (∃ pre, pre <+: toS (Sp.numsF ps f a) ∧ Jx pre W')) := by
  have hlo := Sp.field_range f
  have HBD := Lib.hid (fun w => bounds_any f w)
  have hlow : Sp.lowF f ≤ 2000 := by unfold Sp.lowF; split <;> decide
  generalize hL : Sp.lowF f = low at *
  generalize hH : Sp.highF f = high at *
  have HLH := Lib.hid (And.intro hL hH)
  clear hL hH
  refine callsIn_of_wp Tryz.func71 rfl trivial ?_ rfl
  simp only [Tryz.ntmps71, List.size_toArray, List.length_cons, List.length_nil, Nat.reduceAdd, Nat.reduceSub, Array.replicate_succ, Array.replicate_zero, List.push_toArray, List.append_toArray, List.nil_append, List.cons_append]
  have HIN : Hid (∀ z wr, 0 ≤ z ∧ z ≤ 9999 → K W wr → Calls Tryz.prog 35 #[.slice A k c, .int .i64 f, .int .i64 z] wr fun e w' => e = .returned (.bool (Sp.inB ps f z)) ∧ Below wr.heap.size wr w') := Lib.hid (fun z wr hz hb => in_any ps f z A k c wr ((hrd.keep (fun p hp => HK.cell hb p (hgr _ hp))).more (Nat.le_trans hnr (HK.size hb))) hk hm hz)
  have HST := Lib.hid (fun z h1 h2 h3 => Sp.to_step ps f a z h1 h2 h3)
  have HN0 := Lib.hid (fun z h => Sp.to_none ps f a z h)
  have HNA := Lib.hid (fun z h => Sp.to_all ps f a z h)
  have HPX := Lib.hid (fun z => Sp.to_prefix ps f a z)
  have HLEN := Lib.hid (Sp.nums_len ps f a)
  rw [HLH.out.1, HLH.out.2] at HST
  rw [HLH.out.1] at HN0
  rw [HLH.out.2] at HNA
  have HCF := Lib.hid (fun wr (hb : K W wr) => (HK.cell hb ⟨bf, 0, none⟩ hb1).trans hcf)
  have HCL := Lib.hid (fun wr (hb : K W wr) => (HK.cell hb ⟨bl, 0, none⟩ hb3).trans hcl)
  have HY := Lib.hid hY
  have HJ := Lib.hid hJ
  obtain ⟨Z, hZ⟩ : ∃ Z, max low a = Z := ⟨_, rfl⟩
  have hZ1 : low ≤ Z ∧ a ≤ Z := by omega
  have HZ0 : Hid (Z ≤ low ∨ Z ≤ a) := Lib.hid (by omega)
  have H0 := Lib.hid h0
  clear hY hJ hm hrd h0
  generalize (f : Int) = fi at *
  gi_wp2_with fail
  refine ⟨trivial, (callsIn_wide.2 (HBD.out _)).mono ?_⟩
  rintro e w' ⟨rfl, rfl⟩
  gi_wp2_with fail
  gi_loopw [7] (fun iv wr => ∃ z : Int, iv = .int .i64 z ∧ (low ≤ z ∧ a ≤ z) ∧ Hid (J (toS (Sp.numsTo ps f a z)) wr) ∧ Hid (K W wr)) (fun iv _ => (high + 1 - intOf iv).toNat)
  case atStart => exact ⟨Z, rfl, hZ1, Lib.hid (by rw [HN0.out Z HZ0.out, toS_nil]; exact H0.out), Lib.hid (HK.refl _)⟩
  case round =>
    obtain ⟨z, rfl, hz, HJz, HBz⟩ := hrel
    by_cases hlt : z ≤ high
    · have d1 := HCF.out wr HBz.out
      have d2 := HCL.out wr HBz.out
      have HI := Lib.hid (HIN.out z wr (by omega) HBz.out)
      have HS := Lib.hid (HST.out z hz.1 hlt hz.2)
      have v1 : IntKind.i64.wrap (z + 1) = z + 1 := by rw [IntKind.wrap_i64]; omega
      generalize Sp.inB ps f z = ib at *
      cases ib with
      | false =>
        gi_wp2_with fail
        refine ⟨trivial, (callsIn_wide.2 HI.out).mono ?_⟩
        rintro e w2 ⟨rfl, hb2⟩
        have HB2 := Lib.hid (HK.trans HBz.out (HK.below (Nat.le_trans hn0 (HK.size HBz.out)) hb2))
        have HJ2 := Lib.hid (HJ.out _ _ _ HJz.out hb2)
        clear hb2
        gi_wp2
        refine ⟨fun _ h => (by cases h), ?_⟩
        gi_wp2
        go_roundw
        case rel => exact ⟨z + 1, rfl, by omega, Lib.hid (by rw [HS.out]; exact HJ2.out), HB2⟩
        case measure => simp [intOf]; omega
      | true =>
        gi_wp2_with fail
        refine ⟨trivial, (callsIn_wide.2 HI.out).mono ?_⟩
        rintro e w2 ⟨rfl, hb2⟩
        have HB2 := Lib.hid (HK.trans HBz.out (HK.below (Nat.le_trans hn0 (HK.size HBz.out)) hb2))
        have HJ2 := Lib.hid (HJ.out _ _ _ HJz.out hb2)
        clear hb2
        have hzs : 0 ≤ z ∧ z < 2200 := by omega
        have HSN : Hid (toS (Sp.numsTo ps f a (z + 1)) = toS (Sp.numsTo ps f a z) ++ [⟨z, hzs⟩]) := Lib.hid (by rw [HS.out, if_pos trivial]; exact toS_snoc _ z hzs)
        have hy0 := HY.out _ ⟨z, hzs⟩ w2 HJ2.out (by
          have h1 := (toS_prefix (HPX.out (z + 1))).length_le
          rw [HSN.out, List.length_append, List.length_singleton] at h1
          have h2 := toS_len (Sp.numsF ps f a)
          have := HLEN.out
          omega)
        dsimp only at hy0
        obtain ⟨fn, tmps, assign, body, hy, hR⟩ := hy0
        have HR := Lib.hid hR
        clear hR
        gi_wp2
        refine HR.out.mono ?_
        rintro e W3 (⟨rfl, hJ3, hk3⟩ | ⟨rfl, hJx3⟩)
        · have HJ3 := Lib.hid hJ3
          have HB3 := Lib.hid (HK.trans HB2.out hk3)
          clear hJ3 hk3
          gi_wp2
          go_roundw
          case rel => exact ⟨z + 1, rfl, by omega, Lib.hid (by rw [HSN.out]; exact HJ3.out), HB3⟩
          case measure => simp [intOf]; omega
        · have HJX := Lib.hid hJx3
          clear hJx3
          gi_wp2
          refine bodyPost_ret (results_none rfl _ _ _) rfl ?_
          exact ⟨⟨_, rfl⟩, .inr ⟨_, by rw [← HSN.out]; exact toS_prefix (HPX.out _), HJX.out⟩⟩
    · have HNF := Lib.hid (HNA.out z (by omega))
      gi_wp2
      go_end0
      exact ⟨⟨_, rfl⟩, .inl (by rw [← HNF.out]; exact HJz.out)⟩
/-- what the iterator over a field's numbers is, for loops whose rounds turn what is not good as they like -/
theorem numbers_stops_on (n : Nat) (hn : 1 ≤ n) (bf ba bl nr n₀ : Nat) (K : World → World → Prop) (good : Nat → Prop) (HK : KeepsOn n₀ K good) (ps : List Sp.PartD) (f : Nat) (a : Int) (A : Option Addr) (k c : Nat) (hk : k ≤ 9223372036854775807) (hm : ∀ q ∈ ps, Sp.mayPartB q f = true) (hb1 : good bf) (hb3 : good bl) (w : World) (hn0 : n₀ ≤ w.heap.size) (hl1 : bf < w.heap.size) (hl2 : ba < w.heap.size) (hl3 : bl < w.heap.size) (hnr : nr ≤ w.heap.size) (hgr : ∀ b, b < nr → good b) (hrd : Rd w nr 3 A k (partsC ps))
    (hcf : w.cell? ⟨bf, 0, none⟩ = some (.int .i64 f)) (hca : w.cell? ⟨ba, 0, none⟩ = some (.int .i64 a)) (hcl : w.cell? ⟨bl, 0, none⟩ = some (.slice A k c)) :
    SeqStopsK Fence.wide n Tryz.prog 71 #[.pointer (some ⟨bf, 0, none⟩), .pointer (some ⟨ba, 0, none⟩), .pointer (some ⟨bl, 0, none⟩)] (fun x : Small => #[.int .i64 x.1]) K (fun xs => xs = toS (Sp.numsF ps f a)) (fun pre => pre <+: toS (Sp.numsF ps f a)) 2200 w := by
  intro l J Jx W hW hJ _ hY h0
  exact numbers1_on n hn l bf ba bl nr n₀ K good HK ps f a A k c hk hm hb1 hb3 J Jx (fun s W1 W2 hs hb => hJ s W1 W2 none hs (grown_of_below hb) (fun r e => by cases e)) W (Nat.le_trans hn0 hW.size) (Nat.le_trans hnr hW.size) hgr (hrd.below (hW.mono hnr))
    hY ((hW.cell (p := ⟨bf, 0, none⟩) hl1).trans hcf) ((hW.cell (p := ⟨ba, 0, none⟩) hl2).trans hca) ((hW.cell (p := ⟨bl, 0, none⟩) hl3).trans hcl) h0
/-- all below n₀ but one block -/
structure Keeps1 (n₀ r : Nat) (A B : World) : Prop where
  os : B.os = A.os
  tape : B.tape = A.tape
  output : B.output = A.output
  size : A.heap.size ≤ B.heap.size
  block : ∀ k, k < n₀ → k ≠ r → B.heap[k]? = A.heap[k]?
theorem keeps1_on (n₀ r : Nat) : KeepsOn n₀ (Keeps1 n₀ r) (fun b => b < n₀ ∧ b ≠ r) where
  refl := fun _ => ⟨rfl, rfl, rfl, Nat.le_refl _, fun _ _ _ => rfl⟩
  trans := fun h g => ⟨g.os.trans h.os, g.tape.trans h.tape, g.output.trans h.output, Nat.le_trans h.size g.size, fun k hk hr => (g.block k hk hr).trans (h.block k hk hr)⟩
  below := fun hn h => ⟨h.os, h.tape, h.output, h.size, fun k hk _ => h.block k (Nat.lt_of_lt_of_le hk hn)⟩
  size := fun h => h.size
  cell := fun h p hp => by simp only [World.cell?, h.block p.block hp.1 hp.2]
theorem keeps1_t {n₀ r : Nat} {A B C : World} (h : Keeps1 n₀ r A B) (k : Keeps1 n₀ r B C) : Keeps1 n₀ r A C := (keeps1_on n₀ r).trans h k
theorem keeps1_b {n₀ r : Nat} {w : World} (hn : n₀ ≤ w.heap.size) (W : World) (l : Nat) (o o' : Obj) (hl : w.heap.size ≤ l) (h : W.heap[l]? = some o) (_ : o.isCells = false) (_ : o.isWalk = false) : Keeps1 n₀ r W (W.putObj l o') := by
  have g := grownBy_putObj' W l o'
  have hlt := (Array.getElem?_eq_some_iff.1 h).1
  exact ⟨g.os, g.tape, g.output, g.size, fun k hk _ => g.block k (by omega) (fun e => by cases e; omega)⟩
/-- a loop's record that lies below lies as it lay -/
theorem ownFrom_rec {β : Type} {B l : Nat} {r : Loop} (hl : l < B) : OwnFrom B (fun (_ : β) W => W.heap[l]? = some (.loop r)) :=
  fun _ _ _ _ hs hg hr => (hg.block l (Array.getElem?_eq_some_iff.1 hs).1 (fun e => by have := (hr l e.symm).1; omega)).trans hs
/-- it abides what own loops turn beyond n₀ -/
theorem ownFrom_keeps1 {β : Type} {n₀ r B : Nat} {w₀ : World} (hn : n₀ ≤ w₀.heap.size) (hB : n₀ ≤ B) : OwnFrom B (fun (_ : β) W => Keeps1 n₀ r w₀ W) :=
  fun _ X Y row hs hg hr => ⟨hg.os.trans hs.os, hg.tape.trans hs.tape, hg.output.trans hs.output, Nat.le_trans hs.size hg.size, fun k hk hkr => (hg.block k (by have := hs.size; omega) (fun e => by have := (hr k e.symm).1; omega)).trans (hs.block k hk hkr)⟩

end Go.Proofs.YtpkpoglmmjaoeaaGreatDoor
