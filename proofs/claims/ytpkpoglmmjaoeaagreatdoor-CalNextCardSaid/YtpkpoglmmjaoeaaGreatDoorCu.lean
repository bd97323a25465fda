/-
  The numbers of a field, one after another: the iterator's contract.
-/
import Derived.Test.YtpkpoglmmjaoeaaGreatDoorCt
import Derived.RangeFuncNested
import Derived.RangeFuncBound
import Derived.RangeFuncCalls
import Derived.RangeFuncLeaves
import Derived.Shelf.Abstract
import Derived.Shelf.AbstractIn
import Derived.OwnWalkIn
import Derived.TacticsInMore
import Derived.LoopNIn
import Derived.LoopIn
namespace Go.Proofs.YtpkpoglmmjaoeaaGreatDoor
open Go.RowKit Go.Shelf
attribute [local go_sem] Oper.semAt_some

theorem Sp.nums_len (l : List Sp.PartD) (f : Nat) (a : Int) : (Sp.numsF l f a).length ≤ 2200 := by
  unfold Sp.numsF
  exact Nat.le_trans (List.length_filter_le _ _) (by simp)
/-- a number that a field can have -/
abbrev Small := { x : Int // 0 ≤ x ∧ x < 2200 }
def toS (l : List Int) : List Small := l.filterMap fun x => if h : 0 ≤ x ∧ x < 2200 then some ⟨x, h⟩ else none
theorem toS_snoc (l : List Int) (z : Int) (h : 0 ≤ z ∧ z < 2200) : toS (l ++ [z]) = toS l ++ [⟨z, h⟩] := by
  unfold toS
  rw [List.filterMap_append]
  congr 1
  simp [h]
theorem toS_nil : toS [] = [] := rfl
theorem toS_val (l : List Int) (h : ∀ x ∈ l, 0 ≤ x ∧ x < 2200) : (toS l).map (fun x => x.1) = l := by
  induction l with
  | nil => rfl
  | cons x r ih =>
    have hx := h x (by simp)
    have e : toS (x :: r) = ⟨x, hx⟩ :: toS r := by unfold toS; rw [List.filterMap_cons]; simp [hx]
    rw [e, List.map_cons, ih (fun y hy => h y (by simp [hy]))]
theorem toS_prefix {a b : List Int} (h : a <+: b) : toS a <+: toS b := by
  obtain ⟨r, hr⟩ := h
  exact ⟨toS r, by rw [← hr]; unfold toS; rw [List.filterMap_append]⟩
theorem toS_len (l : List Int) : (toS l).length ≤ l.length := List.length_filterMap_le _ _
theorem grown_of_below {w w' : World} (h : Below w.heap.size w w') : w.grownBy w' none := ⟨h.os, h.tape, h.output, h.size, fun k hk _ => h.block k hk⟩
set_option maxRecDepth 100000 in
set_option maxHeartbeats 4000000 in
/-- numbers's closure, for every loop body that keeps what lay below n₀ -/
theorem numbers1_in (n : Nat) (hn : 1 ≤ n) (l bf ba bl n₀ : Nat) (ps : List Sp.PartD) (f : Nat) (a : Int) (A : Option Addr) (k c : Nat) (hk : k ≤ 9223372036854775807) (hm : ∀ q ∈ ps, Sp.mayPartB q f = true) (hb1 : bf < n₀) (hb3 : bl < n₀) (J Jx : List Small → World → Prop)
    (hJ : ∀ (s : List Small) (W W' : World), J s W → Below W.heap.size W W' → J s W') (W : World) (hn0 : n₀ ≤ W.heap.size) (hrd : Rd W n₀ 3 A k (partsC ps))
    (hY : ∀ (pre : List Small) (x : Small) W, J pre W → pre.length < 2200 → YieldAt Fence.wide (n - 1) Tryz.prog l #[.int .i64 x.1] W fun e W' =>
      (e = .returned (.bool true) ∧ J (pre ++ [x]) W' ∧ Below n₀ W W') ∨ (e = .returned (.bool false) ∧ Jx (pre ++ [x]) W'))
    (hcf : W.cell? ⟨bf, 0, none⟩ = some (.int .i64 f)) (hca : W.cell? ⟨ba, 0, none⟩ = some (.int .i64 a)) (hcl : W.cell? ⟨bl, 0, none⟩ = some (.slice A k c)) (h0 : J [] W) :
    CallsIn Fence.wide n Tryz.prog 71 #[.func (.yield l) #[] #[], .pointer (some ⟨bf, 0, none⟩), .pointer (some ⟨ba, 0, none⟩), .pointer (some ⟨bl, 0, none⟩)] W fun e W' => (∃ v, e = .returned v) ∧
      ((∃ ys, ys = toS (Sp.numsF ps f a) ∧ J ys W') ∨ (∃ pre, pre <+: toS (Sp.numsF ps f a) ∧ Jx pre W')) := by
  have hlo := Sp.field_range f
  have HBD := Lib.hid (fun w => bounds_any f w)
  have hlow : Sp.lowF f ≤ 2000 := by unfold Sp.lowF; split <;> decide
  generalize hL : Sp.lowF f = low at *
  generalize hH : Sp.highF f = high at *
  have HLH := Lib.hid (And.intro hL hH)
  clear hL hH
  refine callsIn_of_wp Tryz.func71 rfl trivial ?_ rfl
  simp only [Tryz.ntmps71, List.size_toArray, List.length_cons, List.length_nil, Nat.reduceAdd, Nat.reduceSub, Array.replicate_succ, Array.replicate_zero, List.push_toArray, List.append_toArray, List.nil_append, List.cons_append]
  have HIN : Hid (∀ z wr, 0 ≤ z ∧ z ≤ 9999 → Below n₀ W wr → Calls Tryz.prog 35 #[.slice A k c, .int .i64 f, .int .i64 z] wr fun e w' => e = .returned (.bool (Sp.inB ps f z)) ∧ Below wr.heap.size wr w') := Lib.hid (fun z wr hz hb => in_any ps f z A k c wr ((hrd.below hb).more (Nat.le_trans hn0 hb.size)) hk hm hz)
  have HST := Lib.hid (fun z h1 h2 h3 => Sp.to_step ps f a z h1 h2 h3)
  have HN0 := Lib.hid (fun z h => Sp.to_none ps f a z h)
  have HNA := Lib.hid (fun z h => Sp.to_all ps f a z h)
  have HPX := Lib.hid (fun z => Sp.to_prefix ps f a z)
  have HLEN := Lib.hid (Sp.nums_len ps f a)
  rw [HLH.out.1, HLH.out.2] at HST
  rw [HLH.out.1] at HN0
  rw [HLH.out.2] at HNA
  have HCF := Lib.hid (fun wr (hb : Below n₀ W wr) => (hb.cell (p := ⟨bf, 0, none⟩) hb1).trans hcf)
  have HCL := Lib.hid (fun wr (hb : Below n₀ W wr) => (hb.cell (p := ⟨bl, 0, none⟩) hb3).trans hcl)
  have HY := Lib.hid hY
  have HJ := Lib.hid hJ
  obtain ⟨Z, hZ⟩ : ∃ Z, max low a = Z := ⟨_, rfl⟩
  have hZ1 : low ≤ Z ∧ a ≤ Z := by omega
  have HZ0 : Hid (Z ≤ low ∨ Z ≤ a) := Lib.hid (by omega)
  have H0 := Lib.hid h0
  clear hY hJ hm hrd h0
  generalize (f : Int) = fi at *
  gi_wp2_with fail
  refine ⟨trivial, (callsIn_wide.2 (HBD.out _)).mono ?_⟩
  rintro e w' ⟨rfl, rfl⟩
  gi_wp2_with fail
  gi_loopw [7] (fun iv wr => ∃ z : Int, iv = .int .i64 z ∧ (low ≤ z ∧ a ≤ z) ∧ Hid (J (toS (Sp.numsTo ps f a z)) wr) ∧ Hid (Below n₀ W wr)) (fun iv _ => (high + 1 - intOf iv).toNat)
  case atStart => exact ⟨Z, rfl, hZ1, Lib.hid (by rw [HN0.out Z HZ0.out, toS_nil]; exact H0.out), Lib.hid (Below.refl _ _)⟩
  case round =>
    obtain ⟨z, rfl, hz, HJz, HBz⟩ := hrel
    by_cases hlt : z ≤ high
    · have d1 := HCF.out wr HBz.out
      have d2 := HCL.out wr HBz.out
      have HI := Lib.hid (HIN.out z wr (by omega) HBz.out)
      have HS := Lib.hid (HST.out z hz.1 hlt hz.2)
      have v1 : IntKind.i64.wrap (z + 1) = z + 1 := by rw [IntKind.wrap_i64]; omega
      generalize Sp.inB ps f z = ib at *
      cases ib with
      | false =>
        gi_wp2_with fail
        refine ⟨trivial, (callsIn_wide.2 HI.out).mono ?_⟩
        rintro e w2 ⟨rfl, hb2⟩
        have HB2 := Lib.hid (HBz.out.trans (hb2.mono (Nat.le_trans hn0 HBz.out.size)))
        have HJ2 := Lib.hid (HJ.out _ _ _ HJz.out hb2)
        clear hb2
        gi_wp2
        refine ⟨fun _ h => (by cases h), ?_⟩
        gi_wp2
        go_roundw
        case rel => exact ⟨z + 1, rfl, by omega, Lib.hid (by rw [HS.out]; exact HJ2.out), HB2⟩
        case measure => simp [intOf]; omega
      | true =>
        gi_wp2_with fail
        refine ⟨trivial, (callsIn_wide.2 HI.out).mono ?_⟩
        rintro e w2 ⟨rfl, hb2⟩
        have HB2 := Lib.hid (HBz.out.trans (hb2.mono (Nat.le_trans hn0 HBz.out.size)))
        have HJ2 := Lib.hid (HJ.out _ _ _ HJz.out hb2)
        clear hb2
        have hzs : 0 ≤ z ∧ z < 2200 := by omega
        have HSN : Hid (toS (Sp.numsTo ps f a (z + 1)) = toS (Sp.numsTo ps f a z) ++ [⟨z, hzs⟩]) := Lib.hid (by rw [HS.out, if_pos trivial]; exact toS_snoc _ z hzs)
        have hy0 := HY.out _ ⟨z, hzs⟩ w2 HJ2.out (by
          have h1 := (toS_prefix (HPX.out (z + 1))).length_le
          rw [HSN.out, List.length_append, List.length_singleton] at h1
          have h2 := toS_len (Sp.numsF ps f a)
          have := HLEN.out
          omega)
        dsimp only at hy0
        obtain ⟨fn, tmps, assign, body, hy, hR⟩ := hy0
        have HR := Lib.hid hR
        clear hR
        gi_wp2
        refine HR.out.mono ?_
        rintro e W3 (⟨rfl, hJ3, hk3⟩ | ⟨rfl, hJx3⟩)
        · have HJ3 := Lib.hid hJ3
          have HB3 := Lib.hid (HB2.out.trans hk3)
          clear hJ3 hk3
          gi_wp2
          go_roundw
          case rel => exact ⟨z + 1, rfl, by omega, Lib.hid (by rw [HSN.out]; exact HJ3.out), HB3⟩
          case measure => simp [intOf]; omega
        · have HJX := Lib.hid hJx3
          clear hJx3
          gi_wp2
          refine bodyPost_ret (results_none rfl _ _ _) rfl ?_
          exact ⟨⟨_, rfl⟩, .inr ⟨_, by rw [← HSN.out]; exact toS_prefix (HPX.out _), HJX.out⟩⟩
    · have HNF := Lib.hid (HNA.out z (by omega))
      gi_wp2
      go_end0
      exact ⟨⟨_, rfl⟩, .inl (by rw [← HNF.out]; exact HJz.out)⟩
/-- what the iterator over a field's numbers is -/
theorem numbers_stops (n : Nat) (hn : 1 ≤ n) (bf ba bl n₀ : Nat) (ps : List Sp.PartD) (f : Nat) (a : Int) (A : Option Addr) (k c : Nat) (hk : k ≤ 9223372036854775807) (hm : ∀ q ∈ ps, Sp.mayPartB q f = true) (hb1 : bf < n₀) (hb2 : ba < n₀) (hb3 : bl < n₀) (w : World) (hn0 : n₀ ≤ w.heap.size) (hrd : Rd w n₀ 3 A k (partsC ps))
    (hcf : w.cell? ⟨bf, 0, none⟩ = some (.int .i64 f)) (hca : w.cell? ⟨ba, 0, none⟩ = some (.int .i64 a)) (hcl : w.cell? ⟨bl, 0, none⟩ = some (.slice A k c)) :
    SeqStopsK Fence.wide n Tryz.prog 71 #[.pointer (some ⟨bf, 0, none⟩), .pointer (some ⟨ba, 0, none⟩), .pointer (some ⟨bl, 0, none⟩)] (fun x : Small => #[.int .i64 x.1]) (Below n₀) (fun xs => xs = toS (Sp.numsF ps f a)) (fun pre => pre <+: toS (Sp.numsF ps f a)) 2200 w := by
  intro l J Jx W hW hJ _ hY h0
  have hW0 : Below n₀ w W := hW.mono hn0
  exact numbers1_in n hn l bf ba bl n₀ ps f a A k c hk hm hb1 hb3 J Jx (fun s W1 W2 hs hb => hJ s W1 W2 none hs (grown_of_below hb) (fun r e => by cases e)) W (Nat.le_trans hn0 hW.size) (hrd.below hW0)
    hY ((hW0.cell (p := ⟨bf, 0, none⟩) hb1).trans hcf) ((hW0.cell (p := ⟨ba, 0, none⟩) hb2).trans hca) ((hW0.cell (p := ⟨bl, 0, none⟩) hb3).trans hcl) h0
/-- numbers: the three are boxed, the function value captures the boxes -/
theorem numbers_any (A : Option Addr) (k c : Nat) (f a : Int) (w : World) :
    Calls Tryz.prog 45 #[.slice A k c, .int .i64 f, .int .i64 a] w fun e w' => e = .returned (.func (.func 71) #[] #[.pointer (some ⟨w.heap.size + 1, 0, none⟩), .pointer (some ⟨w.heap.size + 2, 0, none⟩), .pointer (some ⟨w.heap.size, 0, none⟩)]) ∧ w' = ((w.alloc (.cells #[.slice A k c] 23)).alloc (.cells #[.int .i64 f] 3)).alloc (.cells #[.int .i64 a] 3) := by
  go_enter Tryz.func45, Tryz.ntmps45
  go_wp2
  go_ret
  exact ⟨by simp, rfl⟩

end Go.Proofs.YtpkpoglmmjaoeaaGreatDoor
