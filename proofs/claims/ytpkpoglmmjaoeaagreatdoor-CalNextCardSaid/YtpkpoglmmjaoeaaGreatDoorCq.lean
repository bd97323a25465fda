/-
  A calendar in memory; its fields' places: the program's walk.
-/
import Derived.Test.YtpkpoglmmjaoeaaGreatDoorCo
import Derived.RegionTactic
import Derived.Laws.ResultCell
namespace Go.Proofs.YtpkpoglmmjaoeaaGreatDoor
open Go.RowKit Go.Shelf

def listsV (b : Nat) : Value := .agg #[.pointer (some ⟨b, 1, none⟩), .pointer (some ⟨b, 2, none⟩), .pointer (some ⟨b, 3, none⟩), .pointer (some ⟨b, 4, none⟩), .pointer (some ⟨b, 5, none⟩), .pointer (some ⟨b, 6, none⟩)]
set_option maxRecDepth 100000 in
set_option maxHeartbeats 8000000 in
theorem lists_any (b : Nat) (w : World) : Calls Tryz.prog 34 #[.pointer (some ⟨b, 0, none⟩)] w fun e w' => e = .returned (listsV b) ∧ Below w.heap.size w w' := by
  have hb0 : Below w.heap.size w (w.alloc (.cells #[.pointer none, .pointer none, .pointer none, .pointer none, .pointer none, .pointer none] 65)) := (Below.refl _ _).alloc (Nat.le_refl _) _
  go_enter Tryz.func34, Tryz.ntmps34
  go_upto_region 1 with fail
  go_region
  all_goals
    go_wp2
    (try simp only [Exit.inBlock, Exit.then])
    refine bodyPost_ret (v := listsV b) (by simp [results, Tryz.results34, go_sem, listsV]) rfl ⟨rfl, ?_⟩
    exact ((Below.refl _ _).alloc (Nat.le_refl _) _).drew

/-- a calendar that comes by value -/
structure SlA where
  A : Option Addr
  n : Nat
  c : Nat
structure CalS where
  d : SlA
  f0 : SlA
  f1 : SlA
  f2 : SlA
  f3 : SlA
  f4 : SlA
  f5 : SlA
  cal : Sp.CalD
def CalS.sl (s : CalS) : Nat → SlA
  | 0 => s.f0
  | 1 => s.f1
  | 2 => s.f2
  | 3 => s.f3
  | 4 => s.f4
  | _ => s.f5
def slV (a : SlA) : Value := .slice a.A a.n a.c
def calV (s : CalS) : Value := .agg #[slV s.d, slV s.f0, slV s.f1, slV s.f2, slV s.f3, slV s.f4, slV s.f5]
def intsC (l : List Int) : List Value := l.map fun n => .int .i64 n
structure CalGood (w : World) (s : CalS) : Prop where
  rd : Rd w w.heap.size 1 s.d.A s.d.n (intsC s.cal.days)
  rf : ∀ i, i < 6 → Rd w w.heap.size 3 (s.sl i).A (s.sl i).n (partsC (s.cal.field i))
  bd : s.d.n ≤ 9223372036854775807
  bf : ∀ i, (s.sl i).n ≤ 9223372036854775807
theorem CalGood.on {w w' : World} {s : CalS} (h : CalGood w s) (hb : Below w.heap.size w w') : CalGood w' s :=
  ⟨(h.rd.below hb).more hb.size, fun i hi => ((h.rf i hi).below hb).more hb.size, h.bd, h.bf⟩
theorem Rd.intAt {w : World} {B n : Nat} {A : Option Addr} {l : List Int} (h : Rd w B 1 A n (intsC l)) (k : Nat) (hk : k < l.length) : ∃ ad, A = some ad ∧ ∀ W, Below B w W → W.cell? (ad.add k) = some (.int .i64 l[k]) := by
  have hl : l.length = n := by have := h.1; simp [intsC] at this; omega
  obtain ⟨ad, rfl, _, _⟩ := h.here (by omega)
  refine ⟨ad, rfl, fun W hW => ?_⟩
  obtain ⟨ad', e, _, hc⟩ := (h.below hW).here (by omega)
  injection e with e
  subst e
  exact hc k _ (by simp [intsC, hk])
theorem intsC_len (l : List Int) : (intsC l).length = l.length := by simp [intsC]

end Go.Proofs.YtpkpoglmmjaoeaaGreatDoor
