/-
  What comes next: the program's walk.
-/
import Derived.Test.YtpkpoglmmjaoeaaGreatDoorDc
namespace Go.Proofs.YtpkpoglmmjaoeaaGreatDoor
open Go.RowKit Go.Shelf
attribute [local go_sem] Oper.semAt_some

theorem CBox.new (w : World) (s : CalS) : CBox (w.alloc (.cells #[slV s.d, slV s.f0, slV s.f1, slV s.f2, slV s.f3, slV s.f4, slV s.f5] 25)) w.heap.size s := by
  constructor <;> simp
theorem Boxed.under {W W' : World} {b : Nat} {t : TypeId} {v : Value} (h : Boxed W b t v) (hb : Below W.heap.size W W') : Boxed W' b t v := (hb.block b h.lt).trans h
theorem DayT.range (x : Sp.DayT) : 0 ≤ x.t ∧ x.t + 86400 ≤ 6311433600 := by
  have h := Sp.dayOf_range x.y x.m x.d x.ok
  unfold Sp.DayT.t
  omega
theorem moment_small {c : Sp.CalD} {a v : Int} (h : Sp.MomentIs c a v true) : 0 ≤ v ∧ v < 86400 := by
  rcases h with ⟨_, _, ⟨h, m, s, h1, h2, h3, rfl, _⟩, _⟩ | ⟨h, _⟩
  · omega
  · cases h
theorem moment_no {c : Sp.CalD} {x : Sp.DayT} {a v : Int} (h : Sp.MomentIs c (a - x.t) v false) : Sp.NoneD c a x.y x.m x.d := Sp.none_moment c a x.y x.m x.d v h
set_option maxRecDepth 100000 in
set_option maxHeartbeats 8000000 in
theorem next_in (n : Nat) (hn : 20 ≤ n) (s : CalS) (a Z : Int) (w : World) (h : CalGood w s) (hm : Sp.mayCal s.cal = true) (ha : -9223372036854775808 ≤ a ∧ a < 6311433599) (hZ : max (a + 1) 0 = Z) :
    CallsIn Fence.wide n Tryz.prog 5 #[calV s, .int .i64 a] w fun e w' => (∃ v ok, e = .returned (.tuple #[.int .i64 v, .bool ok]) ∧ ((ok = true ∧ ∃ pre, pre <+: Sp.daysT s.cal (Sp.ofT Z).year ∧ Sp.HitT s.cal Z pre v) ∨ (ok = false ∧ v = 0 ∧ Sp.NoneT s.cal Z (Sp.daysT s.cal (Sp.ofT Z).year)))) ∧ Below w.heap.size w w' := by
  have h1 : 1 ≤ n := by omega
  have hZr : 0 ≤ Z ∧ Z < 6311433600 := by omega
  obtain ⟨⟨dA, dn, dc⟩, ⟨A0, n0, c0⟩, ⟨A1, n1, c1⟩, ⟨A2, n2, c2⟩, ⟨A3, n3, c3⟩, ⟨A4, n4, c4⟩, ⟨A5, n5, c5⟩, cal⟩ := s
  have HG := Lib.hid h
  have HM := Lib.hid hm
  obtain ⟨D, hD⟩ : ∃ D, D = Sp.ofT Z := ⟨_, rfl⟩
  rw [← hD]
  have HOF : Hid (∀ w, Calls Tryz.prog 13 #[.int .i64 Z] w fun e w' => (∃ ok, e = .returned (.tuple #[.agg #[.int .i64 D.year, .int .i64 D.month, .int .i64 D.day, .int .i64 D.hour, .int .i64 D.min, .int .i64 D.sec, .int .i64 D.wday], .bool ok])) ∧ Below w.heap.size w w') := Lib.hid (fun w => of_sec Z D hD w (by omega))
  clear hD
  have hA : Below w.heap.size w (((w.alloc (.cells #[.slice dA dn dc, .slice A0 n0 c0, .slice A1 n1 c1, .slice A2 n2 c2, .slice A3 n3 c3, .slice A4 n4 c4, .slice A5 n5 c5] 25)).alloc (.cells #[.int .i64 0] 3)).alloc (.cells #[.bool false] 4)) := (((Below.refl _ w).alloc (Nat.le_refl _) _).alloc (by simp) _).alloc (by simp; omega) _
  have hsA : (((w.alloc (.cells #[.slice dA dn dc, .slice A0 n0 c0, .slice A1 n1 c1, .slice A2 n2 c2, .slice A3 n3 c3, .slice A4 n4 c4, .slice A5 n5 c5] 25)).alloc (.cells #[.int .i64 0] 3)).alloc (.cells #[.bool false] 4)).heap.size = w.heap.size + 3 := by simp
  have cA : CBox (((w.alloc (.cells #[.slice dA dn dc, .slice A0 n0 c0, .slice A1 n1 c1, .slice A2 n2 c2, .slice A3 n3 c3, .slice A4 n4 c4, .slice A5 n5 c5] 25)).alloc (.cells #[.int .i64 0] 3)).alloc (.cells #[.bool false] 4)) (w.heap.size) ⟨⟨dA, dn, dc⟩, ⟨A0, n0, c0⟩, ⟨A1, n1, c1⟩, ⟨A2, n2, c2⟩, ⟨A3, n3, c3⟩, ⟨A4, n4, c4⟩, ⟨A5, n5, c5⟩, cal⟩ := by
    have h := CBox.new w ⟨⟨dA, dn, dc⟩, ⟨A0, n0, c0⟩, ⟨A1, n1, c1⟩, ⟨A2, n2, c2⟩, ⟨A3, n3, c3⟩, ⟨A4, n4, c4⟩, ⟨A5, n5, c5⟩, cal⟩
    have hb : Below (w.alloc (.cells #[.slice dA dn dc, .slice A0 n0 c0, .slice A1 n1 c1, .slice A2 n2 c2, .slice A3 n3 c3, .slice A4 n4 c4, .slice A5 n5 c5] 25)).heap.size (w.alloc (.cells #[.slice dA dn dc, .slice A0 n0 c0, .slice A1 n1 c1, .slice A2 n2 c2, .slice A3 n3 c3, .slice A4 n4 c4, .slice A5 n5 c5] 25)) (((w.alloc (.cells #[.slice dA dn dc, .slice A0 n0 c0, .slice A1 n1 c1, .slice A2 n2 c2, .slice A3 n3 c3, .slice A4 n4 c4, .slice A5 n5 c5] 25)).alloc (.cells #[.int .i64 0] 3)).alloc (.cells #[.bool false] 4)) := ((Below.refl _ _).alloc (Nat.le_refl _) _).alloc (by simp) _
    exact CBox.on h hb (by simp)
  have rA : Boxed (((w.alloc (.cells #[.slice dA dn dc, .slice A0 n0 c0, .slice A1 n1 c1, .slice A2 n2 c2, .slice A3 n3 c3, .slice A4 n4 c4, .slice A5 n5 c5] 25)).alloc (.cells #[.int .i64 0] 3)).alloc (.cells #[.bool false] 4)) (w.heap.size + 1) 3 (.int .i64 0) := by
    have h := Boxed.alloc (Boxed.new (w.alloc (.cells #[.slice dA dn dc, .slice A0 n0 c0, .slice A1 n1 c1, .slice A2 n2 c2, .slice A3 n3 c3, .slice A4 n4 c4, .slice A5 n5 c5] 25)) 3 (.int .i64 0)) (.cells #[.bool false] 4)
    rw [World.size_alloc] at h
    exact h
  have oA : Boxed (((w.alloc (.cells #[.slice dA dn dc, .slice A0 n0 c0, .slice A1 n1 c1, .slice A2 n2 c2, .slice A3 n3 c3, .slice A4 n4 c4, .slice A5 n5 c5] 25)).alloc (.cells #[.int .i64 0] 3)).alloc (.cells #[.bool false] 4)) (w.heap.size + 1 + 1) 4 (.bool false) := by
    have h := Boxed.new ((w.alloc (.cells #[.slice dA dn dc, .slice A0 n0 c0, .slice A1 n1 c1, .slice A2 n2 c2, .slice A3 n3 c3, .slice A4 n4 c4, .slice A5 n5 c5] 25)).alloc (.cells #[.int .i64 0] 3)) 4 (.bool false)
    rw [World.size_alloc, World.size_alloc] at h
    exact h
  obtain ⟨k0, k1, k2, k3, k4, k5, k6⟩ := cA
  have HMAY := Lib.hid (may_any ⟨⟨dA, dn, dc⟩, ⟨A0, n0, c0⟩, ⟨A1, n1, c1⟩, ⟨A2, n2, c2⟩, ⟨A3, n3, c3⟩, ⟨A4, n4, c4⟩, ⟨A5, n5, c5⟩, cal⟩ _ (h.on hA))
  have cA : CBox (((w.alloc (.cells #[.slice dA dn dc, .slice A0 n0 c0, .slice A1 n1 c1, .slice A2 n2 c2, .slice A3 n3 c3, .slice A4 n4 c4, .slice A5 n5 c5] 25)).alloc (.cells #[.int .i64 0] 3)).alloc (.cells #[.bool false] 4)) (w.heap.size) ⟨⟨dA, dn, dc⟩, ⟨A0, n0, c0⟩, ⟨A1, n1, c1⟩, ⟨A2, n2, c2⟩, ⟨A3, n3, c3⟩, ⟨A4, n4, c4⟩, ⟨A5, n5, c5⟩, cal⟩ := ⟨k0, k1, k2, k3, k4, k5, k6⟩
  have HCA := Lib.hid cA
  have vz : IntKind.i64.wrap (a + 1) = a + 1 := by rw [IntKind.wrap_i64]; omega
  have ha2 : ¬ (6311433599 : Int) ≤ a := by omega
  simp only [calV, slV, hm] at HMAY k0 k1 k2 k3 k4 k5 k6 ⊢
  try dsimp only at *
  clear h hm cA
  refine callsIn_of_wp_marks Tryz.func5 rfl trivial ?_ rfl
  simp only [Tryz.ntmps5, List.size_toArray, List.length_cons, List.length_nil, Nat.reduceAdd, Nat.reduceSub, Array.replicate_succ, Array.replicate_zero, List.push_toArray, List.append_toArray, List.nil_append, List.cons_append]
  gi_wp2_with fail
  refine ⟨trivial, (callsIn_wide.2 HMAY.out).mono ?_⟩
  rintro e w1 ⟨rfl, hb1⟩
  have hw1 : Below w.heap.size w w1 := hA.trans (hb1.mono hA.size)
  have hs1 := hb1.size
  have c1' : CBox w1 (w.heap.size) ⟨⟨dA, dn, dc⟩, ⟨A0, n0, c0⟩, ⟨A1, n1, c1⟩, ⟨A2, n2, c2⟩, ⟨A3, n3, c3⟩, ⟨A4, n4, c4⟩, ⟨A5, n5, c5⟩, cal⟩ := HCA.out.on hb1 (by omega)
  have r1' : Boxed w1 (w.heap.size + 1) 3 (.int .i64 0) := Boxed.under rA hb1
  have o1' : Boxed w1 (w.heap.size + 1 + 1) 4 (.bool false) := Boxed.under oA hb1
  rw [hsA] at hs1
  clear k0 k1 k2 k3 k4 k5 k6 HCA rA oA hb1 HMAY hA hsA
  gi_wp2_with fail
  refine ⟨trivial, (callsIn_wide.2 (HOF.out _)).mono ?_⟩
  rintro e w2 ⟨⟨ok, rfl⟩, hb2⟩
  have hz2 : Boxed (w1.alloc (.cells #[.int .i64 Z] 3)) w1.heap.size 3 (.int .i64 Z) := Boxed.new _ _ _
  have hbz : Below w1.heap.size w1 (w1.alloc (.cells #[.int .i64 Z] 3)) := (Below.refl _ _).alloc (Nat.le_refl _) _
  have hb12 : Below w1.heap.size w1 w2 := hbz.trans (hb2.mono hbz.size)
  have z2 : Boxed w2 w1.heap.size 3 (.int .i64 Z) := Boxed.under hz2 hb2
  have hs2 := hb2.size
  rw [World.size_alloc] at hs2
  have c2' : CBox w2 (w.heap.size) ⟨⟨dA, dn, dc⟩, ⟨A0, n0, c0⟩, ⟨A1, n1, c1⟩, ⟨A2, n2, c2⟩, ⟨A3, n3, c3⟩, ⟨A4, n4, c4⟩, ⟨A5, n5, c5⟩, cal⟩ := c1'.on hb12 (by omega)
  have r2' : Boxed w2 (w.heap.size + 1) 3 (.int .i64 0) := Boxed.under r1' hb12
  have o2' : Boxed w2 (w.heap.size + 1 + 1) 4 (.bool false) := Boxed.under o1' hb12
  have hw2 : Below w.heap.size w w2 := hw1.trans (hb12.mono (by omega))
  obtain ⟨B6, hB6⟩ : ∃ B, B = w1.heap.size := ⟨_, rfl⟩
  rw [← hB6] at z2 hs2
  simp only [← hB6]
  clear hz2 hbz hb12 hb2 c1' r1' o1' hw1
  have hS6 : w.heap.size + 3 ≤ B6 := by omega
  clear hs1 hB6 w1
  have hb3 : Below w2.heap.size w2 (w2.alloc (.cells #[.int .i64 D.year, .int .i64 D.month, .int .i64 D.day, .int .i64 D.hour, .int .i64 D.min, .int .i64 D.sec, .int .i64 D.wday] 37)) := (Below.refl _ _).alloc (Nat.le_refl _) _
  obtain ⟨k0, k1, k2, k3, k4, k5, k6⟩ := c2'.on hb3 (by omega)
  try dsimp only [slV] at k0 k1 k2 k3 k4 k5 k6
  gi_wp2_with fail
  refine ⟨trivial, (callsIn_wide.2 (days_any ⟨⟨dA, dn, dc⟩, ⟨A0, n0, c0⟩, ⟨A1, n1, c1⟩, ⟨A2, n2, c2⟩, ⟨A3, n3, c3⟩, ⟨A4, n4, c4⟩, ⟨A5, n5, c5⟩, cal⟩ D _)).mono ?_⟩
  rintro e w3 ⟨rfl, rfl⟩
  simp only [slV, World.size_alloc]
  clear k0 k1 k2 k3 k4 k5 k6
  gi_wp2_with fail
  have hszd : (((w2.alloc (.cells #[.int .i64 D.year, .int .i64 D.month, .int .i64 D.day, .int .i64 D.hour, .int .i64 D.min, .int .i64 D.sec, .int .i64 D.wday] 37)).alloc (.cells #[.slice dA dn dc, .slice A0 n0 c0, .slice A1 n1 c1, .slice A2 n2 c2, .slice A3 n3 c3, .slice A4 n4 c4, .slice A5 n5 c5] 25)).alloc (.cells #[.int .i64 D.year, .int .i64 D.month, .int .i64 D.day, .int .i64 D.hour, .int .i64 D.min, .int .i64 D.sec, .int .i64 D.wday] 37)).heap.size = w2.heap.size + 3 := by simp
  have hBd : Below w2.heap.size w2 (((w2.alloc (.cells #[.int .i64 D.year, .int .i64 D.month, .int .i64 D.day, .int .i64 D.hour, .int .i64 D.min, .int .i64 D.sec, .int .i64 D.wday] 37)).alloc (.cells #[.slice dA dn dc, .slice A0 n0 c0, .slice A1 n1 c1, .slice A2 n2 c2, .slice A3 n3 c3, .slice A4 n4 c4, .slice A5 n5 c5] 25)).alloc (.cells #[.int .i64 D.year, .int .i64 D.month, .int .i64 D.day, .int .i64 D.hour, .int .i64 D.min, .int .i64 D.sec, .int .i64 D.wday] 37)) := (hb3.alloc (by simp) _).alloc (by simp; omega) _
  have c8 : CBox (((w2.alloc (.cells #[.int .i64 D.year, .int .i64 D.month, .int .i64 D.day, .int .i64 D.hour, .int .i64 D.min, .int .i64 D.sec, .int .i64 D.wday] 37)).alloc (.cells #[.slice dA dn dc, .slice A0 n0 c0, .slice A1 n1 c1, .slice A2 n2 c2, .slice A3 n3 c3, .slice A4 n4 c4, .slice A5 n5 c5] 25)).alloc (.cells #[.int .i64 D.year, .int .i64 D.month, .int .i64 D.day, .int .i64 D.hour, .int .i64 D.min, .int .i64 D.sec, .int .i64 D.wday] 37)) (w2.heap.size + 1) ⟨⟨dA, dn, dc⟩, ⟨A0, n0, c0⟩, ⟨A1, n1, c1⟩, ⟨A2, n2, c2⟩, ⟨A3, n3, c3⟩, ⟨A4, n4, c4⟩, ⟨A5, n5, c5⟩, cal⟩ := by
    have h := CBox.new (w2.alloc (.cells #[.int .i64 D.year, .int .i64 D.month, .int .i64 D.day, .int .i64 D.hour, .int .i64 D.min, .int .i64 D.sec, .int .i64 D.wday] 37)) ⟨⟨dA, dn, dc⟩, ⟨A0, n0, c0⟩, ⟨A1, n1, c1⟩, ⟨A2, n2, c2⟩, ⟨A3, n3, c3⟩, ⟨A4, n4, c4⟩, ⟨A5, n5, c5⟩, cal⟩
    rw [World.size_alloc] at h
    exact h.on ((Below.refl _ _).alloc (Nat.le_refl _) _) (by simp)
  have d8 : (((w2.alloc (.cells #[.int .i64 D.year, .int .i64 D.month, .int .i64 D.day, .int .i64 D.hour, .int .i64 D.min, .int .i64 D.sec, .int .i64 D.wday] 37)).alloc (.cells #[.slice dA dn dc, .slice A0 n0 c0, .slice A1 n1 c1, .slice A2 n2 c2, .slice A3 n3 c3, .slice A4 n4 c4, .slice A5 n5 c5] 25)).alloc (.cells #[.int .i64 D.year, .int .i64 D.month, .int .i64 D.day, .int .i64 D.hour, .int .i64 D.min, .int .i64 D.sec, .int .i64 D.wday] 37)).cell? ⟨w2.heap.size + 1 + 1, 0, none⟩ = some (.int .i64 D.year) := by
    have h := (DBox.new ((w2.alloc (.cells #[.int .i64 D.year, .int .i64 D.month, .int .i64 D.day, .int .i64 D.hour, .int .i64 D.min, .int .i64 D.sec, .int .i64 D.wday] 37)).alloc (.cells #[.slice dA dn dc, .slice A0 n0 c0, .slice A1 n1 c1, .slice A2 n2 c2, .slice A3 n3 c3, .slice A4 n4 c4, .slice A5 n5 c5] 25)) D).c0
    rw [World.size_alloc, World.size_alloc] at h
    exact h
  have cS : CBox (((w2.alloc (.cells #[.int .i64 D.year, .int .i64 D.month, .int .i64 D.day, .int .i64 D.hour, .int .i64 D.min, .int .i64 D.sec, .int .i64 D.wday] 37)).alloc (.cells #[.slice dA dn dc, .slice A0 n0 c0, .slice A1 n1 c1, .slice A2 n2 c2, .slice A3 n3 c3, .slice A4 n4 c4, .slice A5 n5 c5] 25)).alloc (.cells #[.int .i64 D.year, .int .i64 D.month, .int .i64 D.day, .int .i64 D.hour, .int .i64 D.min, .int .i64 D.sec, .int .i64 D.wday] 37)) (w.heap.size) ⟨⟨dA, dn, dc⟩, ⟨A0, n0, c0⟩, ⟨A1, n1, c1⟩, ⟨A2, n2, c2⟩, ⟨A3, n3, c3⟩, ⟨A4, n4, c4⟩, ⟨A5, n5, c5⟩, cal⟩ := c2'.on hBd (by omega)
  have zS : Boxed (((w2.alloc (.cells #[.int .i64 D.year, .int .i64 D.month, .int .i64 D.day, .int .i64 D.hour, .int .i64 D.min, .int .i64 D.sec, .int .i64 D.wday] 37)).alloc (.cells #[.slice dA dn dc, .slice A0 n0 c0, .slice A1 n1 c1, .slice A2 n2 c2, .slice A3 n3 c3, .slice A4 n4 c4, .slice A5 n5 c5] 25)).alloc (.cells #[.int .i64 D.year, .int .i64 D.month, .int .i64 D.day, .int .i64 D.hour, .int .i64 D.min, .int .i64 D.sec, .int .i64 D.wday] 37)) B6 3 (.int .i64 Z) := Boxed.under z2 hBd
  have rS : Boxed (((w2.alloc (.cells #[.int .i64 D.year, .int .i64 D.month, .int .i64 D.day, .int .i64 D.hour, .int .i64 D.min, .int .i64 D.sec, .int .i64 D.wday] 37)).alloc (.cells #[.slice dA dn dc, .slice A0 n0 c0, .slice A1 n1 c1, .slice A2 n2 c2, .slice A3 n3 c3, .slice A4 n4 c4, .slice A5 n5 c5] 25)).alloc (.cells #[.int .i64 D.year, .int .i64 D.month, .int .i64 D.day, .int .i64 D.hour, .int .i64 D.min, .int .i64 D.sec, .int .i64 D.wday] 37)) (w.heap.size + 1) 3 (.int .i64 0) := Boxed.under r2' hBd
  have oS : Boxed (((w2.alloc (.cells #[.int .i64 D.year, .int .i64 D.month, .int .i64 D.day, .int .i64 D.hour, .int .i64 D.min, .int .i64 D.sec, .int .i64 D.wday] 37)).alloc (.cells #[.slice dA dn dc, .slice A0 n0 c0, .slice A1 n1 c1, .slice A2 n2 c2, .slice A3 n3 c3, .slice A4 n4 c4, .slice A5 n5 c5] 25)).alloc (.cells #[.int .i64 D.year, .int .i64 D.month, .int .i64 D.day, .int .i64 D.hour, .int .i64 D.min, .int .i64 D.sec, .int .i64 D.wday] 37)) (w.heap.size + 1 + 1) 4 (.bool false) := Boxed.under o2' hBd
  have hw0 : Below w.heap.size w (((w2.alloc (.cells #[.int .i64 D.year, .int .i64 D.month, .int .i64 D.day, .int .i64 D.hour, .int .i64 D.min, .int .i64 D.sec, .int .i64 D.wday] 37)).alloc (.cells #[.slice dA dn dc, .slice A0 n0 c0, .slice A1 n1 c1, .slice A2 n2 c2, .slice A3 n3 c3, .slice A4 n4 c4, .slice A5 n5 c5] 25)).alloc (.cells #[.int .i64 D.year, .int .i64 D.month, .int .i64 D.day, .int .i64 D.hour, .int .i64 D.min, .int .i64 D.sec, .int .i64 D.wday] 37)) := hw2.trans (hBd.mono (by omega))
  generalize ((w2.alloc (.cells #[.int .i64 D.year, .int .i64 D.month, .int .i64 D.day, .int .i64 D.hour, .int .i64 D.min, .int .i64 D.sec, .int .i64 D.wday] 37)).alloc (.cells #[.slice dA dn dc, .slice A0 n0 c0, .slice A1 n1 c1, .slice A2 n2 c2, .slice A3 n3 c3, .slice A4 n4 c4, .slice A5 n5 c5] 25)).alloc (.cells #[.int .i64 D.year, .int .i64 D.month, .int .i64 D.day, .int .i64 D.hour, .int .i64 D.min, .int .i64 D.sec, .int .i64 D.wday] 37) = W0 at *
  have ha3 : decide ((6311433599 : Int) ≤ a) = false := decide_eq_false (by omega)
  try simp only [ha3]
  clear ha3
  obtain ⟨B7, hB7⟩ : ∃ B, B = w2.heap.size := ⟨_, rfl⟩
  simp only [← hB7] at *
  clear hBd hb3 c2' z2 r2' o2' hw2
  have HCS := Lib.hid cS
  have HG0 := Lib.hid (HG.out.on hw0)
  have hzlt := zS.lt
  have hrlt := rS.lt
  have holt := oS.lt
  have hL1 : B7 + 1 < W0.heap.size := by omega
  have hL2 : B7 + 1 + 1 < W0.heap.size := by omega
  have hSw := hw0.size
  have h1b : 1 ≤ n - 1 - 1 := by omega
  clear cS hB7 hszd
  refine range_gen (Ab := Eq) (Kb := fun l A B => A.grownBy B (some l)) h1 (gf := 44) (lb := #[.pointer (some ⟨B7 + 1, 0, none⟩), .pointer (some ⟨B7 + 1 + 1, 0, none⟩)]) rfl (enters_of Tryz.func44 (by kernel_rfl) rfl)
    (days1_seq (n - 1) (by omega) (B7 + 1) (B7 + 1 + 1) ⟨⟨dA, dn, dc⟩, ⟨A0, n0, c0⟩, ⟨A1, n1, c1⟩, ⟨A2, n2, c2⟩, ⟨A3, n3, c3⟩, ⟨A4, n4, c4⟩, ⟨A5, n5, c5⟩, cal⟩ D.year W0 (by omega) (by omega) HG0.out HM.out c8 d8)
    (fun h k => grown_t h k) (fun W o => grownBy_putObj' W _ o) (fun X Y k e _ => by rw [e]) (fun _ => rfl)
    (fun pre W => Sp.NoneT cal Z pre ∧ Below W0.heap.size W0 W)
    (fun c pre W => ∃ v : Int, (c = .ret ∧ Sp.HitT cal Z pre v) ∧ (Boxed W (w.heap.size + 1) 3 (.int .i64 v) ∧ Boxed W (w.heap.size + 1 + 1) 4 (.bool true)) ∧ Below w.heap.size w W)
    (OwnFrom.and (ownFrom_pure _ _) (ownFrom_below (Nat.le_refl _) (Nat.le_refl _)))
    (fun c => ownFrom_res _ _ (fun pre v => c = .ret ∧ Sp.HitT cal Z pre v) (by omega))
    ⟨Sp.NoneT.nil, Below.refl _ _⟩
    (fun s X Y h e => by rw [← e]; exact h)
    (fun x => { tmps := #[.agg #[.slice dA dn dc, .slice A0 n0 c0, .slice A1 n1 c1, .slice A2 n2 c2, .slice A3 n3 c3, .slice A4 n4 c4, .slice A5 n5 c5], .int .i64 a, .pointer (some ⟨w.heap.size, 0, none⟩), undef, .pointer (some ⟨w.heap.size + 1, 0, none⟩), .pointer (some ⟨w.heap.size + 1 + 1, 0, none⟩), .pointer (some ⟨B6, 0, none⟩), .pointer (some ⟨B7, 0, none⟩), .bool ok, .int .i64 x.t, undef, undef, .agg #[.slice dA dn dc, .slice A0 n0 c0, .slice A1 n1 c1, .slice A2 n2 c2, .slice A3 n3 c3, .slice A4 n4 c4, .slice A5 n5 c5], .bool true, .bool false, .bool false, .int .i64 a, .bool false, .bool false, .int .i64 a, .int .i64 (a + 1), .int .i64 Z, .tuple #[.agg #[.int .i64 D.year, .int .i64 D.month, .int .i64 D.day, .int .i64 D.hour, .int .i64 D.min, .int .i64 D.sec, .int .i64 D.wday], .bool ok], .int .i64 Z, .tuple #[.agg #[.int .i64 D.year, .int .i64 D.month, .int .i64 D.day, .int .i64 D.hour, .int .i64 D.min, .int .i64 D.sec, .int .i64 D.wday], .bool ok], .agg #[.int .i64 D.year, .int .i64 D.month, .int .i64 D.day, .int .i64 D.hour, .int .i64 D.min, .int .i64 D.sec, .int .i64 D.wday], .bool ok, .agg #[.slice dA dn dc, .slice A0 n0 c0, .slice A1 n1 c1, .slice A2 n2 c2, .slice A3 n3 c3, .slice A4 n4 c4, .slice A5 n5 c5], .agg #[.int .i64 D.year, .int .i64 D.month, .int .i64 D.day, .int .i64 D.hour, .int .i64 D.min, .int .i64 D.sec, .int .i64 D.wday], .func (.func 44) #[] #[.pointer (some ⟨B7 + 1, 0, none⟩), .pointer (some ⟨B7 + 1 + 1, 0, none⟩)], .int .i64 x.t, undef, undef, undef, undef, undef, undef, undef, undef, undef, undef, undef, undef, undef, undef, undef, undef], defers := [] })
    ?assign ?body ?done ?stop
  case assign =>
    intro x W K hK
    gi_wp2
    exact hK
  case body =>
    rintro pre x W _ ⟨hp, hbw⟩
    have cz := (Boxed.below zS hbw hzlt).cell
    have bR := Boxed.below rS hbw hrlt
    have bO := Boxed.below oS hbw holt
    have cr := bR.cell
    have fr := bR.frozen
    have co := bO.cell
    have fo := bO.frozen
    obtain ⟨k0, k1, k2, k3, k4, k5, k6⟩ := HCS.out.on hbw (by omega)
    dsimp only [slV] at k0 k1 k2 k3 k4 k5 k6
    have HMO := Lib.hid (fun q => moment_any ⟨⟨dA, dn, dc⟩, ⟨A0, n0, c0⟩, ⟨A1, n1, c1⟩, ⟨A2, n2, c2⟩, ⟨A3, n3, c3⟩, ⟨A4, n4, c4⟩, ⟨A5, n5, c5⟩, cal⟩ q W (HG0.out.on hbw) HM.out)
    simp only [calV, slV] at HMO
    have hx := DayT.range x
    have HP := Lib.hid hp
    have HBW := Lib.hid hbw
    have HNO : Hid (x.t + 86400 ≤ Z → Sp.NoneD cal Z x.y x.m x.d) := Lib.hid (Sp.none_over cal Z x.y x.m x.d)
    have HMN : Hid (∀ v, Sp.MomentIs cal (Z - x.t) v false → Sp.NoneD cal Z x.y x.m x.d) := Lib.hid (fun v => moment_no)
    have HMS : Hid (∀ v, Sp.MomentIs cal (Z - x.t) v true → Sp.HitT cal Z (pre ++ [x]) (x.t + v)) := Lib.hid (fun v h => ⟨pre, x, v, rfl, hp, h, rfl⟩)
    clear hp hbw
    generalize x.t = t at *
    have v1 : IntKind.i64.wrap (t + 86400) = t + 86400 := by rw [IntKind.wrap_i64]; omega
    have v2 : IntKind.i64.wrap (Z - t) = Z - t := by rw [IntKind.wrap_i64]; omega
    by_cases ht : t + 86400 ≤ Z
    · have HQ := Lib.hid (HNO.out ht)
      gi_wp2
      exact ⟨KeepsFrom.refl _ _, ⟨rfl, rfl, rfl, Nat.le_refl _, fun _ _ _ => rfl⟩, HP.out.snoc HQ.out, HBW.out⟩
    · gi_wp2_with fail
      refine ⟨trivial, (CallsIn.inRound _ (callsIn_wide.2 (HMO.out _))).mono ?_⟩
      rintro e w4 ⟨⟨v, ok2, rfl, hmi⟩, hb4⟩
      have HB4 := Lib.hid hb4
      have HG4 := Lib.hid (grown_of_below hb4)
      have bR4 := Boxed.below bR hb4 bR.lt
      have bO4 := Boxed.below bO hb4 bO.lt
      have cr4 := bR4.cell
      have fr4 := bR4.frozen
      have co4 := bO4.cell
      have fo4 := bO4.frozen
      clear hb4
      cases ok2 with
      | false =>
        have HQ := Lib.hid (HMN.out v hmi)
        clear hmi
        gi_wp2
        exact ⟨KeepsFrom.of_grownBy HG4.out (fun j e => by cases e), grown_but HG4.out _, HP.out.snoc HQ.out, HBW.out.trans (HB4.out.mono HBW.out.size)⟩
      | true =>
        have HQ := Lib.hid (HMS.out v hmi)
        have hv := moment_small hmi
        have v3 : IntKind.i64.wrap (t + v) = t + v := by rw [IntKind.wrap_i64]; omega
        clear hmi
        gi_wp2
        have hBF : Below w.heap.size w w4 := hw0.trans ((HBW.out.trans (HB4.out.mono HBW.out.size)).mono hw0.size)
        exact ⟨(KeepsFrom.of_grownBy HG4.out (fun j e => by cases e)).trans (((KeepsOthers.setCell _ _ _).from _).trans ((KeepsOthers.setCell _ _ _).from _)), t + v, ⟨rfl, HQ.out⟩, ⟨Boxed.other (bR4.set (.int .i64 (t + v))) (by omega) (.bool true), (Boxed.other bO4 (by omega) (.int .i64 (t + v))).set (.bool true)⟩, (hBF.setCell (p := ⟨w.heap.size + 1, 0, none⟩) (by dsimp only; omega) _).setCell (p := ⟨w.heap.size + 1 + 1, 0, none⟩) (by dsimp only; omega) _⟩
  case done =>
    rintro zs W rfl ⟨hp, hbw⟩ hK
    have HP := Lib.hid hp
    clear hp
    have bV := Boxed.below rS hbw hrlt
    have bO := Boxed.below oS hbw holt
    have c2 := bV.cell
    have c3 := bO.cell
    have f2 := bV.frozen
    have f3 := bO.frozen
    gi_wp2
    have hK1 := (KeepsOthers.setCell W ⟨w.heap.size + 1, 0, none⟩ (.int .i64 0)).same _ _ hK rfl
    have hK2 := (KeepsOthers.setCell (W.setCell ⟨w.heap.size + 1, 0, none⟩ (.int .i64 0)) ⟨w.heap.size + 1 + 1, 0, none⟩ (.bool false)).same _ _ hK1 rfl
    refine ⟨by simp, .inl ⟨_, _, rfl, run_takeDeferred hK2, ?_⟩⟩
    have bV2 := Boxed.other (bV.set (.int .i64 0)) (show w.heap.size + 1 ≠ w.heap.size + 1 + 1 by omega) (.bool false)
    have bO2 := (Boxed.other bO (show w.heap.size + 1 + 1 ≠ w.heap.size + 1 by omega) (.int .i64 0)).set (.bool false)
    have hc4 := cell_kept bV2.cell (grownBy_putObj' _ W0.heap.size (.deferred none)) (fun r e => by cases e; exact ⟨_, hK2, rfl⟩)
    have hc5 := cell_kept bO2.cell (grownBy_putObj' _ W0.heap.size (.deferred none)) (fun r e => by cases e; exact ⟨_, hK2, rfl⟩)
    have hBF : Below w.heap.size w ((W.setCell ⟨w.heap.size + 1, 0, none⟩ (.int .i64 0)).setCell ⟨w.heap.size + 1 + 1, 0, none⟩ (.bool false)) := ((hw0.trans (hbw.mono hw0.size)).setCell (p := ⟨w.heap.size + 1, 0, none⟩) (by dsimp only; omega) _).setCell (p := ⟨w.heap.size + 1 + 1, 0, none⟩) (by dsimp only; omega) _
    refine ⟨.tuple #[.int .i64 0, .bool false], ?_, ⟨_, .inl ⟨rfl, rfl, HP.out⟩⟩, hBF.trans (belowK_b (w := w) (Nat.le_refl _) _ W0.heap.size _ _ hw0.size hK2 rfl rfl)⟩
    simp [results, Tryz.f5, go_sem, hc4, hc5]
  case stop =>
    rintro c pre W hpre ⟨v, ⟨rfl, hh⟩, ⟨bV, bO⟩, hBW⟩ hK
    have HH := Lib.hid hh
    have HPR := Lib.hid hpre
    clear hh hpre
    gi_wp2
    refine ⟨by simp, .inl ⟨_, _, rfl, run_takeDeferred hK, ?_⟩⟩
    have hc4 := cell_kept bV.cell (grownBy_putObj' _ W0.heap.size (.deferred none)) (fun r e => by cases e; exact ⟨_, hK, rfl⟩)
    have hc5 := cell_kept bO.cell (grownBy_putObj' _ W0.heap.size (.deferred none)) (fun r e => by cases e; exact ⟨_, hK, rfl⟩)
    refine ⟨.tuple #[.int .i64 v, .bool true], ?_, ⟨_, .inr ⟨rfl, pre, HPR.out, HH.out⟩⟩, hBW.trans (belowK_b (w := w) (Nat.le_refl _) W W0.heap.size _ _ hw0.size hK rfl rfl)⟩
    simp [results, Tryz.f5, go_sem, hc4, hc5]
theorem old_ofT (Z : Int) (h : 0 ≤ Z ∧ Z < 6311433600) : Sp.ofT Z = Sp.dateOf Z := by
  unfold Sp.ofT Sp.okT
  rw [decide_eq_true h.1, decide_eq_true h.2]
  rfl
set_option maxRecDepth 100000 in
set_option maxHeartbeats 8000000 in
theorem next_out (s : CalS) (a : Int) (w : World) (h : CalGood w s) (ha : Sp.mayCal s.cal = false ∨ 6311433599 ≤ a) :
    Calls Tryz.prog 5 #[calV s, .int .i64 a] w fun e w' => e = .returned (.tuple #[.int .i64 0, .bool false]) ∧ Below w.heap.size w w' := by
  obtain ⟨⟨dA, dn, dc⟩, ⟨A0, n0, c0⟩, ⟨A1, n1, c1⟩, ⟨A2, n2, c2⟩, ⟨A3, n3, c3⟩, ⟨A4, n4, c4⟩, ⟨A5, n5, c5⟩, cal⟩ := s
  have hA : Below w.heap.size w (((w.alloc (.cells #[.slice dA dn dc, .slice A0 n0 c0, .slice A1 n1 c1, .slice A2 n2 c2, .slice A3 n3 c3, .slice A4 n4 c4, .slice A5 n5 c5] 25)).alloc (.cells #[.int .i64 0] 3)).alloc (.cells #[.bool false] 4)) := (((Below.refl _ w).alloc (Nat.le_refl _) _).alloc (by simp) _).alloc (by simp; omega) _
  have hsA : (((w.alloc (.cells #[.slice dA dn dc, .slice A0 n0 c0, .slice A1 n1 c1, .slice A2 n2 c2, .slice A3 n3 c3, .slice A4 n4 c4, .slice A5 n5 c5] 25)).alloc (.cells #[.int .i64 0] 3)).alloc (.cells #[.bool false] 4)).heap.size = w.heap.size + 3 := by simp
  have cA : CBox (((w.alloc (.cells #[.slice dA dn dc, .slice A0 n0 c0, .slice A1 n1 c1, .slice A2 n2 c2, .slice A3 n3 c3, .slice A4 n4 c4, .slice A5 n5 c5] 25)).alloc (.cells #[.int .i64 0] 3)).alloc (.cells #[.bool false] 4)) (w.heap.size) ⟨⟨dA, dn, dc⟩, ⟨A0, n0, c0⟩, ⟨A1, n1, c1⟩, ⟨A2, n2, c2⟩, ⟨A3, n3, c3⟩, ⟨A4, n4, c4⟩, ⟨A5, n5, c5⟩, cal⟩ := by
    have h := CBox.new w ⟨⟨dA, dn, dc⟩, ⟨A0, n0, c0⟩, ⟨A1, n1, c1⟩, ⟨A2, n2, c2⟩, ⟨A3, n3, c3⟩, ⟨A4, n4, c4⟩, ⟨A5, n5, c5⟩, cal⟩
    have hb : Below (w.alloc (.cells #[.slice dA dn dc, .slice A0 n0 c0, .slice A1 n1 c1, .slice A2 n2 c2, .slice A3 n3 c3, .slice A4 n4 c4, .slice A5 n5 c5] 25)).heap.size (w.alloc (.cells #[.slice dA dn dc, .slice A0 n0 c0, .slice A1 n1 c1, .slice A2 n2 c2, .slice A3 n3 c3, .slice A4 n4 c4, .slice A5 n5 c5] 25)) (((w.alloc (.cells #[.slice dA dn dc, .slice A0 n0 c0, .slice A1 n1 c1, .slice A2 n2 c2, .slice A3 n3 c3, .slice A4 n4 c4, .slice A5 n5 c5] 25)).alloc (.cells #[.int .i64 0] 3)).alloc (.cells #[.bool false] 4)) := ((Below.refl _ _).alloc (Nat.le_refl _) _).alloc (by simp) _
    exact CBox.on h hb (by simp)
  have rA : Boxed (((w.alloc (.cells #[.slice dA dn dc, .slice A0 n0 c0, .slice A1 n1 c1, .slice A2 n2 c2, .slice A3 n3 c3, .slice A4 n4 c4, .slice A5 n5 c5] 25)).alloc (.cells #[.int .i64 0] 3)).alloc (.cells #[.bool false] 4)) (w.heap.size + 1) 3 (.int .i64 0) := by
    have h := Boxed.alloc (Boxed.new (w.alloc (.cells #[.slice dA dn dc, .slice A0 n0 c0, .slice A1 n1 c1, .slice A2 n2 c2, .slice A3 n3 c3, .slice A4 n4 c4, .slice A5 n5 c5] 25)) 3 (.int .i64 0)) (.cells #[.bool false] 4)
    rw [World.size_alloc] at h
    exact h
  have oA : Boxed (((w.alloc (.cells #[.slice dA dn dc, .slice A0 n0 c0, .slice A1 n1 c1, .slice A2 n2 c2, .slice A3 n3 c3, .slice A4 n4 c4, .slice A5 n5 c5] 25)).alloc (.cells #[.int .i64 0] 3)).alloc (.cells #[.bool false] 4)) (w.heap.size + 1 + 1) 4 (.bool false) := by
    have h := Boxed.new ((w.alloc (.cells #[.slice dA dn dc, .slice A0 n0 c0, .slice A1 n1 c1, .slice A2 n2 c2, .slice A3 n3 c3, .slice A4 n4 c4, .slice A5 n5 c5] 25)).alloc (.cells #[.int .i64 0] 3)) 4 (.bool false)
    rw [World.size_alloc, World.size_alloc] at h
    exact h
  obtain ⟨k0, k1, k2, k3, k4, k5, k6⟩ := cA
  have HMAY := Lib.hid (may_any ⟨⟨dA, dn, dc⟩, ⟨A0, n0, c0⟩, ⟨A1, n1, c1⟩, ⟨A2, n2, c2⟩, ⟨A3, n3, c3⟩, ⟨A4, n4, c4⟩, ⟨A5, n5, c5⟩, cal⟩ _ (h.on hA))
  simp only [calV, slV] at HMAY k0 k1 k2 k3 k4 k5 k6 ⊢
  try dsimp only at *
  clear h
  cases hm : Sp.mayCal cal with
  | false =>
    rw [hm] at HMAY
    clear ha hm
    go_enter Tryz.func5, Tryz.ntmps5
    go_wp2_with fail
    refine HMAY.out.mono ?_
    rintro e w1 ⟨rfl, hb1⟩
    have hw1 : Below w.heap.size w w1 := hA.trans (hb1.mono hA.size)
    have bV : Boxed w1 (w.heap.size + 1) 3 (.int .i64 0) := Boxed.under rA hb1
    have bO : Boxed w1 (w.heap.size + 1 + 1) 4 (.bool false) := Boxed.under oA hb1
    have c2 := bV.cell
    have c3 := bO.cell
    have f2 := bV.frozen
    have f3 := bO.frozen
    have bV2 := (Boxed.other (bV.set (.int .i64 0)) (show w.heap.size + 1 ≠ w.heap.size + 1 + 1 by omega) (.bool false)).cell
    have bO2 := ((Boxed.other bO (show w.heap.size + 1 + 1 ≠ w.heap.size + 1 by omega) (.int .i64 0)).set (.bool false)).cell
    go_wp2
    refine bodyPost_ret (v := .tuple #[.int .i64 0, .bool false]) (by simp [results, Tryz.f5, go_sem, bV2, bO2]) rfl ?_
    exact ⟨rfl, (hw1.setCell (p := ⟨w.heap.size + 1, 0, none⟩) (by dsimp only; omega) _).setCell (p := ⟨w.heap.size + 1 + 1, 0, none⟩) (by dsimp only; omega) _⟩
  | true =>
    rw [hm] at HMAY
    have ha2 : (6311433599 : Int) ≤ a := by rcases ha with h | h; rw [hm] at h; cases h; exact h
    clear ha hm
    go_enter Tryz.func5, Tryz.ntmps5
    go_wp2_with fail
    refine HMAY.out.mono ?_
    rintro e w1 ⟨rfl, hb1⟩
    have hw1 : Below w.heap.size w w1 := hA.trans (hb1.mono hA.size)
    have bV : Boxed w1 (w.heap.size + 1) 3 (.int .i64 0) := Boxed.under rA hb1
    have bO : Boxed w1 (w.heap.size + 1 + 1) 4 (.bool false) := Boxed.under oA hb1
    have c2 := bV.cell
    have c3 := bO.cell
    have f2 := bV.frozen
    have f3 := bO.frozen
    have bV2 := (Boxed.other (bV.set (.int .i64 0)) (show w.heap.size + 1 ≠ w.heap.size + 1 + 1 by omega) (.bool false)).cell
    have bO2 := ((Boxed.other bO (show w.heap.size + 1 + 1 ≠ w.heap.size + 1 by omega) (.int .i64 0)).set (.bool false)).cell
    go_wp2
    refine bodyPost_ret (v := .tuple #[.int .i64 0, .bool false]) (by simp [results, Tryz.f5, go_sem, bV2, bO2]) rfl ?_
    exact ⟨rfl, (hw1.setCell (p := ⟨w.heap.size + 1, 0, none⟩) (by dsimp only; omega) _).setCell (p := ⟨w.heap.size + 1 + 1, 0, none⟩) (by dsimp only; omega) _⟩
/-- what comes next: the program's -/
theorem next_any (s : CalS) (a : Int) (w : World) (h : CalGood w s) (h0 : -9223372036854775808 ≤ a) :
    Calls Tryz.prog 5 #[calV s, .int .i64 a] w fun e w' => (∃ v ok, e = .returned (.tuple #[.int .i64 v, .bool ok]) ∧ Sp.NextIs s.cal a v ok) ∧ Below w.heap.size w w' := by
  by_cases hx : Sp.mayCal s.cal = true ∧ a < 6311433599
  · refine (callsIn_wide.1 (next_in 20 (Nat.le_refl _) s a _ w h hx.1 ⟨h0, hx.2⟩ rfl)).mono ?_
    have hz : 0 ≤ max (a + 1) 0 ∧ max (a + 1) 0 < 6311433600 := by omega
    rintro e w' ⟨⟨v, ok, he, hr⟩, hb⟩
    rw [old_ofT _ hz] at hr
    refine ⟨⟨v, ok, he, ?_⟩, hb⟩
    rcases hr with ⟨rfl, pre, hp, hh⟩ | ⟨rfl, rfl, hn⟩
    · exact Sp.next_hit s.cal hx.1 a _ v rfl hz.2 pre hp hh
    · exact Sp.next_all s.cal a _ rfl hz.2 hn
  · have hy : Sp.mayCal s.cal = false ∨ 6311433599 ≤ a := by
      cases hm : Sp.mayCal s.cal with
      | false => exact .inl rfl
      | true => exact .inr (by by_cases h : 6311433599 ≤ a; exact h; exact absurd ⟨hm, by omega⟩ hx)
    exact (next_out s a w h hy).mono fun _ _ ⟨he, hb⟩ => ⟨⟨0, false, he, Sp.next_not s.cal a hy⟩, hb⟩

end Go.Proofs.YtpkpoglmmjaoeaaGreatDoor
