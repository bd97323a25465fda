/-
  The first second of a calendar's days from one on: the program's walk.
-/
import Derived.Test.YtpkpoglmmjaoeaaGreatDoorCu
namespace Go.Proofs.YtpkpoglmmjaoeaaGreatDoor
open Go.RowKit Go.Shelf
attribute [local go_sem] Oper.semAt_some

namespace Sp
def secT (h m s : Int) : Int := h * 3600 + m * 60 + s
def AllS (P : Int → Prop) (pre : List Small) : Prop := ∀ x ∈ pre, P x.1
theorem AllS.snoc {P : Int → Prop} {pre : List Small} {z : Small} (h : AllS P pre) (hz : P z.1) : AllS P (pre ++ [z]) := fun u hu => (List.mem_append.1 hu).elim (h u) (fun e => by rw [List.mem_singleton] at e; rw [e]; exact hz)
theorem AllS.nil {P : Int → Prop} : AllS P [] := fun u hu => by cases hu
def Fail2 (c : CalD) (a h m : Int) : Prop := ∀ s ∈ toS (numsF c.sec 5 0), secT h m s.1 < a
def Fail1 (c : CalD) (a h : Int) : Prop := ∀ m ∈ toS (numsF c.min 4 0), Fail2 c a h m.1
def Hit3 (a h m : Int) (pre : List Small) (v : Int) : Prop := ∃ q s, pre = q ++ [s] ∧ (∀ x ∈ q, secT h m x.1 < a) ∧ a ≤ v ∧ v = secT h m s.1
def Found2 (c : CalD) (a h m v : Int) : Prop := ∃ pre, pre <+: toS (numsF c.sec 5 0) ∧ Hit3 a h m pre v
def Hit2 (c : CalD) (a h : Int) (pre : List Small) (v : Int) : Prop := ∃ q m, pre = q ++ [m] ∧ (∀ x ∈ q, Fail2 c a h x.1) ∧ Found2 c a h m.1 v
def Found1 (c : CalD) (a h v : Int) : Prop := ∃ pre, pre <+: toS (numsF c.min 4 0) ∧ Hit2 c a h pre v
def Hit1 (c : CalD) (a : Int) (pre : List Small) (v : Int) : Prop := ∃ q h, pre = q ++ [h] ∧ (∀ x ∈ q, Fail1 c a x.1) ∧ Found1 c a h.1 v
end Sp
theorem Boxed.below {W W' : World} {b n : Nat} {t : TypeId} {v : Value} (h : Boxed W b t v) (hb : Below n W W') (hlt : b < n) : Boxed W' b t v := (hb.block b hlt).trans h
theorem ownFrom_res {β : Type} {B : Nat} {w : World} (b2 b3 : Nat) (P : β → Int → Prop) (hB : w.heap.size ≤ B) : OwnFrom B (fun (s : β) W => ∃ v : Int, P s v ∧ (Boxed W b2 3 (.int .i64 v) ∧ Boxed W b3 4 (.bool true)) ∧ Below w.heap.size w W) := by
  rintro s X Y row ⟨v, h1, ⟨h2, h3⟩, h4⟩ hg hr
  exact ⟨v, h1, ⟨boxed_own b2 3 (fun (_ : Unit) => Value.int .i64 v) () X Y row h2 hg (fun r e => (hr r e).2), boxed_own b3 4 (fun (_ : Unit) => Value.bool true) () X Y row h3 hg (fun r e => (hr r e).2)⟩, h4.grown hg h4.size (fun k e => Nat.le_trans hB (hr k e).1)⟩
theorem alloc_keep {W : World} {O : Obj} {b j : Nat} {v : Value} (h : W.cell? ⟨b, j, none⟩ = some v) (hb : b < W.heap.size) : (W.alloc O).cell? ⟨b, j, none⟩ = some v :=
  (((Below.refl W.heap.size W).alloc (Nat.le_refl _) O).cell (p := ⟨b, j, none⟩) hb).trans h
set_option maxRecDepth 100000 in
set_option maxHeartbeats 8000000 in
theorem moment_in (n : Nat) (hn : 12 ≤ n) (s : CalS) (a : Int) (w : World) (h : CalGood w s) (hm : Sp.mayCal s.cal = true) :
    CallsIn Fence.wide n Tryz.prog 15 #[calV s, .int .i64 a] w fun e w' => (∃ v ok, e = .returned (.tuple #[.int .i64 v, .bool ok]) ∧ ((ok = true ∧ ∃ pre, pre <+: toS (Sp.numsF s.cal.hour 3 0) ∧ Sp.Hit1 s.cal a pre v) ∨ (ok = false ∧ v = 0 ∧ ∀ x ∈ toS (Sp.numsF s.cal.hour 3 0), Sp.Fail1 s.cal a x.1))) ∧ Below w.heap.size w w' := by
  have h1 : 1 ≤ n := by omega
  obtain ⟨⟨dA, dn, dc⟩, ⟨A0, n0, c0⟩, ⟨A1, n1, c1⟩, ⟨A2, n2, c2⟩, ⟨A3, n3, c3⟩, ⟨A4, n4, c4⟩, ⟨A5, n5, c5⟩, cal⟩ := s
  have HG := Lib.hid h
  have HML := Lib.hid (Sp.mayCal_lists hm)
  simp only [calV, slV]
  try dsimp only
  clear h hm
  refine callsIn_of_wp_marks Tryz.func15 rfl trivial ?_ rfl
  simp only [Tryz.ntmps15, List.size_toArray, List.length_cons, List.length_nil, Nat.reduceAdd, Nat.reduceSub, Array.replicate_succ, Array.replicate_zero, List.push_toArray, List.append_toArray, List.nil_append, List.cons_append]
  gi_wp2_with fail
  refine ⟨trivial, (callsIn_wide.2 (numbers_any _ _ _ _ _ _)).mono ?_⟩
  rintro e w' ⟨rfl, rfl⟩
  gi_wp2_with fail
  have hsz : (((((((w.alloc (.cells #[.slice dA dn dc, .slice A0 n0 c0, .slice A1 n1 c1, .slice A2 n2 c2, .slice A3 n3 c3, .slice A4 n4 c4, .slice A5 n5 c5] 25)).alloc (.cells #[.int .i64 a] 3)).alloc (.cells #[.int .i64 0] 3)).alloc (.cells #[.bool false] 4)).alloc (.cells #[.slice A3 n3 c3] 23)).alloc (.cells #[.int .i64 3] 3)).alloc (.cells #[.int .i64 0] 3)).heap.size = w.heap.size + 7 := by simp
  have hB0 : Below w.heap.size w (((((((w.alloc (.cells #[.slice dA dn dc, .slice A0 n0 c0, .slice A1 n1 c1, .slice A2 n2 c2, .slice A3 n3 c3, .slice A4 n4 c4, .slice A5 n5 c5] 25)).alloc (.cells #[.int .i64 a] 3)).alloc (.cells #[.int .i64 0] 3)).alloc (.cells #[.bool false] 4)).alloc (.cells #[.slice A3 n3 c3] 23)).alloc (.cells #[.int .i64 3] 3)).alloc (.cells #[.int .i64 0] 3)) := ((((((((Below.refl _ w).alloc (Nat.le_refl _) _).alloc (by simp) _).alloc (by simp; omega) _).alloc (by simp; omega) _).alloc (by simp; omega) _).alloc (by simp; omega) _).alloc (by simp; omega) _)
  have hf5 : (((((((w.alloc (.cells #[.slice dA dn dc, .slice A0 n0 c0, .slice A1 n1 c1, .slice A2 n2 c2, .slice A3 n3 c3, .slice A4 n4 c4, .slice A5 n5 c5] 25)).alloc (.cells #[.int .i64 a] 3)).alloc (.cells #[.int .i64 0] 3)).alloc (.cells #[.bool false] 4)).alloc (.cells #[.slice A3 n3 c3] 23)).alloc (.cells #[.int .i64 3] 3)).alloc (.cells #[.int .i64 0] 3)).cell? ⟨w.heap.size, 5, none⟩ = some (.slice A4 n4 c4) := (alloc_keep (alloc_keep (alloc_keep (alloc_keep (alloc_keep (alloc_keep (show (w.alloc (.cells #[.slice dA dn dc, .slice A0 n0 c0, .slice A1 n1 c1, .slice A2 n2 c2, .slice A3 n3 c3, .slice A4 n4 c4, .slice A5 n5 c5] 25)).cell? ⟨w.heap.size, 5, none⟩ = some (.slice A4 n4 c4) by simp) (by simp; try omega)) (by simp; try omega)) (by simp; try omega)) (by simp; try omega)) (by simp; try omega)) (by simp; try omega))
  have hf6 : (((((((w.alloc (.cells #[.slice dA dn dc, .slice A0 n0 c0, .slice A1 n1 c1, .slice A2 n2 c2, .slice A3 n3 c3, .slice A4 n4 c4, .slice A5 n5 c5] 25)).alloc (.cells #[.int .i64 a] 3)).alloc (.cells #[.int .i64 0] 3)).alloc (.cells #[.bool false] 4)).alloc (.cells #[.slice A3 n3 c3] 23)).alloc (.cells #[.int .i64 3] 3)).alloc (.cells #[.int .i64 0] 3)).cell? ⟨w.heap.size, 6, none⟩ = some (.slice A5 n5 c5) := (alloc_keep (alloc_keep (alloc_keep (alloc_keep (alloc_keep (alloc_keep (show (w.alloc (.cells #[.slice dA dn dc, .slice A0 n0 c0, .slice A1 n1 c1, .slice A2 n2 c2, .slice A3 n3 c3, .slice A4 n4 c4, .slice A5 n5 c5] 25)).cell? ⟨w.heap.size, 6, none⟩ = some (.slice A5 n5 c5) by simp) (by simp; try omega)) (by simp; try omega)) (by simp; try omega)) (by simp; try omega)) (by simp; try omega)) (by simp; try omega))
  have hba : Boxed (((((((w.alloc (.cells #[.slice dA dn dc, .slice A0 n0 c0, .slice A1 n1 c1, .slice A2 n2 c2, .slice A3 n3 c3, .slice A4 n4 c4, .slice A5 n5 c5] 25)).alloc (.cells #[.int .i64 a] 3)).alloc (.cells #[.int .i64 0] 3)).alloc (.cells #[.bool false] 4)).alloc (.cells #[.slice A3 n3 c3] 23)).alloc (.cells #[.int .i64 3] 3)).alloc (.cells #[.int .i64 0] 3)) (w.heap.size + 1) 3 (.int .i64 a) := by
    have h := (Boxed.alloc (Boxed.alloc (Boxed.alloc (Boxed.alloc (Boxed.alloc (Boxed.new (w.alloc (.cells #[.slice dA dn dc, .slice A0 n0 c0, .slice A1 n1 c1, .slice A2 n2 c2, .slice A3 n3 c3, .slice A4 n4 c4, .slice A5 n5 c5] 25)) 3 (.int .i64 a)) (.cells #[.int .i64 0] 3)) (.cells #[.bool false] 4)) (.cells #[.slice A3 n3 c3] 23)) (.cells #[.int .i64 3] 3)) (.cells #[.int .i64 0] 3))
    simp only [World.size_alloc] at h
    exact h
  have hb2 : Boxed (((((((w.alloc (.cells #[.slice dA dn dc, .slice A0 n0 c0, .slice A1 n1 c1, .slice A2 n2 c2, .slice A3 n3 c3, .slice A4 n4 c4, .slice A5 n5 c5] 25)).alloc (.cells #[.int .i64 a] 3)).alloc (.cells #[.int .i64 0] 3)).alloc (.cells #[.bool false] 4)).alloc (.cells #[.slice A3 n3 c3] 23)).alloc (.cells #[.int .i64 3] 3)).alloc (.cells #[.int .i64 0] 3)) (w.heap.size + 1 + 1) 3 (.int .i64 0) := by
    have h := (Boxed.alloc (Boxed.alloc (Boxed.alloc (Boxed.alloc (Boxed.new ((w.alloc (.cells #[.slice dA dn dc, .slice A0 n0 c0, .slice A1 n1 c1, .slice A2 n2 c2, .slice A3 n3 c3, .slice A4 n4 c4, .slice A5 n5 c5] 25)).alloc (.cells #[.int .i64 a] 3)) 3 (.int .i64 0)) (.cells #[.bool false] 4)) (.cells #[.slice A3 n3 c3] 23)) (.cells #[.int .i64 3] 3)) (.cells #[.int .i64 0] 3))
    simp only [World.size_alloc] at h
    exact h
  have hb3 : Boxed (((((((w.alloc (.cells #[.slice dA dn dc, .slice A0 n0 c0, .slice A1 n1 c1, .slice A2 n2 c2, .slice A3 n3 c3, .slice A4 n4 c4, .slice A5 n5 c5] 25)).alloc (.cells #[.int .i64 a] 3)).alloc (.cells #[.int .i64 0] 3)).alloc (.cells #[.bool false] 4)).alloc (.cells #[.slice A3 n3 c3] 23)).alloc (.cells #[.int .i64 3] 3)).alloc (.cells #[.int .i64 0] 3)) (w.heap.size + 1 + 1 + 1) 4 (.bool false) := by
    have h := (Boxed.alloc (Boxed.alloc (Boxed.alloc (Boxed.new (((w.alloc (.cells #[.slice dA dn dc, .slice A0 n0 c0, .slice A1 n1 c1, .slice A2 n2 c2, .slice A3 n3 c3, .slice A4 n4 c4, .slice A5 n5 c5] 25)).alloc (.cells #[.int .i64 a] 3)).alloc (.cells #[.int .i64 0] 3)) 4 (.bool false)) (.cells #[.slice A3 n3 c3] 23)) (.cells #[.int .i64 3] 3)) (.cells #[.int .i64 0] 3))
    simp only [World.size_alloc] at h
    exact h
  have hk4b : Boxed (((((((w.alloc (.cells #[.slice dA dn dc, .slice A0 n0 c0, .slice A1 n1 c1, .slice A2 n2 c2, .slice A3 n3 c3, .slice A4 n4 c4, .slice A5 n5 c5] 25)).alloc (.cells #[.int .i64 a] 3)).alloc (.cells #[.int .i64 0] 3)).alloc (.cells #[.bool false] 4)).alloc (.cells #[.slice A3 n3 c3] 23)).alloc (.cells #[.int .i64 3] 3)).alloc (.cells #[.int .i64 0] 3)) (w.heap.size + 1 + 1 + 1 + 1) 23 (.slice A3 n3 c3) := by
    have h := (Boxed.alloc (Boxed.alloc (Boxed.new ((((w.alloc (.cells #[.slice dA dn dc, .slice A0 n0 c0, .slice A1 n1 c1, .slice A2 n2 c2, .slice A3 n3 c3, .slice A4 n4 c4, .slice A5 n5 c5] 25)).alloc (.cells #[.int .i64 a] 3)).alloc (.cells #[.int .i64 0] 3)).alloc (.cells #[.bool false] 4)) 23 (.slice A3 n3 c3)) (.cells #[.int .i64 3] 3)) (.cells #[.int .i64 0] 3))
    simp only [World.size_alloc] at h
    exact h
  have hk5b : Boxed (((((((w.alloc (.cells #[.slice dA dn dc, .slice A0 n0 c0, .slice A1 n1 c1, .slice A2 n2 c2, .slice A3 n3 c3, .slice A4 n4 c4, .slice A5 n5 c5] 25)).alloc (.cells #[.int .i64 a] 3)).alloc (.cells #[.int .i64 0] 3)).alloc (.cells #[.bool false] 4)).alloc (.cells #[.slice A3 n3 c3] 23)).alloc (.cells #[.int .i64 3] 3)).alloc (.cells #[.int .i64 0] 3)) (w.heap.size + 1 + 1 + 1 + 1 + 1) 3 (.int .i64 3) := by
    have h := (Boxed.alloc (Boxed.new (((((w.alloc (.cells #[.slice dA dn dc, .slice A0 n0 c0, .slice A1 n1 c1, .slice A2 n2 c2, .slice A3 n3 c3, .slice A4 n4 c4, .slice A5 n5 c5] 25)).alloc (.cells #[.int .i64 a] 3)).alloc (.cells #[.int .i64 0] 3)).alloc (.cells #[.bool false] 4)).alloc (.cells #[.slice A3 n3 c3] 23)) 3 (.int .i64 3)) (.cells #[.int .i64 0] 3))
    simp only [World.size_alloc] at h
    exact h
  have hk6b : Boxed (((((((w.alloc (.cells #[.slice dA dn dc, .slice A0 n0 c0, .slice A1 n1 c1, .slice A2 n2 c2, .slice A3 n3 c3, .slice A4 n4 c4, .slice A5 n5 c5] 25)).alloc (.cells #[.int .i64 a] 3)).alloc (.cells #[.int .i64 0] 3)).alloc (.cells #[.bool false] 4)).alloc (.cells #[.slice A3 n3 c3] 23)).alloc (.cells #[.int .i64 3] 3)).alloc (.cells #[.int .i64 0] 3)) (w.heap.size + 1 + 1 + 1 + 1 + 1 + 1) 3 (.int .i64 0) := by
    have h := (Boxed.new ((((((w.alloc (.cells #[.slice dA dn dc, .slice A0 n0 c0, .slice A1 n1 c1, .slice A2 n2 c2, .slice A3 n3 c3, .slice A4 n4 c4, .slice A5 n5 c5] 25)).alloc (.cells #[.int .i64 a] 3)).alloc (.cells #[.int .i64 0] 3)).alloc (.cells #[.bool false] 4)).alloc (.cells #[.slice A3 n3 c3] 23)).alloc (.cells #[.int .i64 3] 3)) 3 (.int .i64 0))
    simp only [World.size_alloc] at h
    exact h
  have hfa := hba.cell
  have hk4 := hk4b.cell
  have hk5 := hk5b.cell
  have hk6 := hk6b.cell
  generalize ((((((w.alloc (.cells #[.slice dA dn dc, .slice A0 n0 c0, .slice A1 n1 c1, .slice A2 n2 c2, .slice A3 n3 c3, .slice A4 n4 c4, .slice A5 n5 c5] 25)).alloc (.cells #[.int .i64 a] 3)).alloc (.cells #[.int .i64 0] 3)).alloc (.cells #[.bool false] 4)).alloc (.cells #[.slice A3 n3 c3] 23)).alloc (.cells #[.int .i64 3] 3)).alloc (.cells #[.int .i64 0] 3) = W0 at *
  have HG0 := Lib.hid (HG.out.on hB0)
  refine wpIn_rangeFunc_ownH rfl h1 (gf := 71) (lb := #[.pointer (some ⟨w.heap.size + 1 + 1 + 1 + 1 + 1, 0, none⟩), .pointer (some ⟨w.heap.size + 1 + 1 + 1 + 1 + 2, 0, none⟩), .pointer (some ⟨w.heap.size + 1 + 1 + 1 + 1, 0, none⟩)]) rfl trivial (enters_of Tryz.func71 (by kernel_rfl) rfl)
    (numbers_stops (n - 1) (by omega) (w.heap.size + 1 + 1 + 1 + 1 + 1) (w.heap.size + 1 + 1 + 1 + 1 + 2) (w.heap.size + 1 + 1 + 1 + 1) W0.heap.size cal.hour 3 0 A3 n3 c3 (HG0.out.bf 3) (HML.out 3 (by decide)) (by omega) (by omega) (by omega) W0 (Nat.le_refl _) (HG0.out.rf 3 (by decide)) hk5 hk6 hk4)
    belowK_t (belowK_b (Nat.le_refl _)) (Below.refl _ _) (fun _ => rfl)
    (fun pre W => (∀ x ∈ pre, Sp.Fail1 cal a x.1) ∧ Below W0.heap.size W0 W)
    (fun c pre W => ∃ v : Int, (c = .ret ∧ Sp.Hit1 cal a pre v) ∧ (Boxed W (w.heap.size + 1 + 1) 3 (.int .i64 v) ∧ Boxed W (w.heap.size + 1 + 1 + 1) 4 (.bool true)) ∧ Below w.heap.size w W)
    (OwnFrom.and (ownFrom_pure _ _) (ownFrom_below (Nat.le_refl _) (Nat.le_refl _)))
    (fun c => ownFrom_res _ _ (fun pre v => c = .ret ∧ Sp.Hit1 cal a pre v) (by omega))
    ⟨by simp, Below.refl _ _⟩
    (fun x a' W => ∃ Bx, W0.heap.size ≤ Bx ∧ Boxed W Bx 3 (.int .i64 x.1) ∧ a' = { tmps := #[.agg #[.slice dA dn dc, .slice A0 n0 c0, .slice A1 n1 c1, .slice A2 n2 c2, .slice A3 n3 c3, .slice A4 n4 c4, .slice A5 n5 c5], .int .i64 a, .pointer (some ⟨w.heap.size, 0, none⟩), .pointer (some ⟨w.heap.size + 1, 0, none⟩), .pointer (some ⟨w.heap.size + 1 + 1, 0, none⟩), .pointer (some ⟨w.heap.size + 1 + 1 + 1, 0, none⟩), .pointer (some ⟨Bx, 0, none⟩), undef, undef, undef, .pointer (some ⟨w.heap.size, 4, none⟩), .slice A3 n3 c3, .func (.func 71) #[] #[.pointer (some ⟨w.heap.size + 1 + 1 + 1 + 1 + 1, 0, none⟩), .pointer (some ⟨w.heap.size + 1 + 1 + 1 + 1 + 2, 0, none⟩), .pointer (some ⟨w.heap.size + 1 + 1 + 1 + 1, 0, none⟩)], .int .i64 x.1, undef, undef, undef, undef, undef, undef, undef, undef, undef, undef, undef, undef, undef, undef, undef, undef, undef, undef, undef], defers := [] })
    (fun x a' _ X Y row hs hg hr => by obtain ⟨Bx, e1, e2, e3⟩ := hs; exact ⟨Bx, e1, boxed_own Bx 3 (fun (_ : Unit) => Value.int .i64 x.1) () X Y row e2 hg (fun r e => (hr r e).2), e3⟩)
    ?assign ?body ?done ?stop
  case assign =>
    rintro l pre x W K ⟨hp, hBW⟩ hK
    gi_wp2
    exact hK _ _ ((KeepsOthers.alloc _ _).from _) ((Below.refl _ W).alloc hBW.size _) ⟨hp, hBW.alloc hBW.size _⟩ ⟨W.heap.size, hBW.size, Boxed.new W 3 _, rfl⟩
  case body =>
    rintro l pre x a' W hl ⟨r, hr⟩ ⟨hp, hBW⟩ ⟨Bx, hBx, bX, rfl⟩ hlt
    have q5 : W.cell? ⟨w.heap.size, 5, none⟩ = some (.slice A4 n4 c4) := (hBW.cell (p := ⟨w.heap.size, 5, none⟩) (by dsimp only; omega)).trans hf5
    have h1' : 1 ≤ n - 1 - 1 := by omega
    have hsW := hBW.size
    gi_wp2_with fail
    refine ⟨trivial, (CallsIn.inRound l (callsIn_wide.2 (numbers_any _ _ _ _ _ _))).mono ?_⟩
    rintro e w' ⟨rfl, rfl⟩
    gi_wp2_with fail
    have hsz1 : (((W.alloc (.cells #[.slice A4 n4 c4] 23)).alloc (.cells #[.int .i64 4] 3)).alloc (.cells #[.int .i64 0] 3)).heap.size = W.heap.size + 3 := by simp
    have hBW1 : Below W.heap.size W (((W.alloc (.cells #[.slice A4 n4 c4] 23)).alloc (.cells #[.int .i64 4] 3)).alloc (.cells #[.int .i64 0] 3)) := (((Below.refl _ W).alloc (Nat.le_refl _) _).alloc (by simp) _).alloc (by simp; omega) _
    have j4b : Boxed (((W.alloc (.cells #[.slice A4 n4 c4] 23)).alloc (.cells #[.int .i64 4] 3)).alloc (.cells #[.int .i64 0] 3)) (W.heap.size) 23 (.slice A4 n4 c4) := by
      have h := Boxed.alloc (Boxed.alloc (Boxed.new W 23 (.slice A4 n4 c4)) (.cells #[.int .i64 4] 3)) (.cells #[.int .i64 0] 3)
      exact h
    have j5b : Boxed (((W.alloc (.cells #[.slice A4 n4 c4] 23)).alloc (.cells #[.int .i64 4] 3)).alloc (.cells #[.int .i64 0] 3)) (W.heap.size + 1) 3 (.int .i64 4) := by
      have h := Boxed.alloc (Boxed.new (W.alloc (.cells #[.slice A4 n4 c4] 23)) 3 (.int .i64 4)) (.cells #[.int .i64 0] 3)
      simp only [World.size_alloc] at h
      exact h
    have j6b : Boxed (((W.alloc (.cells #[.slice A4 n4 c4] 23)).alloc (.cells #[.int .i64 4] 3)).alloc (.cells #[.int .i64 0] 3)) (W.heap.size + 1 + 1) 3 (.int .i64 0) := by
      have h := Boxed.new ((W.alloc (.cells #[.slice A4 n4 c4] 23)).alloc (.cells #[.int .i64 4] 3)) 3 (.int .i64 0)
      simp only [World.size_alloc] at h
      exact h
    generalize ((W.alloc (.cells #[.slice A4 n4 c4] 23)).alloc (.cells #[.int .i64 4] 3)).alloc (.cells #[.int .i64 0] 3) = W1 at *
    have HG1 := Lib.hid (HG0.out.on (hBW.trans (hBW1.mono hsW)))
    have hB01 : Below W0.heap.size W0 W1 := hBW.trans (hBW1.mono hsW)
    have hlW : l < W.heap.size := (Array.getElem?_eq_some_iff.1 hr).1
    have hr' : W1.heap[l]? = some (.loop r) := (hBW1.block l hlW).trans hr
    have hKW1 : ∀ W', Below W1.heap.size W1 W' → KeepsFrom W0.heap.size W W' := fun W' hb => KeepsFrom.of_grownBy (grown_of_below (hBW1.trans (hb.mono (by omega)))) (fun j e => by cases e)
    refine wpIn_rangeFunc_ownN (l₀ := l) (r₀ := r) rfl hr' h1' (gf := 71) (lb := #[.pointer (some ⟨W.heap.size + 1, 0, none⟩), .pointer (some ⟨W.heap.size + 2, 0, none⟩), .pointer (some ⟨W.heap.size, 0, none⟩)]) rfl trivial (enters_of Tryz.func71 (by kernel_rfl) rfl)
      ((numbers_stops (n - 1 - 1 - 1) (by omega) (W.heap.size + 1) (W.heap.size + 2) (W.heap.size) W1.heap.size cal.min 4 0 A4 n4 c4 (HG1.out.bf 4) (HML.out 4 (by decide)) (by omega) (by omega) (by omega) W1 (Nat.le_refl _) (HG1.out.rf 4 (by decide)) j5b.cell j6b.cell j4b.cell).inRound l)
      belowK_t (belowK_b (Nat.le_refl _)) (Below.refl _ _) (fun _ => rfl)
      (fun pre' W' => (∀ m ∈ pre', Sp.Fail2 cal a x.1 m.1) ∧ Below W1.heap.size W1 W')
      (fun c pre' W' => (∃ v : Int, (c = .ret ∧ Sp.Hit2 cal a x.1 pre' v) ∧ (Boxed W' (w.heap.size + 1 + 1) 3 (.int .i64 v) ∧ Boxed W' (w.heap.size + 1 + 1 + 1) 4 (.bool true)) ∧ Below w.heap.size w W') ∧ KeepsFrom W0.heap.size W W')
      (OwnFrom.and (ownFrom_pure _ _) (ownFrom_below (Nat.le_refl _) (Nat.le_refl _)))
      (fun c => OwnFrom.and (ownFrom_res _ _ (fun pre' v => c = .ret ∧ Sp.Hit2 cal a x.1 pre' v) (by omega)) (ownFrom_keepsFrom (by omega)))
      ⟨by simp, Below.refl _ _⟩
      (fun y a'' W' => ∃ By, W1.heap.size ≤ By ∧ Boxed W' By 3 (.int .i64 y.1) ∧ a'' = { tmps := #[.agg #[.slice dA dn dc, .slice A0 n0 c0, .slice A1 n1 c1, .slice A2 n2 c2, .slice A3 n3 c3, .slice A4 n4 c4, .slice A5 n5 c5], .int .i64 a, .pointer (some ⟨w.heap.size, 0, none⟩), .pointer (some ⟨w.heap.size + 1, 0, none⟩), .pointer (some ⟨w.heap.size + 1 + 1, 0, none⟩), .pointer (some ⟨w.heap.size + 1 + 1 + 1, 0, none⟩), .pointer (some ⟨Bx, 0, none⟩), .pointer (some ⟨By, 0, none⟩), undef, undef, .pointer (some ⟨w.heap.size, 4, none⟩), .slice A3 n3 c3, .func (.func 71) #[] #[.pointer (some ⟨w.heap.size + 1 + 1 + 1 + 1 + 1, 0, none⟩), .pointer (some ⟨w.heap.size + 1 + 1 + 1 + 1 + 2, 0, none⟩), .pointer (some ⟨w.heap.size + 1 + 1 + 1 + 1, 0, none⟩)], .int .i64 x.1, .pointer (some ⟨w.heap.size, 5, none⟩), .slice A4 n4 c4, .func (.func 71) #[] #[.pointer (some ⟨W.heap.size + 1, 0, none⟩), .pointer (some ⟨W.heap.size + 2, 0, none⟩), .pointer (some ⟨W.heap.size, 0, none⟩)], .int .i64 y.1, undef, undef, undef, undef, undef, undef, undef, undef, undef, undef, undef, undef, undef, undef, undef], defers := [] })
      (fun y a'' _ X Y row hs hg hr => by obtain ⟨By, e1, e2, e3⟩ := hs; exact ⟨By, e1, boxed_own By 3 (fun (_ : Unit) => Value.int .i64 y.1) () X Y row e2 hg (fun r e => (hr r e).2), e3⟩)
      ?assign2 ?body2 ?done2 ?stop2
    case assign2 =>
      rintro l2 pre' y W' K ⟨hq, hB1⟩ hK
      gi_wp2
      exact hK _ _ ((KeepsOthers.alloc _ _).from _) ((Below.refl _ W').alloc hB1.size _) ⟨hq, hB1.alloc hB1.size _⟩ ⟨W'.heap.size, hB1.size, Boxed.new W' 3 _, rfl⟩
    case body2 =>
      rintro l2 pre' y a'' W' hl2 ⟨r2, hr2⟩ ⟨hq, hB1⟩ ⟨By, hBy, bY, rfl⟩ hlt2
      have hB0W : Below W0.heap.size W0 W' := hB01.trans (hB1.mono (by omega))
      have q6 : W'.cell? ⟨w.heap.size, 6, none⟩ = some (.slice A5 n5 c5) := (hB0W.cell (p := ⟨w.heap.size, 6, none⟩) (by dsimp only; omega)).trans hf6
      have h1'' : 1 ≤ n - 1 - 1 - 1 - 1 := by omega
      have hsW' := hB1.size
      have hszW : W.heap.size ≤ W1.heap.size := by omega
      have hBxlt : Bx < W.heap.size := bX.lt
      gi_wp2_with fail
      refine ⟨trivial, (CallsIn.inRound l2 (callsIn_wide.2 (numbers_any _ _ _ _ _ _))).mono ?_⟩
      rintro e w' ⟨rfl, rfl⟩
      gi_wp2_with fail
      have hsz2 : (((W'.alloc (.cells #[.slice A5 n5 c5] 23)).alloc (.cells #[.int .i64 5] 3)).alloc (.cells #[.int .i64 0] 3)).heap.size = W'.heap.size + 3 := by simp
      have hBW2 : Below W'.heap.size W' (((W'.alloc (.cells #[.slice A5 n5 c5] 23)).alloc (.cells #[.int .i64 5] 3)).alloc (.cells #[.int .i64 0] 3)) := (((Below.refl _ W').alloc (Nat.le_refl _) _).alloc (by simp) _).alloc (by simp; omega) _
      have i4b : Boxed (((W'.alloc (.cells #[.slice A5 n5 c5] 23)).alloc (.cells #[.int .i64 5] 3)).alloc (.cells #[.int .i64 0] 3)) (W'.heap.size) 23 (.slice A5 n5 c5) := by
        have h := Boxed.alloc (Boxed.alloc (Boxed.new W' 23 (.slice A5 n5 c5)) (.cells #[.int .i64 5] 3)) (.cells #[.int .i64 0] 3)
        exact h
      have i5b : Boxed (((W'.alloc (.cells #[.slice A5 n5 c5] 23)).alloc (.cells #[.int .i64 5] 3)).alloc (.cells #[.int .i64 0] 3)) (W'.heap.size + 1) 3 (.int .i64 5) := by
        have h := Boxed.alloc (Boxed.new (W'.alloc (.cells #[.slice A5 n5 c5] 23)) 3 (.int .i64 5)) (.cells #[.int .i64 0] 3)
        simp only [World.size_alloc] at h
        exact h
      have i6b : Boxed (((W'.alloc (.cells #[.slice A5 n5 c5] 23)).alloc (.cells #[.int .i64 5] 3)).alloc (.cells #[.int .i64 0] 3)) (W'.heap.size + 1 + 1) 3 (.int .i64 0) := by
        have h := Boxed.new ((W'.alloc (.cells #[.slice A5 n5 c5] 23)).alloc (.cells #[.int .i64 5] 3)) 3 (.int .i64 0)
        simp only [World.size_alloc] at h
        exact h
      generalize ((W'.alloc (.cells #[.slice A5 n5 c5] 23)).alloc (.cells #[.int .i64 5] 3)).alloc (.cells #[.int .i64 0] 3) = W2 at *
      have hB02 : Below W0.heap.size W0 W2 := hB0W.trans (hBW2.mono (by omega))
      have hB12 : Below W1.heap.size W1 W2 := hB1.trans (hBW2.mono hsW')
      have HG2 := Lib.hid (HG0.out.on hB02)
      have bX2 : Boxed W2 Bx 3 (.int .i64 x.1) := Boxed.below (Boxed.below bX hBW1 hBxlt) hB12 (by omega)
      have bY2 : Boxed W2 By 3 (.int .i64 y.1) := Boxed.below bY hBW2 bY.lt
      have bYlt := bY.lt
      have ba2 : Boxed W2 (w.heap.size + 1) 3 (.int .i64 a) := Boxed.below hba hB02 (by omega)
      have bV2 : Boxed W2 (w.heap.size + 1 + 1) 3 (.int .i64 0) := Boxed.below hb2 hB02 (by omega)
      have bO2 : Boxed W2 (w.heap.size + 1 + 1 + 1) 4 (.bool false) := Boxed.below hb3 hB02 (by omega)
      have hlW2 : l2 < W'.heap.size := (Array.getElem?_eq_some_iff.1 hr2).1
      have hr2' : W2.heap[l2]? = some (.loop r2) := (hBW2.block l2 hlW2).trans hr2
      have hKW2 : ∀ W'', Below W2.heap.size W2 W'' → KeepsFrom W1.heap.size W' W'' := fun W'' hb => KeepsFrom.of_grownBy (grown_of_below (hBW2.trans (hb.mono (by omega)))) (fun j e => by cases e)
      have hKW0 : ∀ W'', Below W2.heap.size W2 W'' → KeepsFrom W0.heap.size W W'' := fun W'' hb => hKW1 W'' (hB12.trans (hb.mono (by omega)))
      refine wpIn_rangeFunc_ownN (l₀ := l2) (r₀ := r2) rfl hr2' h1'' (gf := 71) (lb := #[.pointer (some ⟨W'.heap.size + 1, 0, none⟩), .pointer (some ⟨W'.heap.size + 2, 0, none⟩), .pointer (some ⟨W'.heap.size, 0, none⟩)]) rfl trivial (enters_of Tryz.func71 (by kernel_rfl) rfl)
        ((numbers_stops (n - 1 - 1 - 1 - 1 - 1) (by omega) (W'.heap.size + 1) (W'.heap.size + 2) (W'.heap.size) W2.heap.size cal.sec 5 0 A5 n5 c5 (HG2.out.bf 5) (HML.out 5 (by decide)) (by omega) (by omega) (by omega) W2 (Nat.le_refl _) (HG2.out.rf 5 (by decide)) i5b.cell i6b.cell i4b.cell).inRound l2)
        belowK_t (belowK_b (Nat.le_refl _)) (Below.refl _ _) (fun _ => rfl)
        (fun pre3 W'' => Sp.AllS (fun t => Sp.secT x.1 y.1 t < a) pre3 ∧ Below W2.heap.size W2 W'')
        (fun c pre3 W'' => (∃ v : Int, (c = .ret ∧ Sp.Hit3 a x.1 y.1 pre3 v) ∧ (Boxed W'' (w.heap.size + 1 + 1) 3 (.int .i64 v) ∧ Boxed W'' (w.heap.size + 1 + 1 + 1) 4 (.bool true)) ∧ Below w.heap.size w W'') ∧ (KeepsFrom W0.heap.size W W'' ∧ KeepsFrom W1.heap.size W' W''))
        (OwnFrom.and (ownFrom_pure _ _) (ownFrom_below (Nat.le_refl _) (Nat.le_refl _)))
        (fun c => OwnFrom.and (ownFrom_res _ _ (fun pre3 v => c = .ret ∧ Sp.Hit3 a x.1 y.1 pre3 v) (by omega)) (OwnFrom.and (ownFrom_keepsFrom (by omega)) (ownFrom_keepsFrom (by omega))))
        ⟨Sp.AllS.nil, Below.refl _ _⟩
        (fun z a3 _ => a3 = { tmps := #[.agg #[.slice dA dn dc, .slice A0 n0 c0, .slice A1 n1 c1, .slice A2 n2 c2, .slice A3 n3 c3, .slice A4 n4 c4, .slice A5 n5 c5], .int .i64 a, .pointer (some ⟨w.heap.size, 0, none⟩), .pointer (some ⟨w.heap.size + 1, 0, none⟩), .pointer (some ⟨w.heap.size + 1 + 1, 0, none⟩), .pointer (some ⟨w.heap.size + 1 + 1 + 1, 0, none⟩), .pointer (some ⟨Bx, 0, none⟩), .pointer (some ⟨By, 0, none⟩), .int .i64 z.1, undef, .pointer (some ⟨w.heap.size, 4, none⟩), .slice A3 n3 c3, .func (.func 71) #[] #[.pointer (some ⟨w.heap.size + 1 + 1 + 1 + 1 + 1, 0, none⟩), .pointer (some ⟨w.heap.size + 1 + 1 + 1 + 1 + 2, 0, none⟩), .pointer (some ⟨w.heap.size + 1 + 1 + 1 + 1, 0, none⟩)], .int .i64 x.1, .pointer (some ⟨w.heap.size, 5, none⟩), .slice A4 n4 c4, .func (.func 71) #[] #[.pointer (some ⟨W.heap.size + 1, 0, none⟩), .pointer (some ⟨W.heap.size + 2, 0, none⟩), .pointer (some ⟨W.heap.size, 0, none⟩)], .int .i64 y.1, .pointer (some ⟨w.heap.size, 6, none⟩), .slice A5 n5 c5, .func (.func 71) #[] #[.pointer (some ⟨W'.heap.size + 1, 0, none⟩), .pointer (some ⟨W'.heap.size + 2, 0, none⟩), .pointer (some ⟨W'.heap.size, 0, none⟩)], .int .i64 z.1, undef, undef, undef, undef, undef, undef, undef, undef, undef, undef, undef], defers := [] })
        (fun _ _ _ _ _ _ hs _ _ => hs)
        ?assign3 ?body3 ?done3 ?stop3
      case assign3 =>
        rintro l3 pre3 z W'' K hi hK
        gi_wp2
        exact hK _ _ (KeepsFrom.refl _ _) (Below.refl _ _) hi rfl
      case body3 =>
        rintro l3 pre3 z a3 W'' _ _ ⟨hs, hB2⟩ rfl _
        have cX := (Boxed.below bX2 hB2 bX2.lt).cell
        have cY := (Boxed.below bY2 hB2 bY2.lt).cell
        have cA := (Boxed.below ba2 hB2 ba2.lt).cell
        have bV3 : Boxed W'' (w.heap.size + 1 + 1) 3 (.int .i64 0) := Boxed.below bV2 hB2 bV2.lt
        have bO3 : Boxed W'' (w.heap.size + 1 + 1 + 1) 4 (.bool false) := Boxed.below bO2 hB2 bO2.lt
        have cV := bV3.cell
        have fV := bV3.frozen
        have cO := bO3.cell
        have fO := bO3.frozen
        have hx := x.2
        have hy := y.2
        have hz := z.2
        have v1 : IntKind.i64.wrap (x.1 * 3600) = x.1 * 3600 := by rw [IntKind.wrap_i64]; omega
        have v2 : IntKind.i64.wrap (y.1 * 60) = y.1 * 60 := by rw [IntKind.wrap_i64]; omega
        have v3 : IntKind.i64.wrap (x.1 * 3600 + y.1 * 60) = x.1 * 3600 + y.1 * 60 := by rw [IntKind.wrap_i64]; omega
        have v4 : IntKind.i64.wrap (x.1 * 3600 + y.1 * 60 + z.1) = x.1 * 3600 + y.1 * 60 + z.1 := by rw [IntKind.wrap_i64]; omega
        have HB2 := Lib.hid hB2
        have HS : Hid (Sp.AllS (fun t => Sp.secT x.1 y.1 t < a) pre3) := Lib.hid hs
        clear hsz hsz1 hsz2
        by_cases ht : x.1 * 3600 + y.1 * 60 + z.1 ≥ a
        · have HT := Lib.hid ht
          gi_wp2
          have hBF : Below w.heap.size w W'' := hB0.trans ((hB02.trans (HB2.out.mono hB02.size)).mono hB0.size)
          exact ⟨((KeepsOthers.setCell _ _ _).from _).trans ((KeepsOthers.setCell _ _ _).from _), ⟨x.1 * 3600 + y.1 * 60 + z.1, ⟨rfl, pre3, z, rfl, HS.out, HT.out, rfl⟩, ⟨Boxed.other (bV3.set (.int .i64 (x.1 * 3600 + y.1 * 60 + z.1))) (show w.heap.size + 1 + 1 ≠ w.heap.size + 1 + 1 + 1 by omega) (.bool true), (Boxed.other bO3 (show w.heap.size + 1 + 1 + 1 ≠ w.heap.size + 1 + 1 by omega) (.int .i64 (x.1 * 3600 + y.1 * 60 + z.1))).set (.bool true)⟩, (hBF.setCell (p := ⟨w.heap.size + 1 + 1, 0, none⟩) (by dsimp only; omega) _).setCell (p := ⟨w.heap.size + 1 + 1 + 1, 0, none⟩) (by dsimp only; omega) _⟩, (hKW0 W'' HB2.out).trans (((KeepsOthers.setCell _ _ _).from _).trans ((KeepsOthers.setCell _ _ _).from _)), (hKW2 W'' HB2.out).trans (((KeepsOthers.setCell _ _ _).from _).trans ((KeepsOthers.setCell _ _ _).from _))⟩
        · have HT := Lib.hid ht
          have HT2 : Hid (Sp.secT x.1 y.1 z.1 < a) := Lib.hid (by unfold Sp.secT; omega)
          gi_wp2
          exact ⟨KeepsFrom.refl _ _, Below.refl _ _, HS.out.snoc HT2.out, HB2.out⟩
      case done3 =>
        rintro zs W'' rfl ⟨hs, hB2⟩
        gi_wp2
        exact ⟨hKW2 W'' hB2, (hBW2.mono hsW').trans (hB2.mono (by omega)), fun u hu => (List.mem_append.1 hu).elim (hq u) (fun e => by simp at e; subst e; exact hs), hB12.trans (hB2.mono (by omega))⟩
      case stop3 =>
        rintro c pre3 W'' hpre ⟨⟨v, ⟨rfl, hh⟩, hbx, hBb⟩, hKF0, hKF1⟩
        gi_wp2
        exact ⟨hKF1, ⟨v, ⟨rfl, pre', y, rfl, hq, pre3, hpre, hh⟩, hbx, hBb⟩, hKF0⟩
    case done2 =>
      rintro ys' W' rfl ⟨hq, hB1⟩
      gi_wp2
      exact ⟨hKW1 W' hB1, (hBW1.mono hsW).trans (hB1.mono (by omega)), fun z hz => (List.mem_append.1 hz).elim (hp z) (fun e => by simp at e; subst e; exact hq), hB01.trans (hB1.mono (by omega))⟩
    case stop2 =>
      rintro c pre' W' hpre ⟨⟨v, ⟨rfl, hh⟩, hbx, hBb⟩, hKF⟩
      gi_wp2
      exact ⟨hKF, v, ⟨rfl, pre, x, rfl, hp, pre', hpre, hh⟩, hbx, hBb⟩
  case done =>
    rintro D zs W hD rfl ⟨hp, hBW⟩ hK
    have bV := (Boxed.below hb2 hBW (by omega))
    have bO := (Boxed.below hb3 hBW (by omega))
    have c2 := bV.cell
    have c3 := bO.cell
    have f2 := bV.frozen
    have f3 := bO.frozen
    gi_wp2
    have hK1 := (KeepsOthers.setCell W ⟨w.heap.size + 1 + 1, 0, none⟩ (.int .i64 0)).same D _ hK rfl
    have hK2 := (KeepsOthers.setCell (W.setCell ⟨w.heap.size + 1 + 1, 0, none⟩ (.int .i64 0)) ⟨w.heap.size + 1 + 1 + 1, 0, none⟩ (.bool false)).same D _ hK1 rfl
    refine ⟨by simp, .inl ⟨_, _, rfl, run_takeDeferred hK2, ?_⟩⟩
    have bV2 := Boxed.other (bV.set (.int .i64 0)) (show w.heap.size + 1 + 1 ≠ w.heap.size + 1 + 1 + 1 by omega) (.bool false)
    have bO2 := (Boxed.other bO (show w.heap.size + 1 + 1 + 1 ≠ w.heap.size + 1 + 1 by omega) (.int .i64 0)).set (.bool false)
    have hc4 := cell_kept bV2.cell (grownBy_putObj' _ D (.deferred none)) (fun r e => by cases e; exact ⟨_, hK2, rfl⟩)
    have hc5 := cell_kept bO2.cell (grownBy_putObj' _ D (.deferred none)) (fun r e => by cases e; exact ⟨_, hK2, rfl⟩)
    have hBF : Below w.heap.size w ((W.setCell ⟨w.heap.size + 1 + 1, 0, none⟩ (.int .i64 0)).setCell ⟨w.heap.size + 1 + 1 + 1, 0, none⟩ (.bool false)) := ((hB0.trans (hBW.mono hB0.size)).setCell (p := ⟨w.heap.size + 1 + 1, 0, none⟩) (by dsimp only; omega) _).setCell (p := ⟨w.heap.size + 1 + 1 + 1, 0, none⟩) (by dsimp only; omega) _
    refine ⟨.tuple #[.int .i64 0, .bool false], ?_, ⟨0, false, rfl, .inr ⟨rfl, rfl, hp⟩⟩, hBF.trans (belowK_b (w := w) (Nat.le_refl _) _ D _ _ (by omega) hK2 rfl rfl)⟩
    simp [results, Tryz.f15, go_sem, hc4, hc5]
  case stop =>
    rintro D c pre W hD hpre ⟨v, ⟨rfl, hh⟩, ⟨bV, bO⟩, hBW⟩ hK
    gi_wp2
    refine ⟨by simp, .inl ⟨_, _, rfl, run_takeDeferred hK, ?_⟩⟩
    have hc4 := cell_kept bV.cell (grownBy_putObj' _ D (.deferred none)) (fun r e => by cases e; exact ⟨_, hK, rfl⟩)
    have hc5 := cell_kept bO.cell (grownBy_putObj' _ D (.deferred none)) (fun r e => by cases e; exact ⟨_, hK, rfl⟩)
    refine ⟨.tuple #[.int .i64 v, .bool true], ?_, ⟨v, true, rfl, .inl ⟨rfl, pre, hpre, hh⟩⟩, hBW.trans (belowK_b (w := w) (Nat.le_refl _) W D _ _ (by omega) hK rfl rfl)⟩
    simp [results, Tryz.f15, go_sem, hc4, hc5]

end Go.Proofs.YtpkpoglmmjaoeaaGreatDoor
