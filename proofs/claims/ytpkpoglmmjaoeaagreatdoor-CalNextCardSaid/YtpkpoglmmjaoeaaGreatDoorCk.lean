/-
  The date of a second: the program's walk.
-/
import Derived.Test.YtpkpoglmmjaoeaaGreatDoorCj
import Derived.Laws.ResultCell
namespace Go.Proofs.YtpkpoglmmjaoeaaGreatDoor
open Go.RowKit

def dateC (d : Sp.DateD) : List Value := [.int .i64 d.year, .int .i64 d.month, .int .i64 d.day, .int .i64 d.hour, .int .i64 d.min, .int .i64 d.sec, .int .i64 d.wday]
def dateV (d : Sp.DateD) : Value := .agg (dateC d).toArray
def zeroD : Sp.DateD := ⟨0, 0, 0, 0, 0, 0, 0⟩
namespace Sp
def okT (t : Int) : Bool := decide (0 ≤ t) && decide (t < 6311433600)
noncomputable def ofT (t : Int) : DateD := if okT t then dateOf t else ⟨0, 0, 0, 0, 0, 0, 0⟩
end Sp
/-- a date in memory -/
structure DBox (w : World) (b : Nat) (d : Sp.DateD) : Prop where
  c0 : w.cell? ⟨b, 0, none⟩ = some (.int .i64 d.year)
  c1 : w.cell? ⟨b, 1, none⟩ = some (.int .i64 d.month)
  c2 : w.cell? ⟨b, 2, none⟩ = some (.int .i64 d.day)
  c3 : w.cell? ⟨b, 3, none⟩ = some (.int .i64 d.hour)
  c4 : w.cell? ⟨b, 4, none⟩ = some (.int .i64 d.min)
  c5 : w.cell? ⟨b, 5, none⟩ = some (.int .i64 d.sec)
  c6 : w.cell? ⟨b, 6, none⟩ = some (.int .i64 d.wday)
  f0 : w.frozen? ⟨b, 0, none⟩ = false
  f1 : w.frozen? ⟨b, 1, none⟩ = false
  f2 : w.frozen? ⟨b, 2, none⟩ = false
  f3 : w.frozen? ⟨b, 3, none⟩ = false
  f4 : w.frozen? ⟨b, 4, none⟩ = false
  f5 : w.frozen? ⟨b, 5, none⟩ = false
  f6 : w.frozen? ⟨b, 6, none⟩ = false
theorem DBox.on {w w' : World} {b : Nat} {d : Sp.DateD} (h : DBox w b d) {B : Nat} (hB : b < B) (hb : Below B w w') : DBox w' b d :=
  ⟨(hb.cell (p := ⟨b, 0, none⟩) hB).trans h.c0, (hb.cell (p := ⟨b, 1, none⟩) hB).trans h.c1, (hb.cell (p := ⟨b, 2, none⟩) hB).trans h.c2, (hb.cell (p := ⟨b, 3, none⟩) hB).trans h.c3, (hb.cell (p := ⟨b, 4, none⟩) hB).trans h.c4, (hb.cell (p := ⟨b, 5, none⟩) hB).trans h.c5, (hb.cell (p := ⟨b, 6, none⟩) hB).trans h.c6, (hb.frozen (p := ⟨b, 0, none⟩) hB).trans h.f0, (hb.frozen (p := ⟨b, 1, none⟩) hB).trans h.f1, (hb.frozen (p := ⟨b, 2, none⟩) hB).trans h.f2, (hb.frozen (p := ⟨b, 3, none⟩) hB).trans h.f3, (hb.frozen (p := ⟨b, 4, none⟩) hB).trans h.f4, (hb.frozen (p := ⟨b, 5, none⟩) hB).trans h.f5, (hb.frozen (p := ⟨b, 6, none⟩) hB).trans h.f6⟩
theorem DBox.new (w : World) (d : Sp.DateD) : DBox (w.alloc (.cells #[.int .i64 d.year, .int .i64 d.month, .int .i64 d.day, .int .i64 d.hour, .int .i64 d.min, .int .i64 d.sec, .int .i64 d.wday] 37)) w.heap.size d :=
  ⟨by simp, by simp, by simp, by simp, by simp, by simp, by simp, by go_simp, by go_simp, by go_simp, by go_simp, by go_simp, by go_simp, by go_simp⟩
theorem DBox.set0 {w : World} {b : Nat} {d : Sp.DateD} (h : DBox w b d) (v : Int) : DBox (w.setCell ⟨b, 0, none⟩ (.int .i64 v)) b { d with year := v } := by
  obtain ⟨c0, c1, c2, c3, c4, c5, c6, f0, f1, f2, f3, f4, f5, f6⟩ := h
  exact ⟨by go_simp, by go_simp, by go_simp, by go_simp, by go_simp, by go_simp, by go_simp, by go_simp, by go_simp, by go_simp, by go_simp, by go_simp, by go_simp, by go_simp⟩
theorem DBox.far0 {w : World} {b b2 : Nat} {d : Sp.DateD} (h : DBox w b d) (hne : b2 ≠ b) (v : Value) : DBox (w.setCell ⟨b2, 0, none⟩ v) b d := by
  have k : ∀ i, (w.setCell ⟨b2, 0, none⟩ v).cell? ⟨b, i, none⟩ = w.cell? ⟨b, i, none⟩ := fun i => World.cell?_setCell_other _ _ _ _ (fun e => hne (congrArg Addr.block e))
  have g : ∀ i, (w.setCell ⟨b2, 0, none⟩ v).frozen? ⟨b, i, none⟩ = w.frozen? ⟨b, i, none⟩ := fun i => by simp
  exact ⟨(k 0).trans h.c0, (k 1).trans h.c1, (k 2).trans h.c2, (k 3).trans h.c3, (k 4).trans h.c4, (k 5).trans h.c5, (k 6).trans h.c6, (g 0).trans h.f0, (g 1).trans h.f1, (g 2).trans h.f2, (g 3).trans h.f3, (g 4).trans h.f4, (g 5).trans h.f5, (g 6).trans h.f6⟩
theorem DBox.set1 {w : World} {b : Nat} {d : Sp.DateD} (h : DBox w b d) (v : Int) : DBox (w.setCell ⟨b, 1, none⟩ (.int .i64 v)) b { d with month := v } := by
  obtain ⟨c0, c1, c2, c3, c4, c5, c6, f0, f1, f2, f3, f4, f5, f6⟩ := h
  exact ⟨by go_simp, by go_simp, by go_simp, by go_simp, by go_simp, by go_simp, by go_simp, by go_simp, by go_simp, by go_simp, by go_simp, by go_simp, by go_simp, by go_simp⟩
theorem DBox.far1 {w : World} {b b2 : Nat} {d : Sp.DateD} (h : DBox w b d) (hne : b2 ≠ b) (v : Value) : DBox (w.setCell ⟨b2, 1, none⟩ v) b d := by
  have k : ∀ i, (w.setCell ⟨b2, 1, none⟩ v).cell? ⟨b, i, none⟩ = w.cell? ⟨b, i, none⟩ := fun i => World.cell?_setCell_other _ _ _ _ (fun e => hne (congrArg Addr.block e))
  have g : ∀ i, (w.setCell ⟨b2, 1, none⟩ v).frozen? ⟨b, i, none⟩ = w.frozen? ⟨b, i, none⟩ := fun i => by simp
  exact ⟨(k 0).trans h.c0, (k 1).trans h.c1, (k 2).trans h.c2, (k 3).trans h.c3, (k 4).trans h.c4, (k 5).trans h.c5, (k 6).trans h.c6, (g 0).trans h.f0, (g 1).trans h.f1, (g 2).trans h.f2, (g 3).trans h.f3, (g 4).trans h.f4, (g 5).trans h.f5, (g 6).trans h.f6⟩
theorem DBox.set2 {w : World} {b : Nat} {d : Sp.DateD} (h : DBox w b d) (v : Int) : DBox (w.setCell ⟨b, 2, none⟩ (.int .i64 v)) b { d with day := v } := by
  obtain ⟨c0, c1, c2, c3, c4, c5, c6, f0, f1, f2, f3, f4, f5, f6⟩ := h
  exact ⟨by go_simp, by go_simp, by go_simp, by go_simp, by go_simp, by go_simp, by go_simp, by go_simp, by go_simp, by go_simp, by go_simp, by go_simp, by go_simp, by go_simp⟩
theorem DBox.far2 {w : World} {b b2 : Nat} {d : Sp.DateD} (h : DBox w b d) (hne : b2 ≠ b) (v : Value) : DBox (w.setCell ⟨b2, 2, none⟩ v) b d := by
  have k : ∀ i, (w.setCell ⟨b2, 2, none⟩ v).cell? ⟨b, i, none⟩ = w.cell? ⟨b, i, none⟩ := fun i => World.cell?_setCell_other _ _ _ _ (fun e => hne (congrArg Addr.block e))
  have g : ∀ i, (w.setCell ⟨b2, 2, none⟩ v).frozen? ⟨b, i, none⟩ = w.frozen? ⟨b, i, none⟩ := fun i => by simp
  exact ⟨(k 0).trans h.c0, (k 1).trans h.c1, (k 2).trans h.c2, (k 3).trans h.c3, (k 4).trans h.c4, (k 5).trans h.c5, (k 6).trans h.c6, (g 0).trans h.f0, (g 1).trans h.f1, (g 2).trans h.f2, (g 3).trans h.f3, (g 4).trans h.f4, (g 5).trans h.f5, (g 6).trans h.f6⟩
theorem below_put7 {B b : Nat} {w w' : World} (h : Below B w w') (hB : B ≤ b) (x0 x1 x2 x3 x4 x5 x6 : Value) : Below B w (((((((w'.setCell ⟨b, 0, none⟩ x0).setCell ⟨b, 1, none⟩ x1).setCell ⟨b, 2, none⟩ x2).setCell ⟨b, 3, none⟩ x3).setCell ⟨b, 4, none⟩ x4).setCell ⟨b, 5, none⟩ x5).setCell ⟨b, 6, none⟩ x6) :=
  Below.setCell (Below.setCell (Below.setCell (Below.setCell (Below.setCell (Below.setCell (Below.setCell h (p := ⟨b, 0, none⟩) hB _) (p := ⟨b, 1, none⟩) hB _) (p := ⟨b, 2, none⟩) hB _) (p := ⟨b, 3, none⟩) hB _) (p := ⟨b, 4, none⟩) hB _) (p := ⟨b, 5, none⟩) hB _) (p := ⟨b, 6, none⟩) hB _

set_option maxRecDepth 100000 in
set_option maxHeartbeats 8000000 in
theorem of_any (t : Int) (w : World) (ht : -9223372036854775808 ≤ t ∧ t ≤ 9223372036854775807) :
    Calls Tryz.prog 13 #[.int .i64 t] w fun e w' => e = .returned (.tuple #[dateV (Sp.ofT t), .bool (Sp.okT t)]) ∧ Below w.heap.size w w' := by
  have hb0 : Below w.heap.size w (w.alloc (.cells #[.int .i64 0, .int .i64 0, .int .i64 0, .int .i64 0, .int .i64 0, .int .i64 0, .int .i64 0] 37)) := (Below.refl _ _).alloc (Nat.le_refl _) _
  have HZ : Hid (DBox (w.alloc (.cells #[.int .i64 0, .int .i64 0, .int .i64 0, .int .i64 0, .int .i64 0, .int .i64 0, .int .i64 0] 37)) w.heap.size ⟨0, 0, 0, 0, 0, 0, 0⟩) := Lib.hid (DBox.new w ⟨0, 0, 0, 0, 0, 0, 0⟩)
  by_cases h0 : t < 0
  · have eo : Sp.okT t = false := by unfold Sp.okT; rw [decide_eq_false (by omega)]; rfl
    have ed : Sp.ofT t = zeroD := by unfold Sp.ofT; rw [eo]; rfl
    rw [eo, ed]
    obtain ⟨c0, c1, c2, c3, c4, c5, c6, f0, f1, f2, f3, f4, f5, f6⟩ := HZ.out
    dsimp only at c0 c1 c2 c3 c4 c5 c6
    go_enter Tryz.func13, Tryz.ntmps13
    go_upto_region 1 with fail
    generalize (w.alloc (.cells #[.int .i64 0, .int .i64 0, .int .i64 0, .int .i64 0, .int .i64 0, .int .i64 0, .int .i64 0] 37)) = w0 at *
    generalize hbs : w.heap.size = b0 at *
    have HBS := Lib.hid hbs
    clear HZ hbs
    go_wp2
    (try simp only [Exit.inBlock, Exit.then])
    refine bodyPost_ret (v := .tuple #[.agg #[.int .i64 0, .int .i64 0, .int .i64 0, .int .i64 0, .int .i64 0, .int .i64 0, .int .i64 0], .bool false]) ?_ rfl ⟨rfl, ?_⟩
    · rw [results_cell_tmp rfl]
      go_simp
    rw [HBS.out]; exact below_put7 hb0 (Nat.le_refl _) _ _ _ _ _ _ _
  · by_cases h1 : t < 6311433600
    · have HT : Hid (0 ≤ t ∧ t < 6311433600) := Lib.hid ⟨by omega, h1⟩
      have eo : Sp.okT t = true := by unfold Sp.okT; rw [decide_eq_true (by omega), decide_eq_true h1]; rfl
      have ed : Sp.ofT t = Sp.dateOf t := by unfold Sp.ofT; rw [eo]; rfl
      rw [eo, ed]
      have h2 : ¬ t ≥ 6311433600 := by omega
      obtain ⟨D, hD⟩ : ∃ D, D = t / 86400 := ⟨_, rfl⟩
      obtain ⟨R, hR⟩ : ∃ R, R = t % 86400 := ⟨_, rfl⟩
      obtain ⟨h, hh⟩ : ∃ h, h = R / 3600 := ⟨_, rfl⟩
      obtain ⟨R2, hR2⟩ : ∃ R2, R2 = R % 3600 := ⟨_, rfl⟩
      obtain ⟨mi, hmi⟩ : ∃ mi, mi = R2 / 60 := ⟨_, rfl⟩
      obtain ⟨s, hs⟩ : ∃ s, s = R % 60 := ⟨_, rfl⟩
      obtain ⟨wd, hwd⟩ : ∃ wd, wd = (D + 5) % 7 := ⟨_, rfl⟩
      have bD : 0 ≤ D ∧ D < 73049 := by omega
      have bR : 0 ≤ R ∧ R < 86400 := by omega
      have bh : 0 ≤ h ∧ h < 24 := by omega
      have bR2 : 0 ≤ R2 ∧ R2 < 3600 := by omega
      have bmi : 0 ≤ mi ∧ mi < 60 := by omega
      have bs : 0 ≤ s ∧ s < 60 := by omega
      have bwd : 0 ≤ wd ∧ wd < 7 := by omega
      have HDATE : Hid (∀ k m, Sp.IsDay D k m → Sp.dateOf t = ⟨2000 + (k : Int), (m : Int) + 1, D - Sp.ysum k - Sp.msum (2000 + (k : Int)) m + 1, h, mi, s, wd + 1⟩) := Lib.hid fun k m hi => by
        unfold Sp.dateOf
        simp only [← hD, Sp.ymOf_of hi]
        rw [hwd, show t % 86400 / 3600 = h from by omega, show t % 3600 / 60 = mi from by omega, show t % 60 = s from by omega]
      have q1 : t.tdiv 86400 = D := by rw [Int.tdiv_eq_ediv_of_nonneg (by omega)]; exact hD.symm
      have q2 : t.tmod 86400 = R := by rw [Int.tmod_eq_emod_of_nonneg (by omega)]; exact hR.symm
      have q3 : R.tdiv 3600 = h := by rw [Int.tdiv_eq_ediv_of_nonneg bR.1]; exact hh.symm
      have q4 : R.tmod 3600 = R2 := by rw [Int.tmod_eq_emod_of_nonneg bR.1]; exact hR2.symm
      have q5 : R2.tdiv 60 = mi := by rw [Int.tdiv_eq_ediv_of_nonneg bR2.1]; exact hmi.symm
      have q6 : R.tmod 60 = s := by rw [Int.tmod_eq_emod_of_nonneg bR.1]; exact hs.symm
      have q7 : (D + 5).tmod 7 = wd := by rw [Int.tmod_eq_emod_of_nonneg (by omega)]; exact hwd.symm
      clear hD hR hh hR2 hmi hs hwd
      have v1 : IntKind.i64.wrap D = D := by rw [IntKind.wrap_i64]; omega
      have v2 : IntKind.i64.wrap R = R := by rw [IntKind.wrap_i64]; omega
      have v3 : IntKind.i64.wrap h = h := by rw [IntKind.wrap_i64]; omega
      have v4 : IntKind.i64.wrap R2 = R2 := by rw [IntKind.wrap_i64]; omega
      have v5 : IntKind.i64.wrap mi = mi := by rw [IntKind.wrap_i64]; omega
      have v6 : IntKind.i64.wrap s = s := by rw [IntKind.wrap_i64]; omega
      have v7 : IntKind.i64.wrap (D + 5) = D + 5 := by rw [IntKind.wrap_i64]; omega
      have v8 : IntKind.i64.wrap wd = wd := by rw [IntKind.wrap_i64]; omega
      have v9 : IntKind.i64.wrap (wd + 1) = wd + 1 := by rw [IntKind.wrap_i64]; omega
      have hlt0 : w.heap.size < (w.alloc (.cells #[.int .i64 0, .int .i64 0, .int .i64 0, .int .i64 0, .int .i64 0, .int .i64 0, .int .i64 0] 37)).heap.size := by simp
      go_enter Tryz.func13, Tryz.ntmps13
      go_upto_region 1 with fail
      generalize (w.alloc (.cells #[.int .i64 0, .int .i64 0, .int .i64 0, .int .i64 0, .int .i64 0, .int .i64 0, .int .i64 0] 37)) = w0 at *
      have HX := Lib.hid (DBox.new w0 ⟨2000, 1, 0, h, mi, s, wd + 1⟩)
      have HB1 : Hid (Below w.heap.size w (w0.alloc (.cells #[.int .i64 2000, .int .i64 1, .int .i64 0, .int .i64 h, .int .i64 mi, .int .i64 s, .int .i64 (wd + 1)] 37))) := Lib.hid (hb0.alloc hb0.size _)
      have HZ1 : Hid (DBox (w0.alloc (.cells #[.int .i64 2000, .int .i64 1, .int .i64 0, .int .i64 h, .int .i64 mi, .int .i64 s, .int .i64 (wd + 1)] 37)) w.heap.size ⟨0, 0, 0, 0, 0, 0, 0⟩) := Lib.hid (HZ.out.on hlt0 ((Below.refl _ _).alloc (Nat.le_refl _) _))
      dsimp only at HX
      clear HZ hb0
      go_upto_region 5 with fail
      generalize (w0.alloc (.cells #[.int .i64 2000, .int .i64 1, .int .i64 0, .int .i64 h, .int .i64 mi, .int .i64 s, .int .i64 (wd + 1)] 37)) = w1 at *
      generalize w0.heap.size = b1 at *
      generalize hbs : w.heap.size = b0 at *
      have HBS := Lib.hid hbs
      have hne : b0 ≠ b1 := by omega
      clear hbs q1 q2 q3 q4 q5 q6 q7 v1 v2 v3 v4 v5 v6 v7 v8 v9 h0 h1 h2 bR bh bR2 bmi bs bwd
      have HY0 : Hid (D - Sp.ysum 0 = D) := Lib.hid (by simp [Sp.ysum])
      go_wp2_with fail
      go_loopw [4] (fun dv wr => ∃ (k : Nat) (dd y : Int), dv = .int .i64 dd ∧ Hid (dd = D - Sp.ysum k ∧ y = 2000 + (k : Int)) ∧ (0 ≤ dd ∧ dd < 73049) ∧ (2000 ≤ y ∧ y ≤ 2200) ∧ Hid (DBox wr b1 ⟨y, 1, 0, h, mi, s, wd + 1⟩) ∧ Hid (DBox wr b0 ⟨0, 0, 0, 0, 0, 0, 0⟩) ∧ Hid (Below b0 w wr)) (fun dv _ => (intOf dv).toNat)
      case atStart => exact ⟨0, D, 2000, rfl, Lib.hid ⟨HY0.out.symm, rfl⟩, bD, by omega, HX, HZ1, by rw [← HBS.out]; rw [HBS.out]; exact HB1⟩
      case round =>
        obtain ⟨k, dd, y, rfl, HK, hdd, hy, HXr, HZr, hb⟩ := hrel
        have HLONG := Lib.hid (fun w => long_any y w)
        have hl := Sp.long_pos y
        have HYS : Hid (Sp.ysum (k + 1) = Sp.ysum k + Sp.longY y) := Lib.hid (by rw [Sp.ysum, ← HK.out.2])
        generalize hL : Sp.longY y = L at *
        have HL := Lib.hid hL
        clear hL
        obtain ⟨c0, c1, c2, c3, c4, c5, c6, f0, f1, f2, f3, f4, f5, f6⟩ := HXr.out
        dsimp only at c0 c1 c2 c3 c4 c5 c6
        by_cases hc : dd ≥ L
        · have e1 : IntKind.i64.wrap (dd - L) = dd - L := by rw [IntKind.wrap_i64]; omega
          have e2 : IntKind.i64.wrap (y + 1) = y + 1 := by rw [IntKind.wrap_i64]; omega
          have hky : y < 2200 := by
            have h1 := HK.out.1
            have h2 := HK.out.2
            rcases Nat.lt_or_ge k 200 with h3 | h3
            · omega
            · have := Sp.ysum_le 200 k h3
              rw [Sp.ysum_200] at this
              omega
          go_wp2_with fail
          refine (HLONG.out _).mono ?_
          rintro e w2 ⟨rfl, rfl⟩
          go_wp2_with fail
          refine (HLONG.out _).mono ?_
          rintro e w2 ⟨rfl, rfl⟩
          go_wp2
          go_roundw
          case rel => exact ⟨k + 1, dd - L, y + 1, rfl, Lib.hid ⟨by rw [HYS.out]; have := HK.out.1; omega, by have := HK.out.2; omega⟩, by omega, by omega, Lib.hid (HXr.out.set0 (y + 1)), Lib.hid (HZr.out.far0 (fun e => hne e.symm) _), Lib.hid (hb.out.setCell (p := ⟨b1, 0, none⟩) (by show b0 ≤ b1; omega) _)⟩
          case measure => simp [intOf]; omega
        · have HD2 : Hid (D < Sp.ysum (k + 1)) := Lib.hid (by rw [HYS.out]; have := HK.out.1; omega)
          go_wp2_with fail
          refine (HLONG.out _).mono ?_
          rintro e w2 ⟨rfl, rfl⟩
          clear c0 c1 c2 c3 c4 c5 c6 f0 f1 f2 f3 f4 f5 f6
          go_wp2_with fail
          go_loopw [4] (fun dv wm => ∃ (m : Nat) (dm mo : Int), dv = .int .i64 dm ∧ Hid (dm = dd - Sp.msum y m ∧ mo = (m : Int) + 1) ∧ (0 ≤ dm ∧ dm < 73049) ∧ (1 ≤ mo ∧ mo ≤ 12) ∧ Hid (DBox wm b1 ⟨y, mo, 0, h, mi, s, wd + 1⟩) ∧ Hid (DBox wm b0 ⟨0, 0, 0, 0, 0, 0, 0⟩) ∧ Hid (Below b0 w wm)) (fun dv _ => (intOf dv).toNat)
          case atStart => exact ⟨0, dd, 1, rfl, Lib.hid ⟨by simp [Sp.msum], rfl⟩, hdd, by omega, HXr, HZr, hb⟩
          case round =>
            obtain ⟨m, dm, mo, rfl, HM, hdm, hmo, HXm, HZm, hbm⟩ := hrel
            have HDIM := Lib.hid (fun w => dim_any y mo w)
            have hl2 := Sp.dim_pos y mo hmo.1 hmo.2
            have HMS : Hid (Sp.msum y (m + 1) = Sp.msum y m + Sp.dimB y mo) := Lib.hid (by rw [Sp.msum, ← HM.out.2])
            generalize hN : Sp.dimB y mo = N at *
            clear hN
            obtain ⟨c0, c1, c2, c3, c4, c5, c6, f0, f1, f2, f3, f4, f5, f6⟩ := HXm.out
            dsimp only at c0 c1 c2 c3 c4 c5 c6
            by_cases hcm : dm ≥ N
            · have e1 : IntKind.i64.wrap (dm - N) = dm - N := by rw [IntKind.wrap_i64]; omega
              have e2 : IntKind.i64.wrap (mo + 1) = mo + 1 := by rw [IntKind.wrap_i64]; omega
              have hmo2 : mo < 12 := by
                have h1 := HM.out.1
                have h2 := HM.out.2
                have h3 := HMS.out
                rcases Nat.lt_or_ge (m + 1) 12 with h4 | h4
                · omega
                · have h5 := Sp.msum_le y 12 (m + 1) h4
                  rw [Sp.msum_12] at h5
                  have h6 := HL.out
                  omega
              go_wp2_with fail
              refine (HDIM.out _).mono ?_
              rintro e w2 ⟨rfl, rfl⟩
              go_wp2_with fail
              refine (HDIM.out _).mono ?_
              rintro e w2 ⟨rfl, rfl⟩
              go_wp2
              go_roundw
              case rel => exact ⟨m + 1, dm - N, mo + 1, rfl, Lib.hid ⟨by rw [HMS.out]; have := HM.out.1; omega, by have := HM.out.2; omega⟩, by omega, by omega, Lib.hid (HXm.out.set1 (mo + 1)), Lib.hid (HZm.out.far1 (fun e => hne e.symm) _), Lib.hid (hbm.out.setCell (p := ⟨b1, 1, none⟩) (by show b0 ≤ b1; omega) _)⟩
              case measure => simp [intOf]; omega
            · have e1 : IntKind.i64.wrap (dm + 1) = dm + 1 := by rw [IntKind.wrap_i64]; omega
              have HIS : Hid (Sp.IsDay D k m) := Lib.hid ⟨by have := HK.out.1; omega, HD2.out, by rw [← HK.out.2, ← HK.out.1]; have := HM.out.1; omega, by rw [← HK.out.2, ← HK.out.1, HMS.out]; have := HM.out.1; omega⟩
              have HFIN : Hid (Sp.dateOf t = ⟨y, mo, dm + 1, h, mi, s, wd + 1⟩) := Lib.hid (by
                rw [HDATE.out k m HIS.out, ← HK.out.2, ← HM.out.2, ← HK.out.1, ← HM.out.1])
              obtain ⟨g0, g1, g2, g3, g4, g5, g6, k0, k1, k2, k3, k4, k5, k6⟩ := HZm.out
              dsimp only at g0 g1 g2 g3 g4 g5 g6
              go_wp2_with fail
              refine (HDIM.out _).mono ?_
              rintro e w2 ⟨rfl, rfl⟩
              go_wp2
              (try simp only [Exit.inBlock, Exit.then])
              rw [HFIN.out]
              refine bodyPost_ret (v := .tuple #[.agg #[.int .i64 y, .int .i64 mo, .int .i64 (dm + 1), .int .i64 h, .int .i64 mi, .int .i64 s, .int .i64 (wd + 1)], .bool true]) ?_ rfl ⟨rfl, ?_⟩
              · rw [results_cell_tmp rfl]
                go_simp
              rw [HBS.out]
              exact below_put7 (hbm.out.setCell (p := ⟨b1, 2, none⟩) (by show b0 ≤ b1; omega) _) (Nat.le_refl _) _ _ _ _ _ _ _
    · have eo : Sp.okT t = false := by unfold Sp.okT; rw [decide_eq_false h1, Bool.and_false]
      have ed : Sp.ofT t = zeroD := by unfold Sp.ofT; rw [eo]; rfl
      have h2 : t ≥ 6311433600 := by omega
      rw [eo, ed]
      obtain ⟨c0, c1, c2, c3, c4, c5, c6, f0, f1, f2, f3, f4, f5, f6⟩ := HZ.out
      dsimp only at c0 c1 c2 c3 c4 c5 c6
      go_enter Tryz.func13, Tryz.ntmps13
      go_upto_region 1 with fail
      generalize (w.alloc (.cells #[.int .i64 0, .int .i64 0, .int .i64 0, .int .i64 0, .int .i64 0, .int .i64 0, .int .i64 0] 37)) = w0 at *
      generalize hbs : w.heap.size = b0 at *
      have HBS := Lib.hid hbs
      clear HZ hbs
      go_wp2
      (try simp only [Exit.inBlock, Exit.then])
      refine bodyPost_ret (v := .tuple #[.agg #[.int .i64 0, .int .i64 0, .int .i64 0, .int .i64 0, .int .i64 0, .int .i64 0, .int .i64 0], .bool false]) ?_ rfl ⟨rfl, ?_⟩
      · rw [results_cell_tmp rfl]
        go_simp
      rw [HBS.out]; exact below_put7 hb0 (Nat.le_refl _) _ _ _ _ _ _ _

end Go.Proofs.YtpkpoglmmjaoeaaGreatDoor
