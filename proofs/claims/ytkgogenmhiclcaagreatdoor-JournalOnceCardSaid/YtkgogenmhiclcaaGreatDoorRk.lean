/-
  The walks of the reference's reading of a row's text and of a cursor.
-/
import Derived.Test.YtkgogenmhiclcaaGreatDoorRf
namespace Go.Proofs.YtkgogenmhiclcaaGreatDoor
open Go.RowKit

theorem cut_sizes (c : UInt8) : ∀ l : List UInt8, (Sp.cutC c l).1.length ≤ l.length ∧ (Sp.cutC c l).2.1.length ≤ l.length
  | [] => by simp [Sp.cutC]
  | x :: r => by
    have := cut_sizes c r
    simp only [Sp.cutC]
    split
    · simp
    · simp; omega
theorem size_toB (l : List UInt8) : (Sp.toB l).size = l.length := by simp [Sp.toB, ByteArray.size]
/-- a text parted, the parts as texts -/
theorem cut_of (s : ByteArray) (l : List UInt8) (hl : s.data.toList = l) (c : UInt8) (k : Int) (hk : (c.toNat : Int) = k) (w : World) (hs : s.size ≤ 140737488355328) :
    Calls Tryz.prog 53 #[.string s, .int .u8 k] w fun e w' => e = .returned (.tuple #[.string (Sp.toB (Sp.cutC c l).1), .string (Sp.toB (Sp.rest c l)), .bool (Sp.cutC c l).2.2]) ∧ Below w.heap.size w w' := by
  subst hl; subst hk
  exact cut_any' s c w hs
theorem rnumber_of (s : ByteArray) (l : List UInt8) (hl : s.data.toList = l) (m : Nat) (k : Int) (hk : (m : Int) = k) (w : World) (hm : m ≤ 10) (h1m : 1 ≤ m) (hs : s.size ≤ 140737488355328) :
    Calls Tryz.prog 54 #[.string s, .int .i64 k] w fun e w' => e = .returned (.int .i64 (Sp.numR m l)) ∧ w = w' := by
  subst hl; subst hk
  exact rnumber_any s m w hm h1m hs

theorem RBox.setUnit {w : World} {b : Nat} {r : RowD} (h : RBox w b r) (u : ByteArray) : RBox (w.setCell ⟨b, 1, none⟩ (.string u)) b ⟨r.time, u, r.n, r.kind, r.text⟩ := by
  obtain ⟨c0, c1, c2, c3, c4, f0, f1, f2, f3, f4⟩ := h
  exact ⟨by go_simp, by go_simp, by go_simp, by go_simp, by go_simp, by go_simp, by go_simp, by go_simp, by go_simp, by go_simp⟩
theorem RBox.setKind {w : World} {b : Nat} {r : RowD} (h : RBox w b r) (k : Int) : RBox (w.setCell ⟨b, 3, none⟩ (.int .i64 k)) b ⟨r.time, r.unit, r.n, k, r.text⟩ := by
  obtain ⟨c0, c1, c2, c3, c4, f0, f1, f2, f3, f4⟩ := h
  exact ⟨by go_simp, by go_simp, by go_simp, by go_simp, by go_simp, by go_simp, by go_simp, by go_simp, by go_simp, by go_simp⟩
theorem RBox.other {w : World} {b b' : Nat} {r : RowD} (h : RBox w b r) (hn : b' ≠ b) (j : Nat) (v : Value) : RBox (w.setCell ⟨b', j, none⟩ v) b r := by
  obtain ⟨c0, c1, c2, c3, c4, f0, f1, f2, f3, f4⟩ := h
  have hn' : b ≠ b' := fun e => hn e.symm
  exact ⟨by go_simp, by go_simp, by go_simp, by go_simp, by go_simp, by go_simp, by go_simp, by go_simp, by go_simp, by go_simp⟩

set_option maxRecDepth 100000 in
set_option maxHeartbeats 8000000 in
theorem rplace_any (s : ByteArray) (w : World) (hs : s.size ≤ 140737488355328) :
    Calls Tryz.prog 35 #[.string s] w fun e w' => e = .returned (placeE (Sp.placeP s)) ∧ Below w.heap.size w w' := by
  have HYES := Lib.hid (Sp.cref_yes s)
  have HNO := Lib.hid (Sp.cref_no s)
  have hz : s.data.toList.length = s.size := by simp
  obtain ⟨l0, hl0⟩ : ∃ l, s.data.toList = l := ⟨_, rfl⟩
  rw [hl0] at HYES HNO hz
  have z0 := cut_sizes 44 l0
  obtain ⟨l1, hl1⟩ : ∃ l, Sp.rest 44 l0 = l := ⟨_, rfl⟩
  obtain ⟨a0, ha0⟩ : ∃ l, (Sp.cutC 44 l0).1 = l := ⟨_, rfl⟩
  obtain ⟨b0, hb0⟩ : ∃ l, (Sp.cutC 44 l0).2.2 = l := ⟨_, rfl⟩
  have y0 : (Sp.cutC 44 l0).2.1 = l1 := hl1
  rw [ha0, y0] at z0
  have HC0 := Lib.hid (fun w => cut_of s l0 hl0 44 44 rfl w hs)
  rw [ha0, hb0, hl1] at HC0
  have z1 := cut_sizes 44 l1
  obtain ⟨l2, hl2⟩ : ∃ l, Sp.rest 44 l1 = l := ⟨_, rfl⟩
  obtain ⟨a1, ha1⟩ : ∃ l, (Sp.cutC 44 l1).1 = l := ⟨_, rfl⟩
  obtain ⟨b1, hb1⟩ : ∃ l, (Sp.cutC 44 l1).2.2 = l := ⟨_, rfl⟩
  have y1 : (Sp.cutC 44 l1).2.1 = l2 := hl2
  rw [ha1, y1] at z1
  have HC1 := Lib.hid (fun w => cut_of (Sp.toB l1) l1 (Sp.toB_list l1) 44 44 rfl w (by rw [size_toB]; omega))
  rw [ha1, hb1, hl2] at HC1
  have HROW : Sp.crefRow l0 = ⟨Sp.numR 10 a0, backW (Sp.toB a1), Sp.numR 7 l2, 1, ⟨#[]⟩⟩ := by rw [Sp.crefRow, hl1, hl2, ha0, ha1]
  have HHAS : Sp.crefHas l0 = (b0 && b1) := by rw [Sp.crefHas, hl1, hb0, hb1]
  have HNti := Lib.hid (fun w => rnumber_of (Sp.toB a0) a0 (Sp.toB_list _) 10 10 rfl w (by decide) (by decide) (by rw [size_toB]; omega))
  have HNn := Lib.hid (fun w => rnumber_of (Sp.toB l2) l2 (Sp.toB_list _) 7 7 rfl w (by decide) (by decide) (by rw [size_toB]; omega))
  rw [HROW] at HYES HNO
  rw [HHAS] at HNO
  have hub : (backW (Sp.toB a1)).size ≤ 140737488355328 := by have := backW_size (Sp.toB a1); rw [size_toB] at this; omega
  have HBK : Hid (backW (Sp.toB a1) = if (Sp.toB a1).toList == [45] then ⟨#[]⟩ else Sp.toB a1) := Lib.hid rfl
  generalize Sp.numR 10 a0 = ti at *
  generalize Sp.numR 7 l2 = n at *
  generalize hub0 : backW (Sp.toB a1) = ub at *
  have HM := Lib.hid (fun w => rmayrow_any ⟨ti, ub, n, 1, ⟨#[]⟩⟩ w hub (Nat.zero_le _))
  have HP := Lib.hid (fun w => rcursor_any ⟨ti, ub, n, 1, ⟨#[]⟩⟩ w hub (Nat.zero_le _))
  generalize mayRowB ⟨ti, ub, n, 1, ⟨#[]⟩⟩ = may at *
  have HT : Hid (∀ bb, ((Sp.toB (Sp.cursorR ⟨ti, ub, n, 1, ⟨#[]⟩⟩)).toList == s.toList) = bb → (bb = true → Sp.cursorR ⟨ti, ub, n, 1, ⟨#[]⟩⟩ = l0) ∧ (bb = false → Sp.cursorR ⟨ti, ub, n, 1, ⟨#[]⟩⟩ ≠ l0)) := Lib.hid fun bb hbb => by
    rw [Sp.bytes_list, Sp.bytes_list, Sp.toB_list, hl0] at hbb
    constructor
    · rintro rfl; simpa using hbb
    · rintro rfl; simpa using hbb
  generalize Sp.cursorR ⟨ti, ub, n, 1, ⟨#[]⟩⟩ = pl at *
  generalize Sp.toB pl = pt at *
  generalize Sp.toB a0 = ta0 at *
  generalize Sp.toB a1 = ta1 at *
  generalize Sp.toB l1 = tl1 at *
  generalize Sp.toB l2 = tl2 at *
  simp only [rowV, rowC] at HM HP
  clear z0 y0 ha0 hb0 hl1 z1 y1 ha1 hb1 hl2 hub hub0 HROW HHAS hz hs
  have hb0 : Below w.heap.size w (w.alloc (.cells #[.int .i64 0, .string ⟨#[]⟩, .int .i64 0, .int .i64 0, .string ⟨#[]⟩] 37)) := (Below.refl _ _).alloc (Nat.le_refl _) _
  have HB0 := Lib.hid (RBox.new w 0 0 0 ⟨#[]⟩ ⟨#[]⟩)
  have HZ0 : (w.alloc (.cells #[.int .i64 0, .string ⟨#[]⟩, .int .i64 0, .int .i64 0, .string ⟨#[]⟩] 37)).heap.size = w.heap.size + 1 := by simp
  go_enter Tryz.func35, Tryz.ntmps35
  go_wp2_with fail
  generalize (w.alloc (.cells #[.int .i64 0, .string ⟨#[]⟩, .int .i64 0, .int .i64 0, .string ⟨#[]⟩] 37)) = w0 at *
  refine (HC0.out _).mono ?_
  rintro e v0 ⟨rfl, hq⟩
  have HF0 : Hid (Below w.heap.size w v0) := Lib.hid (hb0.trans (hq.mono (hb0).size))
  have HG0 : Hid (RBox v0 w.heap.size zeroR) := Lib.hid (HB0.out.on (by omega) hq)
  have hs0 : w.heap.size + 1 ≤ v0.heap.size := by have := hq.size; omega
  clear hq HC0 hb0 HB0 HZ0
  go_wp2_with fail
  refine (HC1.out _).mono ?_
  rintro e v1 ⟨rfl, hq⟩
  have HF1 : Hid (Below w.heap.size w v1) := Lib.hid (HF0.out.trans (hq.mono (HF0.out).size))
  have HG1 : Hid (RBox v1 w.heap.size zeroR) := Lib.hid (HG0.out.on (by have := hs0; omega) hq)
  have hs1 : w.heap.size + 1 ≤ v1.heap.size := by have := hq.size; omega
  clear hq HC1 HF0 HG0 hs0
  go_wp2_with fail
  refine (HNti.out _).mono ?_
  rintro e v' ⟨rfl, rfl⟩
  go_wp2_with fail
  refine (HNn.out _).mono ?_
  rintro e v' ⟨rfl, rfl⟩
  have hbx : Below w.heap.size w (v1.alloc (.cells #[.int .i64 ti, .string ta1, .int .i64 n, .int .i64 1, .string ⟨#[]⟩] 37)) := HF1.out.alloc HF1.out.size _
  have HX := Lib.hid (RBox.new v1 ti n 1 ta1 ⟨#[]⟩)
  have HR : Hid (RBox (v1.alloc (.cells #[.int .i64 ti, .string ta1, .int .i64 n, .int .i64 1, .string ⟨#[]⟩] 37)) w.heap.size zeroR) := Lib.hid (HG1.out.on (B := v1.heap.size) (by omega) ((Below.refl _ _).alloc (Nat.le_refl _) _))
  have hsx : v1.heap.size < (v1.alloc (.cells #[.int .i64 ti, .string ta1, .int .i64 n, .int .i64 1, .string ⟨#[]⟩] 37)).heap.size := by simp
  have hne : w.heap.size ≠ v1.heap.size := by omega
  have hne2 : v1.heap.size ≠ w.heap.size := by omega
  have hle : w.heap.size ≤ v1.heap.size := by omega
  clear HF1 HG1 hs1 HNti HNn
  go_upto_region 4 with fail
  generalize (v1.alloc (.cells #[.int .i64 ti, .string ta1, .int .i64 n, .int .i64 1, .string ⟨#[]⟩] 37)) = x0 at *
  generalize v1.heap.size = bx at *
  cases h45 : (ta1.toList == [45]) with
  | true =>
    have e : ub = ⟨#[]⟩ := by rw [HBK.out, if_pos h45]
    subst e
    have hbx1 := hbx.setCell (p := ⟨bx, 1, none⟩) hle (.string ⟨#[]⟩)
    have HX1 := Lib.hid (HX.out.setUnit ⟨#[]⟩)
    have HR1 := Lib.hid (HR.out.other hne2 1 (.string ⟨#[]⟩))
    have hs1 : bx < (x0.setCell ⟨bx, 1, none⟩ (.string ⟨#[]⟩)).heap.size := by simpa using hsx
    obtain ⟨c0, c1, c2, c3, c4, e0, e1, e2, e3, e4⟩ := HX.out
    dsimp only at c0 c1 c2 c3 c4
    clear HX HR hbx hsx HBK
    go_upto_region 6 with fail
    generalize (x0.setCell ⟨bx, 1, none⟩ (.string ⟨#[]⟩)) = x1 at *
    clear c0 c1 c2 c3 c4 e0 e1 e2 e3 e4
    by_cases hall : b0 = true ∧ b1 = true
    · obtain ⟨rfl, rfl⟩ := hall
      obtain ⟨c0, c1, c2, c3, c4, e0, e1, e2, e3, e4⟩ := HX1.out
      dsimp only at c0 c1 c2 c3 c4
      go_wp2_with fail
      refine (HM.out _).mono ?_
      rintro e x2 ⟨rfl, hq2⟩
      have hf2 := hbx1.trans (hq2.mono hbx1.size)
      have HX2 := Lib.hid (HX1.out.on hs1 hq2)
      have HR2 := Lib.hid (HR1.out.on (by have := hbx1.size; omega) hq2)
      have hs2 : bx < x2.heap.size := by have := hq2.size; omega
      clear c0 c1 c2 c3 c4 e0 e1 e2 e3 e4 HX1 HR1 hbx1 hs1 hq2
      cases may with
      | false =>
        have hN := Lib.hid (HNO.out (by intro _ h; cases h))
        obtain ⟨d0, d1, d2, d3, d4, f0, f1, f2, f3, f4⟩ := HR2.out
        dsimp only [zeroR] at d0 d1 d2 d3 d4
        clear HNO HYES HT HM HP HX2 HR2
        go_wp2
        rw [hN.out]
        (try simp only [Exit.inBlock, Exit.then])
        refine bodyPost_ret (v := .tuple #[.agg #[.int .i64 0, .string ⟨#[]⟩, .int .i64 0, .int .i64 0, .string ⟨#[]⟩], .bool false]) ?_ rfl ⟨rfl, ?_⟩
        · rw [results_cell_tmp rfl]
          go_simp
        exact below_put hf2 (Nat.le_refl _) _ _ _ _ _
      | true =>
        obtain ⟨c0, c1, c2, c3, c4, e0, e1, e2, e3, e4⟩ := HX2.out
        dsimp only at c0 c1 c2 c3 c4
        go_wp2_with fail
        refine (HP.out _).mono ?_
        rintro e x3 ⟨rfl, hq3⟩
        have hf3 := hf2.trans (hq3.mono hf2.size)
        have HX3 := Lib.hid (HX2.out.on hs2 hq3)
        have HR3 := Lib.hid (HR2.out.on (by have := hf2.size; omega) hq3)
        clear c0 c1 c2 c3 c4 e0 e1 e2 e3 e4 HX2 HR2 hf2 hs2 hq3 HP HM
        obtain ⟨c0, c1, c2, c3, c4, e0, e1, e2, e3, e4⟩ := HX3.out
        obtain ⟨d0, d1, d2, d3, d4, f0, f1, f2, f3, f4⟩ := HR3.out
        dsimp only [zeroR] at c0 c1 c2 c3 c4 d0 d1 d2 d3 d4
        clear HX3 HR3
        cases ht : (pt.toList == s.toList) with
        | false =>
          have hN := Lib.hid (HNO.out (by intro _ _; exact (HT.out _ ht).2 rfl))
          clear HNO HYES HT
          go_wp2
          rw [hN.out]
          (try simp only [Exit.inBlock, Exit.then])
          refine bodyPost_ret (v := .tuple #[.agg #[.int .i64 0, .string ⟨#[]⟩, .int .i64 0, .int .i64 0, .string ⟨#[]⟩], .bool false]) ?_ rfl ⟨rfl, ?_⟩
          · rw [results_cell_tmp rfl]
            go_simp
          exact below_put hf3 (Nat.le_refl _) _ _ _ _ _
        | true =>
          have hN := Lib.hid (HYES.out (by trivial) ((HT.out _ ht).1 rfl))
          clear HNO HYES HT
          go_wp2
          rw [hN.out]
          (try simp only [Exit.inBlock, Exit.then])
          refine bodyPost_ret (v := .tuple #[.agg #[.int .i64 ti, .string ⟨#[]⟩, .int .i64 n, .int .i64 0, .string ⟨#[]⟩], .bool true]) ?_ rfl ⟨rfl, ?_⟩
          · rw [results_cell_tmp rfl]
            go_simp
          exact below_put (Below.setCell hf3 (p := ⟨bx, 3, none⟩) hle _) (Nat.le_refl _) _ _ _ _ _
    · have hN := Lib.hid (HNO.out (by intro h; exact absurd (by simpa using h) hall))
      obtain ⟨d0, d1, d2, d3, d4, f0, f1, f2, f3, f4⟩ := HR1.out
      dsimp only [zeroR] at d0 d1 d2 d3 d4
      clear HNO HYES HT HM HP HX1 HR1
      have hor : b0 = false ∨ b0 = true ∧ b1 = false := by cases b0 <;> cases b1 <;> simp_all
      clear hall
      rcases hor with rfl | ⟨rfl, rfl⟩
      all_goals
        go_wp2
        rw [hN.out]
        (try simp only [Exit.inBlock, Exit.then])
        refine bodyPost_ret (v := .tuple #[.agg #[.int .i64 0, .string ⟨#[]⟩, .int .i64 0, .int .i64 0, .string ⟨#[]⟩], .bool false]) ?_ rfl ⟨rfl, ?_⟩
        · rw [results_cell_tmp rfl]
          go_simp
        exact below_put hbx1 (Nat.le_refl _) _ _ _ _ _
  | false =>
    have e : ub = ta1 := by rw [HBK.out, if_neg (by simp [h45])]
    subst e
    have hbx1 := hbx
    have HX1 := HX
    have HR1 := HR
    have hs1 := hsx
    clear HX HR hbx hsx HBK
    go_upto_region 6 with fail
    generalize x0 = x1 at *
    by_cases hall : b0 = true ∧ b1 = true
    · obtain ⟨rfl, rfl⟩ := hall
      obtain ⟨c0, c1, c2, c3, c4, e0, e1, e2, e3, e4⟩ := HX1.out
      dsimp only at c0 c1 c2 c3 c4
      go_wp2_with fail
      refine (HM.out _).mono ?_
      rintro e x2 ⟨rfl, hq2⟩
      have hf2 := hbx1.trans (hq2.mono hbx1.size)
      have HX2 := Lib.hid (HX1.out.on hs1 hq2)
      have HR2 := Lib.hid (HR1.out.on (by have := hbx1.size; omega) hq2)
      have hs2 : bx < x2.heap.size := by have := hq2.size; omega
      clear c0 c1 c2 c3 c4 e0 e1 e2 e3 e4 HX1 HR1 hbx1 hs1 hq2
      cases may with
      | false =>
        have hN := Lib.hid (HNO.out (by intro _ h; cases h))
        obtain ⟨d0, d1, d2, d3, d4, f0, f1, f2, f3, f4⟩ := HR2.out
        dsimp only [zeroR] at d0 d1 d2 d3 d4
        clear HNO HYES HT HM HP HX2 HR2
        go_wp2
        rw [hN.out]
        (try simp only [Exit.inBlock, Exit.then])
        refine bodyPost_ret (v := .tuple #[.agg #[.int .i64 0, .string ⟨#[]⟩, .int .i64 0, .int .i64 0, .string ⟨#[]⟩], .bool false]) ?_ rfl ⟨rfl, ?_⟩
        · rw [results_cell_tmp rfl]
          go_simp
        exact below_put hf2 (Nat.le_refl _) _ _ _ _ _
      | true =>
        obtain ⟨c0, c1, c2, c3, c4, e0, e1, e2, e3, e4⟩ := HX2.out
        dsimp only at c0 c1 c2 c3 c4
        go_wp2_with fail
        refine (HP.out _).mono ?_
        rintro e x3 ⟨rfl, hq3⟩
        have hf3 := hf2.trans (hq3.mono hf2.size)
        have HX3 := Lib.hid (HX2.out.on hs2 hq3)
        have HR3 := Lib.hid (HR2.out.on (by have := hf2.size; omega) hq3)
        clear c0 c1 c2 c3 c4 e0 e1 e2 e3 e4 HX2 HR2 hf2 hs2 hq3 HP HM
        obtain ⟨c0, c1, c2, c3, c4, e0, e1, e2, e3, e4⟩ := HX3.out
        obtain ⟨d0, d1, d2, d3, d4, f0, f1, f2, f3, f4⟩ := HR3.out
        dsimp only [zeroR] at c0 c1 c2 c3 c4 d0 d1 d2 d3 d4
        clear HX3 HR3
        cases ht : (pt.toList == s.toList) with
        | false =>
          have hN := Lib.hid (HNO.out (by intro _ _; exact (HT.out _ ht).2 rfl))
          clear HNO HYES HT
          go_wp2
          rw [hN.out]
          (try simp only [Exit.inBlock, Exit.then])
          refine bodyPost_ret (v := .tuple #[.agg #[.int .i64 0, .string ⟨#[]⟩, .int .i64 0, .int .i64 0, .string ⟨#[]⟩], .bool false]) ?_ rfl ⟨rfl, ?_⟩
          · rw [results_cell_tmp rfl]
            go_simp
          exact below_put hf3 (Nat.le_refl _) _ _ _ _ _
        | true =>
          have hN := Lib.hid (HYES.out (by trivial) ((HT.out _ ht).1 rfl))
          clear HNO HYES HT
          go_wp2
          rw [hN.out]
          (try simp only [Exit.inBlock, Exit.then])
          refine bodyPost_ret (v := .tuple #[.agg #[.int .i64 ti, .string ub, .int .i64 n, .int .i64 0, .string ⟨#[]⟩], .bool true]) ?_ rfl ⟨rfl, ?_⟩
          · rw [results_cell_tmp rfl]
            go_simp
          exact below_put (Below.setCell hf3 (p := ⟨bx, 3, none⟩) hle _) (Nat.le_refl _) _ _ _ _ _
    · have hN := Lib.hid (HNO.out (by intro h; exact absurd (by simpa using h) hall))
      obtain ⟨d0, d1, d2, d3, d4, f0, f1, f2, f3, f4⟩ := HR1.out
      dsimp only [zeroR] at d0 d1 d2 d3 d4
      clear HNO HYES HT HM HP HX1 HR1
      have hor : b0 = false ∨ b0 = true ∧ b1 = false := by cases b0 <;> cases b1 <;> simp_all
      clear hall
      rcases hor with rfl | ⟨rfl, rfl⟩
      all_goals
        go_wp2
        rw [hN.out]
        (try simp only [Exit.inBlock, Exit.then])
        refine bodyPost_ret (v := .tuple #[.agg #[.int .i64 0, .string ⟨#[]⟩, .int .i64 0, .int .i64 0, .string ⟨#[]⟩], .bool false]) ?_ rfl ⟨rfl, ?_⟩
        · rw [results_cell_tmp rfl]
          go_simp
        exact below_put hbx1 (Nat.le_refl _) _ _ _ _ _

end Go.Proofs.YtkgogenmhiclcaaGreatDoor
