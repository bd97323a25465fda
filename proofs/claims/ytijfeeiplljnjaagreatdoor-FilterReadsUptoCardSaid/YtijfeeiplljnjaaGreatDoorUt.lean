/-
  A word of a filter is read: the program's walk.
-/
import Derived.Test.YtijfeeiplljnjaaGreatDoorUs
namespace Go.Proofs.YtijfeeiplljnjaaGreatDoor
open Go.RowKit Go.Shelf

/-- what the library's variables hold, whatever has been done from block B on -/
def EnvB (B : Nat) (w : World) : Prop := ∀ W, Below B w W → Env W
theorem EnvB.on {B : Nat} {w w' : World} (h : EnvB B w) (hb : Below B w w') : EnvB B w' := fun W hW => h W (hb.trans hW)
theorem EnvB.here {B : Nat} {w : World} (h : EnvB B w) : Env w := h w (Below.refl _ _)
theorem Sp.timeP_yes {l : List UInt8} {m : Nat} (h : Sp.numS l = some m) (ht : timeB (m : Int) = true) : Sp.timeP l = some (m : Int) := by
  unfold Sp.timeP
  rw [h]
  exact if_pos ht
theorem Sp.timeP_no {l : List UInt8} {m : Nat} (h : Sp.numS l = some m) (ht : timeB (m : Int) = false) : Sp.timeP l = none := by
  unfold Sp.timeP
  rw [h]
  exact if_neg (by rw [ht]; decide)
theorem cutC_short (c : UInt8) : ∀ l : List UInt8, (Sp.cutC c l).2.1.length ≤ l.length
  | [] => by simp [Sp.cutC]
  | b :: r => by
    rw [Sp.cutC]
    split
    · simp
    · have := cutC_short c r
      simp only [List.length_cons]; omega
theorem FRm.below2 {B b mb n : Nat} {s : Sp.PS} {w w' : World} (h : FRm B b mb n s w) {B' : Nat} (hb : Below B' w w') (hB : w.heap.size ≤ B') : FRm B b mb n s w' := h.below (hb.mono hB)
set_option maxHeartbeats 16000000 in
set_option maxRecDepth 100000 in
theorem fword_unit (B b mb n : Nat) (s : Sp.PS) (l K V : ByteArray) (w : World) (hk : K.data.toList = Sp.kUnit) (HF : Hid (FRm B b mb n s w)) (HM : Hid (Sp.MayF s.f)) (HB : Hid (B ≤ w.heap.size)) (hn : n ≤ 1000) (hVs : V.size ≤ 1048576) (HE : Hid (EnvB B w)) (HC : Hid (Calls Tryz.prog 36 #[.string l, .string ⟨#[61]⟩] w fun e w' => e = .returned (.tuple #[.string K, .string V, .bool true]) ∧ ∃ n, w' = w.drewN n)) (HKY : Hid (∀ w : World, Calls Tryz.prog 26 #[.slice (some ⟨w.heap.size, 0, none⟩) 5 5, .string K] (w.alloc (.cells #[.string ⟨#[117, 110, 105, 116]⟩, .string ⟨#[107, 105, 110, 100]⟩, .string ⟨#[115, 105, 110, 99, 101]⟩, .string ⟨#[117, 110, 116, 105, 108]⟩, .string ⟨#[119, 111, 114, 100]⟩] 9)) fun e w' => e = .returned (.bool true) ∧ w' = (w.alloc (.cells #[.string ⟨#[117, 110, 105, 116]⟩, .string ⟨#[107, 105, 110, 100]⟩, .string ⟨#[115, 105, 110, 99, 101]⟩, .string ⟨#[117, 110, 116, 105, 108]⟩, .string ⟨#[119, 111, 114, 100]⟩] 9)))) :
    Calls Tryz.prog 12 #[.pointer (some ⟨b, 0, none⟩), .string l] w (StepR B b mb (n + 1) (Sp.stepU s V.data.toList) w) := by
  obtain ⟨o, hst⟩ : ∃ o, o = Sp.stepU s V.data.toList := ⟨_, rfl⟩
  rw [← hst]
  have r0 := And.intro hn (And.intro hVs (And.intro HM (And.intro HE (And.intro HKY (And.intro HC (And.intro HF HB))))))
  clear r0
  have tUnit : (K.toList == [117, 110, 105, 116]) = true := by rw [toL_is, hk]; decide
  clear hk
  cases hx : Sp.stepU s V.data.toList with
  | error x =>
    rw [hx] at hst
    subst hst
    go_enter Tryz.func12, Tryz.ntmps12
    go_wp2_with fail
    refine HC.out.mono ?_
    rintro e w1 ⟨rfl, n1, rfl⟩
    have HK1 := Lib.hid (HKY.out (w.drewN n1))
    have HB2 : Hid (Below w.heap.size w ((w.drewN n1).alloc (.cells #[.string ⟨#[117, 110, 105, 116]⟩, .string ⟨#[107, 105, 110, 100]⟩, .string ⟨#[115, 105, 110, 99, 101]⟩, .string ⟨#[117, 110, 116, 105, 108]⟩, .string ⟨#[119, 111, 114, 100]⟩] 9))) := Lib.hid ((belowQ (Below.refl _ _) _).alloc (Nat.le_refl _) _)
    go_wp2_with fail
    refine HK1.out.mono ?_
    rintro e w2 ⟨rfl, hw2⟩
    rw [← hw2] at HB2
    clear hw2 HK1

    have HU := Lib.hid (funit_any B b mb n s V w2 (HF.out.below HB2.out) HM.out (Nat.le_trans HB.out HB2.out.size) (by omega))
    rw [hx] at HU
    clear hx
    go_wp2_with fail
    refine HU.out.mono ?_
    rintro e w3 ⟨hb3, rfl⟩
    have HB3 := Lib.hid ((HB2.out.mono HB.out).trans hb3)
    clear hb3
    go_wp2
    go_ret
    exact ⟨HB3.out, rfl⟩
  | ok s2 =>
    rw [hx] at hst
    subst hst
    go_enter Tryz.func12, Tryz.ntmps12
    go_wp2_with fail
    refine HC.out.mono ?_
    rintro e w1 ⟨rfl, n1, rfl⟩
    have HK1 := Lib.hid (HKY.out (w.drewN n1))
    have HB2 : Hid (Below w.heap.size w ((w.drewN n1).alloc (.cells #[.string ⟨#[117, 110, 105, 116]⟩, .string ⟨#[107, 105, 110, 100]⟩, .string ⟨#[115, 105, 110, 99, 101]⟩, .string ⟨#[117, 110, 116, 105, 108]⟩, .string ⟨#[119, 111, 114, 100]⟩] 9))) := Lib.hid ((belowQ (Below.refl _ _) _).alloc (Nat.le_refl _) _)
    go_wp2_with fail
    refine HK1.out.mono ?_
    rintro e w2 ⟨rfl, hw2⟩
    rw [← hw2] at HB2
    clear hw2 HK1

    have HU := Lib.hid (funit_any B b mb n s V w2 (HF.out.below HB2.out) HM.out (Nat.le_trans HB.out HB2.out.size) (by omega))
    rw [hx] at HU
    clear hx
    go_wp2_with fail
    refine HU.out.mono ?_
    rintro e w3 ⟨hb3, rfl, hf3⟩
    have HB3 := Lib.hid ((HB2.out.mono HB.out).trans hb3)
    have HF3 := Lib.hid hf3
    clear hb3 hf3
    go_wp2
    go_ret
    exact ⟨HB3.out, rfl, HF3.out.mono (Nat.le_succ n)⟩
set_option maxHeartbeats 16000000 in
set_option maxRecDepth 100000 in
theorem fword_kind (B b mb n : Nat) (s : Sp.PS) (l K V : ByteArray) (w : World) (hk : K.data.toList = Sp.kKind) (HF : Hid (FRm B b mb n s w)) (HM : Hid (Sp.MayF s.f)) (HB : Hid (B ≤ w.heap.size)) (hn : n ≤ 1000) (hVs : V.size ≤ 1048576) (HE : Hid (EnvB B w)) (HC : Hid (Calls Tryz.prog 36 #[.string l, .string ⟨#[61]⟩] w fun e w' => e = .returned (.tuple #[.string K, .string V, .bool true]) ∧ ∃ n, w' = w.drewN n)) (HKY : Hid (∀ w : World, Calls Tryz.prog 26 #[.slice (some ⟨w.heap.size, 0, none⟩) 5 5, .string K] (w.alloc (.cells #[.string ⟨#[117, 110, 105, 116]⟩, .string ⟨#[107, 105, 110, 100]⟩, .string ⟨#[115, 105, 110, 99, 101]⟩, .string ⟨#[117, 110, 116, 105, 108]⟩, .string ⟨#[119, 111, 114, 100]⟩] 9)) fun e w' => e = .returned (.bool true) ∧ w' = (w.alloc (.cells #[.string ⟨#[117, 110, 105, 116]⟩, .string ⟨#[107, 105, 110, 100]⟩, .string ⟨#[115, 105, 110, 99, 101]⟩, .string ⟨#[117, 110, 116, 105, 108]⟩, .string ⟨#[119, 111, 114, 100]⟩] 9)))) :
    Calls Tryz.prog 12 #[.pointer (some ⟨b, 0, none⟩), .string l] w (StepR B b mb (n + 1) (Sp.stepK s V.data.toList) w) := by
  obtain ⟨o, hst⟩ : ∃ o, o = Sp.stepK s V.data.toList := ⟨_, rfl⟩
  rw [← hst]
  have r0 := And.intro hn (And.intro hVs (And.intro HM (And.intro HE (And.intro HKY (And.intro HC (And.intro HF HB))))))
  clear r0
  have tUnit : (K.toList == [117, 110, 105, 116]) = false := by rw [toL_is, hk]; decide
  have tKind : (K.toList == [107, 105, 110, 100]) = true := by rw [toL_is, hk]; decide
  clear hk
  rcases Sp.kindIx V with ⟨hkp, hix⟩ | ⟨i, hi6, hkp, hix⟩
  · rw [Sp.stepK, hkp] at hst
    simp only at hst
    subst hst
    clear hkp
    go_enter Tryz.func12, Tryz.ntmps12
    go_wp2_with fail
    refine HC.out.mono ?_
    rintro e w1 ⟨rfl, n1, rfl⟩
    have HK1 := Lib.hid (HKY.out (w.drewN n1))
    have HB2 : Hid (Below w.heap.size w ((w.drewN n1).alloc (.cells #[.string ⟨#[117, 110, 105, 116]⟩, .string ⟨#[107, 105, 110, 100]⟩, .string ⟨#[115, 105, 110, 99, 101]⟩, .string ⟨#[117, 110, 116, 105, 108]⟩, .string ⟨#[119, 111, 114, 100]⟩] 9))) := Lib.hid ((belowQ (Below.refl _ _) _).alloc (Nat.le_refl _) _)
    go_wp2_with fail
    refine HK1.out.mono ?_
    rintro e w2 ⟨rfl, hw2⟩
    rw [← hw2] at HB2
    clear hw2 HK1

    have HI := Lib.hid (fkidx_any V w2)
    rw [hix] at HI
    clear hix
    go_wp2_with fail
    refine (fkinds_any w2).mono ?_
    rintro e w3 ⟨rfl, hw3⟩
    have HB3 : Hid (Below w2.heap.size w2 w3) := Lib.hid (by rw [hw3]; exact (Below.refl _ _).alloc (Nat.le_refl _) _)
    rw [← hw3] at HI
    clear hw3
    go_wp2_with fail
    refine HI.out.mono ?_
    rintro e w4 ⟨rfl, rfl⟩
    go_wp2
    go_ret
    exact ⟨(HB2.out.mono HB.out).trans (HB3.out.mono (Nat.le_trans HB.out HB2.out.size)), rfl⟩
  · rw [Sp.stepK, hkp] at hst
    simp only at hst
    subst hst
    clear hkp
    go_enter Tryz.func12, Tryz.ntmps12
    go_wp2_with fail
    refine HC.out.mono ?_
    rintro e w1 ⟨rfl, n1, rfl⟩
    have HK1 := Lib.hid (HKY.out (w.drewN n1))
    have HB2 : Hid (Below w.heap.size w ((w.drewN n1).alloc (.cells #[.string ⟨#[117, 110, 105, 116]⟩, .string ⟨#[107, 105, 110, 100]⟩, .string ⟨#[115, 105, 110, 99, 101]⟩, .string ⟨#[117, 110, 116, 105, 108]⟩, .string ⟨#[119, 111, 114, 100]⟩] 9))) := Lib.hid ((belowQ (Below.refl _ _) _).alloc (Nat.le_refl _) _)
    go_wp2_with fail
    refine HK1.out.mono ?_
    rintro e w2 ⟨rfl, hw2⟩
    rw [← hw2] at HB2
    clear hw2 HK1

    have HI := Lib.hid (fkidx_any V w2)
    rw [hix] at HI
    clear hix
    go_wp2_with fail
    refine (fkinds_any w2).mono ?_
    rintro e w3 ⟨rfl, hw3⟩
    have HB3 : Hid (Below w2.heap.size w2 w3) := Lib.hid (by rw [hw3]; exact (Below.refl _ _).alloc (Nat.le_refl _) _)
    rw [← hw3] at HI
    clear hw3
    have HZ3 : Hid (Below B w w3) := Lib.hid ((HB2.out.mono HB.out).trans (HB3.out.mono (Nat.le_trans HB.out HB2.out.size)))
    obtain ⟨uv, kv, hB1, hb, hu, hkk, hh⟩ := (HF.out.below HB2.out).below HB3.out
    have HP := Lib.hid (put_i B kv s.f.kinds (1 + (i : Int)) w3 hkk HM.out.rk (by have := Sp.kindI_few _ HM.out.rk HM.out.ks; omega) (Nat.le_trans HB.out HZ3.out.size))
    have HU := Lib.hid (fun w' kv' hy hg => FRm.kinds (w' := w') (kv' := kv') (ys := Sp.putI s.f.kinds (1 + (i : Int))) hB1 hb hu hkk hh hy hg)
    have HB1 := Lib.hid hB1
    obtain ⟨A, c, rfl⟩ := hkk.form
    have c1 : w3.cell? ⟨b, 1, none⟩ = some (.slice A s.f.kinds.length c) := by rw [Lib.cell_of_heap hb]; rfl
    have t0 : ¬ (i : Int) < 0 := by omega
    clear hB1 hb hu hkk hh
    generalize Sp.putI s.f.kinds (1 + (i : Int)) = ys at *
    go_wp2_with fail
    refine HI.out.mono ?_
    rintro e w4 ⟨rfl, rfl⟩
    go_wp2_with fail
    refine HP.out.mono ?_
    rintro e w5 ⟨kv', rfl, hy, hg⟩
    obtain ⟨hb5, hbl, hfr⟩ := HU.out w5 kv' hy hg
    obtain ⟨A', c', rfl⟩ := hy.form
    have d1 : w5.cell? ⟨b, 1, none⟩ = some (.slice A s.f.kinds.length c) := by rw [Lib.cell_of_heap hb5]; rfl
    have g1 : w5.frozen? ⟨b, 1, none⟩ = false := Lib.frozen_of_heap hb5 1
    have HBL := Lib.hid (HZ3.out.trans hbl)
    have HFR := Lib.hid hfr
    clear hy hg hb5 hbl hfr c1
    go_wp2
    go_ret
    exact ⟨HBL.out.setCell (p := ⟨b, 1, none⟩) HB1.out.1 _, rfl, HFR.out.mono (Nat.le_succ n)⟩
set_option maxHeartbeats 16000000 in
set_option maxRecDepth 100000 in
theorem fword_since_had (B b mb n : Nat) (s : Sp.PS) (l K V : ByteArray) (w : World) (hk : K.data.toList = Sp.kSince) (HF : Hid (FRm B b mb n s w)) (HM : Hid (Sp.MayF s.f)) (HB : Hid (B ≤ w.heap.size)) (hn : n ≤ 1000) (hVs : V.size ≤ 1048576) (HE : Hid (EnvB B w)) (HC : Hid (Calls Tryz.prog 36 #[.string l, .string ⟨#[61]⟩] w fun e w' => e = .returned (.tuple #[.string K, .string V, .bool true]) ∧ ∃ n, w' = w.drewN n)) (HKY : Hid (∀ w : World, Calls Tryz.prog 26 #[.slice (some ⟨w.heap.size, 0, none⟩) 5 5, .string K] (w.alloc (.cells #[.string ⟨#[117, 110, 105, 116]⟩, .string ⟨#[107, 105, 110, 100]⟩, .string ⟨#[115, 105, 110, 99, 101]⟩, .string ⟨#[117, 110, 116, 105, 108]⟩, .string ⟨#[119, 111, 114, 100]⟩] 9)) fun e w' => e = .returned (.bool true) ∧ w' = (w.alloc (.cells #[.string ⟨#[117, 110, 105, 116]⟩, .string ⟨#[107, 105, 110, 100]⟩, .string ⟨#[115, 105, 110, 99, 101]⟩, .string ⟨#[117, 110, 116, 105, 108]⟩, .string ⟨#[119, 111, 114, 100]⟩] 9)))) (hhj : s.h0 = true) :
    Calls Tryz.prog 12 #[.pointer (some ⟨b, 0, none⟩), .string l] w (StepR B b mb (n + 1) (Sp.stepS s V.data.toList) w) := by
  obtain ⟨o, hst⟩ : ∃ o, o = Sp.stepS s V.data.toList := ⟨_, rfl⟩
  rw [← hst]
  have r0 := And.intro hn (And.intro hVs (And.intro HM (And.intro HE (And.intro HKY (And.intro HC (And.intro HF HB))))))
  clear r0
  have tUnit : (K.toList == [117, 110, 105, 116]) = false := by rw [toL_is, hk]; decide
  have tKind : (K.toList == [107, 105, 110, 100]) = false := by rw [toL_is, hk]; decide
  have tWord : (K.toList == [119, 111, 114, 100]) = false := by rw [toL_is, hk]; decide
  have tSince : (K.toList == [115, 105, 110, 99, 101]) = true := by rw [toL_is, hk]; decide
  have HKL : Hid ((Lit.string K.data.toList) = kS) := Lib.hid (by rw [hk]; rfl)
  have hKs : K.size ≤ 100 := by
    have h2 : K.data.toList.length = K.size := by simp
    rw [hk] at h2
    rw [← h2]; decide
  clear hk
  have e : o = .error 7 := by rw [hst, Sp.stepS, hhj]; rfl
  subst e
  clear hst
  go_enter Tryz.func12, Tryz.ntmps12
  go_wp2_with fail
  refine HC.out.mono ?_
  rintro e w1 ⟨rfl, n1, rfl⟩
  have HK1 := Lib.hid (HKY.out (w.drewN n1))
  have HB2 : Hid (Below w.heap.size w ((w.drewN n1).alloc (.cells #[.string ⟨#[117, 110, 105, 116]⟩, .string ⟨#[107, 105, 110, 100]⟩, .string ⟨#[115, 105, 110, 99, 101]⟩, .string ⟨#[117, 110, 116, 105, 108]⟩, .string ⟨#[119, 111, 114, 100]⟩] 9))) := Lib.hid ((belowQ (Below.refl _ _) _).alloc (Nat.le_refl _) _)
  go_wp2_with fail
  refine HK1.out.mono ?_
  rintro e w2 ⟨rfl, hw2⟩
  rw [← hw2] at HB2
  clear hw2 HK1

  obtain ⟨uv, kv, hB1, hb, hu, hkk, D, hD, hmp, e0, e1, e2⟩ := HF.out.below HB2.out
  have HL := had_look hD K hKs s.h0 (by rw [HKL.out]; exact e0)
  rw [hhj] at HL
  have c5 : w2.cell? ⟨b, 5, none⟩ = some (.map (some mb)) := by rw [Lib.cell_of_heap hb]; rfl
  clear hb hu hkk hD hmp e0 e1 e2
  go_wp2
  go_ret
  exact ⟨HB2.out.mono HB.out, rfl⟩
set_option maxHeartbeats 16000000 in
set_option maxRecDepth 100000 in
theorem fword_since_none (B b mb n : Nat) (s : Sp.PS) (l K V : ByteArray) (w : World) (hk : K.data.toList = Sp.kSince) (HF : Hid (FRm B b mb n s w)) (HM : Hid (Sp.MayF s.f)) (HB : Hid (B ≤ w.heap.size)) (hn : n ≤ 1000) (hVs : V.size ≤ 1048576) (HE : Hid (EnvB B w)) (HC : Hid (Calls Tryz.prog 36 #[.string l, .string ⟨#[61]⟩] w fun e w' => e = .returned (.tuple #[.string K, .string V, .bool true]) ∧ ∃ n, w' = w.drewN n)) (HKY : Hid (∀ w : World, Calls Tryz.prog 26 #[.slice (some ⟨w.heap.size, 0, none⟩) 5 5, .string K] (w.alloc (.cells #[.string ⟨#[117, 110, 105, 116]⟩, .string ⟨#[107, 105, 110, 100]⟩, .string ⟨#[115, 105, 110, 99, 101]⟩, .string ⟨#[117, 110, 116, 105, 108]⟩, .string ⟨#[119, 111, 114, 100]⟩] 9)) fun e w' => e = .returned (.bool true) ∧ w' = (w.alloc (.cells #[.string ⟨#[117, 110, 105, 116]⟩, .string ⟨#[107, 105, 110, 100]⟩, .string ⟨#[115, 105, 110, 99, 101]⟩, .string ⟨#[117, 110, 116, 105, 108]⟩, .string ⟨#[119, 111, 114, 100]⟩] 9)))) (hhj : s.h0 = false) (hnum : Sp.numS V.data.toList = none) :
    Calls Tryz.prog 12 #[.pointer (some ⟨b, 0, none⟩), .string l] w (StepR B b mb (n + 1) (Sp.stepS s V.data.toList) w) := by
  obtain ⟨o, hst⟩ : ∃ o, o = Sp.stepS s V.data.toList := ⟨_, rfl⟩
  rw [← hst]
  have r0 := And.intro hn (And.intro hVs (And.intro HM (And.intro HE (And.intro HKY (And.intro HC (And.intro HF HB))))))
  clear r0
  have tUnit : (K.toList == [117, 110, 105, 116]) = false := by rw [toL_is, hk]; decide
  have tKind : (K.toList == [107, 105, 110, 100]) = false := by rw [toL_is, hk]; decide
  have tWord : (K.toList == [119, 111, 114, 100]) = false := by rw [toL_is, hk]; decide
  have tSince : (K.toList == [115, 105, 110, 99, 101]) = true := by rw [toL_is, hk]; decide
  have HKL : Hid ((Lit.string K.data.toList) = kS) := Lib.hid (by rw [hk]; rfl)
  have hKs : K.size ≤ 100 := by
    have h2 : K.data.toList.length = K.size := by simp
    rw [hk] at h2
    rw [← h2]; decide
  clear hk
  have e : o = .error 12 := by rw [hst, Sp.stepS, hhj, Sp.timeP, hnum]; rfl
  subst e
  clear hst
  go_enter Tryz.func12, Tryz.ntmps12
  go_wp2_with fail
  refine HC.out.mono ?_
  rintro e w1 ⟨rfl, n1, rfl⟩
  have HK1 := Lib.hid (HKY.out (w.drewN n1))
  have HB2 : Hid (Below w.heap.size w ((w.drewN n1).alloc (.cells #[.string ⟨#[117, 110, 105, 116]⟩, .string ⟨#[107, 105, 110, 100]⟩, .string ⟨#[115, 105, 110, 99, 101]⟩, .string ⟨#[117, 110, 116, 105, 108]⟩, .string ⟨#[119, 111, 114, 100]⟩] 9))) := Lib.hid ((belowQ (Below.refl _ _) _).alloc (Nat.le_refl _) _)
  go_wp2_with fail
  refine HK1.out.mono ?_
  rintro e w2 ⟨rfl, hw2⟩
  rw [← hw2] at HB2
  clear hw2 HK1

  obtain ⟨uv, kv, hB1, hb, hu, hkk, D, hD, hmp, e0, e1, e2⟩ := HF.out.below HB2.out
  have HL := had_look hD K hKs s.h0 (by rw [HKL.out]; exact e0)
  rw [hhj] at HL
  have c5 : w2.cell? ⟨b, 5, none⟩ = some (.map (some mb)) := by rw [Lib.cell_of_heap hb]; rfl
  have HMP := Lib.hid (fun w' (h1 : w'.ownsMap Tryz.prog 9 (plainElem Tryz.prog 4) mb (n + 1) (D.put (.string K.data.toList) (.lit (.bool true)))) (h2 : w2.grownBy w' (some mb)) => FRm.mapped hB1 hb hu hkk hD h2 (had_put0 hmp e0 e1 e2 (by rw [← HKL.out]; exact h1)))
  have HB1 := Lib.hid hB1
  have HD := Lib.hid hD
  clear hb hu hkk hD hmp e0 e1 e2 hB1 hhj
  go_wp2_with (at_mapUpdate; refine wpList_mapUpdate_own _ rfl _ _ _ 40 rfl 9 4 strKey Tryz.underlying40 _ mb n D rfl HD.out (by unfold maxLen; omega) _ _ _ rfl rfl (WideMaps.keyOf_string_mk Tryz.underlying9 (s := K) (by unfold maxLen; omega)) _ [] (plainElem_bool Tryz.underlying4 true) ?_)
  intro w3 hown3 hgrow3
  obtain ⟨hb3, hf3⟩ := HMP.out w3 hown3 hgrow3
  have HZ3 := Lib.hid ((HB2.out.mono HB.out).trans hb3)
  have HF3 := Lib.hid hf3
  have HN := Lib.hid (number_any V w3 (by omega) (HE.out _ HZ3.out))
  clear hown3 hgrow3 hb3 hf3 HL c5
  rw [hnum] at HN
  simp only [numE] at HN
  clear hnum
  go_wp2_with fail
  refine HN.out.mono ?_
  rintro e w4 ⟨rfl, hb4⟩
  have HF4 := Lib.hid (HF3.out.below hb4)
  have HZ4 := Lib.hid (HZ3.out.trans (hb4.mono (Nat.le_trans HB.out HZ3.out.size)))
  clear hb4
  go_wp2
  go_ret
  exact ⟨HZ4.out, rfl⟩
set_option maxHeartbeats 16000000 in
set_option maxRecDepth 100000 in
theorem fword_since_late (B b mb n : Nat) (s : Sp.PS) (l K V : ByteArray) (w : World) (hk : K.data.toList = Sp.kSince) (HF : Hid (FRm B b mb n s w)) (HM : Hid (Sp.MayF s.f)) (HB : Hid (B ≤ w.heap.size)) (hn : n ≤ 1000) (hVs : V.size ≤ 1048576) (HE : Hid (EnvB B w)) (HC : Hid (Calls Tryz.prog 36 #[.string l, .string ⟨#[61]⟩] w fun e w' => e = .returned (.tuple #[.string K, .string V, .bool true]) ∧ ∃ n, w' = w.drewN n)) (HKY : Hid (∀ w : World, Calls Tryz.prog 26 #[.slice (some ⟨w.heap.size, 0, none⟩) 5 5, .string K] (w.alloc (.cells #[.string ⟨#[117, 110, 105, 116]⟩, .string ⟨#[107, 105, 110, 100]⟩, .string ⟨#[115, 105, 110, 99, 101]⟩, .string ⟨#[117, 110, 116, 105, 108]⟩, .string ⟨#[119, 111, 114, 100]⟩] 9)) fun e w' => e = .returned (.bool true) ∧ w' = (w.alloc (.cells #[.string ⟨#[117, 110, 105, 116]⟩, .string ⟨#[107, 105, 110, 100]⟩, .string ⟨#[115, 105, 110, 99, 101]⟩, .string ⟨#[117, 110, 116, 105, 108]⟩, .string ⟨#[119, 111, 114, 100]⟩] 9)))) (m : Nat) (hhj : s.h0 = false) (hnum : Sp.numS V.data.toList = some m) (htm : timeB (m : Int) = false) :
    Calls Tryz.prog 12 #[.pointer (some ⟨b, 0, none⟩), .string l] w (StepR B b mb (n + 1) (Sp.stepS s V.data.toList) w) := by
  obtain ⟨o, hst⟩ : ∃ o, o = Sp.stepS s V.data.toList := ⟨_, rfl⟩
  rw [← hst]
  have r0 := And.intro hn (And.intro hVs (And.intro HM (And.intro HE (And.intro HKY (And.intro HC (And.intro HF HB))))))
  clear r0
  have tUnit : (K.toList == [117, 110, 105, 116]) = false := by rw [toL_is, hk]; decide
  have tKind : (K.toList == [107, 105, 110, 100]) = false := by rw [toL_is, hk]; decide
  have tWord : (K.toList == [119, 111, 114, 100]) = false := by rw [toL_is, hk]; decide
  have tSince : (K.toList == [115, 105, 110, 99, 101]) = true := by rw [toL_is, hk]; decide
  have HKL : Hid ((Lit.string K.data.toList) = kS) := Lib.hid (by rw [hk]; rfl)
  have hKs : K.size ≤ 100 := by
    have h2 : K.data.toList.length = K.size := by simp
    rw [hk] at h2
    rw [← h2]; decide
  clear hk
  have e : o = .error 12 := by rw [hst, Sp.stepS, hhj, Sp.timeP_no hnum htm]; rfl
  subst e
  clear hst
  have HT := Lib.hid (fun W => time_any (m : Int) W)
  rw [htm] at HT
  clear htm
  go_enter Tryz.func12, Tryz.ntmps12
  go_wp2_with fail
  refine HC.out.mono ?_
  rintro e w1 ⟨rfl, n1, rfl⟩
  have HK1 := Lib.hid (HKY.out (w.drewN n1))
  have HB2 : Hid (Below w.heap.size w ((w.drewN n1).alloc (.cells #[.string ⟨#[117, 110, 105, 116]⟩, .string ⟨#[107, 105, 110, 100]⟩, .string ⟨#[115, 105, 110, 99, 101]⟩, .string ⟨#[117, 110, 116, 105, 108]⟩, .string ⟨#[119, 111, 114, 100]⟩] 9))) := Lib.hid ((belowQ (Below.refl _ _) _).alloc (Nat.le_refl _) _)
  go_wp2_with fail
  refine HK1.out.mono ?_
  rintro e w2 ⟨rfl, hw2⟩
  rw [← hw2] at HB2
  clear hw2 HK1

  obtain ⟨uv, kv, hB1, hb, hu, hkk, D, hD, hmp, e0, e1, e2⟩ := HF.out.below HB2.out
  have HL := had_look hD K hKs s.h0 (by rw [HKL.out]; exact e0)
  rw [hhj] at HL
  have c5 : w2.cell? ⟨b, 5, none⟩ = some (.map (some mb)) := by rw [Lib.cell_of_heap hb]; rfl
  have HMP := Lib.hid (fun w' (h1 : w'.ownsMap Tryz.prog 9 (plainElem Tryz.prog 4) mb (n + 1) (D.put (.string K.data.toList) (.lit (.bool true)))) (h2 : w2.grownBy w' (some mb)) => FRm.mapped hB1 hb hu hkk hD h2 (had_put0 hmp e0 e1 e2 (by rw [← HKL.out]; exact h1)))
  have HB1 := Lib.hid hB1
  have HD := Lib.hid hD
  clear hb hu hkk hD hmp e0 e1 e2 hB1 hhj
  go_wp2_with (at_mapUpdate; refine wpList_mapUpdate_own _ rfl _ _ _ 40 rfl 9 4 strKey Tryz.underlying40 _ mb n D rfl HD.out (by unfold maxLen; omega) _ _ _ rfl rfl (WideMaps.keyOf_string_mk Tryz.underlying9 (s := K) (by unfold maxLen; omega)) _ [] (plainElem_bool Tryz.underlying4 true) ?_)
  intro w3 hown3 hgrow3
  obtain ⟨hb3, hf3⟩ := HMP.out w3 hown3 hgrow3
  have HZ3 := Lib.hid ((HB2.out.mono HB.out).trans hb3)
  have HF3 := Lib.hid hf3
  have HN := Lib.hid (number_any V w3 (by omega) (HE.out _ HZ3.out))
  clear hown3 hgrow3 hb3 hf3 HL c5
  rw [hnum] at HN
  simp only [numE] at HN
  clear hnum
  go_wp2_with fail
  refine HN.out.mono ?_
  rintro e w4 ⟨rfl, hb4⟩
  have HF4 := Lib.hid (HF3.out.below hb4)
  have HZ4 := Lib.hid (HZ3.out.trans (hb4.mono (Nat.le_trans HB.out HZ3.out.size)))
  clear hb4
  go_wp2_with fail
  refine (HT.out _).mono ?_
  rintro e w5 ⟨rfl, rfl⟩
  go_wp2
  go_ret
  exact ⟨HZ4.out, rfl⟩
set_option maxHeartbeats 16000000 in
set_option maxRecDepth 100000 in
theorem fword_since_good (B b mb n : Nat) (s : Sp.PS) (l K V : ByteArray) (w : World) (hk : K.data.toList = Sp.kSince) (HF : Hid (FRm B b mb n s w)) (HM : Hid (Sp.MayF s.f)) (HB : Hid (B ≤ w.heap.size)) (hn : n ≤ 1000) (hVs : V.size ≤ 1048576) (HE : Hid (EnvB B w)) (HC : Hid (Calls Tryz.prog 36 #[.string l, .string ⟨#[61]⟩] w fun e w' => e = .returned (.tuple #[.string K, .string V, .bool true]) ∧ ∃ n, w' = w.drewN n)) (HKY : Hid (∀ w : World, Calls Tryz.prog 26 #[.slice (some ⟨w.heap.size, 0, none⟩) 5 5, .string K] (w.alloc (.cells #[.string ⟨#[117, 110, 105, 116]⟩, .string ⟨#[107, 105, 110, 100]⟩, .string ⟨#[115, 105, 110, 99, 101]⟩, .string ⟨#[117, 110, 116, 105, 108]⟩, .string ⟨#[119, 111, 114, 100]⟩] 9)) fun e w' => e = .returned (.bool true) ∧ w' = (w.alloc (.cells #[.string ⟨#[117, 110, 105, 116]⟩, .string ⟨#[107, 105, 110, 100]⟩, .string ⟨#[115, 105, 110, 99, 101]⟩, .string ⟨#[117, 110, 116, 105, 108]⟩, .string ⟨#[119, 111, 114, 100]⟩] 9)))) (m : Nat) (hhj : s.h0 = false) (hnum : Sp.numS V.data.toList = some m) (htm : timeB (m : Int) = true) :
    Calls Tryz.prog 12 #[.pointer (some ⟨b, 0, none⟩), .string l] w (StepR B b mb (n + 1) (Sp.stepS s V.data.toList) w) := by
  obtain ⟨o, hst⟩ : ∃ o, o = Sp.stepS s V.data.toList := ⟨_, rfl⟩
  rw [← hst]
  have r0 := And.intro hn (And.intro hVs (And.intro HM (And.intro HE (And.intro HKY (And.intro HC (And.intro HF HB))))))
  clear r0
  have tUnit : (K.toList == [117, 110, 105, 116]) = false := by rw [toL_is, hk]; decide
  have tKind : (K.toList == [107, 105, 110, 100]) = false := by rw [toL_is, hk]; decide
  have tWord : (K.toList == [119, 111, 114, 100]) = false := by rw [toL_is, hk]; decide
  have tSince : (K.toList == [115, 105, 110, 99, 101]) = true := by rw [toL_is, hk]; decide
  have HKL : Hid ((Lit.string K.data.toList) = kS) := Lib.hid (by rw [hk]; rfl)
  have hKs : K.size ≤ 100 := by
    have h2 : K.data.toList.length = K.size := by simp
    rw [hk] at h2
    rw [← h2]; decide
  clear hk
  have e : o = .ok ⟨⟨s.f.units, s.f.kinds, (m : Int), s.f.till, s.f.word⟩, true, s.h1, s.h2⟩ := by rw [hst, Sp.stepS, hhj, Sp.timeP_yes hnum htm]; rfl
  subst e
  clear hst
  have HT := Lib.hid (fun W => time_any (m : Int) W)
  rw [htm] at HT
  clear htm
  go_enter Tryz.func12, Tryz.ntmps12
  go_wp2_with fail
  refine HC.out.mono ?_
  rintro e w1 ⟨rfl, n1, rfl⟩
  have HK1 := Lib.hid (HKY.out (w.drewN n1))
  have HB2 : Hid (Below w.heap.size w ((w.drewN n1).alloc (.cells #[.string ⟨#[117, 110, 105, 116]⟩, .string ⟨#[107, 105, 110, 100]⟩, .string ⟨#[115, 105, 110, 99, 101]⟩, .string ⟨#[117, 110, 116, 105, 108]⟩, .string ⟨#[119, 111, 114, 100]⟩] 9))) := Lib.hid ((belowQ (Below.refl _ _) _).alloc (Nat.le_refl _) _)
  go_wp2_with fail
  refine HK1.out.mono ?_
  rintro e w2 ⟨rfl, hw2⟩
  rw [← hw2] at HB2
  clear hw2 HK1

  obtain ⟨uv, kv, hB1, hb, hu, hkk, D, hD, hmp, e0, e1, e2⟩ := HF.out.below HB2.out
  have HL := had_look hD K hKs s.h0 (by rw [HKL.out]; exact e0)
  rw [hhj] at HL
  have c5 : w2.cell? ⟨b, 5, none⟩ = some (.map (some mb)) := by rw [Lib.cell_of_heap hb]; rfl
  have HMP := Lib.hid (fun w' (h1 : w'.ownsMap Tryz.prog 9 (plainElem Tryz.prog 4) mb (n + 1) (D.put (.string K.data.toList) (.lit (.bool true)))) (h2 : w2.grownBy w' (some mb)) => FRm.mapped hB1 hb hu hkk hD h2 (had_put0 hmp e0 e1 e2 (by rw [← HKL.out]; exact h1)))
  have HB1 := Lib.hid hB1
  have HD := Lib.hid hD
  clear hb hu hkk hD hmp e0 e1 e2 hB1 hhj
  go_wp2_with (at_mapUpdate; refine wpList_mapUpdate_own _ rfl _ _ _ 40 rfl 9 4 strKey Tryz.underlying40 _ mb n D rfl HD.out (by unfold maxLen; omega) _ _ _ rfl rfl (WideMaps.keyOf_string_mk Tryz.underlying9 (s := K) (by unfold maxLen; omega)) _ [] (plainElem_bool Tryz.underlying4 true) ?_)
  intro w3 hown3 hgrow3
  obtain ⟨hb3, hf3⟩ := HMP.out w3 hown3 hgrow3
  have HZ3 := Lib.hid ((HB2.out.mono HB.out).trans hb3)
  have HF3 := Lib.hid hf3
  have HN := Lib.hid (number_any V w3 (by omega) (HE.out _ HZ3.out))
  clear hown3 hgrow3 hb3 hf3 HL c5
  rw [hnum] at HN
  simp only [numE] at HN
  clear hnum
  go_wp2_with fail
  refine HN.out.mono ?_
  rintro e w4 ⟨rfl, hb4⟩
  have HF4 := Lib.hid (HF3.out.below hb4)
  have HZ4 := Lib.hid (HZ3.out.trans (hb4.mono (Nat.le_trans HB.out HZ3.out.size)))
  clear hb4
  have HF5 : Hid (FRm B b mb (n + 1) ⟨⟨s.f.units, s.f.kinds, (m : Int), s.f.till, s.f.word⟩, true, s.h1, s.h2⟩ (w4.setCell ⟨b, 2, none⟩ (.int .i64 (m : Int)))) := Lib.hid (FRm.field 2 _ HF4.out rfl rfl rfl rfl rfl (fun _ _ => rfl))
  obtain ⟨uv5, kv5, _, hb5, _⟩ := HF4.out
  have hx : ∃ x, w4.cell? ⟨b, 2, none⟩ = some x := by rw [Lib.cell_of_heap hb5]; exact ⟨_, rfl⟩
  obtain ⟨x5, cx⟩ := hx
  have fx : w4.frozen? ⟨b, 2, none⟩ = false := Lib.frozen_of_heap hb5 2
  clear hb5
  go_wp2_with fail
  refine (HT.out _).mono ?_
  rintro e w5 ⟨rfl, rfl⟩
  go_wp2
  go_ret
  exact ⟨HZ4.out.setCell (p := ⟨b, 2, none⟩) HB1.out.1 _, rfl, HF5.out⟩
theorem fword_since (B b mb n : Nat) (s : Sp.PS) (l K V : ByteArray) (w : World) (hk : K.data.toList = Sp.kSince) (HF : Hid (FRm B b mb n s w)) (HM : Hid (Sp.MayF s.f)) (HB : Hid (B ≤ w.heap.size)) (hn : n ≤ 1000) (hVs : V.size ≤ 1048576) (HE : Hid (EnvB B w)) (HC : Hid (Calls Tryz.prog 36 #[.string l, .string ⟨#[61]⟩] w fun e w' => e = .returned (.tuple #[.string K, .string V, .bool true]) ∧ ∃ n, w' = w.drewN n)) (HKY : Hid (∀ w : World, Calls Tryz.prog 26 #[.slice (some ⟨w.heap.size, 0, none⟩) 5 5, .string K] (w.alloc (.cells #[.string ⟨#[117, 110, 105, 116]⟩, .string ⟨#[107, 105, 110, 100]⟩, .string ⟨#[115, 105, 110, 99, 101]⟩, .string ⟨#[117, 110, 116, 105, 108]⟩, .string ⟨#[119, 111, 114, 100]⟩] 9)) fun e w' => e = .returned (.bool true) ∧ w' = (w.alloc (.cells #[.string ⟨#[117, 110, 105, 116]⟩, .string ⟨#[107, 105, 110, 100]⟩, .string ⟨#[115, 105, 110, 99, 101]⟩, .string ⟨#[117, 110, 116, 105, 108]⟩, .string ⟨#[119, 111, 114, 100]⟩] 9)))) :
    Calls Tryz.prog 12 #[.pointer (some ⟨b, 0, none⟩), .string l] w (StepR B b mb (n + 1) (Sp.stepS s V.data.toList) w) := by
  cases hhj : s.h0 with
  | true => exact fword_since_had B b mb n s l K V w hk HF HM HB hn hVs HE HC HKY hhj
  | false =>
    cases hnum : Sp.numS V.data.toList with
    | none => exact fword_since_none B b mb n s l K V w hk HF HM HB hn hVs HE HC HKY hhj hnum
    | some m =>
      cases htm : timeB (m : Int) with
      | false => exact fword_since_late B b mb n s l K V w hk HF HM HB hn hVs HE HC HKY m hhj hnum htm
      | true => exact fword_since_good B b mb n s l K V w hk HF HM HB hn hVs HE HC HKY m hhj hnum htm
set_option maxHeartbeats 16000000 in
set_option maxRecDepth 100000 in
theorem fword_until_had (B b mb n : Nat) (s : Sp.PS) (l K V : ByteArray) (w : World) (hk : K.data.toList = Sp.kUntil) (HF : Hid (FRm B b mb n s w)) (HM : Hid (Sp.MayF s.f)) (HB : Hid (B ≤ w.heap.size)) (hn : n ≤ 1000) (hVs : V.size ≤ 1048576) (HE : Hid (EnvB B w)) (HC : Hid (Calls Tryz.prog 36 #[.string l, .string ⟨#[61]⟩] w fun e w' => e = .returned (.tuple #[.string K, .string V, .bool true]) ∧ ∃ n, w' = w.drewN n)) (HKY : Hid (∀ w : World, Calls Tryz.prog 26 #[.slice (some ⟨w.heap.size, 0, none⟩) 5 5, .string K] (w.alloc (.cells #[.string ⟨#[117, 110, 105, 116]⟩, .string ⟨#[107, 105, 110, 100]⟩, .string ⟨#[115, 105, 110, 99, 101]⟩, .string ⟨#[117, 110, 116, 105, 108]⟩, .string ⟨#[119, 111, 114, 100]⟩] 9)) fun e w' => e = .returned (.bool true) ∧ w' = (w.alloc (.cells #[.string ⟨#[117, 110, 105, 116]⟩, .string ⟨#[107, 105, 110, 100]⟩, .string ⟨#[115, 105, 110, 99, 101]⟩, .string ⟨#[117, 110, 116, 105, 108]⟩, .string ⟨#[119, 111, 114, 100]⟩] 9)))) (hhj : s.h1 = true) :
    Calls Tryz.prog 12 #[.pointer (some ⟨b, 0, none⟩), .string l] w (StepR B b mb (n + 1) (Sp.stepT s V.data.toList) w) := by
  obtain ⟨o, hst⟩ : ∃ o, o = Sp.stepT s V.data.toList := ⟨_, rfl⟩
  rw [← hst]
  have r0 := And.intro hn (And.intro hVs (And.intro HM (And.intro HE (And.intro HKY (And.intro HC (And.intro HF HB))))))
  clear r0
  have tUnit : (K.toList == [117, 110, 105, 116]) = false := by rw [toL_is, hk]; decide
  have tKind : (K.toList == [107, 105, 110, 100]) = false := by rw [toL_is, hk]; decide
  have tWord : (K.toList == [119, 111, 114, 100]) = false := by rw [toL_is, hk]; decide
  have tSince : (K.toList == [115, 105, 110, 99, 101]) = false := by rw [toL_is, hk]; decide
  have HKL : Hid ((Lit.string K.data.toList) = kT) := Lib.hid (by rw [hk]; rfl)
  have hKs : K.size ≤ 100 := by
    have h2 : K.data.toList.length = K.size := by simp
    rw [hk] at h2
    rw [← h2]; decide
  clear hk
  have e : o = .error 7 := by rw [hst, Sp.stepT, hhj]; rfl
  subst e
  clear hst
  go_enter Tryz.func12, Tryz.ntmps12
  go_wp2_with fail
  refine HC.out.mono ?_
  rintro e w1 ⟨rfl, n1, rfl⟩
  have HK1 := Lib.hid (HKY.out (w.drewN n1))
  have HB2 : Hid (Below w.heap.size w ((w.drewN n1).alloc (.cells #[.string ⟨#[117, 110, 105, 116]⟩, .string ⟨#[107, 105, 110, 100]⟩, .string ⟨#[115, 105, 110, 99, 101]⟩, .string ⟨#[117, 110, 116, 105, 108]⟩, .string ⟨#[119, 111, 114, 100]⟩] 9))) := Lib.hid ((belowQ (Below.refl _ _) _).alloc (Nat.le_refl _) _)
  go_wp2_with fail
  refine HK1.out.mono ?_
  rintro e w2 ⟨rfl, hw2⟩
  rw [← hw2] at HB2
  clear hw2 HK1

  obtain ⟨uv, kv, hB1, hb, hu, hkk, D, hD, hmp, e0, e1, e2⟩ := HF.out.below HB2.out
  have HL := had_look hD K hKs s.h1 (by rw [HKL.out]; exact e1)
  rw [hhj] at HL
  have c5 : w2.cell? ⟨b, 5, none⟩ = some (.map (some mb)) := by rw [Lib.cell_of_heap hb]; rfl
  clear hb hu hkk hD hmp e0 e1 e2
  go_wp2
  go_ret
  exact ⟨HB2.out.mono HB.out, rfl⟩
set_option maxHeartbeats 16000000 in
set_option maxRecDepth 100000 in
theorem fword_until_none (B b mb n : Nat) (s : Sp.PS) (l K V : ByteArray) (w : World) (hk : K.data.toList = Sp.kUntil) (HF : Hid (FRm B b mb n s w)) (HM : Hid (Sp.MayF s.f)) (HB : Hid (B ≤ w.heap.size)) (hn : n ≤ 1000) (hVs : V.size ≤ 1048576) (HE : Hid (EnvB B w)) (HC : Hid (Calls Tryz.prog 36 #[.string l, .string ⟨#[61]⟩] w fun e w' => e = .returned (.tuple #[.string K, .string V, .bool true]) ∧ ∃ n, w' = w.drewN n)) (HKY : Hid (∀ w : World, Calls Tryz.prog 26 #[.slice (some ⟨w.heap.size, 0, none⟩) 5 5, .string K] (w.alloc (.cells #[.string ⟨#[117, 110, 105, 116]⟩, .string ⟨#[107, 105, 110, 100]⟩, .string ⟨#[115, 105, 110, 99, 101]⟩, .string ⟨#[117, 110, 116, 105, 108]⟩, .string ⟨#[119, 111, 114, 100]⟩] 9)) fun e w' => e = .returned (.bool true) ∧ w' = (w.alloc (.cells #[.string ⟨#[117, 110, 105, 116]⟩, .string ⟨#[107, 105, 110, 100]⟩, .string ⟨#[115, 105, 110, 99, 101]⟩, .string ⟨#[117, 110, 116, 105, 108]⟩, .string ⟨#[119, 111, 114, 100]⟩] 9)))) (hhj : s.h1 = false) (hnum : Sp.numS V.data.toList = none) :
    Calls Tryz.prog 12 #[.pointer (some ⟨b, 0, none⟩), .string l] w (StepR B b mb (n + 1) (Sp.stepT s V.data.toList) w) := by
  obtain ⟨o, hst⟩ : ∃ o, o = Sp.stepT s V.data.toList := ⟨_, rfl⟩
  rw [← hst]
  have r0 := And.intro hn (And.intro hVs (And.intro HM (And.intro HE (And.intro HKY (And.intro HC (And.intro HF HB))))))
  clear r0
  have tUnit : (K.toList == [117, 110, 105, 116]) = false := by rw [toL_is, hk]; decide
  have tKind : (K.toList == [107, 105, 110, 100]) = false := by rw [toL_is, hk]; decide
  have tWord : (K.toList == [119, 111, 114, 100]) = false := by rw [toL_is, hk]; decide
  have tSince : (K.toList == [115, 105, 110, 99, 101]) = false := by rw [toL_is, hk]; decide
  have HKL : Hid ((Lit.string K.data.toList) = kT) := Lib.hid (by rw [hk]; rfl)
  have hKs : K.size ≤ 100 := by
    have h2 : K.data.toList.length = K.size := by simp
    rw [hk] at h2
    rw [← h2]; decide
  clear hk
  have e : o = .error 12 := by rw [hst, Sp.stepT, hhj, Sp.timeP, hnum]; rfl
  subst e
  clear hst
  go_enter Tryz.func12, Tryz.ntmps12
  go_wp2_with fail
  refine HC.out.mono ?_
  rintro e w1 ⟨rfl, n1, rfl⟩
  have HK1 := Lib.hid (HKY.out (w.drewN n1))
  have HB2 : Hid (Below w.heap.size w ((w.drewN n1).alloc (.cells #[.string ⟨#[117, 110, 105, 116]⟩, .string ⟨#[107, 105, 110, 100]⟩, .string ⟨#[115, 105, 110, 99, 101]⟩, .string ⟨#[117, 110, 116, 105, 108]⟩, .string ⟨#[119, 111, 114, 100]⟩] 9))) := Lib.hid ((belowQ (Below.refl _ _) _).alloc (Nat.le_refl _) _)
  go_wp2_with fail
  refine HK1.out.mono ?_
  rintro e w2 ⟨rfl, hw2⟩
  rw [← hw2] at HB2
  clear hw2 HK1

  obtain ⟨uv, kv, hB1, hb, hu, hkk, D, hD, hmp, e0, e1, e2⟩ := HF.out.below HB2.out
  have HL := had_look hD K hKs s.h1 (by rw [HKL.out]; exact e1)
  rw [hhj] at HL
  have c5 : w2.cell? ⟨b, 5, none⟩ = some (.map (some mb)) := by rw [Lib.cell_of_heap hb]; rfl
  have HMP := Lib.hid (fun w' (h1 : w'.ownsMap Tryz.prog 9 (plainElem Tryz.prog 4) mb (n + 1) (D.put (.string K.data.toList) (.lit (.bool true)))) (h2 : w2.grownBy w' (some mb)) => FRm.mapped hB1 hb hu hkk hD h2 (had_put1 hmp e0 e1 e2 (by rw [← HKL.out]; exact h1)))
  have HB1 := Lib.hid hB1
  have HD := Lib.hid hD
  clear hb hu hkk hD hmp e0 e1 e2 hB1 hhj
  go_wp2_with (at_mapUpdate; refine wpList_mapUpdate_own _ rfl _ _ _ 40 rfl 9 4 strKey Tryz.underlying40 _ mb n D rfl HD.out (by unfold maxLen; omega) _ _ _ rfl rfl (WideMaps.keyOf_string_mk Tryz.underlying9 (s := K) (by unfold maxLen; omega)) _ [] (plainElem_bool Tryz.underlying4 true) ?_)
  intro w3 hown3 hgrow3
  obtain ⟨hb3, hf3⟩ := HMP.out w3 hown3 hgrow3
  have HZ3 := Lib.hid ((HB2.out.mono HB.out).trans hb3)
  have HF3 := Lib.hid hf3
  have HN := Lib.hid (number_any V w3 (by omega) (HE.out _ HZ3.out))
  clear hown3 hgrow3 hb3 hf3 HL c5
  rw [hnum] at HN
  simp only [numE] at HN
  clear hnum
  go_wp2_with fail
  refine HN.out.mono ?_
  rintro e w4 ⟨rfl, hb4⟩
  have HF4 := Lib.hid (HF3.out.below hb4)
  have HZ4 := Lib.hid (HZ3.out.trans (hb4.mono (Nat.le_trans HB.out HZ3.out.size)))
  clear hb4
  go_wp2
  go_ret
  exact ⟨HZ4.out, rfl⟩
set_option maxHeartbeats 16000000 in
set_option maxRecDepth 100000 in
theorem fword_until_late (B b mb n : Nat) (s : Sp.PS) (l K V : ByteArray) (w : World) (hk : K.data.toList = Sp.kUntil) (HF : Hid (FRm B b mb n s w)) (HM : Hid (Sp.MayF s.f)) (HB : Hid (B ≤ w.heap.size)) (hn : n ≤ 1000) (hVs : V.size ≤ 1048576) (HE : Hid (EnvB B w)) (HC : Hid (Calls Tryz.prog 36 #[.string l, .string ⟨#[61]⟩] w fun e w' => e = .returned (.tuple #[.string K, .string V, .bool true]) ∧ ∃ n, w' = w.drewN n)) (HKY : Hid (∀ w : World, Calls Tryz.prog 26 #[.slice (some ⟨w.heap.size, 0, none⟩) 5 5, .string K] (w.alloc (.cells #[.string ⟨#[117, 110, 105, 116]⟩, .string ⟨#[107, 105, 110, 100]⟩, .string ⟨#[115, 105, 110, 99, 101]⟩, .string ⟨#[117, 110, 116, 105, 108]⟩, .string ⟨#[119, 111, 114, 100]⟩] 9)) fun e w' => e = .returned (.bool true) ∧ w' = (w.alloc (.cells #[.string ⟨#[117, 110, 105, 116]⟩, .string ⟨#[107, 105, 110, 100]⟩, .string ⟨#[115, 105, 110, 99, 101]⟩, .string ⟨#[117, 110, 116, 105, 108]⟩, .string ⟨#[119, 111, 114, 100]⟩] 9)))) (m : Nat) (hhj : s.h1 = false) (hnum : Sp.numS V.data.toList = some m) (htm : timeB (m : Int) = false) :
    Calls Tryz.prog 12 #[.pointer (some ⟨b, 0, none⟩), .string l] w (StepR B b mb (n + 1) (Sp.stepT s V.data.toList) w) := by
  obtain ⟨o, hst⟩ : ∃ o, o = Sp.stepT s V.data.toList := ⟨_, rfl⟩
  rw [← hst]
  have r0 := And.intro hn (And.intro hVs (And.intro HM (And.intro HE (And.intro HKY (And.intro HC (And.intro HF HB))))))
  clear r0
  have tUnit : (K.toList == [117, 110, 105, 116]) = false := by rw [toL_is, hk]; decide
  have tKind : (K.toList == [107, 105, 110, 100]) = false := by rw [toL_is, hk]; decide
  have tWord : (K.toList == [119, 111, 114, 100]) = false := by rw [toL_is, hk]; decide
  have tSince : (K.toList == [115, 105, 110, 99, 101]) = false := by rw [toL_is, hk]; decide
  have HKL : Hid ((Lit.string K.data.toList) = kT) := Lib.hid (by rw [hk]; rfl)
  have hKs : K.size ≤ 100 := by
    have h2 : K.data.toList.length = K.size := by simp
    rw [hk] at h2
    rw [← h2]; decide
  clear hk
  have e : o = .error 12 := by rw [hst, Sp.stepT, hhj, Sp.timeP_no hnum htm]; rfl
  subst e
  clear hst
  have HT := Lib.hid (fun W => time_any (m : Int) W)
  rw [htm] at HT
  clear htm
  go_enter Tryz.func12, Tryz.ntmps12
  go_wp2_with fail
  refine HC.out.mono ?_
  rintro e w1 ⟨rfl, n1, rfl⟩
  have HK1 := Lib.hid (HKY.out (w.drewN n1))
  have HB2 : Hid (Below w.heap.size w ((w.drewN n1).alloc (.cells #[.string ⟨#[117, 110, 105, 116]⟩, .string ⟨#[107, 105, 110, 100]⟩, .string ⟨#[115, 105, 110, 99, 101]⟩, .string ⟨#[117, 110, 116, 105, 108]⟩, .string ⟨#[119, 111, 114, 100]⟩] 9))) := Lib.hid ((belowQ (Below.refl _ _) _).alloc (Nat.le_refl _) _)
  go_wp2_with fail
  refine HK1.out.mono ?_
  rintro e w2 ⟨rfl, hw2⟩
  rw [← hw2] at HB2
  clear hw2 HK1

  obtain ⟨uv, kv, hB1, hb, hu, hkk, D, hD, hmp, e0, e1, e2⟩ := HF.out.below HB2.out
  have HL := had_look hD K hKs s.h1 (by rw [HKL.out]; exact e1)
  rw [hhj] at HL
  have c5 : w2.cell? ⟨b, 5, none⟩ = some (.map (some mb)) := by rw [Lib.cell_of_heap hb]; rfl
  have HMP := Lib.hid (fun w' (h1 : w'.ownsMap Tryz.prog 9 (plainElem Tryz.prog 4) mb (n + 1) (D.put (.string K.data.toList) (.lit (.bool true)))) (h2 : w2.grownBy w' (some mb)) => FRm.mapped hB1 hb hu hkk hD h2 (had_put1 hmp e0 e1 e2 (by rw [← HKL.out]; exact h1)))
  have HB1 := Lib.hid hB1
  have HD := Lib.hid hD
  clear hb hu hkk hD hmp e0 e1 e2 hB1 hhj
  go_wp2_with (at_mapUpdate; refine wpList_mapUpdate_own _ rfl _ _ _ 40 rfl 9 4 strKey Tryz.underlying40 _ mb n D rfl HD.out (by unfold maxLen; omega) _ _ _ rfl rfl (WideMaps.keyOf_string_mk Tryz.underlying9 (s := K) (by unfold maxLen; omega)) _ [] (plainElem_bool Tryz.underlying4 true) ?_)
  intro w3 hown3 hgrow3
  obtain ⟨hb3, hf3⟩ := HMP.out w3 hown3 hgrow3
  have HZ3 := Lib.hid ((HB2.out.mono HB.out).trans hb3)
  have HF3 := Lib.hid hf3
  have HN := Lib.hid (number_any V w3 (by omega) (HE.out _ HZ3.out))
  clear hown3 hgrow3 hb3 hf3 HL c5
  rw [hnum] at HN
  simp only [numE] at HN
  clear hnum
  go_wp2_with fail
  refine HN.out.mono ?_
  rintro e w4 ⟨rfl, hb4⟩
  have HF4 := Lib.hid (HF3.out.below hb4)
  have HZ4 := Lib.hid (HZ3.out.trans (hb4.mono (Nat.le_trans HB.out HZ3.out.size)))
  clear hb4
  go_wp2_with fail
  refine (HT.out _).mono ?_
  rintro e w5 ⟨rfl, rfl⟩
  go_wp2
  go_ret
  exact ⟨HZ4.out, rfl⟩
set_option maxHeartbeats 16000000 in
set_option maxRecDepth 100000 in
theorem fword_until_good (B b mb n : Nat) (s : Sp.PS) (l K V : ByteArray) (w : World) (hk : K.data.toList = Sp.kUntil) (HF : Hid (FRm B b mb n s w)) (HM : Hid (Sp.MayF s.f)) (HB : Hid (B ≤ w.heap.size)) (hn : n ≤ 1000) (hVs : V.size ≤ 1048576) (HE : Hid (EnvB B w)) (HC : Hid (Calls Tryz.prog 36 #[.string l, .string ⟨#[61]⟩] w fun e w' => e = .returned (.tuple #[.string K, .string V, .bool true]) ∧ ∃ n, w' = w.drewN n)) (HKY : Hid (∀ w : World, Calls Tryz.prog 26 #[.slice (some ⟨w.heap.size, 0, none⟩) 5 5, .string K] (w.alloc (.cells #[.string ⟨#[117, 110, 105, 116]⟩, .string ⟨#[107, 105, 110, 100]⟩, .string ⟨#[115, 105, 110, 99, 101]⟩, .string ⟨#[117, 110, 116, 105, 108]⟩, .string ⟨#[119, 111, 114, 100]⟩] 9)) fun e w' => e = .returned (.bool true) ∧ w' = (w.alloc (.cells #[.string ⟨#[117, 110, 105, 116]⟩, .string ⟨#[107, 105, 110, 100]⟩, .string ⟨#[115, 105, 110, 99, 101]⟩, .string ⟨#[117, 110, 116, 105, 108]⟩, .string ⟨#[119, 111, 114, 100]⟩] 9)))) (m : Nat) (hhj : s.h1 = false) (hnum : Sp.numS V.data.toList = some m) (htm : timeB (m : Int) = true) :
    Calls Tryz.prog 12 #[.pointer (some ⟨b, 0, none⟩), .string l] w (StepR B b mb (n + 1) (Sp.stepT s V.data.toList) w) := by
  obtain ⟨o, hst⟩ : ∃ o, o = Sp.stepT s V.data.toList := ⟨_, rfl⟩
  rw [← hst]
  have r0 := And.intro hn (And.intro hVs (And.intro HM (And.intro HE (And.intro HKY (And.intro HC (And.intro HF HB))))))
  clear r0
  have tUnit : (K.toList == [117, 110, 105, 116]) = false := by rw [toL_is, hk]; decide
  have tKind : (K.toList == [107, 105, 110, 100]) = false := by rw [toL_is, hk]; decide
  have tWord : (K.toList == [119, 111, 114, 100]) = false := by rw [toL_is, hk]; decide
  have tSince : (K.toList == [115, 105, 110, 99, 101]) = false := by rw [toL_is, hk]; decide
  have HKL : Hid ((Lit.string K.data.toList) = kT) := Lib.hid (by rw [hk]; rfl)
  have hKs : K.size ≤ 100 := by
    have h2 : K.data.toList.length = K.size := by simp
    rw [hk] at h2
    rw [← h2]; decide
  clear hk
  have e : o = .ok ⟨⟨s.f.units, s.f.kinds, s.f.since, (m : Int), s.f.word⟩, s.h0, true, s.h2⟩ := by rw [hst, Sp.stepT, hhj, Sp.timeP_yes hnum htm]; rfl
  subst e
  clear hst
  have HT := Lib.hid (fun W => time_any (m : Int) W)
  rw [htm] at HT
  clear htm
  go_enter Tryz.func12, Tryz.ntmps12
  go_wp2_with fail
  refine HC.out.mono ?_
  rintro e w1 ⟨rfl, n1, rfl⟩
  have HK1 := Lib.hid (HKY.out (w.drewN n1))
  have HB2 : Hid (Below w.heap.size w ((w.drewN n1).alloc (.cells #[.string ⟨#[117, 110, 105, 116]⟩, .string ⟨#[107, 105, 110, 100]⟩, .string ⟨#[115, 105, 110, 99, 101]⟩, .string ⟨#[117, 110, 116, 105, 108]⟩, .string ⟨#[119, 111, 114, 100]⟩] 9))) := Lib.hid ((belowQ (Below.refl _ _) _).alloc (Nat.le_refl _) _)
  go_wp2_with fail
  refine HK1.out.mono ?_
  rintro e w2 ⟨rfl, hw2⟩
  rw [← hw2] at HB2
  clear hw2 HK1

  obtain ⟨uv, kv, hB1, hb, hu, hkk, D, hD, hmp, e0, e1, e2⟩ := HF.out.below HB2.out
  have HL := had_look hD K hKs s.h1 (by rw [HKL.out]; exact e1)
  rw [hhj] at HL
  have c5 : w2.cell? ⟨b, 5, none⟩ = some (.map (some mb)) := by rw [Lib.cell_of_heap hb]; rfl
  have HMP := Lib.hid (fun w' (h1 : w'.ownsMap Tryz.prog 9 (plainElem Tryz.prog 4) mb (n + 1) (D.put (.string K.data.toList) (.lit (.bool true)))) (h2 : w2.grownBy w' (some mb)) => FRm.mapped hB1 hb hu hkk hD h2 (had_put1 hmp e0 e1 e2 (by rw [← HKL.out]; exact h1)))
  have HB1 := Lib.hid hB1
  have HD := Lib.hid hD
  clear hb hu hkk hD hmp e0 e1 e2 hB1 hhj
  go_wp2_with (at_mapUpdate; refine wpList_mapUpdate_own _ rfl _ _ _ 40 rfl 9 4 strKey Tryz.underlying40 _ mb n D rfl HD.out (by unfold maxLen; omega) _ _ _ rfl rfl (WideMaps.keyOf_string_mk Tryz.underlying9 (s := K) (by unfold maxLen; omega)) _ [] (plainElem_bool Tryz.underlying4 true) ?_)
  intro w3 hown3 hgrow3
  obtain ⟨hb3, hf3⟩ := HMP.out w3 hown3 hgrow3
  have HZ3 := Lib.hid ((HB2.out.mono HB.out).trans hb3)
  have HF3 := Lib.hid hf3
  have HN := Lib.hid (number_any V w3 (by omega) (HE.out _ HZ3.out))
  clear hown3 hgrow3 hb3 hf3 HL c5
  rw [hnum] at HN
  simp only [numE] at HN
  clear hnum
  go_wp2_with fail
  refine HN.out.mono ?_
  rintro e w4 ⟨rfl, hb4⟩
  have HF4 := Lib.hid (HF3.out.below hb4)
  have HZ4 := Lib.hid (HZ3.out.trans (hb4.mono (Nat.le_trans HB.out HZ3.out.size)))
  clear hb4
  have HF5 : Hid (FRm B b mb (n + 1) ⟨⟨s.f.units, s.f.kinds, s.f.since, (m : Int), s.f.word⟩, s.h0, true, s.h2⟩ (w4.setCell ⟨b, 3, none⟩ (.int .i64 (m : Int)))) := Lib.hid (FRm.field 3 _ HF4.out rfl rfl rfl rfl rfl (fun _ _ => rfl))
  obtain ⟨uv5, kv5, _, hb5, _⟩ := HF4.out
  have hx : ∃ x, w4.cell? ⟨b, 3, none⟩ = some x := by rw [Lib.cell_of_heap hb5]; exact ⟨_, rfl⟩
  obtain ⟨x5, cx⟩ := hx
  have fx : w4.frozen? ⟨b, 3, none⟩ = false := Lib.frozen_of_heap hb5 3
  clear hb5
  go_wp2_with fail
  refine (HT.out _).mono ?_
  rintro e w5 ⟨rfl, rfl⟩
  go_wp2
  go_ret
  exact ⟨HZ4.out.setCell (p := ⟨b, 3, none⟩) HB1.out.1 _, rfl, HF5.out⟩
theorem fword_until (B b mb n : Nat) (s : Sp.PS) (l K V : ByteArray) (w : World) (hk : K.data.toList = Sp.kUntil) (HF : Hid (FRm B b mb n s w)) (HM : Hid (Sp.MayF s.f)) (HB : Hid (B ≤ w.heap.size)) (hn : n ≤ 1000) (hVs : V.size ≤ 1048576) (HE : Hid (EnvB B w)) (HC : Hid (Calls Tryz.prog 36 #[.string l, .string ⟨#[61]⟩] w fun e w' => e = .returned (.tuple #[.string K, .string V, .bool true]) ∧ ∃ n, w' = w.drewN n)) (HKY : Hid (∀ w : World, Calls Tryz.prog 26 #[.slice (some ⟨w.heap.size, 0, none⟩) 5 5, .string K] (w.alloc (.cells #[.string ⟨#[117, 110, 105, 116]⟩, .string ⟨#[107, 105, 110, 100]⟩, .string ⟨#[115, 105, 110, 99, 101]⟩, .string ⟨#[117, 110, 116, 105, 108]⟩, .string ⟨#[119, 111, 114, 100]⟩] 9)) fun e w' => e = .returned (.bool true) ∧ w' = (w.alloc (.cells #[.string ⟨#[117, 110, 105, 116]⟩, .string ⟨#[107, 105, 110, 100]⟩, .string ⟨#[115, 105, 110, 99, 101]⟩, .string ⟨#[117, 110, 116, 105, 108]⟩, .string ⟨#[119, 111, 114, 100]⟩] 9)))) :
    Calls Tryz.prog 12 #[.pointer (some ⟨b, 0, none⟩), .string l] w (StepR B b mb (n + 1) (Sp.stepT s V.data.toList) w) := by
  cases hhj : s.h1 with
  | true => exact fword_until_had B b mb n s l K V w hk HF HM HB hn hVs HE HC HKY hhj
  | false =>
    cases hnum : Sp.numS V.data.toList with
    | none => exact fword_until_none B b mb n s l K V w hk HF HM HB hn hVs HE HC HKY hhj hnum
    | some m =>
      cases htm : timeB (m : Int) with
      | false => exact fword_until_late B b mb n s l K V w hk HF HM HB hn hVs HE HC HKY m hhj hnum htm
      | true => exact fword_until_good B b mb n s l K V w hk HF HM HB hn hVs HE HC HKY m hhj hnum htm
set_option maxHeartbeats 16000000 in
set_option maxRecDepth 100000 in
theorem fword_word (B b mb n : Nat) (s : Sp.PS) (l K V : ByteArray) (w : World) (hk : K.data.toList = Sp.kWord) (HF : Hid (FRm B b mb n s w)) (HM : Hid (Sp.MayF s.f)) (HB : Hid (B ≤ w.heap.size)) (hn : n ≤ 1000) (hVs : V.size ≤ 1048576) (HE : Hid (EnvB B w)) (HC : Hid (Calls Tryz.prog 36 #[.string l, .string ⟨#[61]⟩] w fun e w' => e = .returned (.tuple #[.string K, .string V, .bool true]) ∧ ∃ n, w' = w.drewN n)) (HKY : Hid (∀ w : World, Calls Tryz.prog 26 #[.slice (some ⟨w.heap.size, 0, none⟩) 5 5, .string K] (w.alloc (.cells #[.string ⟨#[117, 110, 105, 116]⟩, .string ⟨#[107, 105, 110, 100]⟩, .string ⟨#[115, 105, 110, 99, 101]⟩, .string ⟨#[117, 110, 116, 105, 108]⟩, .string ⟨#[119, 111, 114, 100]⟩] 9)) fun e w' => e = .returned (.bool true) ∧ w' = (w.alloc (.cells #[.string ⟨#[117, 110, 105, 116]⟩, .string ⟨#[107, 105, 110, 100]⟩, .string ⟨#[115, 105, 110, 99, 101]⟩, .string ⟨#[117, 110, 116, 105, 108]⟩, .string ⟨#[119, 111, 114, 100]⟩] 9)))) :
    Calls Tryz.prog 12 #[.pointer (some ⟨b, 0, none⟩), .string l] w (StepR B b mb (n + 1) (Sp.stepW s V.data.toList) w) := by
  obtain ⟨o, hst⟩ : ∃ o, o = Sp.stepW s V.data.toList := ⟨_, rfl⟩
  rw [← hst]
  have r0 := And.intro hn (And.intro hVs (And.intro HM (And.intro HE (And.intro HKY (And.intro HC (And.intro HF HB))))))
  clear r0
  have tUnit : (K.toList == [117, 110, 105, 116]) = false := by rw [toL_is, hk]; decide
  have tKind : (K.toList == [107, 105, 110, 100]) = false := by rw [toL_is, hk]; decide
  have tWord : (K.toList == [119, 111, 114, 100]) = true := by rw [toL_is, hk]; decide
  have HKL : Hid ((Lit.string K.data.toList) = kW) := Lib.hid (by rw [hk]; rfl)
  have hKs : K.size ≤ 100 := by
    have h2 : K.data.toList.length = K.size := by simp
    rw [hk] at h2
    rw [← h2]; decide
  clear hk
  cases hhj : s.h2 with
  | true =>
    have e : o = .error 7 := by rw [hst, Sp.stepW, hhj]; rfl
    subst e
    clear hst
    go_enter Tryz.func12, Tryz.ntmps12
    go_wp2_with fail
    refine HC.out.mono ?_
    rintro e w1 ⟨rfl, n1, rfl⟩
    have HK1 := Lib.hid (HKY.out (w.drewN n1))
    have HB2 : Hid (Below w.heap.size w ((w.drewN n1).alloc (.cells #[.string ⟨#[117, 110, 105, 116]⟩, .string ⟨#[107, 105, 110, 100]⟩, .string ⟨#[115, 105, 110, 99, 101]⟩, .string ⟨#[117, 110, 116, 105, 108]⟩, .string ⟨#[119, 111, 114, 100]⟩] 9))) := Lib.hid ((belowQ (Below.refl _ _) _).alloc (Nat.le_refl _) _)
    go_wp2_with fail
    refine HK1.out.mono ?_
    rintro e w2 ⟨rfl, hw2⟩
    rw [← hw2] at HB2
    clear hw2 HK1

    obtain ⟨uv, kv, hB1, hb, hu, hkk, D, hD, hmp, e0, e1, e2⟩ := HF.out.below HB2.out
    have HL := had_look hD K hKs s.h2 (by rw [HKL.out]; exact e2)
    rw [hhj] at HL
    have c5 : w2.cell? ⟨b, 5, none⟩ = some (.map (some mb)) := by rw [Lib.cell_of_heap hb]; rfl
    clear hb hu hkk hD hmp e0 e1 e2
    go_wp2
    go_ret
    exact ⟨HB2.out.mono HB.out, rfl⟩
  | false =>
    obtain ⟨nn, nb, hnv⟩ : ∃ (nn : Int) (nb : Bool), numE (Sp.numS V.data.toList) = .tuple #[.int .i64 nn, .bool nb] := by
      cases Sp.numS V.data.toList with
      | none => exact ⟨_, _, rfl⟩
      | some m => exact ⟨_, _, rfl⟩
    cases hve : V.toList.isEmpty with
    | true =>
      have e : o = .error 12 := by
        have : V.data.toList = [] := by rw [Sp.empty_of V hve]
        rw [hst, Sp.stepW, hhj, if_neg (by decide), if_pos (.inl this)]
      subst e
      clear hst
      go_enter Tryz.func12, Tryz.ntmps12
      go_wp2_with fail
      refine HC.out.mono ?_
      rintro e w1 ⟨rfl, n1, rfl⟩
      have HK1 := Lib.hid (HKY.out (w.drewN n1))
      have HB2 : Hid (Below w.heap.size w ((w.drewN n1).alloc (.cells #[.string ⟨#[117, 110, 105, 116]⟩, .string ⟨#[107, 105, 110, 100]⟩, .string ⟨#[115, 105, 110, 99, 101]⟩, .string ⟨#[117, 110, 116, 105, 108]⟩, .string ⟨#[119, 111, 114, 100]⟩] 9))) := Lib.hid ((belowQ (Below.refl _ _) _).alloc (Nat.le_refl _) _)
      go_wp2_with fail
      refine HK1.out.mono ?_
      rintro e w2 ⟨rfl, hw2⟩
      rw [← hw2] at HB2
      clear hw2 HK1

      obtain ⟨uv, kv, hB1, hb, hu, hkk, D, hD, hmp, e0, e1, e2⟩ := HF.out.below HB2.out
      have HL := had_look hD K hKs s.h2 (by rw [HKL.out]; exact e2)
      rw [hhj] at HL
      have c5 : w2.cell? ⟨b, 5, none⟩ = some (.map (some mb)) := by rw [Lib.cell_of_heap hb]; rfl
      have HMP := Lib.hid (fun w' (h1 : w'.ownsMap Tryz.prog 9 (plainElem Tryz.prog 4) mb (n + 1) (D.put (.string K.data.toList) (.lit (.bool true)))) (h2 : w2.grownBy w' (some mb)) => FRm.mapped hB1 hb hu hkk hD h2 (had_put2 hmp e0 e1 e2 (by rw [← HKL.out]; exact h1)))
      have HB1 := Lib.hid hB1
      have HD := Lib.hid hD
      clear hb hu hkk hD hmp e0 e1 e2 hB1 hhj
      go_wp2_with (at_mapUpdate; refine wpList_mapUpdate_own _ rfl _ _ _ 40 rfl 9 4 strKey Tryz.underlying40 _ mb n D rfl HD.out (by unfold maxLen; omega) _ _ _ rfl rfl (WideMaps.keyOf_string_mk Tryz.underlying9 (s := K) (by unfold maxLen; omega)) _ [] (plainElem_bool Tryz.underlying4 true) ?_)
      intro w3 hown3 hgrow3
      obtain ⟨hb3, hf3⟩ := HMP.out w3 hown3 hgrow3
      have HZ3 := Lib.hid ((HB2.out.mono HB.out).trans hb3)
      have HF3 := Lib.hid hf3
      have HN := Lib.hid (number_any V w3 (by omega) (HE.out _ HZ3.out))
      clear hown3 hgrow3 hb3 hf3 HL c5
      rw [hnv] at HN
      clear hnv
      go_wp2_with fail
      refine HN.out.mono ?_
      rintro e w4 ⟨rfl, hb4⟩
      have HF4 := Lib.hid (HF3.out.below hb4)
      have HZ4 := Lib.hid (HZ3.out.trans (hb4.mono (Nat.le_trans HB.out HZ3.out.size)))
      clear hb4
      go_wp2
      go_ret
      exact ⟨HZ4.out, rfl⟩
    | false =>
      have HCL := Lib.hid (fun W => cleanm_any V 100 W (by omega))
      have hwb : Sp.wordB (Sp.toB V.data.toList) = (cleanL V.data.toList && decide (V.size ≤ 100)) := by rw [Sp.toB_of]; rfl
      have hvn : V.data.toList ≠ [] := fun e => by rw [Lib.toList_data, e] at hve; cases hve
      cases hcl : (cleanL V.data.toList && decide (V.size ≤ 100)) with
      | false =>
        have e : o = .error 12 := by rw [hst, Sp.stepW, hhj, if_neg (by decide), if_pos (.inr (hwb.trans hcl))]
        subst e
        rw [hcl] at HCL
        clear hst hwb hvn hcl
        go_enter Tryz.func12, Tryz.ntmps12
        go_wp2_with fail
        refine HC.out.mono ?_
        rintro e w1 ⟨rfl, n1, rfl⟩
        have HK1 := Lib.hid (HKY.out (w.drewN n1))
        have HB2 : Hid (Below w.heap.size w ((w.drewN n1).alloc (.cells #[.string ⟨#[117, 110, 105, 116]⟩, .string ⟨#[107, 105, 110, 100]⟩, .string ⟨#[115, 105, 110, 99, 101]⟩, .string ⟨#[117, 110, 116, 105, 108]⟩, .string ⟨#[119, 111, 114, 100]⟩] 9))) := Lib.hid ((belowQ (Below.refl _ _) _).alloc (Nat.le_refl _) _)
        go_wp2_with fail
        refine HK1.out.mono ?_
        rintro e w2 ⟨rfl, hw2⟩
        rw [← hw2] at HB2
        clear hw2 HK1

        obtain ⟨uv, kv, hB1, hb, hu, hkk, D, hD, hmp, e0, e1, e2⟩ := HF.out.below HB2.out
        have HL := had_look hD K hKs s.h2 (by rw [HKL.out]; exact e2)
        rw [hhj] at HL
        have c5 : w2.cell? ⟨b, 5, none⟩ = some (.map (some mb)) := by rw [Lib.cell_of_heap hb]; rfl
        have HMP := Lib.hid (fun w' (h1 : w'.ownsMap Tryz.prog 9 (plainElem Tryz.prog 4) mb (n + 1) (D.put (.string K.data.toList) (.lit (.bool true)))) (h2 : w2.grownBy w' (some mb)) => FRm.mapped hB1 hb hu hkk hD h2 (had_put2 hmp e0 e1 e2 (by rw [← HKL.out]; exact h1)))
        have HB1 := Lib.hid hB1
        have HD := Lib.hid hD
        clear hb hu hkk hD hmp e0 e1 e2 hB1 hhj
        go_wp2_with (at_mapUpdate; refine wpList_mapUpdate_own _ rfl _ _ _ 40 rfl 9 4 strKey Tryz.underlying40 _ mb n D rfl HD.out (by unfold maxLen; omega) _ _ _ rfl rfl (WideMaps.keyOf_string_mk Tryz.underlying9 (s := K) (by unfold maxLen; omega)) _ [] (plainElem_bool Tryz.underlying4 true) ?_)
        intro w3 hown3 hgrow3
        obtain ⟨hb3, hf3⟩ := HMP.out w3 hown3 hgrow3
        have HZ3 := Lib.hid ((HB2.out.mono HB.out).trans hb3)
        have HF3 := Lib.hid hf3
        have HN := Lib.hid (number_any V w3 (by omega) (HE.out _ HZ3.out))
        clear hown3 hgrow3 hb3 hf3 HL c5
        rw [hnv] at HN
        clear hnv
        go_wp2_with fail
        refine HN.out.mono ?_
        rintro e w4 ⟨rfl, hb4⟩
        have HF4 := Lib.hid (HF3.out.below hb4)
        have HZ4 := Lib.hid (HZ3.out.trans (hb4.mono (Nat.le_trans HB.out HZ3.out.size)))
        clear hb4
        go_wp2_with fail
        refine (HCL.out _).mono ?_
        rintro e w5 ⟨rfl, rfl⟩
        go_wp2
        go_ret
        exact ⟨HZ4.out, rfl⟩
      | true =>
        have e : o = .ok ⟨⟨s.f.units, s.f.kinds, s.f.since, s.f.till, V⟩, s.h0, s.h1, true⟩ := by rw [hst, Sp.stepW, hhj, if_neg (by decide), if_neg (by rintro (e | e); exact hvn e; rw [hwb, hcl] at e; cases e), Sp.toB_of]
        subst e
        rw [hcl] at HCL
        clear hst hwb hvn hcl
        go_enter Tryz.func12, Tryz.ntmps12
        go_wp2_with fail
        refine HC.out.mono ?_
        rintro e w1 ⟨rfl, n1, rfl⟩
        have HK1 := Lib.hid (HKY.out (w.drewN n1))
        have HB2 : Hid (Below w.heap.size w ((w.drewN n1).alloc (.cells #[.string ⟨#[117, 110, 105, 116]⟩, .string ⟨#[107, 105, 110, 100]⟩, .string ⟨#[115, 105, 110, 99, 101]⟩, .string ⟨#[117, 110, 116, 105, 108]⟩, .string ⟨#[119, 111, 114, 100]⟩] 9))) := Lib.hid ((belowQ (Below.refl _ _) _).alloc (Nat.le_refl _) _)
        go_wp2_with fail
        refine HK1.out.mono ?_
        rintro e w2 ⟨rfl, hw2⟩
        rw [← hw2] at HB2
        clear hw2 HK1

        obtain ⟨uv, kv, hB1, hb, hu, hkk, D, hD, hmp, e0, e1, e2⟩ := HF.out.below HB2.out
        have HL := had_look hD K hKs s.h2 (by rw [HKL.out]; exact e2)
        rw [hhj] at HL
        have c5 : w2.cell? ⟨b, 5, none⟩ = some (.map (some mb)) := by rw [Lib.cell_of_heap hb]; rfl
        have HMP := Lib.hid (fun w' (h1 : w'.ownsMap Tryz.prog 9 (plainElem Tryz.prog 4) mb (n + 1) (D.put (.string K.data.toList) (.lit (.bool true)))) (h2 : w2.grownBy w' (some mb)) => FRm.mapped hB1 hb hu hkk hD h2 (had_put2 hmp e0 e1 e2 (by rw [← HKL.out]; exact h1)))
        have HB1 := Lib.hid hB1
        have HD := Lib.hid hD
        clear hb hu hkk hD hmp e0 e1 e2 hB1 hhj
        go_wp2_with (at_mapUpdate; refine wpList_mapUpdate_own _ rfl _ _ _ 40 rfl 9 4 strKey Tryz.underlying40 _ mb n D rfl HD.out (by unfold maxLen; omega) _ _ _ rfl rfl (WideMaps.keyOf_string_mk Tryz.underlying9 (s := K) (by unfold maxLen; omega)) _ [] (plainElem_bool Tryz.underlying4 true) ?_)
        intro w3 hown3 hgrow3
        obtain ⟨hb3, hf3⟩ := HMP.out w3 hown3 hgrow3
        have HZ3 := Lib.hid ((HB2.out.mono HB.out).trans hb3)
        have HF3 := Lib.hid hf3
        have HN := Lib.hid (number_any V w3 (by omega) (HE.out _ HZ3.out))
        clear hown3 hgrow3 hb3 hf3 HL c5
        rw [hnv] at HN
        clear hnv
        go_wp2_with fail
        refine HN.out.mono ?_
        rintro e w4 ⟨rfl, hb4⟩
        have HF4 := Lib.hid (HF3.out.below hb4)
        have HZ4 := Lib.hid (HZ3.out.trans (hb4.mono (Nat.le_trans HB.out HZ3.out.size)))
        clear hb4
        have HF5 : Hid (FRm B b mb (n + 1) ⟨⟨s.f.units, s.f.kinds, s.f.since, s.f.till, V⟩, s.h0, s.h1, true⟩ (w4.setCell ⟨b, 4, none⟩ (.string V))) := Lib.hid (FRm.field 4 _ HF4.out rfl rfl rfl rfl rfl (fun _ _ => rfl))
        obtain ⟨uv5, kv5, _, hb5, _⟩ := HF4.out
        have hx : ∃ x, w4.cell? ⟨b, 4, none⟩ = some x := by rw [Lib.cell_of_heap hb5]; exact ⟨_, rfl⟩
        obtain ⟨x5, cx⟩ := hx
        have fx : w4.frozen? ⟨b, 4, none⟩ = false := Lib.frozen_of_heap hb5 4
        clear hb5
        go_wp2_with fail
        refine (HCL.out _).mono ?_
        rintro e w5 ⟨rfl, rfl⟩
        go_wp2
        go_ret
        exact ⟨HZ4.out.setCell (p := ⟨b, 4, none⟩) HB1.out.1 _, rfl, HF5.out⟩
set_option maxHeartbeats 16000000 in
set_option maxRecDepth 100000 in
theorem fword_any (B b mb n : Nat) (s : Sp.PS) (l : ByteArray) (w : World) (h : FRm B b mb n s w) (hm : Sp.MayF s.f) (hB : B ≤ w.heap.size) (hl : l.size ≤ 1048576) (hn : n ≤ 1000) (E : EnvB B w) :
    Calls Tryz.prog 12 #[.pointer (some ⟨b, 0, none⟩), .string l] w (StepR B b mb (n + 1) (Sp.wordP s l.data.toList) w) := by
  have hsz : l.data.toList.length = l.size := by simp
  obtain ⟨K, hK⟩ : ∃ K : ByteArray, K = ⟨(Sp.cutC 61 l.data.toList).1.toArray⟩ := ⟨_, rfl⟩
  obtain ⟨V, hV⟩ : ∃ V : ByteArray, V = ⟨(Sp.cutC 61 l.data.toList).2.1.toArray⟩ := ⟨_, rfl⟩
  obtain ⟨has, hH⟩ : ∃ x : Bool, x = (Sp.cutC 61 l.data.toList).2.2 := ⟨_, rfl⟩
  have hKl : K.data.toList = (Sp.cutC 61 l.data.toList).1 := by rw [hK]
  have hVl : V.data.toList = (Sp.cutC 61 l.data.toList).2.1 := by rw [hV]
  have hVs : V.size ≤ 1048576 := by
    have h1 := cutC_short 61 l.data.toList
    have h2 : V.data.toList.length = V.size := by simp
    rw [hVl] at h2
    omega
  have HC : Hid (Calls Tryz.prog 36 #[.string l, .string ⟨#[61]⟩] w fun e w' => e = .returned (.tuple #[.string K, .string V, .bool has]) ∧ ∃ n, w' = w.drewN n) := Lib.hid (by
    obtain ⟨m, hm⟩ := (E.here _ (Below.refl _ _)).max
    have hc := Tryz.strings_Cut l ⟨#[61]⟩ m w (by omega) hm
    rw [show (⟨#[61]⟩ : ByteArray).data.toList = [61] from rfl, Sp.cutC_index, ← hK, ← hV, ← hH] at hc
    exact hc)
  have HO : Hid (Sp.wordP s l.data.toList = Sp.stepP s K.data.toList V.data.toList has) := Lib.hid (by rw [Sp.wordP, hKl, hVl, hH])
  generalize Sp.wordP s l.data.toList = o at *
  have HF := Lib.hid h
  have HM := Lib.hid hm
  have HE := Lib.hid E
  have HB := Lib.hid hB
  clear hsz hK hV hH hKl hVl hl h hm E hB
  cases has with
  | false =>
    have e : o = .error 11 := by rw [HO.out]; rfl
    subst e
    go_enter Tryz.func12, Tryz.ntmps12
    go_wp2_with fail
    refine HC.out.mono ?_
    rintro e w1 ⟨rfl, n1, rfl⟩
    go_wp2
    go_ret
    exact ⟨belowQ (Below.refl _ _) _, rfl⟩
  | true =>
    have HKY := Lib.hid (fun W => fkeys_any K W)
    cases hky : Sp.isKey K.data.toList with
    | false =>
      have e : o = .error 11 := by
        unfold Sp.isKey at hky
        simp only [Bool.or_eq_false_iff, decide_eq_false_iff_not] at hky
        obtain ⟨g1, g2, g3, g4, g5⟩ := hky
        rw [HO.out, Sp.stepP, if_neg (by decide), if_neg g1, if_neg g2, if_neg g3, if_neg g4, if_neg g5]
      subst e
      rw [hky] at HKY
      clear hky
      go_enter Tryz.func12, Tryz.ntmps12
      go_wp2_with fail
      refine HC.out.mono ?_
      rintro e w1 ⟨rfl, n1, rfl⟩
      have HK1 := Lib.hid (HKY.out (w.drewN n1))
      go_wp2_with fail
      refine HK1.out.mono ?_
      rintro e w2 ⟨rfl, rfl⟩
      go_wp2
      go_ret
      exact ⟨(belowQ (Below.refl _ _) _).alloc HB.out _, rfl⟩
    | true =>
      rw [hky] at HKY
      unfold Sp.isKey at hky
      simp only [Bool.or_eq_true, decide_eq_true_eq] at hky

      rcases hky with hk | hk | hk | hk | hk
      · rw [HO.out, Sp.stepP, if_neg (by decide), if_pos hk]
        exact fword_unit B b mb n s l K V w hk HF HM HB hn hVs HE HC HKY
      · rw [HO.out, Sp.stepP, if_neg (by decide), if_neg (by rw [hk]; decide), if_pos hk]
        exact fword_kind B b mb n s l K V w hk HF HM HB hn hVs HE HC HKY
      · rw [HO.out, Sp.stepP, if_neg (by decide), if_neg (by rw [hk]; decide), if_neg (by rw [hk]; decide), if_pos hk]
        exact fword_since B b mb n s l K V w hk HF HM HB hn hVs HE HC HKY
      · rw [HO.out, Sp.stepP, if_neg (by decide), if_neg (by rw [hk]; decide), if_neg (by rw [hk]; decide), if_neg (by rw [hk]; decide), if_pos hk]
        exact fword_until B b mb n s l K V w hk HF HM HB hn hVs HE HC HKY
      · rw [HO.out, Sp.stepP, if_neg (by decide), if_neg (by rw [hk]; decide), if_neg (by rw [hk]; decide), if_neg (by rw [hk]; decide), if_neg (by rw [hk]; decide), if_pos hk]
        exact fword_word B b mb n s l K V w hk HF HM HB hn hVs HE HC HKY

end Go.Proofs.YtijfeeiplljnjaaGreatDoor
