/-
  The walks of a row's text and of its cursor, the program's and the reference's.
-/
import Derived.Test.YtkgogenmhiclcaaGreatDoorRc
import Derived.Test.YtkgogenmhiclcaaGreatDoorMem
import Derived.Deep.RegionLaw
import Derived.Deep.RegionHeld3
import Derived.Deep.DeepCutAuto
namespace Go.Proofs.YtkgogenmhiclcaaGreatDoor
open Go.RowKit

theorem Rd.fresh (w : World) (xs : Array Value) (t : TypeId) (n size : Nat) (h : xs.size = n * size) : Rd (w.alloc (.cells xs t)) (w.heap.size + 1) size (some ⟨w.heap.size, 0, none⟩) n xs.toList := by
  refine ⟨by simpa using h, fun _ => ⟨_, rfl, by simp, ?_⟩⟩
  intro j u hu
  rw [Array.getElem?_toList] at hu
  by_cases hj : j = 0
  · subst hj; simpa [Addr.add] using hu
  · simpa [Addr.add, hj] using hu
theorem dataApp (a b : ByteArray) : (a ++ b).data.toList = a.data.toList ++ b.data.toList := by rw [ByteArray.data_append]; simp
/-- the next world: what lay there lies there -/
structure Nxt (W W' : World) : Prop where
  out : Below W.heap.size W W'
theorem Rd.nxt {W W' : World} {size n : Nat} {A : Option Addr} {xs : List Value} (h : Nxt W W') (hr : Rd W W.heap.size size A n xs) : Rd W' W'.heap.size size A n xs := (Rd.below hr h.out).more h.out.size
theorem Rd.nxtAlloc {W : World} {o : Obj} {size n : Nat} {A : Option Addr} {xs : List Value} (hr : Rd W W.heap.size size A n xs) : Rd (W.alloc o) (W.alloc o).heap.size size A n xs := (hr.alloc (Nat.le_refl _) o).more (by simp)
theorem Rd.newRow {W : World} {cs : Array Value} {t : TypeId} {n b : Nat} (hb : b = W.heap.size) (h : cs.size = n * 1) : Rd (W.alloc (.cells cs t)) (W.alloc (.cells cs t)).heap.size 1 (some ⟨b, 0, none⟩) n cs.toList := by
  subst hb
  have := Rd.fresh W cs t n 1 (by omega)
  rwa [← World.size_alloc W (.cells cs t)] at this
theorem since_more {W0 W W' : World} (h : Below W0.heap.size W0 W) (hb : Below W.heap.size W W') : Below W0.heap.size W0 W' := h.trans (hb.mono h.size)
theorem since_alloc {W0 W : World} (h : Below W0.heap.size W0 W) (o : Obj) : Below W0.heap.size W0 (W.alloc o) := h.alloc h.size o
theorem since_drew {W0 W : World} (h : Below W0.heap.size W0 W) : Below W0.heap.size W0 W.drew := h.drew

theorem join5 (W : World) (b : Nat) (A B C D T : ByteArray) (hr : Rd W W.heap.size 1 (some ⟨b, 0, none⟩) 5 [.string A, .string B, .string C, .string D, .string T])
    (hA : A.size ≤ 1000000) (hB : B.size ≤ 1000000) (hC : C.size ≤ 1000000) (hD : D.size ≤ 1000000) (hT : T.size ≤ 1000000) :
    Calls Tryz.prog 45 #[.slice (some ⟨b, 0, none⟩) 5 5, .string ⟨#[32]⟩] W fun e w' => e = .returned (.string (Sp.toB (A.data.toList ++ 32 :: (B.data.toList ++ 32 :: (C.data.toList ++ 32 :: (D.data.toList ++ 32 :: T.data.toList)))))) ∧ Below W.heap.size W w' := by
  obtain ⟨ad, had, hlt, hc⟩ := hr.2 (by omega)
  injection had with had
  subst had
  have hcells : ∀ (j : Nat) x, [A, B, C, D, T][j]? = some x → W.cell? ⟨b, 0 + j, none⟩ = some (.string x) := by
    intro j x hx
    have h2 : [Value.string A, .string B, .string C, .string D, .string T][j]? = some (.string x) := by
      have : [Value.string A, .string B, .string C, .string D, .string T] = [A, B, C, D, T].map Value.string := rfl
      rw [this, List.getElem?_map, hx]
      rfl
    have := hc j _ h2
    by_cases hj : j = 0
    · subst hj; simpa [Addr.add] using this
    · simpa [Addr.add, hj] using this
  have e : Lib.join ([A, B, C, D, T].map (·.data.toList)) (⟨#[32]⟩ : ByteArray).data.toList = A.data.toList ++ 32 :: (B.data.toList ++ 32 :: (C.data.toList ++ 32 :: (D.data.toList ++ 32 :: T.data.toList))) := by
    simp [Lib.join, List.intercalate, List.intersperse]
  have := Tryz.strings_Join b 0 5 [A, B, C, D, T] ⟨#[32]⟩ W hcells hlt (by simp) (by simp) (by
    rw [e]
    have z : ∀ x : ByteArray, x.data.toList.length = x.size := fun x => by simp
    simp only [List.length_append, List.length_cons, z]
    omega)
  rw [e] at this
  exact this
theorem itoaB_any (n : Int) (w : World) (h0 : 0 ≤ n) (h1 : n ≤ 9223372036854775807) (E : Env w) :
    Calls Tryz.prog 46 #[.int .i64 n] w fun e w' => e = .returned (.string (Sp.toB (Sp.decI n))) ∧ Below w.heap.size w w' := itoa_any n w h0 h1 E

theorem decB_any (n : Int) (w : World) (h0 : 0 ≤ n) (h1 : n ≤ 6311433600) :
    Calls Tryz.prog 48 #[.int .i64 n] w fun e w' => e = .returned (.string (Sp.toB (Sp.decI n))) ∧ w = w' := dec_as n n.toNat (by omega) (by omega) w

theorem toB_size (l : List UInt8) : (Sp.toB l).size = l.length := by simp [Sp.toB, ByteArray.size]
theorem decB_size (n : Int) (h0 : 0 ≤ n) (h1 : n < 10000000000) : (Sp.toB (Sp.decI n)).size ≤ 10 := by
  rw [toB_size]
  exact Sp.dec_len _ (by omega)
theorem unitW_size (u : ByteArray) (h : u = ⟨#[]⟩ ∨ (¬ u.toList.isEmpty = true ∧ Sp.mayL u.data.toList = true)) : (unitW u).size ≤ 60 := by
  rcases h with rfl | ⟨h1, h2⟩
  · have e : unitW ⟨#[]⟩ = ⟨#[45]⟩ := by rw [unitW, if_pos (by rw [Sp.bytes_list]; rfl)]
    rw [e]
    decide
  · have e : unitW u = u := by rw [unitW, if_neg h1]
    rw [e]
    have := Sp.mayL_len _ h2
    simpa using this
theorem toB_app (a b : List UInt8) : Sp.toB (a ++ b) = Sp.toB a ++ Sp.toB b := by
  apply WideShapes.bytes_inj
  rw [dataApp, Sp.toB_list, Sp.toB_list, Sp.toB_list]

set_option maxRecDepth 100000 in
set_option maxHeartbeats 8000000 in
theorem print_any (r : RowD) (w : World) (hu : r.unit.size ≤ 140737488355328) (hx : r.text.size ≤ 140737488355328) (E : Env w) :
    Calls Tryz.prog 30 #[rowV r] w fun e w' => e = .returned (.string (Sp.toB (Sp.printR r))) ∧ Below w.heap.size w w' := by
  have HM := Lib.hid (fun w => mayrow_any r w hu hx)
  have HP := Lib.hid (fun h => Sp.mayRow_parts r h)
  have HX0 : Hid (∀ b, mayRowB r = b → Sp.printR r = if b then Sp.textL r else []) := Lib.hid fun b hb => by rw [Sp.printR, hb]
  generalize hm : mayRowB r = may at *
  obtain ⟨ti, un, n, kd, tx⟩ := r
  have HX := Lib.hid (HX0.out may rfl)
  show Calls Tryz.prog 30 #[.agg #[.int .i64 ti, .string un, .int .i64 n, .int .i64 kd, .string tx]] w fun e w' => e = .returned (.string (Sp.toB (Sp.printR ⟨ti, un, n, kd, tx⟩))) ∧ Below w.heap.size w w'
  rw [HX.out]
  have hb : Below w.heap.size w (w.alloc (.cells #[.int .i64 ti, .string un, .int .i64 n, .int .i64 kd, .string tx] 37)) := (Below.refl _ _).alloc (Nat.le_refl _) _
  have HK : Hid (∀ w1, Below (w.alloc (.cells #[.int .i64 ti, .string un, .int .i64 n, .int .i64 kd, .string tx] 37)).heap.size (w.alloc (.cells #[.int .i64 ti, .string un, .int .i64 n, .int .i64 kd, .string tx] 37)) w1 → Below w.heap.size w w1 ∧ w1.cell? ⟨w.heap.size, 0, none⟩ = some (.int .i64 ti) ∧ w1.cell? ⟨w.heap.size, 1, none⟩ = some (.string un) ∧ w1.cell? ⟨w.heap.size, 2, none⟩ = some (.int .i64 n) ∧ w1.cell? ⟨w.heap.size, 3, none⟩ = some (.int .i64 kd) ∧ w1.cell? ⟨w.heap.size, 4, none⟩ = some (.string tx)) := Lib.hid fun w1 hw => by
    refine ⟨hb.trans (hw.mono (by simp)), ?_, ?_, ?_, ?_, ?_⟩
    · rw [hw.cell (p := ⟨w.heap.size, 0, none⟩) (by simp)]; simp
    · rw [hw.cell (p := ⟨w.heap.size, 1, none⟩) (by simp)]; simp
    · rw [hw.cell (p := ⟨w.heap.size, 2, none⟩) (by simp)]; simp
    · rw [hw.cell (p := ⟨w.heap.size, 3, none⟩) (by simp)]; simp
    · rw [hw.cell (p := ⟨w.heap.size, 4, none⟩) (by simp)]; simp
  clear hb HX HX0 hu hx hm
  cases may with
  | false =>
    go_enter Tryz.func30, Tryz.ntmps30
    go_wp2_with fail
    refine (HM.out _).mono ?_
    rintro e w1 ⟨rfl, hb1⟩
    obtain ⟨hf, c0, c1, c2, c3, c4⟩ := HK.out _ hb1
    clear hb1 HK
    go_wp2
    go_ret
    exact ⟨rfl, hf⟩
  | true =>
    obtain ⟨p1, p2, p3, p4, p5, p6, p7, p8, p9⟩ := HP.out rfl
    dsimp only at p1 p2 p3 p4 p5 p6 p7 p8 p9
    have z1 := decB_size ti p1 (by omega)
    have z2 := unitW_size un p3
    have z3 := decB_size n (by omega) (by omega)
    have z4 := decB_size kd (by omega) (by omega)
    have ET : Hid (Sp.toB ((Sp.toB (Sp.decI ti)).data.toList ++ 32 :: ((unitW un).data.toList ++ 32 :: ((Sp.toB (Sp.decI n)).data.toList ++ 32 :: ((Sp.toB (Sp.decI kd)).data.toList ++ 32 :: tx.data.toList)))) = Sp.toB (Sp.textL ⟨ti, un, n, kd, tx⟩)) := Lib.hid (by
      apply WideShapes.bytes_inj
      simp only [Sp.toB_list, Sp.textL])
    rw [if_pos rfl, ← ET.out]
    have HDT := Lib.hid (fun W => itoaB_any ti W p1 (by omega))
    have HDN := Lib.hid (fun W => itoaB_any n W (by omega) (by omega))
    have HDK := Lib.hid (fun W => itoaB_any kd W (by omega) (by omega))
    have HU := Lib.hid (fun W => unit_any un W)
    clear HP ET
    generalize Sp.toB (Sp.decI ti) = dt at *
    generalize Sp.toB (Sp.decI n) = dn at *
    generalize Sp.toB (Sp.decI kd) = dk at *
    generalize unitW un = du at *
    go_enter Tryz.func30, Tryz.ntmps30
    go_wp2_with fail
    refine (HM.out _).mono ?_
    rintro e w1 ⟨rfl, hb1⟩
    have hf := (HK.out _ hb1).1
    have k0 : ∀ W, Below w1.heap.size w1 W → W.cell? ⟨w.heap.size, 0, none⟩ = some (.int .i64 ti) := fun W hW => (HK.out W (hb1.trans (hW.mono hb1.size))).2.1
    have k1 : ∀ W, Below w1.heap.size w1 W → W.cell? ⟨w.heap.size, 1, none⟩ = some (.string un) := fun W hW => (HK.out W (hb1.trans (hW.mono hb1.size))).2.2.1
    have k2 : ∀ W, Below w1.heap.size w1 W → W.cell? ⟨w.heap.size, 2, none⟩ = some (.int .i64 n) := fun W hW => (HK.out W (hb1.trans (hW.mono hb1.size))).2.2.2.1
    have k3 : ∀ W, Below w1.heap.size w1 W → W.cell? ⟨w.heap.size, 3, none⟩ = some (.int .i64 kd) := fun W hW => (HK.out W (hb1.trans (hW.mono hb1.size))).2.2.2.2.1
    have k4 : ∀ W, Below w1.heap.size w1 W → W.cell? ⟨w.heap.size, 4, none⟩ = some (.string tx) := fun W hW => (HK.out W (hb1.trans (hW.mono hb1.size))).2.2.2.2.2
    have HE : Hid (∀ W, Below w1.heap.size w1 W → Env W) := Lib.hid fun W hW => (E.on hf).on hW
    have hq : Below w1.heap.size w1 w1.drew := (Below.refl _ _).drew
    have HF := Lib.hid (fun W (hW : Below w1.heap.size w1 W) => hf.trans (hW.mono hf.size))
    clear hb1 HK hf
    have HJ := Lib.hid (fun W b hr => join5 W b dt du dn dk tx hr (by omega) (by omega) (by omega) (by omega) (by omega))
    go_upto_region 3 with fail
    go_region_held3 (fun W => Below w1.heap.size w1 W) (first | assumption | exact since_alloc (by assumption) _) (first | (go_at_call_of 46 (Value.int .i64 ti); refine Calls.mono (HDT.out _ (HE.out _ ?_)) ?_; (focus assumption); rintro e wa ⟨rfl, hba⟩; have qa := since_more (by assumption) hba; have na : Nxt _ wa := ⟨hba⟩; clear hba) | (go_at_call_of 46 (Value.int .i64 n); refine Calls.mono (HDN.out _ (HE.out _ ?_)) ?_; (focus assumption); rintro e wb ⟨rfl, hbb⟩; have qb := since_more (by assumption) hbb; have nb : Nxt _ wb := ⟨hbb⟩; clear hbb) | (go_at_call_of 46 (Value.int .i64 kd); refine Calls.mono (HDK.out _ (HE.out _ ?_)) ?_; (focus assumption); rintro e wc ⟨rfl, hbc⟩; have qc := since_more (by assumption) hbc; have nc : Nxt _ wc := ⟨hbc⟩; clear hbc) | (go_at_call 47; refine (HU.out _).mono ?_; rintro e wu ⟨rfl, rfl⟩) | (go_at_call 45; refine (HJ.out _ _ ?_).mono ?_; (focus ((repeat' (first | (refine Rd.newRow ?_ rfl; (first | (focus rfl) | (focus (simp only [World.size_alloc]; done)))) | refine Rd.nxtAlloc ?_ | (apply Rd.nxt; (focus assumption)))) <;> fail)); rintro e wd ⟨rfl, hbd⟩; have qd := since_more (by assumption) hbd; clear hbd))
    all_goals
      go_wp2
      go_ret
      refine ⟨rfl, HF.out _ ?_⟩
      first | assumption | exact since_drew (by assumption) | exact since_alloc (by assumption) _

set_option maxRecDepth 100000 in
set_option maxHeartbeats 8000000 in
theorem cursor_any (r : RowD) (w : World) (hu : r.unit.size ≤ 140737488355328) (hx : r.text.size ≤ 140737488355328) (E : Env w) :
    Calls Tryz.prog 34 #[rowV r] w fun e w' => e = .returned (.string (Sp.toB (Sp.cursorR r))) ∧ Below w.heap.size w w' := by
  have HM := Lib.hid (fun w => mayrow_any r w hu hx)
  have HP := Lib.hid (fun h => Sp.mayRow_parts r h)
  have HX0 : Hid (∀ b, mayRowB r = b → Sp.cursorR r = if b then Sp.cursL r else []) := Lib.hid fun b hb => by rw [Sp.cursorR, hb]
  generalize hm : mayRowB r = may at *
  obtain ⟨ti, un, n, kd, tx⟩ := r
  have HX := Lib.hid (HX0.out may rfl)
  show Calls Tryz.prog 34 #[.agg #[.int .i64 ti, .string un, .int .i64 n, .int .i64 kd, .string tx]] w fun e w' => e = .returned (.string (Sp.toB (Sp.cursorR ⟨ti, un, n, kd, tx⟩))) ∧ Below w.heap.size w w'
  rw [HX.out]
  have hb : Below w.heap.size w (w.alloc (.cells #[.int .i64 ti, .string un, .int .i64 n, .int .i64 kd, .string tx] 37)) := (Below.refl _ _).alloc (Nat.le_refl _) _
  have HK : Hid (∀ w1, Below (w.alloc (.cells #[.int .i64 ti, .string un, .int .i64 n, .int .i64 kd, .string tx] 37)).heap.size (w.alloc (.cells #[.int .i64 ti, .string un, .int .i64 n, .int .i64 kd, .string tx] 37)) w1 → Below w.heap.size w w1 ∧ w1.cell? ⟨w.heap.size, 0, none⟩ = some (.int .i64 ti) ∧ w1.cell? ⟨w.heap.size, 1, none⟩ = some (.string un) ∧ w1.cell? ⟨w.heap.size, 2, none⟩ = some (.int .i64 n) ∧ w1.cell? ⟨w.heap.size, 3, none⟩ = some (.int .i64 kd) ∧ w1.cell? ⟨w.heap.size, 4, none⟩ = some (.string tx)) := Lib.hid fun w1 hw => by
    refine ⟨hb.trans (hw.mono (by simp)), ?_, ?_, ?_, ?_, ?_⟩
    · rw [hw.cell (p := ⟨w.heap.size, 0, none⟩) (by simp)]; simp
    · rw [hw.cell (p := ⟨w.heap.size, 1, none⟩) (by simp)]; simp
    · rw [hw.cell (p := ⟨w.heap.size, 2, none⟩) (by simp)]; simp
    · rw [hw.cell (p := ⟨w.heap.size, 3, none⟩) (by simp)]; simp
    · rw [hw.cell (p := ⟨w.heap.size, 4, none⟩) (by simp)]; simp
  clear hb HX HX0 hu hx hm
  cases may with
  | false =>
    go_enter Tryz.func34, Tryz.ntmps34
    go_wp2_with fail
    refine (HM.out _).mono ?_
    rintro e w1 ⟨rfl, hb1⟩
    obtain ⟨hf, c0, c1, c2, c3, c4⟩ := HK.out _ hb1
    clear hb1 HK
    go_wp2
    go_ret
    exact ⟨rfl, hf⟩
  | true =>
    obtain ⟨p1, p2, p3, p4, p5, p6, p7, p8, p9⟩ := HP.out rfl
    dsimp only at p1 p2 p3 p4 p5 p6 p7 p8 p9
    have z1 := decB_size ti p1 (by omega)
    have z2 := unitW_size un p3
    have z3 := decB_size n (by omega) (by omega)
    have z4 := decB_size kd (by omega) (by omega)
    have ET : Hid (Sp.toB (Sp.decI ti) ++ ⟨#[44]⟩ ++ unitW un ++ ⟨#[44]⟩ ++ Sp.toB (Sp.decI n) = Sp.toB (Sp.cursL ⟨ti, un, n, kd, tx⟩)) := Lib.hid (by
      apply WideShapes.bytes_inj
      simp only [dataApp, Sp.toB_list, Sp.cursL]; simp)
    rw [if_pos rfl, ← ET.out]
    have HDT := Lib.hid (fun W => itoaB_any ti W p1 (by omega))
    have HDN := Lib.hid (fun W => itoaB_any n W (by omega) (by omega))
    have HU := Lib.hid (fun W => unit_any un W)
    clear HP ET
    generalize Sp.toB (Sp.decI ti) = dt at *
    generalize Sp.toB (Sp.decI n) = dn at *
    generalize Sp.toB (Sp.decI kd) = dk at *
    generalize unitW un = du at *
    go_enter Tryz.func34, Tryz.ntmps34
    go_wp2_with fail
    refine (HM.out _).mono ?_
    rintro e w1 ⟨rfl, hb1⟩
    have hf := (HK.out _ hb1).1
    have k0 : ∀ W, Below w1.heap.size w1 W → W.cell? ⟨w.heap.size, 0, none⟩ = some (.int .i64 ti) := fun W hW => (HK.out W (hb1.trans (hW.mono hb1.size))).2.1
    have k1 : ∀ W, Below w1.heap.size w1 W → W.cell? ⟨w.heap.size, 1, none⟩ = some (.string un) := fun W hW => (HK.out W (hb1.trans (hW.mono hb1.size))).2.2.1
    have k2 : ∀ W, Below w1.heap.size w1 W → W.cell? ⟨w.heap.size, 2, none⟩ = some (.int .i64 n) := fun W hW => (HK.out W (hb1.trans (hW.mono hb1.size))).2.2.2.1
    have HE : Hid (∀ W, Below w1.heap.size w1 W → Env W) := Lib.hid fun W hW => (E.on hf).on hW
    have hq : Below w1.heap.size w1 w1.drew := (Below.refl _ _).drew
    have HF := Lib.hid (fun W (hW : Below w1.heap.size w1 W) => hf.trans (hW.mono hf.size))
    clear hb1 HK hf
    have hn1 : ¬ 9223372036854775807 < dt.size + 1 := by omega
    have hn2 : ¬ 9223372036854775807 < dt.size + 1 + du.size := by omega
    have hn3 : ¬ 9223372036854775807 < dt.size + 1 + du.size + 1 := by omega
    have hn4 : ¬ 9223372036854775807 < dt.size + 1 + du.size + 1 + dn.size := by omega
    go_upto_region 3 with fail
    go_region_held3 (fun W => Below w1.heap.size w1 W) (first | assumption | exact since_alloc (by assumption) _) (first | (go_at_call_of 46 (Value.int .i64 ti); refine Calls.mono (HDT.out _ (HE.out _ ?_)) ?_; (focus assumption); rintro e wa ⟨rfl, hba⟩; have qa := since_more (by assumption) hba; have na : Nxt _ wa := ⟨hba⟩; clear hba) | (go_at_call_of 46 (Value.int .i64 n); refine Calls.mono (HDN.out _ (HE.out _ ?_)) ?_; (focus assumption); rintro e wb ⟨rfl, hbb⟩; have qb := since_more (by assumption) hbb; have nb : Nxt _ wb := ⟨hbb⟩; clear hbb) | (go_at_call 47; refine (HU.out _).mono ?_; rintro e wu ⟨rfl, rfl⟩))
    all_goals
      go_wp2
      go_ret
      refine ⟨rfl, HF.out _ ?_⟩
      first | assumption | exact since_drew (by assumption) | exact since_alloc (by assumption) _

set_option maxRecDepth 100000 in
set_option maxHeartbeats 8000000 in
theorem rprint_any (r : RowD) (w : World) (hu : r.unit.size ≤ 140737488355328) (hx : r.text.size ≤ 140737488355328) :
    Calls Tryz.prog 31 #[rowV r] w fun e w' => e = .returned (.string (Sp.toB (Sp.printR r))) ∧ Below w.heap.size w w' := by
  have HM := Lib.hid (fun w => rmayrow_any r w hu hx)
  have HP := Lib.hid (fun h => Sp.mayRow_parts r h)
  have HX0 : Hid (∀ b, mayRowB r = b → Sp.printR r = if b then Sp.textL r else []) := Lib.hid fun b hb => by rw [Sp.printR, hb]
  generalize hm : mayRowB r = may at *
  obtain ⟨ti, un, n, kd, tx⟩ := r
  have HX := Lib.hid (HX0.out may rfl)
  show Calls Tryz.prog 31 #[.agg #[.int .i64 ti, .string un, .int .i64 n, .int .i64 kd, .string tx]] w fun e w' => e = .returned (.string (Sp.toB (Sp.printR ⟨ti, un, n, kd, tx⟩))) ∧ Below w.heap.size w w'
  rw [HX.out]
  have hb : Below w.heap.size w (w.alloc (.cells #[.int .i64 ti, .string un, .int .i64 n, .int .i64 kd, .string tx] 37)) := (Below.refl _ _).alloc (Nat.le_refl _) _
  have HK : Hid (∀ w1, Below (w.alloc (.cells #[.int .i64 ti, .string un, .int .i64 n, .int .i64 kd, .string tx] 37)).heap.size (w.alloc (.cells #[.int .i64 ti, .string un, .int .i64 n, .int .i64 kd, .string tx] 37)) w1 → Below w.heap.size w w1 ∧ w1.cell? ⟨w.heap.size, 0, none⟩ = some (.int .i64 ti) ∧ w1.cell? ⟨w.heap.size, 1, none⟩ = some (.string un) ∧ w1.cell? ⟨w.heap.size, 2, none⟩ = some (.int .i64 n) ∧ w1.cell? ⟨w.heap.size, 3, none⟩ = some (.int .i64 kd) ∧ w1.cell? ⟨w.heap.size, 4, none⟩ = some (.string tx)) := Lib.hid fun w1 hw => by
    refine ⟨hb.trans (hw.mono (by simp)), ?_, ?_, ?_, ?_, ?_⟩
    · rw [hw.cell (p := ⟨w.heap.size, 0, none⟩) (by simp)]; simp
    · rw [hw.cell (p := ⟨w.heap.size, 1, none⟩) (by simp)]; simp
    · rw [hw.cell (p := ⟨w.heap.size, 2, none⟩) (by simp)]; simp
    · rw [hw.cell (p := ⟨w.heap.size, 3, none⟩) (by simp)]; simp
    · rw [hw.cell (p := ⟨w.heap.size, 4, none⟩) (by simp)]; simp
  clear hb HX HX0 hu hx hm
  cases may with
  | false =>
    go_enter Tryz.func31, Tryz.ntmps31
    go_wp2_with fail
    refine (HM.out _).mono ?_
    rintro e w1 ⟨rfl, hb1⟩
    obtain ⟨hf, c0, c1, c2, c3, c4⟩ := HK.out _ hb1
    clear hb1 HK
    go_wp2
    go_ret
    exact ⟨rfl, hf⟩
  | true =>
    obtain ⟨p1, p2, p3, p4, p5, p6, p7, p8, p9⟩ := HP.out rfl
    dsimp only at p1 p2 p3 p4 p5 p6 p7 p8 p9
    have z1 := decB_size ti p1 (by omega)
    have z2 := unitW_size un p3
    have z3 := decB_size n (by omega) (by omega)
    have z4 := decB_size kd (by omega) (by omega)
    have ET : Hid (Sp.toB (Sp.decI ti) ++ ⟨#[32]⟩ ++ unitW un ++ ⟨#[32]⟩ ++ Sp.toB (Sp.decI n) ++ ⟨#[32]⟩ ++ Sp.toB (Sp.decI kd) ++ ⟨#[32]⟩ ++ tx = Sp.toB (Sp.textL ⟨ti, un, n, kd, tx⟩)) := Lib.hid (by
      apply WideShapes.bytes_inj
      simp only [dataApp, Sp.toB_list, Sp.textL]; simp)
    rw [if_pos rfl, ← ET.out]
    have HDT := Lib.hid (fun W => decB_any ti W p1 (by omega))
    have HDN := Lib.hid (fun W => decB_any n W (by omega) (by omega))
    have HDK := Lib.hid (fun W => decB_any kd W (by omega) (by omega))
    have HU := Lib.hid (fun W => runit_any un W)
    clear HP ET
    generalize Sp.toB (Sp.decI ti) = dt at *
    generalize Sp.toB (Sp.decI n) = dn at *
    generalize Sp.toB (Sp.decI kd) = dk at *
    generalize unitW un = du at *
    go_enter Tryz.func31, Tryz.ntmps31
    go_wp2_with fail
    refine (HM.out _).mono ?_
    rintro e w1 ⟨rfl, hb1⟩
    have hf := (HK.out _ hb1).1
    have k0 : w1.cell? ⟨w.heap.size, 0, none⟩ = some (.int .i64 ti) := (HK.out _ hb1).2.1
    have k1 : w1.cell? ⟨w.heap.size, 1, none⟩ = some (.string un) := (HK.out _ hb1).2.2.1
    have k2 : w1.cell? ⟨w.heap.size, 2, none⟩ = some (.int .i64 n) := (HK.out _ hb1).2.2.2.1
    have k3 : w1.cell? ⟨w.heap.size, 3, none⟩ = some (.int .i64 kd) := (HK.out _ hb1).2.2.2.2.1
    have k4 : w1.cell? ⟨w.heap.size, 4, none⟩ = some (.string tx) := (HK.out _ hb1).2.2.2.2.2
    clear hb1 HK
    have hn1 : ¬ 9223372036854775807 < dt.size + 1 := by omega
    have hn2 : ¬ 9223372036854775807 < dt.size + 1 + du.size := by omega
    have hn3 : ¬ 9223372036854775807 < dt.size + 1 + du.size + 1 := by omega
    have hn4 : ¬ 9223372036854775807 < dt.size + 1 + du.size + 1 + dn.size := by omega
    have hn5 : ¬ 9223372036854775807 < dt.size + 1 + du.size + 1 + dn.size + 1 := by omega
    have hn6 : ¬ 9223372036854775807 < dt.size + 1 + du.size + 1 + dn.size + 1 + dk.size := by omega
    have hn7 : ¬ 9223372036854775807 < dt.size + 1 + du.size + 1 + dn.size + 1 + dk.size + 1 := by omega
    have hn8 : ¬ 9223372036854775807 < dt.size + 1 + du.size + 1 + dn.size + 1 + dk.size + 1 + tx.size := by omega
    go_wp2_with fail
    go_quiet (first | (go_at_call_of 48 (Value.int .i64 ti); exact quiet_same (HDT.out _)) | (go_at_call_of 48 (Value.int .i64 n); exact quiet_same (HDN.out _)) | (go_at_call_of 48 (Value.int .i64 kd); exact quiet_same (HDK.out _)) | (go_at_call 49; exact quiet_same (HU.out _)))
    go_wp2
    go_ret
    exact ⟨rfl, belowQ hf _⟩

set_option maxRecDepth 100000 in
set_option maxHeartbeats 8000000 in
theorem rcursor_any (r : RowD) (w : World) (hu : r.unit.size ≤ 140737488355328) (hx : r.text.size ≤ 140737488355328) :
    Calls Tryz.prog 36 #[rowV r] w fun e w' => e = .returned (.string (Sp.toB (Sp.cursorR r))) ∧ Below w.heap.size w w' := by
  have HM := Lib.hid (fun w => rmayrow_any r w hu hx)
  have HP := Lib.hid (fun h => Sp.mayRow_parts r h)
  have HX0 : Hid (∀ b, mayRowB r = b → Sp.cursorR r = if b then Sp.cursL r else []) := Lib.hid fun b hb => by rw [Sp.cursorR, hb]
  generalize hm : mayRowB r = may at *
  obtain ⟨ti, un, n, kd, tx⟩ := r
  have HX := Lib.hid (HX0.out may rfl)
  show Calls Tryz.prog 36 #[.agg #[.int .i64 ti, .string un, .int .i64 n, .int .i64 kd, .string tx]] w fun e w' => e = .returned (.string (Sp.toB (Sp.cursorR ⟨ti, un, n, kd, tx⟩))) ∧ Below w.heap.size w w'
  rw [HX.out]
  have hb : Below w.heap.size w (w.alloc (.cells #[.int .i64 ti, .string un, .int .i64 n, .int .i64 kd, .string tx] 37)) := (Below.refl _ _).alloc (Nat.le_refl _) _
  have HK : Hid (∀ w1, Below (w.alloc (.cells #[.int .i64 ti, .string un, .int .i64 n, .int .i64 kd, .string tx] 37)).heap.size (w.alloc (.cells #[.int .i64 ti, .string un, .int .i64 n, .int .i64 kd, .string tx] 37)) w1 → Below w.heap.size w w1 ∧ w1.cell? ⟨w.heap.size, 0, none⟩ = some (.int .i64 ti) ∧ w1.cell? ⟨w.heap.size, 1, none⟩ = some (.string un) ∧ w1.cell? ⟨w.heap.size, 2, none⟩ = some (.int .i64 n) ∧ w1.cell? ⟨w.heap.size, 3, none⟩ = some (.int .i64 kd) ∧ w1.cell? ⟨w.heap.size, 4, none⟩ = some (.string tx)) := Lib.hid fun w1 hw => by
    refine ⟨hb.trans (hw.mono (by simp)), ?_, ?_, ?_, ?_, ?_⟩
    · rw [hw.cell (p := ⟨w.heap.size, 0, none⟩) (by simp)]; simp
    · rw [hw.cell (p := ⟨w.heap.size, 1, none⟩) (by simp)]; simp
    · rw [hw.cell (p := ⟨w.heap.size, 2, none⟩) (by simp)]; simp
    · rw [hw.cell (p := ⟨w.heap.size, 3, none⟩) (by simp)]; simp
    · rw [hw.cell (p := ⟨w.heap.size, 4, none⟩) (by simp)]; simp
  clear hb HX HX0 hu hx hm
  cases may with
  | false =>
    go_enter Tryz.func36, Tryz.ntmps36
    go_wp2_with fail
    refine (HM.out _).mono ?_
    rintro e w1 ⟨rfl, hb1⟩
    obtain ⟨hf, c0, c1, c2, c3, c4⟩ := HK.out _ hb1
    clear hb1 HK
    go_wp2
    go_ret
    exact ⟨rfl, hf⟩
  | true =>
    obtain ⟨p1, p2, p3, p4, p5, p6, p7, p8, p9⟩ := HP.out rfl
    dsimp only at p1 p2 p3 p4 p5 p6 p7 p8 p9
    have z1 := decB_size ti p1 (by omega)
    have z2 := unitW_size un p3
    have z3 := decB_size n (by omega) (by omega)
    have z4 := decB_size kd (by omega) (by omega)
    have ET : Hid (Sp.toB (Sp.decI ti) ++ ⟨#[44]⟩ ++ unitW un ++ ⟨#[44]⟩ ++ Sp.toB (Sp.decI n) = Sp.toB (Sp.cursL ⟨ti, un, n, kd, tx⟩)) := Lib.hid (by
      apply WideShapes.bytes_inj
      simp only [dataApp, Sp.toB_list, Sp.cursL]; simp)
    rw [if_pos rfl, ← ET.out]
    have HDT := Lib.hid (fun W => decB_any ti W p1 (by omega))
    have HDN := Lib.hid (fun W => decB_any n W (by omega) (by omega))
    have HU := Lib.hid (fun W => runit_any un W)
    clear HP ET
    generalize Sp.toB (Sp.decI ti) = dt at *
    generalize Sp.toB (Sp.decI n) = dn at *
    generalize Sp.toB (Sp.decI kd) = dk at *
    generalize unitW un = du at *
    go_enter Tryz.func36, Tryz.ntmps36
    go_wp2_with fail
    refine (HM.out _).mono ?_
    rintro e w1 ⟨rfl, hb1⟩
    have hf := (HK.out _ hb1).1
    have k0 : w1.cell? ⟨w.heap.size, 0, none⟩ = some (.int .i64 ti) := (HK.out _ hb1).2.1
    have k1 : w1.cell? ⟨w.heap.size, 1, none⟩ = some (.string un) := (HK.out _ hb1).2.2.1
    have k2 : w1.cell? ⟨w.heap.size, 2, none⟩ = some (.int .i64 n) := (HK.out _ hb1).2.2.2.1
    clear hb1 HK
    have hn1 : ¬ 9223372036854775807 < dt.size + 1 := by omega
    have hn2 : ¬ 9223372036854775807 < dt.size + 1 + du.size := by omega
    have hn3 : ¬ 9223372036854775807 < dt.size + 1 + du.size + 1 := by omega
    have hn4 : ¬ 9223372036854775807 < dt.size + 1 + du.size + 1 + dn.size := by omega
    go_wp2_with fail
    go_quiet (first | (go_at_call_of 48 (Value.int .i64 ti); exact quiet_same (HDT.out _)) | (go_at_call_of 48 (Value.int .i64 n); exact quiet_same (HDN.out _)) | (go_at_call 49; exact quiet_same (HU.out _)))
    go_wp2
    go_ret
    exact ⟨rfl, belowQ hf _⟩

end Go.Proofs.YtkgogenmhiclcaaGreatDoor
