/-
  Regions whose callees lay blocks alone; the walk that shows that the rows' functions are no others.
-/
import Derived.Test.YthdefhfgbanfpaaGreatDoorRe
import Derived.BigQuiet
namespace Go.Proofs.YthdefhfgbanfpaaGreatDoor
open Go.RowKit

/-- a world since another one -/
structure Since (B : Nat) (w : World) where
  w' : World
  hb : Below B w w'
instance {B : Nat} {w : World} : Inhabited (Since B w) := ⟨⟨w, Below.refl _ _⟩⟩
theorem wp_region_since {P : Program} {id : Nat} {Q : Exit → Act → World → Prop} {a : Act} {w : World} {l : List Oper} (B : Nat) (hm : P.follows .mixedOrders = true) (hB : Region.lexB .any l.toArray = true)
    (h : wpQuiet P l.toArray (fun w' => ∃ p : Since B w, w' = p.w') (fun a' => ∀ w', (∃ p : Since B w, w' = p.w') → Q .normal a' w') l a) : (Code.region id l.toArray true).wp P Q a w :=
  wp_region_quiet (C := fun w' => ∃ p : Since B w, w' = p.w') hm hB ⟨⟨w.drewN 1, belowQ (Below.refl _ _) _⟩, rfl⟩ (by simpa using h)
theorem Calls.since_of {P : Program} {f : FuncId} {args : Array Value} {B : Nat} {w : World} {p : Since B w} {v : Value} (hw : B ≤ w.heap.size)
    (h : Calls P f args p.w' fun e w' => e = .returned v ∧ Below p.w'.heap.size p.w' w') : Calls P f args p.w' fun e w'' => e = .returned v ∧ ∃ q : Since B w, w'' = q.w' :=
  h.mono fun _ _ ⟨he, hb⟩ => ⟨he, ⟨⟨_, p.hb.trans (hb.mono (Nat.le_trans hw p.hb.size))⟩, rfl⟩⟩

def oneUnit : ByteArray := ⟨#[97, 46, 115, 101, 114, 118, 105, 99, 101]⟩
def oneText : ByteArray := ⟨#[117, 112]⟩
def oneR : RowD := ⟨5, oneUnit, 2, 2, oneText⟩
theorem one_may : mayRowB oneR = true := by decide +kernel
theorem one_text : Sp.textL oneR = [53, 32, 97, 46, 115, 101, 114, 118, 105, 99, 101, 32, 50, 32, 50, 32, 117, 112] := by decide +kernel
theorem one_curs : Sp.cursL oneR = [53, 44, 97, 46, 115, 101, 114, 118, 105, 99, 101, 44, 50] := by decide +kernel
theorem one_parse : Sp.parseP ⟨#[53, 32, 97, 46, 115, 101, 114, 118, 105, 99, 101, 32, 50, 32, 50, 32, 117, 112]⟩ = some oneR := Sp.parse_some _ _ one_may one_text
theorem one_place : Sp.placeP ⟨#[53, 44, 97, 46, 115, 101, 114, 118, 105, 99, 101, 44, 50]⟩ = some (Sp.atPlace oneR) :=
  Sp.place_some _ _ ⟨rfl, rfl⟩ (Sp.atPlace_may oneR one_may).1 ((Sp.atPlace_may oneR one_may).2.trans one_curs)
theorem one_print : Sp.toB (Sp.printR oneR) = ⟨#[53, 32, 97, 46, 115, 101, 114, 118, 105, 99, 101, 32, 50, 32, 50, 32, 117, 112]⟩ := by rw [Sp.printR, if_pos one_may, one_text]; rfl
theorem one_cursor : Sp.toB (Sp.cursorR oneR) = ⟨#[53, 44, 97, 46, 115, 101, 114, 118, 105, 99, 101, 44, 50]⟩ := by rw [Sp.cursorR, if_pos one_may, one_curs]; rfl

theorem one_any (w : World) : Calls Tryz.prog 17 #[] w fun e w' => e = .returned (rowV oneR) ∧ Below w.heap.size w w' := by
  go_enter Tryz.func17, Tryz.ntmps17
  go_wp2
  (try simp only [Exit.inBlock, Exit.then])
  refine bodyPost_ret (v := rowV oneR) ?_ rfl ⟨rfl, ?_⟩
  · simp [results, Tryz.results17, go_sem]
    rfl
  · repeat' (first | exact Below.refl _ _ | refine Below.setCell ?_ (Nat.le_refl _) _ | refine Below.alloc ?_ (Nat.le_refl _) _)

set_option maxRecDepth 100000 in
set_option maxHeartbeats 8000000 in
theorem shown_any (w : World) (E : Env w) : Calls Tryz.prog 4 #[] w fun e w' => e = .returned (.bool true) ∧ Below w.heap.size w w' := by
  have HPA := Lib.hid (fun w E => parse_any ⟨#[53, 32, 97, 46, 115, 101, 114, 118, 105, 99, 101, 32, 50, 32, 50, 32, 117, 112]⟩ w (by decide) E)
  rw [one_parse] at HPA
  have HPL := Lib.hid (fun w E => place_any ⟨#[53, 44, 97, 46, 115, 101, 114, 118, 105, 99, 101, 44, 50]⟩ w (by decide) E)
  rw [one_place] at HPL
  have HPR := Lib.hid (fun w E => print_any oneR w (by decide) (by decide) E)
  rw [one_print] at HPR
  have HCU := Lib.hid (fun w E => cursor_any oneR w (by decide) (by decide) E)
  rw [one_cursor] at HCU
  have HM := Lib.hid (fun w => mayrow_any oneR w (by decide) (by decide))
  rw [one_may] at HM
  have HO := Lib.hid one_any
  have HL1 := Lib.hid (fun w => less_any oneR ⟨6, ⟨#[]⟩, 0, 0, ⟨#[]⟩⟩ w)
  rw [show lessB oneR ⟨6, ⟨#[]⟩, 0, 0, ⟨#[]⟩⟩ = true from by decide] at HL1
  have HL2 := Lib.hid (fun w => less_any oneR oneR w)
  rw [show lessB oneR oneR = false from by decide +kernel] at HL2
  simp only [rowE, placeE, rowV, rowC, oneR, Sp.atPlace] at HPA HPL HPR HCU HM HO HL1 HL2
  generalize oneUnit = ou at *
  generalize oneText = ot at *
  go_enter Tryz.func4, Tryz.ntmps4
  go_wp2_with fail
  refine (HPA.out _ E).mono ?_
  rintro e w1 ⟨rfl, hb1⟩
  have hz1 := hb1.size
  have HX1 := Lib.hid (RBox.new w1 5 2 2 ou ot)
  have ha1 := hb1.alloc hb1.size (.cells #[.int .i64 5, .string ou, .int .i64 2, .int .i64 2, .string ot] 23)
  have hs1 : w1.heap.size < (w1.alloc (.cells #[.int .i64 5, .string ou, .int .i64 2, .int .i64 2, .string ot] 23)).heap.size := by simp
  clear hb1 HPA
  go_wp2_with fail
  generalize (w1.alloc (.cells #[.int .i64 5, .string ou, .int .i64 2, .int .i64 2, .string ot] 23)) = w2 at *
  generalize w1.heap.size = b1 at *
  refine (HPL.out _ (E.on ha1)).mono ?_
  rintro e w3 ⟨rfl, hb3⟩
  have ha3 := ha1.trans (hb3.mono ha1.size)
  have HX3 := Lib.hid (HX1.out.on hs1 hb3)
  have hz3 := hb3.size
  have HY3 := Lib.hid (RBox.new w3 5 2 0 ou ⟨#[]⟩)
  have ha4 := ha3.alloc ha3.size (.cells #[.int .i64 5, .string ou, .int .i64 2, .int .i64 0, .string ⟨#[]⟩] 23)
  have hs4 : w3.heap.size < (w3.alloc (.cells #[.int .i64 5, .string ou, .int .i64 2, .int .i64 0, .string ⟨#[]⟩] 23)).heap.size := by simp
  have HX4 := Lib.hid (HX3.out.on (B := w3.heap.size) (by omega) ((Below.refl _ _).alloc (Nat.le_refl _) (.cells #[.int .i64 5, .string ou, .int .i64 2, .int .i64 0, .string ⟨#[]⟩] 23)))
  clear HX1 ha1 hb3 HX3 HPL ha3
  go_wp2_with fail
  generalize (w3.alloc (.cells #[.int .i64 5, .string ou, .int .i64 2, .int .i64 0, .string ⟨#[]⟩] 23)) = w4 at *
  generalize hb3 : w3.heap.size = b3 at *
  have hlt : b1 < w4.heap.size := by omega
  have k0 : ∀ p : Since w4.heap.size w4, p.w'.cell? ⟨b1, 0, none⟩ = some (.int .i64 5) := fun p => (HX4.out.on hlt p.hb).c0
  have k1 : ∀ p : Since w4.heap.size w4, p.w'.cell? ⟨b1, 1, none⟩ = some (.string ou) := fun p => (HX4.out.on hlt p.hb).c1
  have k2 : ∀ p : Since w4.heap.size w4, p.w'.cell? ⟨b1, 2, none⟩ = some (.int .i64 2) := fun p => (HX4.out.on hlt p.hb).c2
  have k3 : ∀ p : Since w4.heap.size w4, p.w'.cell? ⟨b1, 3, none⟩ = some (.int .i64 2) := fun p => (HX4.out.on hlt p.hb).c3
  have k4 : ∀ p : Since w4.heap.size w4, p.w'.cell? ⟨b1, 4, none⟩ = some (.string ot) := fun p => (HX4.out.on hlt p.hb).c4
  have j2 : ∀ p : Since w4.heap.size w4, p.w'.cell? ⟨b3, 2, none⟩ = some (.int .i64 2) := fun p => (HY3.out.on hs4 p.hb).c2
  have j3 : ∀ p : Since w4.heap.size w4, p.w'.cell? ⟨b3, 3, none⟩ = some (.int .i64 0) := fun p => (HY3.out.on hs4 p.hb).c3
  have HE : Hid (∀ p : Since w4.heap.size w4, Env p.w') := Lib.hid fun p => (E.on ha4).on p.hb
  have HF : Hid (∀ p : Since w4.heap.size w4, Below w.heap.size w p.w') := Lib.hid fun p => ha4.trans (p.hb.mono ha4.size)
  clear hz1 hs1 hz3 hs4 HX4 HY3 ha4 hlt hb3
  go_upto_region 3 with fail
  refine wp_region_since w4.heap.size (by kernel_rfl) (by kernel_rfl) ?_
  repeat (go_big_quiet_step (first
    | (go_at_call 17; exact Calls.since_of (Nat.le_refl _) (HO.out _))
    | (go_at_call 9; exact Calls.since_of (Nat.le_refl _) (HM.out _))
    | (go_at_call 13; exact Calls.since_of (Nat.le_refl _) (HPR.out _ (HE.out _)))
    | (go_at_call 15; exact Calls.since_of (Nat.le_refl _) (HCU.out _ (HE.out _)))
    | (go_at_call 11; first | with_reducible exact Calls.since_of (Nat.le_refl _) (HL1.out _) | with_reducible exact Calls.since_of (Nat.le_refl _) (HL2.out _))))
  refine wpQuiet_nil ?_
  intro _ hw'
  obtain ⟨ps, hw''⟩ := hw'
  subst hw''
  have hps := HF.out ps
  generalize ps.w' = wq at *
  go_wp2
  go_ret
  exact ⟨rfl, hps⟩

end Go.Proofs.YthdefhfgbanfpaaGreatDoor
