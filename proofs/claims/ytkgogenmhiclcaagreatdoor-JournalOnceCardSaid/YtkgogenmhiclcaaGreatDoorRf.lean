/-
  Regions whose callees lay blocks alone; the walk that shows that the rows' functions are no others.
-/
import Derived.Test.YtkgogenmhiclcaaGreatDoorRe
import Derived.BigQuiet
namespace Go.Proofs.YtkgogenmhiclcaaGreatDoor
open Go.RowKit

/-- a world since another one -/
structure Since (B : Nat) (w : World) where
  w' : World
  hb : Below B w w'
instance {B : Nat} {w : World} : Inhabited (Since B w) := ⟨⟨w, Below.refl _ _⟩⟩
theorem wp_region_since {P : Program} {id : Nat} {Q : Exit → Act → World → Prop} {a : Act} {w : World} {l : List Oper} (B : Nat) (hm : P.follows .mixedOrders = true) (hB : Region.lexB .any l.toArray = true)
    (h : wpQuiet P l.toArray (fun w' => ∃ p : Since B w, w' = p.w') (fun a' => ∀ w', (∃ p : Since B w, w' = p.w') → Q .normal a' w') l a) : (Code.region id l.toArray true).wp P Q a w :=
  wp_region_quiet (C := fun w' => ∃ p : Since B w, w' = p.w') hm hB ⟨⟨w.drewN 1, belowQ (Below.refl _ _) _⟩, rfl⟩ (by simpa using h)
theorem Calls.since_of {P : Program} {f : FuncId} {args : Array Value} {B : Nat} {w : World} {p : Since B w} {v : Value} (hw : B ≤ w.heap.size)
    (h : Calls P f args p.w' fun e w' => e = .returned v ∧ Below p.w'.heap.size p.w' w') : Calls P f args p.w' fun e w'' => e = .returned v ∧ ∃ q : Since B w, w'' = q.w' :=
  h.mono fun _ _ ⟨he, hb⟩ => ⟨he, ⟨⟨_, p.hb.trans (hb.mono (Nat.le_trans hw p.hb.size))⟩, rfl⟩⟩

def oneUnit : ByteArray := ⟨#[97, 46, 115, 101, 114, 118, 105, 99, 101]⟩
def oneText : ByteArray := ⟨#[117, 112]⟩
def oneR : RowD := ⟨5, oneUnit, 2, 2, oneText⟩
theorem one_may : mayRowB oneR = true := by decide +kernel
theorem one_text : Sp.textL oneR = [53, 32, 97, 46, 115, 101, 114, 118, 105, 99, 101, 32, 50, 32, 50, 32, 117, 112] := by decide +kernel
theorem one_curs : Sp.cursL oneR = [53, 44, 97, 46, 115, 101, 114, 118, 105, 99, 101, 44, 50] := by decide +kernel
theorem one_parse : Sp.parseP ⟨#[53, 32, 97, 46, 115, 101, 114, 118, 105, 99, 101, 32, 50, 32, 50, 32, 117, 112]⟩ = some oneR := Sp.parse_some _ _ one_may one_text
theorem one_place : Sp.placeP ⟨#[53, 44, 97, 46, 115, 101, 114, 118, 105, 99, 101, 44, 50]⟩ = some (Sp.atPlace oneR) :=
  Sp.place_some _ _ ⟨rfl, rfl⟩ (Sp.atPlace_may oneR one_may).1 ((Sp.atPlace_may oneR one_may).2.trans one_curs)
theorem one_print : Sp.toB (Sp.printR oneR) = ⟨#[53, 32, 97, 46, 115, 101, 114, 118, 105, 99, 101, 32, 50, 32, 50, 32, 117, 112]⟩ := by rw [Sp.printR, if_pos one_may, one_text]; rfl
theorem one_cursor : Sp.toB (Sp.cursorR oneR) = ⟨#[53, 44, 97, 46, 115, 101, 114, 118, 105, 99, 101, 44, 50]⟩ := by rw [Sp.cursorR, if_pos one_may, one_curs]; rfl

end Go.Proofs.YtkgogenmhiclcaaGreatDoor
