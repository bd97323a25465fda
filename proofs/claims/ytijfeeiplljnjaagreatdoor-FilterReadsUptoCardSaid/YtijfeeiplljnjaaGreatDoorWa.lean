/-
  The smallest walks of the world's layer: numbers that may be, texts that may be, an act's four marks.
-/
import Derived.Test.YtijfeeiplljnjaaGreatDoorNm1
import Derived.Test.YtijfeeiplljnjaaGreatDoorMem
import Derived.Test.YtijfeeiplljnjaaGreatDoorShelf
import Derived.Lib.Hide
namespace Go.Proofs.YtijfeeiplljnjaaGreatDoor
open Go.RowKit

/-- a time, a span -/
def timeB (n : Int) : Bool := decide (0 ≤ n) && decide (n < 6311433600)
def spanB (n : Int) : Bool := (decide (0 ≤ n) && decide (n ≤ 6311433600)) || decide (n = 1099511627776)
/-- a text of bytes from 32 to 126 -/
def cleanByte (c : UInt8) : Bool := decide (32 ≤ c.toNat) && decide (c.toNat ≤ 126)
def cleanL (l : List UInt8) : Bool := l.all cleanByte

theorem time_any (n : Int) (w : World) : Calls Tryz.prog 24 #[.int .i64 n] w fun e w' => e = .returned (.bool (timeB n)) ∧ w = w' := by
  by_cases h : 0 ≤ n
  · go_enter Tryz.func24, Tryz.ntmps24
    go_wp2
    go_ret
    exact ⟨ret_bool (by rw [Bool.eq_iff_iff]; simp [timeB]; try omega), rfl⟩
  · go_enter Tryz.func24, Tryz.ntmps24
    go_wp2
    go_ret
    exact ⟨ret_bool (by rw [Bool.eq_iff_iff]; simp [timeB]; try omega), rfl⟩

theorem rtime_any (n : Int) (w : World) : Calls Tryz.prog 50 #[.int .i64 n] w fun e w' => e = .returned (.bool (timeB n)) ∧ w = w' := by
  by_cases h : 0 ≤ n
  · go_enter Tryz.func50, Tryz.ntmps50
    go_wp2
    go_ret
    exact ⟨ret_bool (by rw [Bool.eq_iff_iff]; simp [timeB]; try omega), rfl⟩
  · go_enter Tryz.func50, Tryz.ntmps50
    go_wp2
    go_ret
    exact ⟨ret_bool (by rw [Bool.eq_iff_iff]; simp [timeB]; try omega), rfl⟩

/-- an act, and its slice of texts as it lies -/
structure ActD where
  unit : ByteArray
  part : Int
  num : Int
  att : Int
  lasts : Int
  code : Int
  ready : Int
  dies : Int
  sA : Option Addr
  sn : Nat
  sc : Nat
  says : List (Int × ByteArray)
def actC (a : ActD) : List Value := [.string a.unit, .int .i64 a.part, .int .i64 a.num, .int .i64 a.att, .int .i64 a.lasts, .int .i64 a.code, .int .i64 a.ready, .int .i64 a.dies, .slice a.sA a.sn a.sc]
def actV (a : ActD) : Value := .agg (actC a).toArray
/-- is it a unit's act, of a part, just so? -/
def ofB (a : ActD) (u : ByteArray) (part num att : Int) : Bool := (a.unit.toList == u.toList) && (a.part == part) && (a.num == num) && (a.att == att)

end Go.Proofs.YtijfeeiplljnjaaGreatDoor
