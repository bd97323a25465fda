/-
  The smallest walks of the world's layer: numbers that may be, texts that may be, an act's four marks.
-/
import Derived.Test.YtkfeicgeobhccaaNm1
import Derived.Test.YtkfeicgeobhccaaMem
import Derived.Test.YtkfeicgeobhccaaShelf
import Derived.Lib.Hide
namespace Go.Proofs.Ytkfeicgeobhccaa
open Go.RowKit

/-- a time, a span -/
def timeB (n : Int) : Bool := decide (0 ≤ n) && decide (n < 6311433600)
def spanB (n : Int) : Bool := (decide (0 ≤ n) && decide (n ≤ 6311433600)) || decide (n = 1099511627776)
/-- a text of bytes from 32 to 126 -/
def cleanByte (c : UInt8) : Bool := decide (32 ≤ c.toNat) && decide (c.toNat ≤ 126)
def cleanL (l : List UInt8) : Bool := l.all cleanByte

theorem time_any (n : Int) (w : World) : Calls Try.prog 30 #[.int .i64 n] w fun e w' => e = .returned (.bool (timeB n)) ∧ w = w' := by
  by_cases h : 0 ≤ n
  · go_enter Try.func30, Try.ntmps30
    go_wp2
    go_ret
    exact ⟨ret_bool (by rw [Bool.eq_iff_iff]; simp [timeB]; try omega), rfl⟩
  · go_enter Try.func30, Try.ntmps30
    go_wp2
    go_ret
    exact ⟨ret_bool (by rw [Bool.eq_iff_iff]; simp [timeB]; try omega), rfl⟩

theorem rtime_any (n : Int) (w : World) : Calls Try.prog 34 #[.int .i64 n] w fun e w' => e = .returned (.bool (timeB n)) ∧ w = w' := by
  by_cases h : 0 ≤ n
  · go_enter Try.func34, Try.ntmps34
    go_wp2
    go_ret
    exact ⟨ret_bool (by rw [Bool.eq_iff_iff]; simp [timeB]; try omega), rfl⟩
  · go_enter Try.func34, Try.ntmps34
    go_wp2
    go_ret
    exact ⟨ret_bool (by rw [Bool.eq_iff_iff]; simp [timeB]; try omega), rfl⟩

theorem span_any (n : Int) (w : World) : Calls Try.prog 31 #[.int .i64 n] w fun e w' => e = .returned (.bool (spanB n)) ∧ w = w' := by
  by_cases h : 0 ≤ n
  · by_cases h2 : n ≤ 6311433600
    · go_enter Try.func31, Try.ntmps31
      go_wp2
      go_ret
      exact ⟨ret_bool (by rw [Bool.eq_iff_iff]; simp [spanB]; try omega), rfl⟩
    · go_enter Try.func31, Try.ntmps31
      go_wp2
      go_ret
      exact ⟨ret_bool (by rw [Bool.eq_iff_iff]; simp [spanB]; try omega), rfl⟩
  · have h2 : (n == 1099511627776) = false := by simp; omega
    go_enter Try.func31, Try.ntmps31
    go_wp2
    go_ret
    exact ⟨ret_bool (by rw [Bool.eq_iff_iff]; simp [spanB]; try omega), rfl⟩

theorem rspan_any (n : Int) (w : World) : Calls Try.prog 35 #[.int .i64 n] w fun e w' => e = .returned (.bool (spanB n)) ∧ w = w' := by
  by_cases h : 0 ≤ n
  · by_cases h2 : n ≤ 6311433600
    · go_enter Try.func35, Try.ntmps35
      go_wp2
      go_ret
      exact ⟨ret_bool (by rw [Bool.eq_iff_iff]; simp [spanB]; try omega), rfl⟩
    · go_enter Try.func35, Try.ntmps35
      go_wp2
      go_ret
      exact ⟨ret_bool (by rw [Bool.eq_iff_iff]; simp [spanB]; try omega), rfl⟩
  · have h2 : (n == 1099511627776) = false := by simp; omega
    go_enter Try.func35, Try.ntmps35
    go_wp2
    go_ret
    exact ⟨ret_bool (by rw [Bool.eq_iff_iff]; simp [spanB]; try omega), rfl⟩

/-- an act, and its slice of texts as it lies -/
structure ActD where
  unit : ByteArray
  part : Int
  num : Int
  att : Int
  lasts : Int
  code : Int
  ready : Int
  dies : Int
  sA : Option Addr
  sn : Nat
  sc : Nat
  says : List (Int × ByteArray)
def actC (a : ActD) : List Value := [.string a.unit, .int .i64 a.part, .int .i64 a.num, .int .i64 a.att, .int .i64 a.lasts, .int .i64 a.code, .int .i64 a.ready, .int .i64 a.dies, .slice a.sA a.sn a.sc]
def actV (a : ActD) : Value := .agg (actC a).toArray
/-- is it a unit's act, of a part, just so? -/
def ofB (a : ActD) (u : ByteArray) (part num att : Int) : Bool := (a.unit.toList == u.toList) && (a.part == part) && (a.num == num) && (a.att == att)

set_option maxHeartbeats 2000000 in
theorem wof_any (a : ActD) (u : ByteArray) (part num att : Int) (w : World) :
    Calls Try.prog 29 #[actV a, .string u, .int .i64 part, .int .i64 num, .int .i64 att] w fun e w' => e = .returned (.bool (ofB a u part num att)) ∧ Below w.heap.size w w' := by
  obtain ⟨un, pa, nu, at_, la, co, re, di, sA, sn, sc, sy⟩ := a
  show Calls Try.prog 29 #[.agg #[.string un, .int .i64 pa, .int .i64 nu, .int .i64 at_, .int .i64 la, .int .i64 co, .int .i64 re, .int .i64 di, .slice sA sn sc], .string u, .int .i64 part, .int .i64 num, .int .i64 att] w fun e w' => e = .returned (.bool ((un.toList == u.toList) && (pa == part) && (nu == num) && (at_ == att))) ∧ Below w.heap.size w w'
  cases h1 : (un.toList == u.toList) with
  | false =>
    go_enter Try.func29, Try.ntmps29
    go_wp2
    go_ret
    exact ⟨rfl, (Below.refl _ _).alloc (Nat.le_refl _) _⟩
  | true =>
    cases h2 : (pa == part) with
    | false =>
      go_enter Try.func29, Try.ntmps29
      go_wp2
      go_ret
      exact ⟨rfl, (Below.refl _ _).alloc (Nat.le_refl _) _⟩
    | true =>
      cases h3 : (nu == num) with
      | false =>
        go_enter Try.func29, Try.ntmps29
        go_wp2
        go_ret
        exact ⟨rfl, (Below.refl _ _).alloc (Nat.le_refl _) _⟩
      | true =>
        cases h4 : (at_ == att) with
        | false =>
          go_enter Try.func29, Try.ntmps29
          go_wp2
          go_ret
          exact ⟨rfl, (Below.refl _ _).alloc (Nat.le_refl _) _⟩
        | true =>
          go_enter Try.func29, Try.ntmps29
          go_wp2
          go_ret
          exact ⟨rfl, (Below.refl _ _).alloc (Nat.le_refl _) _⟩

end Go.Proofs.Ytkfeicgeobhccaa
