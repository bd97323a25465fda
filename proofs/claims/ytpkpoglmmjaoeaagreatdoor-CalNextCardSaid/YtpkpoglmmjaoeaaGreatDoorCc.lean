/-
  Calendars of one part, and texts of calendars, in plain Lean.
-/
import Derived.Test.YtpkpoglmmjaoeaaGreatDoorCb
import Derived.Lib.ItoaNum
namespace Go.Proofs.YtpkpoglmmjaoeaaGreatDoor
namespace Sp
def allP : List PartD := [⟨-1, -1, 0⟩]
theorem in_all (f : Nat) (n : Int) (h1 : lowF f ≤ n) (h2 : n ≤ highF f) : inB allP f n = true := by
  unfold inB allP hasB fromF toF stepF
  simp only [List.any_cons, List.any_nil, Bool.or_false, if_true, Bool.and_eq_true, decide_eq_true_eq]
  refine ⟨⟨h1, h2⟩, ?_⟩
  rw [if_pos (by decide)]
  exact Int.emod_one _
theorem may_all (f : Nat) : mayList allP f = true := rfl
def partCal (p : PartD) : CalD := ⟨[], allP, allP, allP, [p], allP, allP⟩
theorem part_may (p : PartD) : mayCal (partCal p) = mayPartB p 3 := by
  unfold mayCal partCal
  simp only [may_all]
  unfold mayList
  simp [mayDays]
theorem day_nought : IsDay 0 0 0 := ⟨by decide, by decide, by decide, by decide⟩
theorem part_match (p : PartD) (h : Int) (h0 : 0 ≤ h) (h1 : h ≤ 23) : matchB (partCal p) (3600 * h + 5) = (mayPartB p 3 && hasB p 3 h) := by
  have e1 : (3600 * h + 5) / 86400 = 0 := by omega
  have e2 : dateOf (3600 * h + 5) = ⟨2000, 1, 1, h, 0, 5, 6⟩ := by
    unfold dateOf
    simp only [e1, ymOf_of day_nought]
    have a1 : (3600 * h + 5) % 86400 / 3600 = h := by omega
    have a2 : (3600 * h + 5) % 3600 / 60 = 0 := by omega
    have a3 : (3600 * h + 5) % 60 = 5 := by omega
    rw [a1, a2, a3]
    rfl
  unfold matchB
  rw [e2, part_may, decide_eq_true (show 0 ≤ 3600 * h + 5 by omega), decide_eq_true (show 3600 * h + 5 < 6311433600 by omega)]
  unfold inDate partCal wdayB
  simp only
  rw [in_all 0 2000 (by decide) (by decide), in_all 1 1 (by decide) (by decide), in_all 2 1 (by decide) (by decide), in_all 4 0 (by decide) (by decide), in_all 5 5 (by decide) (by decide)]
  simp [inB]

/-- a number of a calendar's field -/
def comma : UInt8 := 44
def decN (n : Int) : List UInt8 := Lib.decDigits n.toNat
def padL (n : Int) (f : Nat) : List UInt8 := if f = 0 then decN n else List.replicate (2 - (decN n).length) 48 ++ decN n
def partL (p : PartD) (f : Nat) : List UInt8 := (if 0 ≤ p.fr then padL p.fr f else [42]) ++ ((if 0 ≤ p.to then 46 :: 46 :: padL p.to f else []) ++ (if 0 < p.st then 47 :: decN p.st else []))
def joinL (c : List UInt8) : List (List UInt8) → List UInt8
  | [] => []
  | [x] => x
  | x :: y :: r => x ++ c ++ joinL c (y :: r)
def fieldL (l : List PartD) (f : Nat) : List UInt8 := joinL [44] (l.map fun p => partL p f)
def dayNames : List (List UInt8) := [[77, 111, 110], [84, 117, 101], [87, 101, 100], [84, 104, 117], [70, 114, 105], [83, 97, 116], [83, 117, 110]]
def dayName (d : Int) : List UInt8 := dayNames[(d - 1).toNat]?.getD []
def calL (c : CalD) : List UInt8 :=
  (if c.days.isEmpty then [] else joinL [44] (c.days.map dayName) ++ [32]) ++ (fieldL c.year 0 ++ 45 :: (fieldL c.month 1 ++ 45 :: (fieldL c.day 2 ++ 32 :: (fieldL c.hour 3 ++ 58 :: (fieldL c.min 4 ++ 58 :: fieldL c.sec 5)))))
def printC (c : CalD) : List UInt8 := if mayCal c then calL c else []
end Sp

end Go.Proofs.YtpkpoglmmjaoeaaGreatDoor
