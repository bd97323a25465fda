/-
  What a text says as a calendar, in plain Lean.
-/
import Derived.Test.YtpkpoglmmjaoeaaGreatDoorCc
namespace Go.Proofs.YtpkpoglmmjaoeaaGreatDoor
namespace Sp
/-- a text at each of a byte; at the first of a byte; at the first two points -/
def splitC (c : UInt8) : List UInt8 → List (List UInt8)
  | [] => [[]]
  | b :: r => if b = c then [] :: splitC c r else match splitC c r with
    | [] => [[b]]
    | x :: y => (b :: x) :: y
def cut1 (c : UInt8) : List UInt8 → List UInt8 × List UInt8 × Bool
  | [] => ([], [], false)
  | b :: r => if b = c then ([], r, true) else (b :: (cut1 c r).1, (cut1 c r).2.1, (cut1 c r).2.2)
def cutD : List UInt8 → List UInt8 × List UInt8 × Bool
  | [] => ([], [], false)
  | [b] => ([b], [], false)
  | b :: b' :: r => if b = 46 ∧ b' = 46 then ([], r, true) else (b :: (cutD (b' :: r)).1, (cutD (b' :: r)).2.1, (cutD (b' :: r)).2.2)
def digC (c : UInt8) : Bool := decide (48 ≤ c.toNat) && decide (c.toNat ≤ 57)
def valC (l : List UInt8) : Nat := l.foldl (fun n c => 10 * n + (c.toNat - 48)) 0
def numC (l : List UInt8) : Option Int := if 1 ≤ l.length ∧ l.length ≤ 4 ∧ l.all digC = true then some (valC l : Int) else none
def bodyP (l : List UInt8) (st : Int) : Option PartD :=
  if l = [42] then some ⟨-1, -1, st⟩
  else match numC (cutD l).1 with
    | none => none
    | some fr => if (cutD l).2.2 then (match numC (cutD l).2.1 with
      | none => none
      | some to => some ⟨fr, to, st⟩) else some ⟨fr, -1, st⟩
def partP (l : List UInt8) : Option PartD :=
  if (cut1 47 l).2.2 then (match numC (cut1 47 l).2.1 with
    | none => none
    | some st => if st = 0 then none else bodyP (cut1 47 l).1 st)
  else bodyP (cut1 47 l).1 0
def allSome {α : Type} : List (Option α) → Option (List α)
  | [] => some []
  | none :: _ => none
  | some x :: r => match allSome r with
    | none => none
    | some l => some (x :: l)
def partsP (l : List UInt8) : Option (List PartD) := allSome ((splitC 44 l).map partP)
def dayIdx (l : List UInt8) : Option Nat := dayNames.findIdx? (fun x => x == l)
/-- the weekdays of a word: from one to another, from 0 on -/
def wordDays (l : List UInt8) : Option (Nat × Nat) :=
  match dayIdx (cutD l).1, dayIdx (if (cutD l).2.2 then (cutD l).2.1 else (cutD l).1) with
  | some a, some b => if b < a then none else some (a, b)
  | _, _ => none
def daysOf (ws : List (Nat × Nat)) : List Int := ([1, 2, 3, 4, 5, 6, 7] : List Int).filter fun d => ws.any fun w => decide ((w.1 : Int) + 1 ≤ d) && decide (d ≤ (w.2 : Int) + 1)
def daysP (l : List UInt8) : Option (List Int) := (allSome ((splitC 44 l).map wordDays)).map daysOf
def letC (c : UInt8) : Bool := (decide (97 ≤ c.toNat) && decide (c.toNat ≤ 122)) || (decide (65 ≤ c.toNat) && decide (c.toNat ≤ 90))
def namedL (l : List UInt8) : List UInt8 :=
  if l = [109, 105, 110, 117, 116, 101, 108, 121] then [42, 45, 42, 45, 42, 32, 42, 58, 42, 58, 48, 48]
  else if l = [104, 111, 117, 114, 108, 121] then [42, 45, 42, 45, 42, 32, 42, 58, 48, 48, 58, 48, 48]
  else if l = [100, 97, 105, 108, 121] then [42, 45, 42, 45, 42, 32, 48, 48, 58, 48, 48, 58, 48, 48]
  else if l = [119, 101, 101, 107, 108, 121] then [77, 111, 110, 32, 42, 45, 42, 45, 42, 32, 48, 48, 58, 48, 48, 58, 48, 48]
  else if l = [109, 111, 110, 116, 104, 108, 121] then [42, 45, 42, 45, 48, 49, 32, 48, 48, 58, 48, 48, 58, 48, 48]
  else if l = [121, 101, 97, 114, 108, 121] then [42, 45, 48, 49, 45, 48, 49, 32, 48, 48, 58, 48, 48, 58, 48, 48]
  else l
/-- the first of words, if it is so, and what is left -/
def takeP (is : List UInt8 → Bool) (ws : List (List UInt8)) : Option (List UInt8) × List (List UInt8) :=
  match ws with
  | [] => (none, [])
  | w :: r => if is w then (some w, r) else (none, w :: r)
def headLet (l : List UInt8) : Bool := match l with
  | [] => false
  | c :: _ => letC c
def has1 (c : UInt8) (l : List UInt8) : Bool := l.any fun x => x == c
/-- the fields of a date's words and a clock's, and the calendar of them -/
def fillP (days : List Int) (d t : List (List UInt8)) : Option CalD :=
  match d, t with
  | [a, b, c], [e, f, g] => match partsP a, partsP b, partsP c, partsP e, partsP f, partsP g with
    | some y, some mo, some dd, some h, some mi, some s => if mayCal ⟨days, y, mo, dd, h, mi, s⟩ then some ⟨days, y, mo, dd, h, mi, s⟩ else none
    | _, _, _, _, _, _ => none
  | _, _ => none
def clockL (w : List UInt8) : List UInt8 := if (w.filter fun x => x == 58).length = 1 then w ++ [58, 48, 48] else w
def parseL (s : List UInt8) : Option CalD :=
  let ws := splitC 32 (namedL s)
  let p := takeP headLet ws
  let q := takeP (has1 45) p.2
  let r := takeP (has1 58) q.2
  let days := match p.1 with
    | none => some []
    | some w => daysP w
  let d := match q.1 with
    | none => [42, 45, 42, 45, 42]
    | some w => w
  let t := match r.1 with
    | none => [48, 48, 58, 48, 48, 58, 48, 48]
    | some w => clockL w
  match days with
  | none => none
  | some days => if r.2.isEmpty then fillP days (splitC 45 d) (splitC 58 t) else none
def parseP (s : List UInt8) : Option CalD := if 400 < s.length then none else parseL s
end Sp

end Go.Proofs.YtpkpoglmmjaoeaaGreatDoor
