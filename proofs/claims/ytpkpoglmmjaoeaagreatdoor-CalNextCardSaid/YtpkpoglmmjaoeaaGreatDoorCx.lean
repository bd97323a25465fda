/-
  days: the closure's making.
-/
import Derived.Test.YtpkpoglmmjaoeaaGreatDoorCw
namespace Go.Proofs.YtpkpoglmmjaoeaaGreatDoor
open Go.RowKit Go.Shelf

theorem days_any (s : CalS) (d : Sp.DateD) (w : World) :
    Calls Tryz.prog 14 #[calV s, dateV d] w fun e w' => e = .returned (.func (.func 44) #[] #[.pointer (some ⟨w.heap.size, 0, none⟩), .pointer (some ⟨w.heap.size + 1, 0, none⟩)]) ∧ w' = (w.alloc (.cells #[slV s.d, slV s.f0, slV s.f1, slV s.f2, slV s.f3, slV s.f4, slV s.f5] 25)).alloc (.cells #[.int .i64 d.year, .int .i64 d.month, .int .i64 d.day, .int .i64 d.hour, .int .i64 d.min, .int .i64 d.sec, .int .i64 d.wday] 37) := by
  obtain ⟨⟨dA, dn, dc⟩, ⟨A0, n0, c0⟩, ⟨A1, n1, c1⟩, ⟨A2, n2, c2⟩, ⟨A3, n3, c3⟩, ⟨A4, n4, c4⟩, ⟨A5, n5, c5⟩, cal⟩ := s
  obtain ⟨yy, mo, dd, hh, mi, se, wd⟩ := d
  show Calls Tryz.prog 14 #[.agg #[.slice dA dn dc, .slice A0 n0 c0, .slice A1 n1 c1, .slice A2 n2 c2, .slice A3 n3 c3, .slice A4 n4 c4, .slice A5 n5 c5], .agg #[.int .i64 yy, .int .i64 mo, .int .i64 dd, .int .i64 hh, .int .i64 mi, .int .i64 se, .int .i64 wd]] w _
  simp only [slV]
  go_enter Tryz.func14, Tryz.ntmps14
  go_wp2
  go_ret
  exact ⟨by simp, rfl⟩

namespace Sp
/-- a day that comes up, as the innermost round sees it: its first second, if it is one of the calendar's -/
def dayHit (c : CalD) (y m d : Int) : Bool := okDay y m d && wdayB c.days ((dayOf y m d + 5) % 7 + 1)
theorem sec_of_day (y m d : Int) (h : okDay y m d = true) : okDate ⟨y, m, d, 0, 0, 0, 0⟩ = true ∧ secOf ⟨y, m, d, 0, 0, 0, 0⟩ = dayOf y m d * 86400 := by
  constructor
  · unfold okDate okClock
    rw [h]; rfl
  · unfold secOf; dsimp only; omega
theorem sec_of_none (y m d : Int) (h : okDay y m d = false) : okDate ⟨y, m, d, 0, 0, 0, 0⟩ = false := by
  unfold okDate; dsimp only; rw [h]; rfl
theorem wday_of_day (y m d : Int) (h : okDay y m d = true) : okT (dayOf y m d * 86400) = true ∧ (ofT (dayOf y m d * 86400)).wday = (dayOf y m d + 5) % 7 + 1 := by
  have hr := dayOf_range y m d h
  have h1 : okT (dayOf y m d * 86400) = true := by unfold okT; rw [decide_eq_true (by omega), decide_eq_true (by omega)]; rfl
  refine ⟨h1, ?_⟩
  unfold ofT
  rw [h1]
  show (dayOf y m d * 86400 / 86400 + 5) % 7 + 1 = _
  rw [Int.mul_ediv_cancel _ (by decide)]
theorem dayB_hit (c : CalD) (y m d : Int) : dayB c y m d = (((inB c.year 0 y && inB c.month 1 m) && inB c.day 2 d) && dayHit c y m d) := by
  unfold dayB dayHit
  generalize inB c.year 0 y = a1
  generalize inB c.month 1 m = a2
  generalize inB c.day 2 d = a3
  generalize okDay y m d = a4
  generalize wdayB _ _ = a5
  cases a1 <;> cases a2 <;> cases a3 <;> cases a4 <;> cases a5 <;> rfl
end Sp

end Go.Proofs.YtpkpoglmmjaoeaaGreatDoor
