/-
  What the laws show first: the last second of February, and the next one: the program's walk.
-/
import Derived.Test.YtpkpoglmmjaoeaaGreatDoorDn
import Derived.Test.YtpkpoglmmjaoeaaGreatDoorCt
namespace Go.Proofs.YtpkpoglmmjaoeaaGreatDoor
open Go.RowKit Go.Shelf

namespace Sp
def calA : CalD := ⟨[1, 3, 4, 5], [⟨-1, -1, 0⟩], [⟨2, -1, 0⟩], [⟨28, -1, 0⟩, ⟨29, -1, 0⟩], [⟨23, -1, 0⟩], [⟨59, -1, 30⟩], [⟨59, -1, 0⟩]⟩
def calB : CalD := ⟨[], [⟨-1, -1, 0⟩], [⟨3, -1, 0⟩], [⟨1, -1, 0⟩], [⟨0, -1, 0⟩], [⟨0, -1, 0⟩], [⟨0, -1, 0⟩]⟩
def calC : CalD := ⟨[], [⟨-1, -1, 0⟩], [⟨-1, -1, 0⟩], [⟨-1, -1, 0⟩], [⟨0, -1, 0⟩], [⟨0, -1, 0⟩], [⟨0, -1, 0⟩]⟩
theorem shown_one : parseP [77, 111, 110, 44, 87, 101, 100, 46, 46, 70, 114, 105, 32, 42, 45, 48, 50, 45, 50, 56, 44, 50, 57, 32, 50, 51, 58, 53, 57, 47, 51, 48, 58, 53, 57] = some calA := by kernel_rfl
theorem shown_two : parseP [100, 97, 105, 108, 121] = some calC := by kernel_rfl
theorem shown_text : printC calC = [42, 45, 42, 45, 42, 32, 48, 48, 58, 48, 48, 58, 48, 48] := by kernel_rfl
theorem in_only (f : Nat) (a n : Int) (ha : a ≠ -1) (h : inB [⟨a, -1, 0⟩] f n = true) : n = a := by
  unfold inB at h
  rw [List.any_cons, List.any_nil, Bool.or_false] at h
  unfold hasB fromF toF at h
  simp only [if_neg ha, if_true, Bool.and_eq_true, decide_eq_true_eq] at h
  omega
theorem next_shown : NextIs calB 0 5184000 true := by
  have hm : mayCal calB = true := by kernel_rfl
  have e60 : dayOf 2000 3 1 = 60 := by kernel_rfl
  refine .inl ⟨rfl, by decide, ?_, fun s h1 h2 => ?_⟩
  · have h := match_at calB hm 2000 3 1 0 0 0 (by kernel_rfl) (by decide) (by decide) (by decide) (by kernel_rfl)
    rw [e60] at h
    exact h
  · cases hx : matchB calB s with
    | false => rfl
    | true =>
      exfalso
      obtain ⟨y, mo, d, h, mi, sc, hd, q1, q2, q3, ht, rfl⟩ := match_split calB s hx
      have hok := dayB_ok hd
      unfold dayB at hd
      simp only [Bool.and_eq_true] at hd
      have e1 : mo = 3 := in_only 1 3 mo (by decide) hd.1.1.1.2
      have e2 : d = 1 := in_only 2 1 d (by decide) hd.1.1.2
      subst e1
      subst e2
      have hy := (ok_parts hok).1
      by_cases hy0 : y = 2000
      · subst hy0
        omega
      · have := day_less 2000 3 1 y 3 1 (by kernel_rfl) hok (.inl (by omega))
        omega
theorem match_shown : matchB calC 86400 = true := by
  have hm : mayCal calC = true := by kernel_rfl
  have e1 : dayOf 2000 1 2 = 1 := by kernel_rfl
  have h := match_at calC hm 2000 1 2 0 0 0 (by kernel_rfl) (by decide) (by decide) (by decide) (by kernel_rfl)
  rw [e1] at h
  exact h
theorem match_shown_not : matchB calC 1 = false := by
  cases hx : matchB calC 1 with
  | false => rfl
  | true =>
    exfalso
    obtain ⟨y, mo, d, h, mi, sc, hd, q1, q2, q3, ht, he⟩ := match_split calC 1 hx
    unfold timeB at ht
    simp only [Bool.and_eq_true] at ht
    have e1 : h = 0 := in_only 3 0 h (by decide) ht.1.1
    have e2 : mi = 0 := in_only 4 0 mi (by decide) ht.1.2
    have e3 : sc = 0 := in_only 5 0 sc (by decide) ht.2
    subst e1
    subst e2
    subst e3
    omega
end Sp
theorem all_any (w : World) : Calls Tryz.prog 8 #[] w fun e w' => e = .returned (.slice (some ⟨w.heap.size, 0, none⟩) 1 1) ∧ w' = w.alloc (.cells #[.int .i64 (-1), .int .i64 (-1), .int .i64 0] 62) := by
  go_enter Tryz.func8, Tryz.ntmps8
  go_wp2
  go_ret
  exact ⟨by simp, by simp⟩
theorem at_any (n : Int) (w : World) : Calls Tryz.prog 9 #[.int .i64 n] w fun e w' => e = .returned (.slice (some ⟨w.heap.size, 0, none⟩) 1 1) ∧ w' = w.alloc (.cells #[.int .i64 n, .int .i64 (-1), .int .i64 0] 62) := by
  go_enter Tryz.func9, Tryz.ntmps9
  go_wp2
  go_ret
  exact ⟨by simp, by simp⟩
theorem rd_part {w : World} {b : Nat} {p : Sp.PartD} (h : PB w b p) : Rd w w.heap.size 3 (some ⟨b, 0, none⟩) 1 (partsC [p]) :=
  ⟨rfl, fun _ => ⟨_, rfl, h.lt, fun j u hu => h.here j u hu⟩⟩
theorem parse_some {l : List UInt8} {e : Ending} {W : World} {c : Sp.CalD} (h : ParsePost l e W) (hc : Sp.parseP l = some c) : ∃ s : CalS, s.cal = c ∧ CalGood W s ∧ e = .returned (.tuple #[calV s, .bool true]) := by
  rcases h with ⟨s, h1, h2, h3⟩ | ⟨h1, _⟩
  · rw [hc] at h1
    injection h1 with h1
    exact ⟨s, h1.symm, h2, h3⟩
  · rw [hc] at h1
    cases h1
set_option maxRecDepth 100000 in
set_option maxHeartbeats 16000000 in
theorem shown_any (w : World) (E : Env w) : Calls Tryz.prog 4 #[] w fun e w' => e = .returned (.bool true) ∧ Below w.heap.size w w' := by
  have HE := Lib.hid E
  go_enter Tryz.func4, Tryz.ntmps4
  go_wp2_with fail
  refine (parse_any ⟨#[77, 111, 110, 44, 87, 101, 100, 46, 46, 70, 114, 105, 32, 42, 45, 48, 50, 45, 50, 56, 44, 50, 57, 32, 50, 51, 58, 53, 57, 47, 51, 48, 58, 53, 57]⟩ w E).mono ?_
  rintro e w1 ⟨hpp, hb1⟩
  obtain ⟨s1, hc1, hg1, rfl⟩ := parse_some hpp Sp.shown_one
  obtain ⟨⟨dA, dn, dc⟩, ⟨A0, n0, c0⟩, ⟨A1, n1, c1⟩, ⟨A2, n2, c2⟩, ⟨A3, n3, c3⟩, ⟨A4, n4, c4⟩, ⟨A5, n5, c5⟩, cal1⟩ := s1
  dsimp only at hc1
  subst hc1
  have hrd1 := hg1.rd
  have hbx1 := CBox.new w1 ⟨⟨dA, dn, dc⟩, ⟨A0, n0, c0⟩, ⟨A1, n1, c1⟩, ⟨A2, n2, c2⟩, ⟨A3, n3, c3⟩, ⟨A4, n4, c4⟩, ⟨A5, n5, c5⟩, Sp.calA⟩
  have hbal : Below w1.heap.size w1 (w1.alloc (.cells #[slV ⟨dA, dn, dc⟩, slV ⟨A0, n0, c0⟩, slV ⟨A1, n1, c1⟩, slV ⟨A2, n2, c2⟩, slV ⟨A3, n3, c3⟩, slV ⟨A4, n4, c4⟩, slV ⟨A5, n5, c5⟩] 25)) := (Below.refl _ _).alloc (Nat.le_refl _) _
  have hlt1 : w1.heap.size < (w1.alloc (.cells #[slV ⟨dA, dn, dc⟩, slV ⟨A0, n0, c0⟩, slV ⟨A1, n1, c1⟩, slV ⟨A2, n2, c2⟩, slV ⟨A3, n3, c3⟩, slV ⟨A4, n4, c4⟩, slV ⟨A5, n5, c5⟩] 25)).heap.size := by simp
  obtain ⟨ad, had, hint⟩ := Rd.intAt hrd1 1 (show 1 < Sp.calA.days.length by decide)
  have hdn : dn = 4 := by have h := hrd1.1; rw [intsC_len] at h; have e : Sp.calA.days.length = 4 := rfl; dsimp only at h; omega
  dsimp only at had
  subst had
  subst hdn
  simp only [calV, slV] at hbx1 hbal hlt1 ⊢
  have HBX1 := Lib.hid hbx1
  have HINT := Lib.hid hint
  clear hpp hg1 hrd1 hbx1 hint
  go_upto_region 2 with fail
  generalize w1.alloc (.cells #[.slice (some ad) 4 dc, .slice A0 n0 c0, .slice A1 n1 c1, .slice A2 n2 c2, .slice A3 n3 c3, .slice A4 n4 c4, .slice A5 n5 c5] 25) = w2 at *
  have hw2 := hb1.trans (hbal.mono hb1.size)
  go_wp2_with fail
  refine (all_any w2).mono ?_
  rintro e w' ⟨rfl, rfl⟩
  go_wp2_with fail
  refine (at_any 3 _).mono ?_
  rintro e w' ⟨rfl, rfl⟩
  go_wp2_with fail
  refine (at_any 1 _).mono ?_
  rintro e w' ⟨rfl, rfl⟩
  go_wp2_with fail
  refine (at_any 0 _).mono ?_
  rintro e w' ⟨rfl, rfl⟩
  go_wp2_with fail
  refine (at_any 0 _).mono ?_
  rintro e w' ⟨rfl, rfl⟩
  go_wp2_with fail
  refine (at_any 0 _).mono ?_
  rintro e w' ⟨rfl, rfl⟩
  have psz : (((((((w2.alloc (.cells #[.int .i64 (-1), .int .i64 (-1), .int .i64 0] 62)).alloc (.cells #[.int .i64 3, .int .i64 (-1), .int .i64 0] 62)).alloc (.cells #[.int .i64 1, .int .i64 (-1), .int .i64 0] 62)).alloc (.cells #[.int .i64 0, .int .i64 (-1), .int .i64 0] 62)).alloc (.cells #[.int .i64 0, .int .i64 (-1), .int .i64 0] 62)).alloc (.cells #[.int .i64 0, .int .i64 (-1), .int .i64 0] 62))).heap.size = w2.heap.size + 6 := by simp
  have pB : Below w2.heap.size w2 (((((((w2.alloc (.cells #[.int .i64 (-1), .int .i64 (-1), .int .i64 0] 62)).alloc (.cells #[.int .i64 3, .int .i64 (-1), .int .i64 0] 62)).alloc (.cells #[.int .i64 1, .int .i64 (-1), .int .i64 0] 62)).alloc (.cells #[.int .i64 0, .int .i64 (-1), .int .i64 0] 62)).alloc (.cells #[.int .i64 0, .int .i64 (-1), .int .i64 0] 62)).alloc (.cells #[.int .i64 0, .int .i64 (-1), .int .i64 0] 62))) := ((((((((((((Below.refl _ _).alloc (by first | exact Nat.le_refl _ | (simp; done) | (simp; omega)) _)).alloc (by first | exact Nat.le_refl _ | (simp; done) | (simp; omega)) _)).alloc (by first | exact Nat.le_refl _ | (simp; done) | (simp; omega)) _)).alloc (by first | exact Nat.le_refl _ | (simp; done) | (simp; omega)) _)).alloc (by first | exact Nat.le_refl _ | (simp; done) | (simp; omega)) _)).alloc (by first | exact Nat.le_refl _ | (simp; done) | (simp; omega)) _)
  have p0 : PB (((((((w2.alloc (.cells #[.int .i64 (-1), .int .i64 (-1), .int .i64 0] 62)).alloc (.cells #[.int .i64 3, .int .i64 (-1), .int .i64 0] 62)).alloc (.cells #[.int .i64 1, .int .i64 (-1), .int .i64 0] 62)).alloc (.cells #[.int .i64 0, .int .i64 (-1), .int .i64 0] 62)).alloc (.cells #[.int .i64 0, .int .i64 (-1), .int .i64 0] 62)).alloc (.cells #[.int .i64 0, .int .i64 (-1), .int .i64 0] 62))) (w2.heap.size) ⟨(-1), -1, 0⟩ := by
    have h := (PB.alloc (PB.alloc (PB.alloc (PB.alloc (PB.alloc (PB.new w2 (-1) (-1) 0) (.cells #[.int .i64 3, .int .i64 (-1), .int .i64 0] 62)) (.cells #[.int .i64 1, .int .i64 (-1), .int .i64 0] 62)) (.cells #[.int .i64 0, .int .i64 (-1), .int .i64 0] 62)) (.cells #[.int .i64 0, .int .i64 (-1), .int .i64 0] 62)) (.cells #[.int .i64 0, .int .i64 (-1), .int .i64 0] 62))
    try simp only [World.size_alloc] at h
    exact h
  have p1 : PB (((((((w2.alloc (.cells #[.int .i64 (-1), .int .i64 (-1), .int .i64 0] 62)).alloc (.cells #[.int .i64 3, .int .i64 (-1), .int .i64 0] 62)).alloc (.cells #[.int .i64 1, .int .i64 (-1), .int .i64 0] 62)).alloc (.cells #[.int .i64 0, .int .i64 (-1), .int .i64 0] 62)).alloc (.cells #[.int .i64 0, .int .i64 (-1), .int .i64 0] 62)).alloc (.cells #[.int .i64 0, .int .i64 (-1), .int .i64 0] 62))) (w2.heap.size + 1) ⟨3, -1, 0⟩ := by
    have h := (PB.alloc (PB.alloc (PB.alloc (PB.alloc (PB.new (w2.alloc (.cells #[.int .i64 (-1), .int .i64 (-1), .int .i64 0] 62)) 3 (-1) 0) (.cells #[.int .i64 1, .int .i64 (-1), .int .i64 0] 62)) (.cells #[.int .i64 0, .int .i64 (-1), .int .i64 0] 62)) (.cells #[.int .i64 0, .int .i64 (-1), .int .i64 0] 62)) (.cells #[.int .i64 0, .int .i64 (-1), .int .i64 0] 62))
    try simp only [World.size_alloc] at h
    exact h
  have p2 : PB (((((((w2.alloc (.cells #[.int .i64 (-1), .int .i64 (-1), .int .i64 0] 62)).alloc (.cells #[.int .i64 3, .int .i64 (-1), .int .i64 0] 62)).alloc (.cells #[.int .i64 1, .int .i64 (-1), .int .i64 0] 62)).alloc (.cells #[.int .i64 0, .int .i64 (-1), .int .i64 0] 62)).alloc (.cells #[.int .i64 0, .int .i64 (-1), .int .i64 0] 62)).alloc (.cells #[.int .i64 0, .int .i64 (-1), .int .i64 0] 62))) (w2.heap.size + 1 + 1) ⟨1, -1, 0⟩ := by
    have h := (PB.alloc (PB.alloc (PB.alloc (PB.new ((w2.alloc (.cells #[.int .i64 (-1), .int .i64 (-1), .int .i64 0] 62)).alloc (.cells #[.int .i64 3, .int .i64 (-1), .int .i64 0] 62)) 1 (-1) 0) (.cells #[.int .i64 0, .int .i64 (-1), .int .i64 0] 62)) (.cells #[.int .i64 0, .int .i64 (-1), .int .i64 0] 62)) (.cells #[.int .i64 0, .int .i64 (-1), .int .i64 0] 62))
    try simp only [World.size_alloc] at h
    exact h
  have p3 : PB (((((((w2.alloc (.cells #[.int .i64 (-1), .int .i64 (-1), .int .i64 0] 62)).alloc (.cells #[.int .i64 3, .int .i64 (-1), .int .i64 0] 62)).alloc (.cells #[.int .i64 1, .int .i64 (-1), .int .i64 0] 62)).alloc (.cells #[.int .i64 0, .int .i64 (-1), .int .i64 0] 62)).alloc (.cells #[.int .i64 0, .int .i64 (-1), .int .i64 0] 62)).alloc (.cells #[.int .i64 0, .int .i64 (-1), .int .i64 0] 62))) (w2.heap.size + 1 + 1 + 1) ⟨0, -1, 0⟩ := by
    have h := (PB.alloc (PB.alloc (PB.new (((w2.alloc (.cells #[.int .i64 (-1), .int .i64 (-1), .int .i64 0] 62)).alloc (.cells #[.int .i64 3, .int .i64 (-1), .int .i64 0] 62)).alloc (.cells #[.int .i64 1, .int .i64 (-1), .int .i64 0] 62)) 0 (-1) 0) (.cells #[.int .i64 0, .int .i64 (-1), .int .i64 0] 62)) (.cells #[.int .i64 0, .int .i64 (-1), .int .i64 0] 62))
    try simp only [World.size_alloc] at h
    exact h
  have p4 : PB (((((((w2.alloc (.cells #[.int .i64 (-1), .int .i64 (-1), .int .i64 0] 62)).alloc (.cells #[.int .i64 3, .int .i64 (-1), .int .i64 0] 62)).alloc (.cells #[.int .i64 1, .int .i64 (-1), .int .i64 0] 62)).alloc (.cells #[.int .i64 0, .int .i64 (-1), .int .i64 0] 62)).alloc (.cells #[.int .i64 0, .int .i64 (-1), .int .i64 0] 62)).alloc (.cells #[.int .i64 0, .int .i64 (-1), .int .i64 0] 62))) (w2.heap.size + 1 + 1 + 1 + 1) ⟨0, -1, 0⟩ := by
    have h := (PB.alloc (PB.new ((((w2.alloc (.cells #[.int .i64 (-1), .int .i64 (-1), .int .i64 0] 62)).alloc (.cells #[.int .i64 3, .int .i64 (-1), .int .i64 0] 62)).alloc (.cells #[.int .i64 1, .int .i64 (-1), .int .i64 0] 62)).alloc (.cells #[.int .i64 0, .int .i64 (-1), .int .i64 0] 62)) 0 (-1) 0) (.cells #[.int .i64 0, .int .i64 (-1), .int .i64 0] 62))
    try simp only [World.size_alloc] at h
    exact h
  have p5 : PB (((((((w2.alloc (.cells #[.int .i64 (-1), .int .i64 (-1), .int .i64 0] 62)).alloc (.cells #[.int .i64 3, .int .i64 (-1), .int .i64 0] 62)).alloc (.cells #[.int .i64 1, .int .i64 (-1), .int .i64 0] 62)).alloc (.cells #[.int .i64 0, .int .i64 (-1), .int .i64 0] 62)).alloc (.cells #[.int .i64 0, .int .i64 (-1), .int .i64 0] 62)).alloc (.cells #[.int .i64 0, .int .i64 (-1), .int .i64 0] 62))) (w2.heap.size + 1 + 1 + 1 + 1 + 1) ⟨0, -1, 0⟩ := by
    have h := (PB.new (((((w2.alloc (.cells #[.int .i64 (-1), .int .i64 (-1), .int .i64 0] 62)).alloc (.cells #[.int .i64 3, .int .i64 (-1), .int .i64 0] 62)).alloc (.cells #[.int .i64 1, .int .i64 (-1), .int .i64 0] 62)).alloc (.cells #[.int .i64 0, .int .i64 (-1), .int .i64 0] 62)).alloc (.cells #[.int .i64 0, .int .i64 (-1), .int .i64 0] 62)) 0 (-1) 0)
    try simp only [World.size_alloc] at h
    exact h
  try simp only [World.size_alloc]
  generalize ((((((w2.alloc (.cells #[.int .i64 (-1), .int .i64 (-1), .int .i64 0] 62)).alloc (.cells #[.int .i64 3, .int .i64 (-1), .int .i64 0] 62)).alloc (.cells #[.int .i64 1, .int .i64 (-1), .int .i64 0] 62)).alloc (.cells #[.int .i64 0, .int .i64 (-1), .int .i64 0] 62)).alloc (.cells #[.int .i64 0, .int .i64 (-1), .int .i64 0] 62)).alloc (.cells #[.int .i64 0, .int .i64 (-1), .int .i64 0] 62)) = w3 at *
  clear psz
  have hgB : CalGood w3 ⟨⟨none, 0, 0⟩, ⟨some ⟨w2.heap.size, 0, none⟩, 1, 1⟩, ⟨some ⟨w2.heap.size + 1, 0, none⟩, 1, 1⟩, ⟨some ⟨w2.heap.size + 1 + 1, 0, none⟩, 1, 1⟩, ⟨some ⟨w2.heap.size + 1 + 1 + 1, 0, none⟩, 1, 1⟩, ⟨some ⟨w2.heap.size + 1 + 1 + 1 + 1, 0, none⟩, 1, 1⟩, ⟨some ⟨w2.heap.size + 1 + 1 + 1 + 1 + 1, 0, none⟩, 1, 1⟩, Sp.calB⟩ := by
    refine ⟨Rd.empty, fun i hi => ?_, Nat.zero_le _, fun i => ?_⟩
    · have e : i = 0 ∨ i = 1 ∨ i = 2 ∨ i = 3 ∨ i = 4 ∨ i = 5 := by omega
      rcases e with rfl | rfl | rfl | rfl | rfl | rfl
      · exact rd_part p0
      · exact rd_part p1
      · exact rd_part p2
      · exact rd_part p3
      · exact rd_part p4
      · exact rd_part p5
    · match i with
      | 0 => exact (show (1 : Nat) ≤ 9223372036854775807 by decide)
      | 1 => exact (show (1 : Nat) ≤ 9223372036854775807 by decide)
      | 2 => exact (show (1 : Nat) ≤ 9223372036854775807 by decide)
      | 3 => exact (show (1 : Nat) ≤ 9223372036854775807 by decide)
      | 4 => exact (show (1 : Nat) ≤ 9223372036854775807 by decide)
      | n + 5 => exact (show (1 : Nat) ≤ 9223372036854775807 by decide)
  have HNX := Lib.hid (next_any _ 0 w3 hgB (by decide))
  simp only [calV, slV] at HNX
  have hw3 := hw2.trans (pB.mono hw2.size)
  clear hgB p0 p1 p2 p3 p4 p5
  go_wp2_with fail
  refine HNX.out.mono ?_
  rintro e w4 ⟨⟨v, ok, rfl, hnx⟩, hb4⟩
  obtain ⟨rfl, rfl⟩ := Sp.NextIs.unique hnx Sp.next_shown
  have hw4 := hw3.trans (hb4.mono hw3.size)
  clear hnx HNX
  go_wp2_with fail
  refine (parse_any ⟨#[100, 97, 105, 108, 121]⟩ w4 (HE.out.on hw4)).mono ?_
  rintro e w5 ⟨hpp, hb5⟩
  obtain ⟨s3, hc3, hg3, rfl⟩ := parse_some hpp Sp.shown_two
  obtain ⟨⟨dA', dn', dc'⟩, ⟨B0, m0, e0⟩, ⟨B1, m1, e1⟩, ⟨B2, m2, e2⟩, ⟨B3, m3, e3⟩, ⟨B4, m4, e4⟩, ⟨B5, m5, e5⟩, cal3⟩ := s3
  dsimp only at hc3
  subst hc3
  have hbx3 := CBox.new w5 ⟨⟨dA', dn', dc'⟩, ⟨B0, m0, e0⟩, ⟨B1, m1, e1⟩, ⟨B2, m2, e2⟩, ⟨B3, m3, e3⟩, ⟨B4, m4, e4⟩, ⟨B5, m5, e5⟩, Sp.calC⟩
  have hba5 : Below w5.heap.size w5 (w5.alloc (.cells #[slV ⟨dA', dn', dc'⟩, slV ⟨B0, m0, e0⟩, slV ⟨B1, m1, e1⟩, slV ⟨B2, m2, e2⟩, slV ⟨B3, m3, e3⟩, slV ⟨B4, m4, e4⟩, slV ⟨B5, m5, e5⟩] 25)) := (Below.refl _ _).alloc (Nat.le_refl _) _
  have hlt3 : w5.heap.size < (w5.alloc (.cells #[slV ⟨dA', dn', dc'⟩, slV ⟨B0, m0, e0⟩, slV ⟨B1, m1, e1⟩, slV ⟨B2, m2, e2⟩, slV ⟨B3, m3, e3⟩, slV ⟨B4, m4, e4⟩, slV ⟨B5, m5, e5⟩] 25)).heap.size := by simp
  have hg6 := hg3.on hba5
  have h15 : Below w1.heap.size w1 w5 := hbal.trans (((pB.trans (hb4.mono pB.size)).trans (hb5.mono (pB.trans (hb4.mono pB.size)).size)).mono hbal.size)
  have h25 : Below w2.heap.size w2 w5 := (pB.trans (hb4.mono pB.size)).trans (hb5.mono (pB.trans (hb4.mono pB.size)).size)
  have hw5 := hw4.trans (hb5.mono hw4.size)
  simp only [calV, slV] at hbx3 hba5 hlt3 hg6 ⊢
  clear hpp hg3
  go_upto_region 4 with fail
  generalize w5.alloc (.cells #[.slice dA' dn' dc', .slice B0 m0 e0, .slice B1 m1 e1, .slice B2 m2 e2, .slice B3 m3 e3, .slice B4 m4 e4, .slice B5 m5 e5] 25) = w6 at *
  have h16 := h15.trans (hba5.mono h15.size)
  have h26 := h25.trans (hba5.mono h25.size)
  have hw6 := hw5.trans (hba5.mono hw5.size)
  have q0 : w6.cell? ⟨w1.heap.size, 0, none⟩ = some (.slice (some ad) 4 dc) := (HBX1.out.on h26 hlt1).c0
  have q1 : w6.cell? (ad.add 1) = some (.int .i64 3) := HINT.out w6 h16
  have q1b : w6.cell? ⟨ad.block, ad.off + 1, none⟩ = some (.int .i64 3) := q1
  obtain ⟨k0, k1, k2, k3, k4, k5, k6⟩ := hbx3
  have HBX3 : Hid (CBox w6 w5.heap.size ⟨⟨dA', dn', dc'⟩, ⟨B0, m0, e0⟩, ⟨B1, m1, e1⟩, ⟨B2, m2, e2⟩, ⟨B3, m3, e3⟩, ⟨B4, m4, e4⟩, ⟨B5, m5, e5⟩, Sp.calC⟩) := Lib.hid ⟨k0, k1, k2, k3, k4, k5, k6⟩
  simp only [slV] at k0 k1 k2 k3 k4 k5 k6
  have HG6 := Lib.hid hg6
  have HM1 := Lib.hid (match_any _ 86400 w6 hg6 (by decide))
  simp only [Sp.match_shown, calV, slV] at HM1
  have HW6 := Lib.hid hw6
  clear hg6 hw6 h16 h26 h15 h25 hba5 hbal hb1 hw2 hw3 hw4 hw5 hb4 hb5 pB HBX1 HINT E
  have hl6 : w5.heap.size < w6.heap.size := hlt3
  go_wp2_with fail
  refine HM1.out.mono ?_
  rintro e w7 ⟨rfl, hb7⟩
  obtain ⟨k0, k1, k2, k3, k4, k5, k6⟩ := HBX3.out.on hb7 hl6
  have HBX7 : Hid (CBox w7 w5.heap.size ⟨⟨dA', dn', dc'⟩, ⟨B0, m0, e0⟩, ⟨B1, m1, e1⟩, ⟨B2, m2, e2⟩, ⟨B3, m3, e3⟩, ⟨B4, m4, e4⟩, ⟨B5, m5, e5⟩, Sp.calC⟩) := Lib.hid ⟨k0, k1, k2, k3, k4, k5, k6⟩
  simp only [slV] at k0 k1 k2 k3 k4 k5 k6
  have HG7 := Lib.hid (HG6.out.on hb7)
  have HW7 := Lib.hid (HW6.out.trans (hb7.mono HW6.out.size))
  have hl7 : w5.heap.size < w7.heap.size := Nat.lt_of_lt_of_le hl6 hb7.size
  have HM2 := Lib.hid (match_any _ 1 w7 HG7.out (by decide))
  simp only [Sp.match_shown_not, calV, slV] at HM2
  clear hb7 HBX3 HG6 HM1
  go_wp2_with fail
  refine HM2.out.mono ?_
  rintro e w8 ⟨rfl, hb8⟩
  obtain ⟨k0, k1, k2, k3, k4, k5, k6⟩ := HBX7.out.on hb8 hl7
  simp only [slV] at k0 k1 k2 k3 k4 k5 k6
  have HW8 := Lib.hid (HW7.out.trans (hb8.mono HW7.out.size))
  have HPR := Lib.hid (print_any _ w8 (HG7.out.on hb8) (HE.out.on HW8.out))
  simp only [Sp.shown_text, calV, slV] at HPR
  clear hb8 HBX7 HG7 HM2
  go_wp2_with fail
  refine HPR.out.mono ?_
  rintro e w9 ⟨rfl, hb9⟩
  have HW9 := Lib.hid (HW8.out.trans (hb9.mono HW8.out.size))
  clear hb9
  have htx : (Sp.bts [42, 45, 42, 45, 42, 32, 48, 48, 58, 48, 48, 58, 48, 48]).toList = [42, 45, 42, 45, 42, 32, 48, 48, 58, 48, 48, 58, 48, 48] := by rw [Lib.toList_data, bts_list]
  go_wp2
  go_ret
  exact ⟨by simp, HW9.out⟩

end Go.Proofs.YtpkpoglmmjaoeaaGreatDoor
