/-
  slices.Contains at ints that lie anywhere; a calendar's weekdays: the program's walks.
-/
import Derived.Test.YtpkpoglmmjaoeaaGreatDoorCr
namespace Go.Proofs.YtpkpoglmmjaoeaaGreatDoor
open Go.RowKit Go.Shelf

set_option maxHeartbeats 4000000 in
theorem iidx_any (x : Int) (l : List Int) (A : Option Addr) (n c : Nat) (w : World) (h : Rd w w.heap.size 1 A n (intsC l)) (hn : n ≤ 9223372036854775807) :
    Calls Tryz.prog 78 #[.slice A n c, .int .i64 x] w fun e w' => (∃ i : Int, e = .returned (.int .i64 i) ∧ decide (i ≥ 0) = l.any (fun d => decide (d = x))) ∧ w = w' := by
  have hlen : l.length = n := by have := h.1; rw [intsC_len] at this; omega
  have HL := Lib.hid hlen
  have HROW := Lib.hid (fun k hk => Rd.intAt h k hk)
  clear hlen h
  go_enter Tryz.func78, Tryz.ntmps78
  go_wp2_with fail
  go_loopw [5, 8] (fun _ iv wr => w = wr ∧ ∃ k : Nat, k ≤ n ∧ iv = .int .i64 k ∧ Hid (∀ d ∈ l.take k, decide (d = x) = false)) (fun _ iv _ => n - (intOf iv).toNat)
  case atStart => exact ⟨rfl, 0, Nat.zero_le _, rfl, Lib.hid (by simp)⟩
  case round =>
    obtain ⟨rfl, k, hk, rfl, HA⟩ := hrel
    by_cases hlt : k < n
    · have hkl : k < l.length := by rw [HL.out]; exact hlt
      obtain ⟨ad, rfl, hc⟩ := HROW.out k hkl
      have c0 := hc w (Below.refl _ _)
      have HTK : Hid (l.take (k + 1) = l.take k ++ [l[k]]) := Lib.hid (List.take_succ_eq_append_getElem hkl)
      have HMEM : Hid (l[k] ∈ l) := Lib.hid (List.getElem_mem hkl)
      clear hc
      generalize l[k] = y at *
      have x1 : (0 : Int) ≤ (k : Int) := by omega
      have x2 : (k : Int) < (n : Int) := by omega
      cases hq : (x == y) with
      | true =>
        have HR : Hid (l.any (fun d => decide (d = x)) = true) := Lib.hid (List.any_eq_true.2 ⟨_, HMEM.out, by have : x = y := (by simpa using hq); simp [this]⟩)
        go_wp2
        go_ret
        exact ⟨⟨(k : Int), rfl, by rw [HR.out]; exact decide_eq_true (by omega)⟩, rfl⟩
      | false =>
        have HQ : Hid (decide (y = x) = false) := Lib.hid (decide_eq_false (fun e => by subst e; simp at hq))
        go_wp2
        go_roundw
        case rel => exact ⟨by first | rfl | trivial, k + 1, by omega, by go_num, Lib.hid (by
          rw [HTK.out]
          intro d hd
          rcases List.mem_append.1 hd with hd | hd
          · exact HA.out d hd
          · rw [List.mem_singleton] at hd; rw [hd]; exact HQ.out)⟩
        case measure => simp [intOf]; omega
    · have x2 : ¬ (k : Int) < (n : Int) := by omega
      have HR : Hid (l.any (fun d => decide (d = x)) = false) := Lib.hid (by
        rw [List.any_eq_false]
        intro d hd
        have := HA.out d (by rw [List.take_of_length_le (by rw [HL.out]; omega)]; exact hd)
        rw [this]; simp)
      go_wp2
      go_ret
      exact ⟨⟨-1, rfl, by rw [HR.out]; rfl⟩, rfl⟩
theorem icontains_any (x : Int) (l : List Int) (A : Option Addr) (n c : Nat) (w : World) (h : Rd w w.heap.size 1 A n (intsC l)) (hn : n ≤ 9223372036854775807) :
    Calls Tryz.prog 60 #[.slice A n c, .int .i64 x] w fun e w' => e = .returned (.bool (l.any (fun d => decide (d = x)))) ∧ w = w' := by
  have HI := Lib.hid (iidx_any x l A n c w h hn)
  generalize l.any (fun d => decide (d = x)) = q at *
  clear h
  go_enter Tryz.func60, Tryz.ntmps60
  go_wp2_with fail
  refine HI.out.mono ?_
  rintro e w2 ⟨⟨i, rfl, hi⟩, rfl⟩
  clear HI
  cases q with
  | true =>
    have h1 : i ≥ 0 := of_decide_eq_true hi
    clear hi
    go_wp2
    go_ret
    exact ⟨rfl, rfl⟩
  | false =>
    have h1 : ¬ i ≥ 0 := of_decide_eq_false hi
    have h2 : decide (0 ≤ i) = false := decide_eq_false (by omega)
    have H1 := Lib.hid h1
    clear hi h1
    go_wp2
    go_ret
    exact ⟨rfl, rfl⟩
set_option maxHeartbeats 4000000 in
theorem wday_any (s : CalS) (n : Int) (w : World) (h : CalGood w s) : Calls Tryz.prog 33 #[calV s, .int .i64 n] w fun e w' => e = .returned (.bool (Sp.wdayB s.cal.days n)) ∧ Below w.heap.size w w' := by
  have hb0 : Below w.heap.size w (w.alloc (.cells #[slV s.d, slV s.f0, slV s.f1, slV s.f2, slV s.f3, slV s.f4, slV s.f5] 25)) := (Below.refl _ _).alloc (Nat.le_refl _) _
  have hc : (w.alloc (.cells #[slV s.d, slV s.f0, slV s.f1, slV s.f2, slV s.f3, slV s.f4, slV s.f5] 25)).cell? ⟨w.heap.size, 0, none⟩ = some (slV s.d) := by simp
  have HIC := Lib.hid (icontains_any n s.cal.days s.d.A s.d.n s.d.c _ ((h.on hb0).rd) h.bd)
  have hlen : s.cal.days.length = s.d.n := by have := h.rd.1; rw [intsC_len] at this; omega
  have HW : Hid (Sp.wdayB s.cal.days n = (s.cal.days.isEmpty || s.cal.days.any (fun d => decide (d = n)))) := Lib.hid rfl
  have HE : Hid (s.cal.days.isEmpty = decide (s.d.n = 0)) := Lib.hid (by rw [← hlen]; cases s.cal.days <;> simp)
  generalize s.cal.days.any (fun d => decide (d = n)) = q at *
  generalize s.cal.days.isEmpty = em at *
  generalize Sp.wdayB s.cal.days n = r at *
  clear h hlen
  obtain ⟨⟨dA, dn, dc⟩, ⟨A0, n0, c0⟩, ⟨A1, n1, c1⟩, ⟨A2, n2, c2⟩, ⟨A3, n3, c3⟩, ⟨A4, n4, c4⟩, ⟨A5, n5, c5⟩, cal⟩ := s
  simp only [slV] at hb0 hc HIC HE
  show Calls Tryz.prog 33 #[.agg #[.slice dA dn dc, .slice A0 n0 c0, .slice A1 n1 c1, .slice A2 n2 c2, .slice A3 n3 c3, .slice A4 n4 c4, .slice A5 n5 c5], .int .i64 n] w fun e w' => e = .returned (.bool r) ∧ Below w.heap.size w w'
  go_enter Tryz.func33, Tryz.ntmps33
  go_upto_region 1 with fail
  generalize (w.alloc (.cells #[.slice dA dn dc, .slice A0 n0 c0, .slice A1 n1 c1, .slice A2 n2 c2, .slice A3 n3 c3, .slice A4 n4 c4, .slice A5 n5 c5] 25)) = w1 at *
  generalize hbs : w.heap.size = b1 at *
  have HBS := Lib.hid hbs
  have HB := Lib.hid hb0
  clear hbs hb0
  cases hz : ((dn : Int) == 0) with
  | true =>
    have HR : Hid (r = true) := Lib.hid (by rw [HW.out, HE.out, decide_eq_true (by simpa using hz)]; rfl)
    go_wp2
    rw [HR.out]
    go_ret
    rw [HBS.out]
    exact ⟨rfl, HB.out⟩
  | false =>
    have HR : Hid (r = q) := Lib.hid (by rw [HW.out, HE.out, decide_eq_false (by simpa using hz)]; rfl)
    go_wp2_with fail
    refine HIC.out.mono ?_
    rintro e w2 ⟨rfl, rfl⟩
    go_wp2
    rw [HR.out]
    go_ret
    rw [HBS.out]
    exact ⟨rfl, HB.out⟩

end Go.Proofs.YtpkpoglmmjaoeaaGreatDoor
