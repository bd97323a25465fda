/-
  The walk of the span that a text says.
-/
import Derived.Test.YtnfbhhffclahjaaDoorTsX
namespace Go.Proofs.YtnfbhhffclahjaaDoor
open Go.RowKit Go.Lib

theorem rd_at {w : World} {B n : Nat} {A : Option Addr} {l : List ByteArray} (h : Rd w B 1 A n (strCells l)) (k : Nat) (hk : k < l.length) : ∃ ad, A = some ad ∧ w.cell? (ad.add k) = some (.string l[k]) := by
  have hl : l.length = n := by have := h.len; simpa [strCells] using this
  obtain ⟨ad, e, _, hc⟩ := h.here (by omega)
  exact ⟨ad, e, hc k _ (by simp [strCells, hk])⟩

/-- where a loop over the words stands -/
def SumAt (p : List (List UInt8)) (k t : Nat) : Prop := Sp.sumS p 0 = Sp.sumS (p.drop k) t
theorem SumAt.start (p : List (List UInt8)) : SumAt p 0 0 := by unfold SumAt; simp
theorem SumAt.none {p : List (List UInt8)} {k t : Nat} (h : SumAt p k t) {x : List UInt8} {r : List (List UInt8)} (e : p.drop k = x :: r) (hx : Sp.wordS x = .none) : Sp.sumS p 0 = .none := by
  unfold SumAt at h; rw [h, e, Sp.sumS, hx]
theorem SumAt.over {p : List (List UInt8)} {k t n : Nat} (h : SumAt p k t) {x : List UInt8} {r : List (List UInt8)} (e : p.drop k = x :: r) (hx : Sp.wordS x = some n) (hn : 6311433600 < t + n) : Sp.sumS p 0 = .none := by
  unfold SumAt at h; rw [h, e, Sp.sumS, hx]; simp only; rw [if_pos hn]
theorem SumAt.more {p : List (List UInt8)} {k t n : Nat} (h : SumAt p k t) {x : List UInt8} {r : List (List UInt8)} (e : p.drop k = x :: r) (hx : Sp.wordS x = some n) (hn : ¬ 6311433600 < t + n) : SumAt p (k + 1) (t + n) := by
  unfold SumAt at h ⊢
  rw [h, e, Sp.sumS, hx]; simp only; rw [if_neg hn]
  have : p.drop (k + 1) = r := by rw [← List.drop_drop, e]; rfl
  rw [this]
theorem SumAt.done {p : List (List UInt8)} {k t : Nat} (h : SumAt p k t) (hk : ¬ k < p.length) : Sp.sumS p 0 = some t := by
  unfold SumAt at h; rw [h, List.drop_eq_nil_of_le (by omega), Sp.sumS]
theorem drop_at (l : List ByteArray) (p : List (List UInt8)) (h : l.map (fun b => b.data.toList) = p) (k : Nat) (hk : k < l.length) : p.drop k = l[k].data.toList :: p.drop (k + 1) := by
  subst h
  rw [List.drop_eq_getElem_cons (by simpa using hk)]
  simp

def spanE (o : Nat × Bool) : Value := .tuple #[.int .i64 (o.1 : Nat), .bool o.2]
theorem parse_ev (s : List UInt8) (h : s = Sp.endless) : Sp.parseL s = (1099511627776, true) := by unfold Sp.parseL; rw [if_pos h]
theorem parse_no (s : List UInt8) (h : s ≠ Sp.endless) (hn : Sp.sumS (Sp.partsOf s) 0 = none) : Sp.parseL s = (0, false) := by unfold Sp.parseL; rw [if_neg h, hn]
theorem parse_some (s : List UInt8) (h : s ≠ Sp.endless) (t : Nat) (hn : Sp.sumS (Sp.partsOf s) 0 = some t) : Sp.parseL s = (t, !(Sp.partsOf s).isEmpty) := by unfold Sp.parseL; rw [if_neg h, hn]

set_option maxHeartbeats 1000000 in
theorem parse_any (s : ByteArray) (w : World) (hs : s.size ≤ 4294967296) :
    Calls Tryd.prog 8 #[.string s] w fun e w' => e = .returned (spanE (Sp.parseL s.data.toList)) ∧ Below w.heap.size w w' := by
  by_cases hE : s.data.toList = Sp.endless
  · rw [parse_ev _ hE, ba_of s _ hE]
    go_enter Tryd.func8, Tryd.ntmps8
    go_wp2
    go_ret2
    exact ⟨rfl, Below.refl _ _⟩
  have hEb := eq_no s Sp.endless hE
  have HNO := Lib.hid (parse_no _ hE)
  have HSOME := Lib.hid (parse_some _ hE)
  have HEB : Hid ((s.toList == [105, 110, 102, 105, 110, 105, 116, 121]) = false) := Lib.hid hEb
  clear hE hEb
  have hEb := HEB.out
  go_enter Tryd.func8, Tryd.ntmps8
  go_wp2_with fail
  refine (words_row s w hs).mono ?_
  rintro e w1 ⟨A, l, rfl, hl, hr, hb1⟩
  have hlp : l.length = (Sp.partsOf s.data.toList).length := by have := congrArg List.length hl; simpa using this
  have hpl := Sp.partsOf_len s.data.toList
  have hz : s.data.toList.length = s.size := by simp
  have hln : l.length ≤ 4294967296 := by omega
  have HBY : Hid (∀ b ∈ l, b.size ≤ 4294967296) := Lib.hid (by
    intro b hb
    have h1 : b.data.toList ∈ Sp.partsOf s.data.toList := by rw [← hl]; exact List.mem_map.2 ⟨b, hb, rfl⟩
    have h2 := Sp.partsOf_bytes _ _ h1
    have h3 : b.data.toList.length = b.size := by simp
    omega)
  generalize Sp.partsOf s.data.toList = p at *
  have HL := Lib.hid hl
  have HLP := Lib.hid hlp
  clear hl hlp hpl hz hEb
  go_wp2_with fail
  go_loopw [5, 16] (fun tv i wr => ∃ (k t : Nat), k ≤ l.length ∧ tv = .int .i64 t ∧ i = .int .i64 k ∧ t ≤ 6311433600 ∧ Below w1.heap.size w1 wr ∧ Hid (SumAt p k t)) (fun _ i _ => l.length - (intOf i).toNat)
  case atStart => exact ⟨0, 0, Nat.zero_le _, rfl, rfl, by omega, Below.refl _ _, Lib.hid (SumAt.start _)⟩
  case round =>
    obtain ⟨k, t, hk, rfl, rfl, ht, hb, HS⟩ := hrel
    by_cases hlt : k < l.length
    · obtain ⟨ad, rfl, hc⟩ := rd_at (hr.below hb) k hlt
      have HDR := Lib.hid (drop_at l p HL.out k hlt)
      have hsz : l[k].size ≤ 4294967296 := HBY.out _ (List.getElem_mem hlt)
      generalize l[k] = x at *
      have x1 : (0 : Int) ≤ (k : Int) := by omega
      have x2 : (k : Int) < (l.length : Int) := by omega
      cases hw : Sp.wordS x.data.toList with
      | none =>
        have HN := Lib.hid (HNO.out (HS.out.none HDR.out hw))
        have HW := Lib.hid hw
        clear hw
        go_wp2_with fail
        refine (word_any x _ hsz).mono ?_
        rintro e w2 ⟨rfl, hb2⟩
        rw [HW.out]
        have hb3 := hb1.trans ((hb.trans (hb2.mono hb.size)).mono hb1.size)
        simp only [wordE]
        go_wp2
        go_ret2
        exact ⟨by rw [HN.out]; rfl, hb3⟩
      | some n =>
        have hn6 := Sp.wordS_le _ _ hw
        have HW := Lib.hid hw
        by_cases hov : 6311433600 < t + n
        · have HN := Lib.hid (HNO.out (HS.out.over HDR.out hw hov))
          clear hw
          go_wp2_with fail
          refine (word_any x _ hsz).mono ?_
          rintro e w2 ⟨rfl, hb2⟩
          rw [HW.out]
          have hb3 := hb1.trans ((hb.trans (hb2.mono hb.size)).mono hb1.size)
          simp only [wordE]
          go_wp2
          go_ret2
          exact ⟨by rw [HN.out]; rfl, hb3⟩
        · have HM := Lib.hid (HS.out.more HDR.out hw hov)
          clear hw
          go_wp2_with fail
          refine (word_any x _ hsz).mono ?_
          rintro e w2 ⟨rfl, hb2⟩
          rw [HW.out]
          have hb3 := hb.trans (hb2.mono hb.size)
          simp only [wordE]
          go_wp2
          go_roundw
          case rel => exact ⟨k + 1, t + n, by omega, by go_num, by go_num, by omega, hb3, HM⟩
          case measure => first | (simp [intOf]; done) | (simp [intOf]; omega)
    · have x1 : ¬ (k : Int) < (l.length : Int) := by omega
      have HN := Lib.hid (HSOME.out t (HS.out.done (by rw [← HLP.out]; exact hlt)))
      have hb3 := hb1.trans (hb.mono hb1.size)
      have hem : (!p.isEmpty) = decide (0 < (l.length : Int)) := by
        rw [← HL.out]
        cases l <;> simp
      have HEM := Lib.hid hem
      clear hem
      go_wp2
      go_ret2
      exact ⟨by rw [HN.out]; simp [spanE, HEM.out], hb3⟩

end Go.Proofs.YtnfbhhffclahjaaDoor
