/-
  The walk that says who calls.
-/
import Derived.Test.YtkfeicgeobhccaaWm
namespace Go.Proofs.Ytkfeicgeobhccaa
open Go.RowKit Go.Sort

/-- is a number among some? -/
def hasI (ps : List Int) (x : Int) : Bool := ps.any fun p => x == p
theorem hasI_take (ps : List Int) (x : Int) (k : Nat) (h : k < ps.length) : hasI (ps.take (k + 1)) x = (hasI (ps.take k) x || (x == ps[k])) := by
  unfold hasI
  rw [List.take_succ_eq_append_getElem h]; simp only [List.any_append, List.any_cons, List.any_nil, Bool.or_false]

set_option maxHeartbeats 1000000 in
theorem index_any (A : Option Addr) (n c B : Nat) (ps : List Int) (x : Int) (w : World) (h : Rd w B 1 A n (ps.map (Value.int .i64))) (hn : n ≤ 140737488355328) :
    Calls Try.prog 46 #[.slice A n c, .int .i64 x] w fun e w' => ∃ r : Int, e = .returned (.int .i64 r) ∧ decide (0 ≤ r) = hasI ps x ∧ w = w' := by
  have hl : ps.length = n := by have h1 := h.1; simp at h1; omega
  have HL := Lib.hid hl
  clear hl
  go_enter Try.func46, Try.ntmps46
  go_wp2_with fail
  go_loopw [8] (fun iv wr => ∃ k : Nat, k ≤ n ∧ iv = .int .i64 k ∧ w = wr ∧ Hid (hasI (ps.take k) x = false)) (fun iv _ => n - (intOf iv).toNat)
  case atStart => exact ⟨0, Nat.zero_le _, rfl, rfl, Lib.hid rfl⟩
  case round =>
    obtain ⟨k, hk, rfl, rfl, HK⟩ := hrel
    by_cases hlt : k < n
    · obtain ⟨ad, rfl, hadB, hc⟩ := h.here (by omega)
      have hkl : k < ps.length := by rw [HL.out]; exact hlt
      have c0 : w.cell? (ad.add k) = some (.int .i64 ps[k]) := hc k _ (by simp [hkl])
      have HT := Lib.hid (hasI_take ps x k hkl)
      generalize hp : ps[k] = p at *
      have x1 : (0 : Int) ≤ (k : Int) := by omega
      have x2 : (k : Int) < (n : Int) := by omega
      clear hp hc
      cases he : (x == p) with
      | true =>
        have HN : Hid (hasI ps x = true) := Lib.hid (by
          have h9 : hasI (ps.take (k + 1)) x = true := by rw [HT.out, he, Bool.or_true]
          unfold hasI at h9 ⊢
          rw [List.any_eq_true] at h9 ⊢
          obtain ⟨y, hy, hy2⟩ := h9
          exact ⟨y, List.mem_of_mem_take hy, hy2⟩)
        go_wp2
        go_ret
        exact ⟨k, rfl, by rw [HN.out]; simp, by first | rfl | trivial⟩
      | false =>
        have HN : Hid (hasI (ps.take (k + 1)) x = false) := Lib.hid (by rw [HT.out, HK.out, he]; rfl)
        go_wp2
        go_roundw
        case rel => exact ⟨k + 1, by omega, by go_num, by first | rfl | trivial, HN⟩
        case measure => first | (simp [intOf]; done) | (simp [intOf]; omega)
    · have HN : Hid (hasI ps x = false) := Lib.hid (by have := HK.out; rw [List.take_of_length_le (by rw [HL.out]; omega)] at this; exact this)
      have x1 : ¬ (k : Int) < (n : Int) := by omega
      go_wp2
      go_ret
      exact ⟨-1, rfl, by rw [HN.out]; simp, by first | rfl | trivial⟩

theorem has_any (A : Option Addr) (n c B : Nat) (ps : List Int) (x : Int) (w : World) (h : Rd w B 1 A n (ps.map (Value.int .i64))) (hn : n ≤ 140737488355328) :
    Calls Try.prog 37 #[.slice A n c, .int .i64 x] w fun e w' => e = .returned (.bool (hasI ps x)) ∧ w = w' := by
  go_enter Try.func37, Try.ntmps37
  go_wp2_with fail
  refine (index_any A n c B ps x w h hn).mono ?_
  rintro e w2 ⟨r, rfl, hr, rfl⟩
  have HR := Lib.hid hr
  clear hr
  go_wp2
  go_ret
  exact ⟨ret_bool HR.out, rfl⟩

/-- those that call some ports -/
def callsF (ps : List Int) (l : List (Int × Int × Int)) : List (Int × Int × Int) := l.filter fun c => hasI ps c.2.1
theorem callsF_yes (ps : List Int) (l : List (Int × Int × Int)) (k : Nat) (h : k < l.length) (hp : hasI ps l[k].2.1 = true) : callsF ps (l.take (k + 1)) = callsF ps (l.take k) ++ [l[k]] := by
  unfold callsF
  rw [List.take_succ_eq_append_getElem h, List.filter_append]; simp [hp]
theorem callsF_no (ps : List Int) (l : List (Int × Int × Int)) (k : Nat) (h : k < l.length) (hp : hasI ps l[k].2.1 = false) : callsF ps (l.take (k + 1)) = callsF ps (l.take k) := by
  unfold callsF
  rw [List.take_succ_eq_append_getElem h, List.filter_append]; simp [hp]
theorem callsF_len (ps : List Int) (l : List (Int × Int × Int)) (k : Nat) : (callsF ps (l.take k)).length ≤ k := by
  unfold callsF
  exact Nat.le_trans (List.length_filter_le _ _) (List.length_take_le _ _)
theorem callCells_app (a b : List (Int × Int × Int)) : callCells (a ++ b) = callCells a ++ callCells b := by simp [callCells]
theorem call_info : (Try.prog.info? 54).map (fun i => (i.zero, i.size, i.bytes)) = some (some (.agg #[.int .i64 0, .int .i64 0, .int .i64 0]), 3, 24) := by kernel_rfl
/-- what is asked of the sort -/
def SortsTo (L T : List (Int × Int × Int)) : Prop :=
  ∀ (base : Nat) (v : Value) (w : World), w.ownsRow base 54 3 v L.length (callCells L) →
    Calls Try.prog 38 #[v, .func (.func 39) #[] #[]] w fun e w' => e = .returned (.tuple #[]) ∧ w'.ownsRow base 54 3 v L.length (callCells T) ∧ w.grownBy w' v.ownBlock
theorem sorts_small (L : List (Int × Int × Int)) (h : L.length < 20) : SortsTo L (smallSorted L) := fun base v w hw => sort_small base v L.length L w hw h

set_option maxRecDepth 100000 in
set_option maxHeartbeats 4000000 in
theorem calls_any (aA : Option Addr) (an ac : Nat) (cA : Option Addr) (cn cc : Nat) (kA : Option Addr) (kn kc : Nat) (l : List (Int × Int × Int)) (pA : Option Addr) (pn pc : Nat) (ps : List Int) (T : List (Int × Int × Int)) (w : World) (B : Nat) (h : Rd w B 3 cA cn (callCells l)) (hp : Rd w B 1 pA pn (ps.map (Value.int .i64))) (hB : B ≤ w.heap.size) (hn : cn ≤ 1099511627776) (hpn : pn ≤ 140737488355328) (hT : SortsTo (callsF ps l) T) :
    Calls Try.prog 19 #[.agg #[.slice aA an ac, .slice cA cn cc, .slice kA kn kc], .slice pA pn pc] w fun e w' => ∃ (A' : Option Addr) (c' : Nat), e = .returned (.slice A' (callsF ps l).length c') ∧ w'.ownsRow w.heap.size 54 3 (.slice A' (callsF ps l).length c') (callsF ps l).length (callCells T) ∧ Below w.heap.size w w' := by
  obtain ⟨i0, hi, hz0, hz1, hz2⟩ := info_parts call_info
  have hl : l.length = cn := by have h1 := h.1; rw [callCells_len] at h1; omega
  have HL := Lib.hid hl
  have HT := Lib.hid hT
  clear hl hT
  go_enter Try.func19, Try.ntmps19
  go_wp2_with fail
  go_loopw [5, 11] (fun v iv wr => ∃ (k : Nat) (L : List (Int × Int × Int)), k ≤ cn ∧ iv = .int .i64 k ∧ wr.ownsRow (w.heap.size + 1) 54 3 v L.length (callCells L) ∧ Below (w.heap.size + 1) (w.alloc (.cells #[.slice aA an ac, .slice cA cn cc, .slice kA kn kc] 26)) wr ∧ L.length ≤ k ∧ Hid (callsF ps (l.take k) = L)) (fun _ iv _ => cn - (intOf iv).toNat)
  case atStart => exact ⟨0, [], Nat.zero_le _, rfl, ⟨by simp [callCells], .inl ⟨rfl, rfl⟩⟩, Below.refl _ _, by simp, Lib.hid rfl⟩
  case round =>
    obtain ⟨k, L, hk, rfl, hown, hb, hLk, HA⟩ := hrel
    have hbs : w.heap.size + 1 ≤ wr.heap.size := by have := hb.size; simpa using this
    have hbw : Below w.heap.size w wr := ((Below.refl w.heap.size w).alloc (Nat.le_refl _) (.cells #[.slice aA an ac, .slice cA cn cc, .slice kA kn kc] 26)).trans (hb.mono (by omega))
    by_cases hlt : k < cn
    · obtain ⟨ad, rfl, hadB, hc⟩ := (h.below (hbw.mono hB)).here (by omega)
      have hkl : k < l.length := by rw [HL.out]; exact hlt
      obtain ⟨p1, p2, p3⟩ := callCells_at l k hkl
      have c1 := hc _ _ p1
      have c2 := hc _ _ p2
      have c3 := hc _ _ p3
      rw [Mem.add_field _ _ 1 (by omega)] at c2
      rw [Mem.add_field _ _ 2 (by omega)] at c3
      have HY := Lib.hid (callsF_yes ps l k hkl)
      have HNO := Lib.hid (callsF_no ps l k hkl)
      generalize hp : l[k] = p at *
      obtain ⟨pt, pu, py⟩ := p
      dsimp only at c1 c2 c3
      have x1 : (0 : Int) ≤ (k : Int) := by omega
      have x2 : (k : Int) < (cn : Int) := by omega
      clear hp p1 p2 p3 hc
      have hbA := hbw.alloc hbw.size (.cells #[.int .i64 pt, .int .i64 pu, .int .i64 py] 54)
      have hbB := hb.alloc hbs (.cells #[.int .i64 pt, .int .i64 pu, .int .i64 py] 54)
      have hhas := has_any pA pn pc B ps pu (wr.alloc (.cells #[.int .i64 pt, .int .i64 pu, .int .i64 py] 54)) (hp.below (hbA.mono hB)) hpn
      have HH := Lib.hid hhas
      clear hhas
      cases hx : hasI ps pu with
      | true =>
        have HN := Lib.hid (HY.out hx)
        have HX := Lib.hid hx
        clear hx
        go_wp2_with fail
        refine HH.out.mono ?_
        rintro e w' ⟨rfl, rfl⟩
        rw [HX.out]
        have hfr := Rd.fresh (wr.alloc (.cells #[.int .i64 pt, .int .i64 pu, .int .i64 py] 54)) #[.int .i64 pt, .int .i64 pu, .int .i64 py] 54 1 3 rfl
        simp only [World.size_alloc] at hfr
        have HFR := Lib.hid hfr
        clear hfr
        go_wp2_with (at_builtin; refine wpList_app _ rfl _ _ 23 rfl (w.heap.size + 1) 54 i0 (.agg #[.int .i64 0, .int .i64 0, .int .i64 0]) 3 24 Try.underlying23 hi hz0 hz1 hz2 rfl (by decide) _ L.length (callCells L) rfl (World.ownsRow.alloc (World.ownsRow.alloc hown _) _) (wr.heap.size + 1 + 1) (some ⟨wr.heap.size + 1, 0, none⟩) 1 1 [.int .i64 pt, .int .i64 pu, .int .i64 py] rfl HFR.out (by intro u hu; simp at hu; rcases hu with rfl | rfl | rfl <;> rfl) (by unfold maxLen; omega) (by omega) (by simp <;> omega) ?_)
        intro v' w2 hown' hgr hx
        clear hx
        have HO := Lib.hid hown'
        have hb2 := (hbB.alloc (by simp; omega) (.cells #[.int .i64 pt, .int .i64 pu, .int .i64 py] 54)).grown hgr (by simp <;> omega) (fun k hk => (hown.lt k hk).1)
        clear hown' hgr
        go_wp2
        go_roundw
        case rel => exact ⟨k + 1, L ++ [(pt, pu, py)], by omega, by go_num, by have := HO.out; rw [callCells_app, List.length_append]; exact this, hb2, by simp; omega, Lib.hid (by rw [HN.out, HA.out])⟩
        case measure => first | (simp [intOf]; done) | (simp [intOf]; omega)
      | false =>
        have HN := Lib.hid (HNO.out hx)
        have HX := Lib.hid hx
        clear hx
        go_wp2_with fail
        refine HH.out.mono ?_
        rintro e w' ⟨rfl, rfl⟩
        rw [HX.out]
        go_wp2
        go_roundw
        case rel => exact ⟨k + 1, L, by omega, by go_num, World.ownsRow.alloc hown _, hbB, by omega, Lib.hid (by rw [HN.out, HA.out])⟩
        case measure => first | (simp [intOf]; done) | (simp [intOf]; omega)
    · have x1 : ¬ (k : Int) < (cn : Int) := by omega
      have HD : Hid (callsF ps l = L) := Lib.hid (by have := HA.out; rw [List.take_of_length_le (by rw [HL.out]; omega)] at this; exact this)
      rw [HD.out] at HT
      have HC := Lib.hid (HT.out (w.heap.size + 1) _ wr hown)
      have HLT := Lib.hid (fun k hk => (hown.lt k hk).1)
      clear hown
      go_wp2_with fail
      refine HC.out.mono ?_
      rintro e w2 ⟨rfl, hown2, hgr⟩
      have hb2 := hb.grown hgr hbs HLT.out
      have hbw2 : Below w.heap.size w w2 := ((Below.refl w.heap.size w).alloc (Nat.le_refl _) (.cells #[.slice aA an ac, .slice cA cn cc, .slice kA kn kc] 26)).trans (hb2.mono (by omega))
      clear hgr hb2
      obtain ⟨A', c', rfl⟩ := own_slice hown2
      have HO := Lib.hid hown2
      clear hown2
      go_wp2_with fail
      go_ret
      exact ⟨A', c', by rw [HD.out]; rfl, by rw [HD.out]; exact own_mono HO.out (by omega), hbw2⟩

end Go.Proofs.Ytkfeicgeobhccaa
