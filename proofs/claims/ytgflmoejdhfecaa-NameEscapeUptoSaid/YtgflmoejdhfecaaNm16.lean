/-
  The walks of NameEscape and NameJoin.
-/
import Derived.Test.YtgflmoejdhfecaaNm14
namespace Go.Proofs.Ytgflmoejdhfecaa
open Go.RowKit

theorem unescape_p (s : ByteArray) (w : World) (hs : s.size ≤ 140737488355328) (x : ByteArray) (b : Bool) (h : Hid ((Sp.unescL s.data.toList).getD [] = x.data.toList ∧ (Sp.unescL s.data.toList).isSome = b)) :
    Calls Try.prog 23 #[.string s] w fun e w' => e = .returned (.tuple #[.string x, .bool b]) ∧ Below w.heap.size w w' := by
  refine (unescape_any s w hs).mono fun e w' ⟨h1, h2⟩ => ⟨?_, h2⟩
  rw [h1, h.out.1, h.out.2]

theorem runescape_p (s : ByteArray) (w : World) (hs : s.size ≤ 140737488355328) (x : ByteArray) (b : Bool) (h : Hid ((Sp.unescL s.data.toList).getD [] = x.data.toList ∧ (Sp.unescL s.data.toList).isSome = b)) :
    Calls Try.prog 25 #[.string s] w fun e w' => e = .returned (.tuple #[.string x, .bool b]) ∧ Below w.heap.size w w' := by
  refine (runescape_any s w hs).mono fun e w' ⟨h1, h2⟩ => ⟨?_, h2⟩
  rw [h1, h.out.1, h.out.2]

theorem escape_p (s : ByteArray) (w : World) (hs : s.size ≤ 35184372088832) (x : ByteArray) (h : Hid (Sp.escL true s.data.toList = x.data.toList)) :
    Calls Try.prog 22 #[.string s] w fun e w' => e = .returned (.string x) ∧ Below w.heap.size w w' := by
  refine (escape_any s w hs).mono fun e w' ⟨h1, h2⟩ => ⟨?_, h2⟩
  rw [h1, h.out]

theorem rescape_p (s : ByteArray) (w : World) (hs : s.size ≤ 35184372088832) (x : ByteArray) (h : Hid (Sp.escL true s.data.toList = x.data.toList)) :
    Calls Try.prog 24 #[.string s] w fun e w' => e = .returned (.string x) ∧ Below w.heap.size w w' := by
  refine (rescape_any s w hs).mono fun e w' ⟨h1, h2⟩ => ⟨?_, h2⟩
  rw [h1, h.out]

theorem esc_ex (l : List UInt8) : ∃ x : ByteArray, Hid (Sp.escL true l = x.data.toList) ∧ x.size ≤ 4 * l.length :=
  ⟨⟨(Sp.escL true l).toArray⟩, Lib.hid rfl, Sp.escL_len true l⟩

theorem unesc_ex (l : List UInt8) : ∃ (x : ByteArray) (b : Bool), Hid ((Sp.unescL l).getD [] = x.data.toList ∧ (Sp.unescL l).isSome = b) :=
  ⟨⟨((Sp.unescL l).getD []).toArray⟩, (Sp.unescL l).isSome, Lib.hid ⟨rfl, rfl⟩⟩

set_option maxHeartbeats 2000000 in
set_option maxRecDepth 100000 in
theorem nameEscape_u (t s : ByteArray) (w : World) (ht : t.size ≤ 1048576) (hs : s.size ≤ 1048576) :
    Calls Try.prog 7 #[.string t, .string s] w fun e w' => e = .returned (.bool true) ∧ Below w.heap.size w w' := by
  have htl : t.data.toList.length = t.size := by simp
  obtain ⟨x, HX, hx⟩ := esc_ex t.data.toList
  obtain ⟨y, b, HY⟩ := unesc_ex s.data.toList
  have hxs : x.size ≤ 4194304 := by omega
  have HU : Hid ((Sp.unescL x.data.toList).getD [] = t.data.toList ∧ (Sp.unescL x.data.toList).isSome = true) := Lib.hid (by rw [← HX.out, Sp.unesc_esc]; exact ⟨rfl, rfl⟩)
  have hxl : x.data.toList.length = x.size := by simp
  by_cases h60 : x.size ≤ 52
  · have HM : Hid (Sp.mayL (ByteArray.mk #[120, 64] ++ x ++ ByteArray.mk #[46, 116, 105, 109, 101, 114]).data.toList = true) := Lib.hid (by
      have e : (ByteArray.mk #[120, 64] ++ x ++ ByteArray.mk #[46, 116, 105, 109, 101, 114]).data.toList = ([120, 64] ++ Sp.escL true t.data.toList) ++ [46, 116, 105, 109, 101, 114] := by rw [HX.out]; simp
      rw [e]
      exact Sp.esc_may _ (by rw [HX.out]; simp only [List.length_append, List.length_cons, List.length_nil]; omega))
    clear htl hx hxl
    go_enter Try.func7, Try.ntmps7
    go_wp2_with fail
    refine (shown_any _).mono ?_
    rintro e wx1 ⟨rfl, hb1⟩
    go_wp2_with fail
    refine (escape_p t _ (by omega) x HX).mono ?_
    rintro e wx2 ⟨rfl, hc2⟩
    have hb2 := hb1.trans (hc2.mono hb1.size)
    clear hb1 hc2
    go_wp2_with fail
    refine (unescape_p x _ (by omega) t true HU).mono ?_
    rintro e wx3 ⟨rfl, hc3⟩
    have hb3 := hb2.trans (hc3.mono hb2.size)
    clear hb2 hc3
    go_wp2_with fail
    refine (rescape_p t _ (by omega) x HX).mono ?_
    rintro e wx4 ⟨rfl, hc4⟩
    have hb4 := hb3.trans (hc4.mono hb3.size)
    clear hb3 hc4
    go_wp2_with fail
    refine (may_any _ _ (by simp; show 2 + _ + 6 ≤ _; omega)).mono ?_
    rintro e wx5 ⟨rfl, hc5⟩
    have hb5 := hb4.trans (hc5.mono hb4.size)
    clear hb4 hc5
    rw [HM.out]
    go_wp2_with fail
    refine (unescape_p s _ (by omega) y b HY).mono ?_
    rintro e wx6 ⟨rfl, hc6⟩
    have hb6 := hb5.trans (hc6.mono hb5.size)
    clear hb5 hc6
    go_wp2_with fail
    refine (runescape_p s _ (by omega) y b HY).mono ?_
    rintro e wx7 ⟨rfl, hc7⟩
    have hb7 := hb6.trans (hc7.mono hb6.size)
    clear hb6 hc7
    go_wp2
    go_ret
    exact ⟨ret_bool (by simp), hb7⟩
  · clear htl hx hxl
    go_enter Try.func7, Try.ntmps7
    go_wp2_with fail
    refine (shown_any _).mono ?_
    rintro e wx1 ⟨rfl, hb1⟩
    go_wp2_with fail
    refine (escape_p t _ (by omega) x HX).mono ?_
    rintro e wx2 ⟨rfl, hc2⟩
    have hb2 := hb1.trans (hc2.mono hb1.size)
    clear hb1 hc2
    go_wp2_with fail
    refine (unescape_p x _ (by omega) t true HU).mono ?_
    rintro e wx3 ⟨rfl, hc3⟩
    have hb3 := hb2.trans (hc3.mono hb2.size)
    clear hb2 hc3
    go_wp2_with fail
    refine (rescape_p t _ (by omega) x HX).mono ?_
    rintro e wx4 ⟨rfl, hc4⟩
    have hb4 := hb3.trans (hc4.mono hb3.size)
    clear hb3 hc4
    go_wp2_with fail
    refine (unescape_p s _ (by omega) y b HY).mono ?_
    rintro e wx5 ⟨rfl, hc5⟩
    have hb5 := hb4.trans (hc5.mono hb4.size)
    clear hb4 hc5
    go_wp2_with fail
    refine (runescape_p s _ (by omega) y b HY).mono ?_
    rintro e wx6 ⟨rfl, hc6⟩
    have hb6 := hb5.trans (hc6.mono hb5.size)
    clear hb5 hc6
    go_wp2
    go_ret
    exact ⟨ret_bool (by simp), hb6⟩

set_option maxHeartbeats 2000000 in
set_option maxRecDepth 100000 in
theorem nameJoin_u (c d : ByteArray) (w : World) (hc : c.size ≤ 1048576) (hd : d.size ≤ 1048576) :
    Calls Try.prog 8 #[.string c, .string d] w fun e w' => e = .returned (.bool true) ∧ Below w.heap.size w w' := by
  obtain ⟨x, b1, HX⟩ := unesc_ex c.data.toList
  obtain ⟨y, b2, HY⟩ := unesc_ex d.data.toList
  obtain ⟨z, b3, HZ⟩ := unesc_ex (c ++ d).data.toList
  have hall : (b1 && b2) = true → b3 = true ∧ z.data.toList = x.data.toList ++ y.data.toList := by
    intro h
    simp only [Bool.and_eq_true] at h
    obtain ⟨g1, g2⟩ := h
    obtain ⟨u, hu⟩ := Option.isSome_iff_exists.1 (HX.out.2.trans g1)
    obtain ⟨v, hv⟩ := Option.isSome_iff_exists.1 (HY.out.2.trans g2)
    have hw := Sp.unesc_append _ _ _ u v (Nat.le_refl _) hu hv
    have e : (c ++ d).data.toList = c.data.toList ++ d.data.toList := by simp
    have hx := HX.out.1
    have hy := HY.out.1
    have hz := HZ.out
    rw [e, hw] at hz
    rw [hu] at hx
    rw [hv] at hy
    simp only [Option.getD_some] at hx hy
    refine ⟨hz.2.symm, ?_⟩
    rw [← hx, ← hy]
    exact hz.1.symm
  have HALL := Lib.hid hall
  clear hall
  obtain ⟨ea, HEA, ha4⟩ := esc_ex c.data.toList
  obtain ⟨eb, HEB, hb4⟩ := esc_ex d.data.toList
  obtain ⟨ec, HEC, hc4⟩ := esc_ex (c ++ d).data.toList
  have l1 : c.data.toList.length = c.size := by simp
  have l2 : d.data.toList.length = d.size := by simp
  have hxz : x.size ≤ 4194304 := by
    have h1 := Sp.unesc_getD_len c.data.toList
    have h2 : x.data.toList.length = x.size := by simp
    rw [HX.out.1, h2] at h1; omega
  have hyz : y.size ≤ 4194304 := by
    have h1 := Sp.unesc_getD_len d.data.toList
    have h2 : y.data.toList.length = y.size := by simp
    rw [HY.out.1, h2] at h1; omega
  have haz : ea.size ≤ 4194304 := by omega
  have hbz : eb.size ≤ 4194304 := by omega
  have HJ : Hid ((∀ k r, d.data.toList = k :: r → k ≠ 46) → (ec.toList == (ea ++ eb).toList) = true) := Lib.hid (fun h => by
    have h1 := Sp.esc_join c.data.toList d.data.toList h
    have e : (c ++ d).data.toList = c.data.toList ++ d.data.toList := by simp
    rw [Lib.toList_data, Lib.toList_data, beq_iff_eq, ← HEC.out, e, h1, HEA.out, HEB.out]
    simp)
  clear ha4 hb4 hc4 l1 l2
  cases b1
  · clear HALL
    cases hdl : d.data.toList with
    | nil =>
      have de : d.toList.isEmpty = true := by rw [Lib.toList_data, hdl]; rfl
      clear hdl
      go_enter Try.func8, Try.ntmps8
      go_wp2_with fail
      refine (shown_any _).mono ?_
      rintro e wx1 ⟨rfl, hb1⟩
      go_wp2_with fail
      refine (unescape_p c _ (by omega) x _ HX).mono ?_
      rintro e wx2 ⟨rfl, hc2⟩
      have hb2 := hb1.trans (hc2.mono hb1.size)
      clear hb1 hc2
      go_wp2_with fail
      refine (unescape_p d _ (by omega) y _ HY).mono ?_
      rintro e wx3 ⟨rfl, hc3⟩
      have hb3 := hb2.trans (hc3.mono hb2.size)
      clear hb2 hc3
      go_wp2_with fail
      refine (unescape_p (c ++ d) _ (by simp; omega) z _ HZ).mono ?_
      rintro e wx4 ⟨rfl, hc4⟩
      have hb4 := hb3.trans (hc4.mono hb3.size)
      clear hb3 hc4
      go_wp2
      go_ret
      exact ⟨ret_bool rfl, hb4⟩
    | cons k r =>
      obtain ⟨d0, dk⟩ := head_of d k r hdl
      have de : d.toList.isEmpty = false := by rw [Lib.toList_data, hdl]; rfl
      have di : (0 : Int) < (d.size : Int) := by omega
      by_cases h46 : k = 46
      · have d46 : ((d[0].toNat : Int) == 46) = true := by rw [dk, h46]; rfl
        clear hdl dk h46
        go_enter Try.func8, Try.ntmps8
        go_wp2_with fail
        refine (shown_any _).mono ?_
        rintro e wx1 ⟨rfl, hb1⟩
        go_wp2_with fail
        refine (unescape_p c _ (by omega) x _ HX).mono ?_
        rintro e wx2 ⟨rfl, hc2⟩
        have hb2 := hb1.trans (hc2.mono hb1.size)
        clear hb1 hc2
        go_wp2_with fail
        refine (unescape_p d _ (by omega) y _ HY).mono ?_
        rintro e wx3 ⟨rfl, hc3⟩
        have hb3 := hb2.trans (hc3.mono hb2.size)
        clear hb2 hc3
        go_wp2_with fail
        refine (unescape_p (c ++ d) _ (by simp; omega) z _ HZ).mono ?_
        rintro e wx4 ⟨rfl, hc4⟩
        have hb4 := hb3.trans (hc4.mono hb3.size)
        clear hb3 hc4
        go_wp2
        go_ret
        exact ⟨ret_bool rfl, hb4⟩
      · have d46 : ((d[0].toNat : Int) == 46) = false := Sp.at_ne d 0 d0 46 (by rw [dk]; exact h46)
        have hj : (ec.toList == (ea ++ eb).toList) = true := HJ.out (fun k2 r2 h2 => by rw [hdl] at h2; rw [← (List.cons.inj h2).1]; exact h46)
        clear hdl dk h46
        go_enter Try.func8, Try.ntmps8
        go_wp2_with fail
        refine (shown_any _).mono ?_
        rintro e wx1 ⟨rfl, hb1⟩
        go_wp2_with fail
        refine (unescape_p c _ (by omega) x _ HX).mono ?_
        rintro e wx2 ⟨rfl, hc2⟩
        have hb2 := hb1.trans (hc2.mono hb1.size)
        clear hb1 hc2
        go_wp2_with fail
        refine (unescape_p d _ (by omega) y _ HY).mono ?_
        rintro e wx3 ⟨rfl, hc3⟩
        have hb3 := hb2.trans (hc3.mono hb2.size)
        clear hb2 hc3
        go_wp2_with fail
        refine (unescape_p (c ++ d) _ (by simp; omega) z _ HZ).mono ?_
        rintro e wx4 ⟨rfl, hc4⟩
        have hb4 := hb3.trans (hc4.mono hb3.size)
        clear hb3 hc4
        go_wp2_with fail
        refine (escape_p (c ++ d) _ (by simp; omega) ec HEC).mono ?_
        rintro e wx5 ⟨rfl, hc5⟩
        have hb5 := hb4.trans (hc5.mono hb4.size)
        clear hb4 hc5
        go_wp2_with fail
        refine (escape_p c _ (by omega) ea HEA).mono ?_
        rintro e wx6 ⟨rfl, hc6⟩
        have hb6 := hb5.trans (hc6.mono hb5.size)
        clear hb5 hc6
        go_wp2_with fail
        refine (escape_p d _ (by omega) eb HEB).mono ?_
        rintro e wx7 ⟨rfl, hc7⟩
        have hb7 := hb6.trans (hc7.mono hb6.size)
        clear hb6 hc7
        go_wp2
        go_ret
        exact ⟨ret_bool rfl, hb7⟩
  · cases b2
    · clear HALL
      cases hdl : d.data.toList with
      | nil =>
        have de : d.toList.isEmpty = true := by rw [Lib.toList_data, hdl]; rfl
        clear hdl
        go_enter Try.func8, Try.ntmps8
        go_wp2_with fail
        refine (shown_any _).mono ?_
        rintro e wx1 ⟨rfl, hb1⟩
        go_wp2_with fail
        refine (unescape_p c _ (by omega) x _ HX).mono ?_
        rintro e wx2 ⟨rfl, hc2⟩
        have hb2 := hb1.trans (hc2.mono hb1.size)
        clear hb1 hc2
        go_wp2_with fail
        refine (unescape_p d _ (by omega) y _ HY).mono ?_
        rintro e wx3 ⟨rfl, hc3⟩
        have hb3 := hb2.trans (hc3.mono hb2.size)
        clear hb2 hc3
        go_wp2_with fail
        refine (unescape_p (c ++ d) _ (by simp; omega) z _ HZ).mono ?_
        rintro e wx4 ⟨rfl, hc4⟩
        have hb4 := hb3.trans (hc4.mono hb3.size)
        clear hb3 hc4
        go_wp2
        go_ret
        exact ⟨ret_bool rfl, hb4⟩
      | cons k r =>
        obtain ⟨d0, dk⟩ := head_of d k r hdl
        have de : d.toList.isEmpty = false := by rw [Lib.toList_data, hdl]; rfl
        have di : (0 : Int) < (d.size : Int) := by omega
        by_cases h46 : k = 46
        · have d46 : ((d[0].toNat : Int) == 46) = true := by rw [dk, h46]; rfl
          clear hdl dk h46
          go_enter Try.func8, Try.ntmps8
          go_wp2_with fail
          refine (shown_any _).mono ?_
          rintro e wx1 ⟨rfl, hb1⟩
          go_wp2_with fail
          refine (unescape_p c _ (by omega) x _ HX).mono ?_
          rintro e wx2 ⟨rfl, hc2⟩
          have hb2 := hb1.trans (hc2.mono hb1.size)
          clear hb1 hc2
          go_wp2_with fail
          refine (unescape_p d _ (by omega) y _ HY).mono ?_
          rintro e wx3 ⟨rfl, hc3⟩
          have hb3 := hb2.trans (hc3.mono hb2.size)
          clear hb2 hc3
          go_wp2_with fail
          refine (unescape_p (c ++ d) _ (by simp; omega) z _ HZ).mono ?_
          rintro e wx4 ⟨rfl, hc4⟩
          have hb4 := hb3.trans (hc4.mono hb3.size)
          clear hb3 hc4
          go_wp2
          go_ret
          exact ⟨ret_bool rfl, hb4⟩
        · have d46 : ((d[0].toNat : Int) == 46) = false := Sp.at_ne d 0 d0 46 (by rw [dk]; exact h46)
          have hj : (ec.toList == (ea ++ eb).toList) = true := HJ.out (fun k2 r2 h2 => by rw [hdl] at h2; rw [← (List.cons.inj h2).1]; exact h46)
          clear hdl dk h46
          go_enter Try.func8, Try.ntmps8
          go_wp2_with fail
          refine (shown_any _).mono ?_
          rintro e wx1 ⟨rfl, hb1⟩
          go_wp2_with fail
          refine (unescape_p c _ (by omega) x _ HX).mono ?_
          rintro e wx2 ⟨rfl, hc2⟩
          have hb2 := hb1.trans (hc2.mono hb1.size)
          clear hb1 hc2
          go_wp2_with fail
          refine (unescape_p d _ (by omega) y _ HY).mono ?_
          rintro e wx3 ⟨rfl, hc3⟩
          have hb3 := hb2.trans (hc3.mono hb2.size)
          clear hb2 hc3
          go_wp2_with fail
          refine (unescape_p (c ++ d) _ (by simp; omega) z _ HZ).mono ?_
          rintro e wx4 ⟨rfl, hc4⟩
          have hb4 := hb3.trans (hc4.mono hb3.size)
          clear hb3 hc4
          go_wp2_with fail
          refine (escape_p (c ++ d) _ (by simp; omega) ec HEC).mono ?_
          rintro e wx5 ⟨rfl, hc5⟩
          have hb5 := hb4.trans (hc5.mono hb4.size)
          clear hb4 hc5
          go_wp2_with fail
          refine (escape_p c _ (by omega) ea HEA).mono ?_
          rintro e wx6 ⟨rfl, hc6⟩
          have hb6 := hb5.trans (hc6.mono hb5.size)
          clear hb5 hc6
          go_wp2_with fail
          refine (escape_p d _ (by omega) eb HEB).mono ?_
          rintro e wx7 ⟨rfl, hc7⟩
          have hb7 := hb6.trans (hc7.mono hb6.size)
          clear hb6 hc7
          go_wp2
          go_ret
          exact ⟨ret_bool rfl, hb7⟩
    · obtain ⟨g1, g2⟩ := HALL.out rfl
      subst g1
      have hz : (z.toList == (x ++ y).toList) = true := by rw [Lib.toList_data, Lib.toList_data, beq_iff_eq, g2]; simp
      clear HALL g2
      cases hdl : d.data.toList with
      | nil =>
        have de : d.toList.isEmpty = true := by rw [Lib.toList_data, hdl]; rfl
        clear hdl
        go_enter Try.func8, Try.ntmps8
        go_wp2_with fail
        refine (shown_any _).mono ?_
        rintro e wx1 ⟨rfl, hb1⟩
        go_wp2_with fail
        refine (unescape_p c _ (by omega) x _ HX).mono ?_
        rintro e wx2 ⟨rfl, hc2⟩
        have hb2 := hb1.trans (hc2.mono hb1.size)
        clear hb1 hc2
        go_wp2_with fail
        refine (unescape_p d _ (by omega) y _ HY).mono ?_
        rintro e wx3 ⟨rfl, hc3⟩
        have hb3 := hb2.trans (hc3.mono hb2.size)
        clear hb2 hc3
        go_wp2_with fail
        refine (unescape_p (c ++ d) _ (by simp; omega) z _ HZ).mono ?_
        rintro e wx4 ⟨rfl, hc4⟩
        have hb4 := hb3.trans (hc4.mono hb3.size)
        clear hb3 hc4
        go_wp2
        go_ret
        exact ⟨ret_bool rfl, hb4⟩
      | cons k r =>
        obtain ⟨d0, dk⟩ := head_of d k r hdl
        have de : d.toList.isEmpty = false := by rw [Lib.toList_data, hdl]; rfl
        have di : (0 : Int) < (d.size : Int) := by omega
        by_cases h46 : k = 46
        · have d46 : ((d[0].toNat : Int) == 46) = true := by rw [dk, h46]; rfl
          clear hdl dk h46
          go_enter Try.func8, Try.ntmps8
          go_wp2_with fail
          refine (shown_any _).mono ?_
          rintro e wx1 ⟨rfl, hb1⟩
          go_wp2_with fail
          refine (unescape_p c _ (by omega) x _ HX).mono ?_
          rintro e wx2 ⟨rfl, hc2⟩
          have hb2 := hb1.trans (hc2.mono hb1.size)
          clear hb1 hc2
          go_wp2_with fail
          refine (unescape_p d _ (by omega) y _ HY).mono ?_
          rintro e wx3 ⟨rfl, hc3⟩
          have hb3 := hb2.trans (hc3.mono hb2.size)
          clear hb2 hc3
          go_wp2_with fail
          refine (unescape_p (c ++ d) _ (by simp; omega) z _ HZ).mono ?_
          rintro e wx4 ⟨rfl, hc4⟩
          have hb4 := hb3.trans (hc4.mono hb3.size)
          clear hb3 hc4
          go_wp2
          go_ret
          exact ⟨ret_bool rfl, hb4⟩
        · have d46 : ((d[0].toNat : Int) == 46) = false := Sp.at_ne d 0 d0 46 (by rw [dk]; exact h46)
          have hj : (ec.toList == (ea ++ eb).toList) = true := HJ.out (fun k2 r2 h2 => by rw [hdl] at h2; rw [← (List.cons.inj h2).1]; exact h46)
          clear hdl dk h46
          go_enter Try.func8, Try.ntmps8
          go_wp2_with fail
          refine (shown_any _).mono ?_
          rintro e wx1 ⟨rfl, hb1⟩
          go_wp2_with fail
          refine (unescape_p c _ (by omega) x _ HX).mono ?_
          rintro e wx2 ⟨rfl, hc2⟩
          have hb2 := hb1.trans (hc2.mono hb1.size)
          clear hb1 hc2
          go_wp2_with fail
          refine (unescape_p d _ (by omega) y _ HY).mono ?_
          rintro e wx3 ⟨rfl, hc3⟩
          have hb3 := hb2.trans (hc3.mono hb2.size)
          clear hb2 hc3
          go_wp2_with fail
          refine (unescape_p (c ++ d) _ (by simp; omega) z _ HZ).mono ?_
          rintro e wx4 ⟨rfl, hc4⟩
          have hb4 := hb3.trans (hc4.mono hb3.size)
          clear hb3 hc4
          go_wp2_with fail
          refine (escape_p (c ++ d) _ (by simp; omega) ec HEC).mono ?_
          rintro e wx5 ⟨rfl, hc5⟩
          have hb5 := hb4.trans (hc5.mono hb4.size)
          clear hb4 hc5
          go_wp2_with fail
          refine (escape_p c _ (by omega) ea HEA).mono ?_
          rintro e wx6 ⟨rfl, hc6⟩
          have hb6 := hb5.trans (hc6.mono hb5.size)
          clear hb5 hc6
          go_wp2_with fail
          refine (escape_p d _ (by omega) eb HEB).mono ?_
          rintro e wx7 ⟨rfl, hc7⟩
          have hb7 := hb6.trans (hc7.mono hb6.size)
          clear hb6 hc7
          go_wp2
          go_ret
          exact ⟨ret_bool rfl, hb7⟩
end Go.Proofs.Ytgflmoejdhfecaa
