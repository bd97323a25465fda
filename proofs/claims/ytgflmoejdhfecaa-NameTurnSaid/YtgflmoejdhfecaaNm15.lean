/-
  The walk of NameTurn.
-/
import Derived.Test.YtgflmoejdhfecaaNm14
namespace Go.Proofs.Ytgflmoejdhfecaa
open Go.RowKit

theorem template_len (l : List UInt8) : (Sp.templateL l).length ≤ 100 := by
  have h1 := Sp.partsL_len60 l
  have h2 := Sp.suffix_len (Sp.kindL l)
  unfold Sp.templateL
  split
  · simp
  · simp only [Sp.madeL, List.length_append, List.length_cons, List.length_nil]; omega

theorem change_len (l : List UInt8) (j : Int) : (Sp.changeL l j).length ≤ 60 := by
  unfold Sp.changeL
  generalize (Sp.cutDot l).1 ++ [46] ++ Sp.suffix j = m
  cases hm : Sp.mayL m
  · simp
  · have := Sp.mayL_len _ hm
    split
    · simp
    · exact this

set_option maxHeartbeats 2000000 in
set_option maxRecDepth 100000 in
theorem nameTurn_r (s : ByteArray) (j : Int) (w : World) (hs : s.size ≤ 140737488351232) :
    Calls Try.prog 6 #[.string s, .int .i64 j] w fun e w' => e = .returned (.bool true) ∧ Below w.heap.size w w' := by
  obtain ⟨k, p, i, a, HP⟩ := pieces_ex s.data.toList
  have hs2 : s.size ≤ 281474976710656 := by omega
  have np := HP.np
  have ni := HP.ni
  obtain ⟨t, ht⟩ : ∃ t : ByteArray, Sp.templateL s.data.toList = t.data.toList := ⟨⟨(Sp.templateL s.data.toList).toArray⟩, rfl⟩
  obtain ⟨c, hc⟩ : ∃ c : ByteArray, Sp.changeL s.data.toList j = c.data.toList := ⟨⟨(Sp.changeL s.data.toList j).toArray⟩, rfl⟩
  have htz : t.size ≤ 281474976710656 := by
    have h1 := template_len s.data.toList
    have h2 : t.data.toList.length = t.size := by simp
    rw [ht, h2] at h1; omega
  have hcz : c.size ≤ 100 := by
    have h1 := change_len s.data.toList j
    have h2 : c.data.toList.length = c.size := by simp
    rw [hc, h2] at h1; omega
  have HT := Lib.hid ht
  have HC := Lib.hid hc
  have HKS := Lib.hid HP.kind
  have HTL : Hid (t.data.toList ≠ [] → Sp.instanceL t.data.toList i.data.toList = (s.data.toList, true) ∧ Sp.templateL t.data.toList = [] ∧ Sp.kindL t.data.toList = k) := Lib.hid (fun h => by
    have := Sp.turn_template s.data.toList (by rw [ht]; exact h)
    rw [ht, HP.parts, HP.kind] at this
    exact this)
  have HCZ : Hid (c.data.toList = [] → Sp.mayL s.data.toList = false ∨ Sp.suffix j = [] ∨ 53 < s.data.toList.length) := Lib.hid (fun h => Sp.change_zero s.data.toList j (by rw [hc]; exact h))
  have HCS : Hid (c.data.toList ≠ [] → Sp.kindL c.data.toList = j ∧ Sp.changeL c.data.toList k = s.data.toList) := Lib.hid (fun h => by
    have := Sp.change_some s.data.toList j (by rw [hc]; exact h)
    rw [hc, HP.kind] at this
    exact this)
  clear ht hc
  by_cases htn : t.data.toList = []
  · have te : t.toList.isEmpty = true := by rw [Lib.toList_data, htn]; rfl
    clear htn
    by_cases hcn : c.data.toList = []
    · have ce : c.toList.isEmpty = true := by rw [Lib.toList_data, hcn]; rfl
      have hz := HCZ.out hcn
      clear hcn
      cases hmy : Sp.mayL s.data.toList
      · have HMY := Lib.hid hmy
        clear hz hmy
        go_enter Try.func6, Try.ntmps6
        go_wp2_with fail
        refine (shown_any _).mono ?_
        rintro e wx1 ⟨rfl, hb1⟩
        go_wp2_with fail
        refine (template_any s _ hs2).mono ?_
        rintro e wx2 ⟨rfl, hc2⟩
        have hb2 := hb1.trans (hc2.mono hb1.size)
        clear hb1 hc2
        rw [HT.out]
        go_wp2_with fail
        refine (change_any s j _ (by omega)).mono ?_
        rintro e wx3 ⟨rfl, hc3⟩
        have hb3 := hb2.trans (hc3.mono hb2.size)
        clear hb2 hc3
        rw [HC.out]
        go_wp2_with fail
        refine (may_any s _ hs2).mono ?_
        rintro e wx4 ⟨rfl, hc4⟩
        have hb4 := hb3.trans (hc4.mono hb3.size)
        clear hb3 hc4
        rw [HMY.out]
        go_wp2
        go_ret
        exact ⟨ret_bool rfl, hb4⟩
      · have HMY := Lib.hid hmy
        by_cases hsn : Sp.suffix j = []
        · have HSN := Lib.hid hsn
          clear hz hmy hsn
          go_enter Try.func6, Try.ntmps6
          go_wp2_with fail
          refine (shown_any _).mono ?_
          rintro e wx1 ⟨rfl, hb1⟩
          go_wp2_with fail
          refine (template_any s _ hs2).mono ?_
          rintro e wx2 ⟨rfl, hc2⟩
          have hb2 := hb1.trans (hc2.mono hb1.size)
          clear hb1 hc2
          rw [HT.out]
          go_wp2_with fail
          refine (change_any s j _ (by omega)).mono ?_
          rintro e wx3 ⟨rfl, hc3⟩
          have hb3 := hb2.trans (hc3.mono hb2.size)
          clear hb2 hc3
          rw [HC.out]
          go_wp2_with fail
          refine (may_any s _ hs2).mono ?_
          rintro e wx4 ⟨rfl, hc4⟩
          have hb4 := hb3.trans (hc4.mono hb3.size)
          clear hb3 hc4
          rw [HMY.out]
          go_wp2_with fail
          refine (suffix_any j _).mono ?_
          rintro e wx5 ⟨rfl, rfl⟩
          rw [HSN.out]
          go_wp2
          go_ret
          exact ⟨ret_bool rfl, hb4⟩
        · have hlen : (53 : Int) < (s.size : Int) := by
            have h2 : s.data.toList.length = s.size := by simp
            rcases hz with h | h | h
            · rw [hmy] at h; cases h
            · exact absurd h hsn
            · omega
          generalize hsf : Sp.suffix j = sf at hsn
          have HSF := Lib.hid hsf
          have hse : sf.isEmpty = false := by simpa using hsn
          clear hz hmy hsn hsf
          go_enter Try.func6, Try.ntmps6
          go_wp2_with fail
          refine (shown_any _).mono ?_
          rintro e wx1 ⟨rfl, hb1⟩
          go_wp2_with fail
          refine (template_any s _ hs2).mono ?_
          rintro e wx2 ⟨rfl, hc2⟩
          have hb2 := hb1.trans (hc2.mono hb1.size)
          clear hb1 hc2
          rw [HT.out]
          go_wp2_with fail
          refine (change_any s j _ (by omega)).mono ?_
          rintro e wx3 ⟨rfl, hc3⟩
          have hb3 := hb2.trans (hc3.mono hb2.size)
          clear hb2 hc3
          rw [HC.out]
          go_wp2_with fail
          refine (may_any s _ hs2).mono ?_
          rintro e wx4 ⟨rfl, hc4⟩
          have hb4 := hb3.trans (hc4.mono hb3.size)
          clear hb3 hc4
          rw [HMY.out]
          go_wp2_with fail
          refine (suffix_any j _).mono ?_
          rintro e wx5 ⟨rfl, rfl⟩
          rw [HSF.out]
          go_wp2
          go_ret
          exact ⟨ret_bool rfl, hb4⟩
    · have ce : c.toList.isEmpty = false := by rw [Lib.toList_data]; simpa using hcn
      obtain ⟨y1, y2⟩ := HCS.out hcn
      have HKC := Lib.hid y1
      have HCC := Lib.hid y2
      clear hcn y1 y2
      go_enter Try.func6, Try.ntmps6
      go_wp2_with fail
      refine (shown_any _).mono ?_
      rintro e wx1 ⟨rfl, hb1⟩
      go_wp2_with fail
      refine (template_any s _ hs2).mono ?_
      rintro e wx2 ⟨rfl, hc2⟩
      have hb2 := hb1.trans (hc2.mono hb1.size)
      clear hb1 hc2
      rw [HT.out]
      go_wp2_with fail
      refine (change_any s j _ (by omega)).mono ?_
      rintro e wx3 ⟨rfl, hc3⟩
      have hb3 := hb2.trans (hc3.mono hb2.size)
      clear hb2 hc3
      rw [HC.out]
      go_wp2_with fail
      refine (kind_any c _ (by omega)).mono ?_
      rintro e wx4 ⟨rfl, hc4⟩
      have hb4 := hb3.trans (hc4.mono hb3.size)
      clear hb3 hc4
      rw [HKC.out]
      go_wp2_with fail
      refine (kind_any s _ hs2).mono ?_
      rintro e wx5 ⟨rfl, hc5⟩
      have hb5 := hb4.trans (hc5.mono hb4.size)
      clear hb4 hc5
      rw [HKS.out]
      go_wp2_with fail
      refine (change_any c k _ (by omega)).mono ?_
      rintro e wx6 ⟨rfl, hc6⟩
      have hb6 := hb5.trans (hc6.mono hb5.size)
      clear hb5 hc6
      rw [HCC.out]
      go_wp2
      go_ret
      exact ⟨ret_bool (by simp), hb6⟩
  · have te : t.toList.isEmpty = false := by rw [Lib.toList_data]; simpa using htn
    obtain ⟨x1, x2, x3⟩ := HTL.out htn
    have HI := Lib.hid x1
    have HTT := Lib.hid x2
    have HKT := Lib.hid x3
    clear htn x1 x2 x3
    by_cases hcn : c.data.toList = []
    · have ce : c.toList.isEmpty = true := by rw [Lib.toList_data, hcn]; rfl
      have hz := HCZ.out hcn
      clear hcn
      cases hmy : Sp.mayL s.data.toList
      · have HMY := Lib.hid hmy
        clear hz hmy
        go_enter Try.func6, Try.ntmps6
        go_wp2_with fail
        refine (shown_any _).mono ?_
        rintro e wx1 ⟨rfl, hb1⟩
        go_wp2_with fail
        refine (template_any s _ hs2).mono ?_
        rintro e wx2 ⟨rfl, hc2⟩
        have hb2 := hb1.trans (hc2.mono hb1.size)
        clear hb1 hc2
        rw [HT.out]
        go_wp2_with fail
        refine (parts_p s _ hs2 k p i a HP).mono ?_
        rintro e wx3 ⟨rfl, hc3⟩
        have hb3 := hb2.trans (hc3.mono hb2.size)
        clear hb2 hc3
        go_wp2_with fail
        refine (instance_any t i _ htz (by omega)).mono ?_
        rintro e wx4 ⟨rfl, hc4⟩
        have hb4 := hb3.trans (hc4.mono hb3.size)
        clear hb3 hc4
        rw [HI.out]
        go_wp2_with fail
        refine (template_any t _ htz).mono ?_
        rintro e wx5 ⟨rfl, hc5⟩
        have hb5 := hb4.trans (hc5.mono hb4.size)
        clear hb4 hc5
        rw [HTT.out]
        go_wp2_with fail
        refine (kind_any t _ htz).mono ?_
        rintro e wx6 ⟨rfl, hc6⟩
        have hb6 := hb5.trans (hc6.mono hb5.size)
        clear hb5 hc6
        rw [HKT.out]
        go_wp2_with fail
        refine (kind_any s _ hs2).mono ?_
        rintro e wx7 ⟨rfl, hc7⟩
        have hb7 := hb6.trans (hc7.mono hb6.size)
        clear hb6 hc7
        rw [HKS.out]
        go_wp2_with fail
        refine (change_any s j _ (by omega)).mono ?_
        rintro e wx8 ⟨rfl, hc8⟩
        have hb8 := hb7.trans (hc8.mono hb7.size)
        clear hb7 hc8
        rw [HC.out]
        go_wp2_with fail
        refine (may_any s _ hs2).mono ?_
        rintro e wx9 ⟨rfl, hc9⟩
        have hb9 := hb8.trans (hc9.mono hb8.size)
        clear hb8 hc9
        rw [HMY.out]
        go_wp2
        go_ret
        exact ⟨ret_bool rfl, hb9⟩
      · have HMY := Lib.hid hmy
        by_cases hsn : Sp.suffix j = []
        · have HSN := Lib.hid hsn
          clear hz hmy hsn
          go_enter Try.func6, Try.ntmps6
          go_wp2_with fail
          refine (shown_any _).mono ?_
          rintro e wx1 ⟨rfl, hb1⟩
          go_wp2_with fail
          refine (template_any s _ hs2).mono ?_
          rintro e wx2 ⟨rfl, hc2⟩
          have hb2 := hb1.trans (hc2.mono hb1.size)
          clear hb1 hc2
          rw [HT.out]
          go_wp2_with fail
          refine (parts_p s _ hs2 k p i a HP).mono ?_
          rintro e wx3 ⟨rfl, hc3⟩
          have hb3 := hb2.trans (hc3.mono hb2.size)
          clear hb2 hc3
          go_wp2_with fail
          refine (instance_any t i _ htz (by omega)).mono ?_
          rintro e wx4 ⟨rfl, hc4⟩
          have hb4 := hb3.trans (hc4.mono hb3.size)
          clear hb3 hc4
          rw [HI.out]
          go_wp2_with fail
          refine (template_any t _ htz).mono ?_
          rintro e wx5 ⟨rfl, hc5⟩
          have hb5 := hb4.trans (hc5.mono hb4.size)
          clear hb4 hc5
          rw [HTT.out]
          go_wp2_with fail
          refine (kind_any t _ htz).mono ?_
          rintro e wx6 ⟨rfl, hc6⟩
          have hb6 := hb5.trans (hc6.mono hb5.size)
          clear hb5 hc6
          rw [HKT.out]
          go_wp2_with fail
          refine (kind_any s _ hs2).mono ?_
          rintro e wx7 ⟨rfl, hc7⟩
          have hb7 := hb6.trans (hc7.mono hb6.size)
          clear hb6 hc7
          rw [HKS.out]
          go_wp2_with fail
          refine (change_any s j _ (by omega)).mono ?_
          rintro e wx8 ⟨rfl, hc8⟩
          have hb8 := hb7.trans (hc8.mono hb7.size)
          clear hb7 hc8
          rw [HC.out]
          go_wp2_with fail
          refine (may_any s _ hs2).mono ?_
          rintro e wx9 ⟨rfl, hc9⟩
          have hb9 := hb8.trans (hc9.mono hb8.size)
          clear hb8 hc9
          rw [HMY.out]
          go_wp2_with fail
          refine (suffix_any j _).mono ?_
          rintro e wx10 ⟨rfl, rfl⟩
          rw [HSN.out]
          go_wp2
          go_ret
          exact ⟨ret_bool rfl, hb9⟩
        · have hlen : (53 : Int) < (s.size : Int) := by
            have h2 : s.data.toList.length = s.size := by simp
            rcases hz with h | h | h
            · rw [hmy] at h; cases h
            · exact absurd h hsn
            · omega
          generalize hsf : Sp.suffix j = sf at hsn
          have HSF := Lib.hid hsf
          have hse : sf.isEmpty = false := by simpa using hsn
          clear hz hmy hsn hsf
          go_enter Try.func6, Try.ntmps6
          go_wp2_with fail
          refine (shown_any _).mono ?_
          rintro e wx1 ⟨rfl, hb1⟩
          go_wp2_with fail
          refine (template_any s _ hs2).mono ?_
          rintro e wx2 ⟨rfl, hc2⟩
          have hb2 := hb1.trans (hc2.mono hb1.size)
          clear hb1 hc2
          rw [HT.out]
          go_wp2_with fail
          refine (parts_p s _ hs2 k p i a HP).mono ?_
          rintro e wx3 ⟨rfl, hc3⟩
          have hb3 := hb2.trans (hc3.mono hb2.size)
          clear hb2 hc3
          go_wp2_with fail
          refine (instance_any t i _ htz (by omega)).mono ?_
          rintro e wx4 ⟨rfl, hc4⟩
          have hb4 := hb3.trans (hc4.mono hb3.size)
          clear hb3 hc4
          rw [HI.out]
          go_wp2_with fail
          refine (template_any t _ htz).mono ?_
          rintro e wx5 ⟨rfl, hc5⟩
          have hb5 := hb4.trans (hc5.mono hb4.size)
          clear hb4 hc5
          rw [HTT.out]
          go_wp2_with fail
          refine (kind_any t _ htz).mono ?_
          rintro e wx6 ⟨rfl, hc6⟩
          have hb6 := hb5.trans (hc6.mono hb5.size)
          clear hb5 hc6
          rw [HKT.out]
          go_wp2_with fail
          refine (kind_any s _ hs2).mono ?_
          rintro e wx7 ⟨rfl, hc7⟩
          have hb7 := hb6.trans (hc7.mono hb6.size)
          clear hb6 hc7
          rw [HKS.out]
          go_wp2_with fail
          refine (change_any s j _ (by omega)).mono ?_
          rintro e wx8 ⟨rfl, hc8⟩
          have hb8 := hb7.trans (hc8.mono hb7.size)
          clear hb7 hc8
          rw [HC.out]
          go_wp2_with fail
          refine (may_any s _ hs2).mono ?_
          rintro e wx9 ⟨rfl, hc9⟩
          have hb9 := hb8.trans (hc9.mono hb8.size)
          clear hb8 hc9
          rw [HMY.out]
          go_wp2_with fail
          refine (suffix_any j _).mono ?_
          rintro e wx10 ⟨rfl, rfl⟩
          rw [HSF.out]
          go_wp2
          go_ret
          exact ⟨ret_bool rfl, hb9⟩
    · have ce : c.toList.isEmpty = false := by rw [Lib.toList_data]; simpa using hcn
      obtain ⟨y1, y2⟩ := HCS.out hcn
      have HKC := Lib.hid y1
      have HCC := Lib.hid y2
      clear hcn y1 y2
      go_enter Try.func6, Try.ntmps6
      go_wp2_with fail
      refine (shown_any _).mono ?_
      rintro e wx1 ⟨rfl, hb1⟩
      go_wp2_with fail
      refine (template_any s _ hs2).mono ?_
      rintro e wx2 ⟨rfl, hc2⟩
      have hb2 := hb1.trans (hc2.mono hb1.size)
      clear hb1 hc2
      rw [HT.out]
      go_wp2_with fail
      refine (parts_p s _ hs2 k p i a HP).mono ?_
      rintro e wx3 ⟨rfl, hc3⟩
      have hb3 := hb2.trans (hc3.mono hb2.size)
      clear hb2 hc3
      go_wp2_with fail
      refine (instance_any t i _ htz (by omega)).mono ?_
      rintro e wx4 ⟨rfl, hc4⟩
      have hb4 := hb3.trans (hc4.mono hb3.size)
      clear hb3 hc4
      rw [HI.out]
      go_wp2_with fail
      refine (template_any t _ htz).mono ?_
      rintro e wx5 ⟨rfl, hc5⟩
      have hb5 := hb4.trans (hc5.mono hb4.size)
      clear hb4 hc5
      rw [HTT.out]
      go_wp2_with fail
      refine (kind_any t _ htz).mono ?_
      rintro e wx6 ⟨rfl, hc6⟩
      have hb6 := hb5.trans (hc6.mono hb5.size)
      clear hb5 hc6
      rw [HKT.out]
      go_wp2_with fail
      refine (kind_any s _ hs2).mono ?_
      rintro e wx7 ⟨rfl, hc7⟩
      have hb7 := hb6.trans (hc7.mono hb6.size)
      clear hb6 hc7
      rw [HKS.out]
      go_wp2_with fail
      refine (change_any s j _ (by omega)).mono ?_
      rintro e wx8 ⟨rfl, hc8⟩
      have hb8 := hb7.trans (hc8.mono hb7.size)
      clear hb7 hc8
      rw [HC.out]
      go_wp2_with fail
      refine (kind_any c _ (by omega)).mono ?_
      rintro e wx9 ⟨rfl, hc9⟩
      have hb9 := hb8.trans (hc9.mono hb8.size)
      clear hb8 hc9
      rw [HKC.out]
      go_wp2_with fail
      refine (kind_any s _ hs2).mono ?_
      rintro e wx10 ⟨rfl, hc10⟩
      have hb10 := hb9.trans (hc10.mono hb9.size)
      clear hb9 hc10
      rw [HKS.out]
      go_wp2_with fail
      refine (change_any c k _ (by omega)).mono ?_
      rintro e wx11 ⟨rfl, hc11⟩
      have hb11 := hb10.trans (hc11.mono hb10.size)
      clear hb10 hc11
      rw [HCC.out]
      go_wp2
      go_ret
      exact ⟨ret_bool (by simp), hb11⟩
end Go.Proofs.Ytgflmoejdhfecaa
