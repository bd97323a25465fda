/-
  The walk of words in which variables are their values.
-/
import Derived.Test.YtcefnglmacpehaaEx6
import Derived.Test.YtcefnglmacpehaaEx9
namespace Go.Proofs.Ytcefnglmacpehaa
open Go.RowKit

namespace Sp
theorem blanksTo_len (p : UInt8 → Bool) : ∀ (l word : List UInt8), (blanksTo p word l).length ≤ l.length + (if word = [] then 0 else 1)
  | [], word => by unfold blanksTo; split <;> simp_all
  | c :: r, word => by
    unfold blanksTo
    have h1 := blanksTo_len p r []
    have h2 := blanksTo_len p r (word ++ [c])
    simp at h1 h2
    split
    · split <;> simp <;> omega
    · simp; split <;> omega
theorem partsOf_len (l : List UInt8) : (partsOf l).length ≤ l.length := by
  have := blanksTo_len blank l []
  simpa [partsOf] using this
theorem oneL_len (env : List (List UInt8 × List UInt8)) (M : Nat) (hM : ∀ p ∈ env, p.2.length ≤ M) (h1 : 1 ≤ M) (w : List UInt8) : (oneL env w).length ≤ M := by
  unfold oneL
  split
  · split
    · exact Nat.le_trans (partsOf_len _) (valueL_len env M hM _)
    · simpa using h1
  · simpa using h1
theorem varsL_snoc (l : List (List UInt8)) (env : List (List UInt8 × List UInt8)) (w : List UInt8) : varsL (l ++ [w]) env = varsL l env ++ oneL env w := by simp [varsL]
theorem oneL_var (env : List (List UInt8 × List UInt8)) (w : List UInt8) (h1 : Lib.hasPrefix w [36] = true) (h2 : varL (Lib.trimPrefix w [36]) = true) : oneL env w = partsOf (valueL env (Lib.trimPrefix w [36])) := by
  match w with
  | [] => simp [Lib.hasPrefix] at h1
  | c :: v =>
    have hc : c = 36 := by
      unfold Lib.hasPrefix at h1
      simp only [List.isPrefixOf, Bool.and_eq_true, beq_iff_eq] at h1
      exact h1.1.symm
    subst hc
    have ht : Lib.trimPrefix (36 :: v) [36] = v := by unfold Lib.trimPrefix; rw [if_pos h1]; rfl
    rw [ht] at h2 ⊢
    simp [oneL, h2]
theorem oneL_word (env : List (List UInt8 × List UInt8)) (w : List UInt8) (h : Lib.hasPrefix w [36] = false ∨ (Lib.hasPrefix w [36] = true ∧ varL (Lib.trimPrefix w [36]) = false)) : oneL env w = [wordL env w] := by
  match w with
  | [] => rfl
  | c :: v =>
    by_cases hc : c = 36
    · subst hc
      have h1 : Lib.hasPrefix (36 :: v) [36] = true := by simp [Lib.hasPrefix]
      have ht : Lib.trimPrefix (36 :: v) [36] = v := by unfold Lib.trimPrefix; rw [if_pos h1]; rfl
      rcases h with h | h
      · rw [h1] at h; simp at h
      · rw [ht] at h; simp [oneL, h.2]
    · unfold oneL
      split
      · rename_i hh; simp at hh; exact absurd hh.1 hc
      · rfl
end Sp

/-- where the loop of Vars stands -/
def VRel (ls : List ByteArray) (env : List (List UInt8 × List UInt8)) (k : Nat) (L : List ByteArray) : Prop :=
  L.map (fun b => b.data.toList) = Sp.varsL ((ls.take k).map (fun b => b.data.toList)) env ∧ L.length ≤ k * 2097152
theorem VRel.start (ls : List ByteArray) (env : List (List UInt8 × List UInt8)) : VRel ls env 0 [] := ⟨by simp [Sp.varsL], by simp⟩
theorem VRel.step {ls : List ByteArray} {env : List (List UInt8 × List UInt8)} {k : Nat} {L l : List ByteArray} (h : VRel ls env k L) (hk : k < ls.length) (hM : ∀ p ∈ env, p.2.length ≤ 2097152)
    (hl : l.map (fun b => b.data.toList) = Sp.oneL env ls[k].data.toList) : VRel ls env (k + 1) (L ++ l) := by
  have hn : l.length ≤ 2097152 := by
    have := Sp.oneL_len env 2097152 hM (by omega) ls[k].data.toList
    rw [← hl] at this; simpa using this
  refine ⟨?_, by have := h.2; simp; omega⟩
  rw [List.take_succ_eq_append_getElem hk, List.map_append, List.map_append, h.1, hl]
  simp only [List.map_cons, List.map_nil]
  rw [Sp.varsL_snoc]

theorem own_below {w w' : World} {base : Nat} {e : TypeId} {size n : Nat} {v : Value} {xs : List Value} (h : w.ownsRow base e size v n xs) (hb : Below w.heap.size w w') : w'.ownsRow base e size v n xs :=
  h.kept (row := none) ⟨hb.os, hb.tape, hb.output, hb.size, fun k hk _ => hb.block k hk⟩ (Classical.em _)
theorem strCells_one (l : List ByteArray) : ∀ u ∈ strCells l, u.oneCell' = true := by
  intro u hu
  obtain ⟨b, _, rfl⟩ := List.mem_map.1 hu
  rfl

set_option maxHeartbeats 4000000 in
theorem vars_own (A A2 : Option Addr) (n c n2 c2 B : Nat) (ls : List ByteArray) (env : List (ByteArray × ByteArray)) (w : World) (h : Rd w B 1 A n (strCells ls)) (h2 : Rd w B 2 A2 n2 (pairCells env)) (hB : B ≤ w.heap.size)
    (hn : n ≤ 2097152) (hn2 : n2 ≤ 140737488355328) (hw : ∀ b ∈ ls, b.size ≤ 2097152) (hv : ∀ p ∈ env, p.2.size ≤ 2097152) :
    Calls Try.prog 12 #[.slice A n c, .slice A2 n2 c2] w fun e w' => ∃ (A' : Option Addr) (c' : Nat) (l : List ByteArray), e = .returned (.slice A' l.length c') ∧
      l.map (fun b => b.data.toList) = Sp.varsL (ls.map (fun b => b.data.toList)) (envL env) ∧ w'.ownsRow w.heap.size 9 1 (.slice A' l.length c') l.length (strCells l) ∧ Below w.heap.size w w' ∧ l.length ≤ n * 2097152 := by
  obtain ⟨i0, hi, hz0, hz1, hz2⟩ := info_parts str_info
  have hM : ∀ p ∈ envL env, p.2.length ≤ 2097152 := by
    intro p hp
    obtain ⟨q, hq, rfl⟩ := List.mem_map.1 hp
    exact hv q hq
  have HM := Lib.hid hM
  clear hM
  have hln : ls.length = n := by have := h.len; simpa [strCells] using this
  go_enter Try.func12, Try.ntmps12
  go_wp2_with fail
  go_loopw [5, 12] (fun v i wr => ∃ (k : Nat) (L : List ByteArray), k ≤ n ∧ i = .int .i64 k ∧ wr.ownsRow w.heap.size 9 1 v L.length (strCells L) ∧ Below w.heap.size w wr ∧ Hid (VRel ls (envL env) k L)) (fun _ i _ => n - (intOf i).toNat)
  case atStart => exact ⟨0, [], Nat.zero_le _, rfl, ⟨by simp [strCells], .inl ⟨rfl, rfl⟩⟩, Below.refl _ _, Lib.hid (VRel.start _ _)⟩
  case round =>
    obtain ⟨k, L, hk, rfl, hown, hb, HV⟩ := hrel
    have hLk : L.length ≤ k * 2097152 := HV.out.2
    by_cases hlt : k < n
    · obtain ⟨ad, rfl, _, hc⟩ := h.here (by omega)
      have hkl : k < ls.length := by omega
      have HST := Lib.hid (fun l hl => VRel.step (l := l) HV.out hkl HM.out hl)
      have e1 := hc k (.string ls[k]) (by simp [strCells, hkl])
      have hsz : ls[k].size ≤ 2097152 := hw _ (List.getElem_mem hkl)
      have e2 : wr.cell? (ad.add k) = some (.string ls[k]) := by rw [hb.cell (p := ad.add k) (by rw [Mem.add_block]; omega)]; exact e1
      clear e1
      generalize ls[k] = s at *
      have x1 : (0 : Int) ≤ (k : Int) := by omega
      have x2 : (k : Int) < (n : Int) := by omega
      have hbs := hb.size
      generalize ht : Lib.trimPrefix s.data.toList [36] = t
      have htl : t.length ≤ 2097152 := by
        have q : s.data.toList.length = s.size := by simp
        rw [← ht]; unfold Lib.trimPrefix; split
        · rw [List.length_drop]; omega
        · omega
      have HT : Hid (Lib.trimPrefix s.data.toList (ByteArray.mk #[36]).data.toList = t) := Lib.hid ht
      by_cases hc1 : Lib.hasPrefix s.data.toList [36] = true ∧ Sp.varL t = true
      · obtain ⟨p1, p2⟩ := hc1
        have HP1 : Hid (Lib.hasPrefix s.data.toList (ByteArray.mk #[36]).data.toList = true) := Lib.hid p1
        have HP2 : Hid (Sp.varL t = true) := Lib.hid p2
        generalize hvl : Sp.valueL (envL env) t = vl
        have HVL := Lib.hid hvl
        have hvlen : vl.length ≤ 2097152 := by have := Sp.valueL_len _ _ HM.out t; rw [hvl] at this; exact this
        have HO : Hid (Sp.oneL (envL env) s.data.toList = Sp.partsOf vl) := Lib.hid (by rw [Sp.oneL_var _ _ p1 (by rw [ht]; exact p2), ht, hvl])
        have hpl := Sp.partsOf_len vl
        clear p1 p2 hvl ht
        go_wp2_with (go_at_call 24; refine (Try.strings_CutPrefix _ _ _).mono ?_; rintro e w' ⟨rfl, rfl⟩; rw [HT.out, HP1.out])
        refine (variable_any ⟨t.toArray⟩ _ (show t.length ≤ _ by omega)).mono ?_
        rintro e w2 ⟨rfl, hb2⟩
        rw [HP2.out]
        go_wp2_with fail
        refine (value_any A2 n2 c2 B env ⟨t.toArray⟩ w2 (h2.below ((hb.trans (hb2.mono hbs)).mono hB)) hn2).mono ?_
        rintro e w3 ⟨rfl, rfl⟩
        rw [HVL.out]
        go_wp2_with fail
        refine (parts_row ⟨vl.toArray⟩ w2 (show vl.length ≤ _ by omega)).mono ?_
        rintro e w3 ⟨A3, l3, rfl, hl3, hr3, hb3⟩
        have hl4 : l3.length ≤ vl.length := by
          have := congrArg List.length hl3
          simp at this
          rw [this]; exact hpl
        have hb4 : Below w.heap.size w w3 := (hb.trans (hb2.mono hbs)).trans (hb3.mono (Nat.le_trans hbs hb2.size))
        have hown3 : w3.ownsRow w.heap.size 9 1 u5 L.length (strCells L) := own_below hown (hb2.trans (hb3.mono hb2.size))
        go_wp2_with (at_builtin; refine wpList_app _ rfl _ _ 27 rfl w.heap.size 9 i0 (.string ⟨#[]⟩) 1 16 Try.underlying27 hi hz0 hz1 hz2 rfl (by decide) _ L.length (strCells L) rfl hown3 w3.heap.size A3 l3.length l3.length (strCells l3) rfl hr3 (strCells_one l3) (by unfold maxLen; omega) (by omega) hb4.size ?_)
        intro v' w4 hown' hgrow hx
        clear hx
        have HOW := Lib.hid hown'
        have HG := Lib.hid hgrow
        clear hown' hgrow
        go_wp2
        go_roundw
        case rel => exact ⟨k + 1, L ++ l3, by omega, by go_num, by have := HOW.out; simpa [strCells] using this, hb4.grown HG.out hb4.size (fun k hk => (hown3.lt k hk).1), Lib.hid (HST.out l3 (by rw [HO.out]; exact hl3))⟩
        case measure => first | (simp [intOf]; done) | (simp [intOf]; omega)
      · generalize hwl : Sp.wordL (envL env) s.data.toList = wl
        have HWL := Lib.hid hwl
        cases p1 : Lib.hasPrefix s.data.toList [36] with
        | false =>
        have HP1 : Hid (Lib.hasPrefix s.data.toList (ByteArray.mk #[36]).data.toList = false) := Lib.hid p1
        have HO : Hid (Sp.oneL (envL env) s.data.toList = [wl]) := Lib.hid (by rw [Sp.oneL_word _ _ (.inl p1), hwl])
        clear hc1 p1 hwl ht
        go_wp2_with (go_at_call 24; refine (Try.strings_CutPrefix _ _ _).mono ?_; rintro e w' ⟨rfl, rfl⟩; rw [HT.out, HP1.out])
        refine (within_any s A2 n2 c2 B env _ (h2.below (hb.mono hB)) (Nat.le_trans hB hb.size) hn2 hsz hv).mono ?_
        rintro e w3 ⟨rfl, hb3⟩
        rw [HWL.out]
        have hb4 : Below w.heap.size w w3 := hb.trans (hb3.mono hb.size)
        have hown3 : w3.ownsRow w.heap.size 9 1 u5 L.length (strCells L) := own_below hown hb3
        go_wp2_with (at_builtin; refine wpList_app _ rfl _ _ 27 rfl w.heap.size 9 i0 (.string ⟨#[]⟩) 1 16 Try.underlying27 hi hz0 hz1 hz2 rfl (by decide) _ L.length (strCells L) rfl (World.ownsRow.alloc hown3 _) (w3.heap.size + 1) (some ⟨w3.heap.size, 0, none⟩) 1 1 [.string ⟨wl.toArray⟩] rfl (Rd.new _ _ _) (by intro u hu; simp at hu; subst hu; rfl) (by unfold maxLen; omega) (by omega) (by have := hb4.size; simp; omega) ?_)
        intro v' w4 hown' hgrow hx
        clear hx
        have HOW := Lib.hid hown'
        have HG := Lib.hid hgrow
        clear hown' hgrow
        go_wp2
        go_roundw
        case rel => exact ⟨k + 1, L ++ [⟨wl.toArray⟩], by omega, by go_num, by have := HOW.out; simpa [strCells] using this, (hb4.alloc hb4.size _).grown HG.out (by have := hb4.size; simp; omega) (fun k hk => (hown3.lt k hk).1), Lib.hid (HST.out [⟨wl.toArray⟩] (by rw [HO.out]; rfl))⟩
        case measure => first | (simp [intOf]; done) | (simp [intOf]; omega)
        | true =>
        have p2 : Sp.varL t = false := by
          cases q : Sp.varL t
          · rfl
          · exact absurd ⟨p1, q⟩ hc1
        have HP1 : Hid (Lib.hasPrefix s.data.toList (ByteArray.mk #[36]).data.toList = true) := Lib.hid p1
        have HP2 := Lib.hid p2
        have HO : Hid (Sp.oneL (envL env) s.data.toList = [wl]) := Lib.hid (by rw [Sp.oneL_word _ _ (.inr ⟨p1, by rw [ht]; exact p2⟩), hwl])
        clear hc1 p1 p2 hwl ht
        go_wp2_with (go_at_call 24; refine (Try.strings_CutPrefix _ _ _).mono ?_; rintro e w' ⟨rfl, rfl⟩; rw [HT.out, HP1.out])
        refine (variable_any ⟨t.toArray⟩ _ (show t.length ≤ _ by omega)).mono ?_
        rintro e w2 ⟨rfl, hb2⟩
        rw [HP2.out]
        have hbb := hb.trans (hb2.mono hbs)
        go_wp2_with fail
        refine (within_any s A2 n2 c2 B env _ (h2.below (hbb.mono hB)) (Nat.le_trans hB hbb.size) hn2 hsz hv).mono ?_
        rintro e w3 ⟨rfl, hb3⟩
        rw [HWL.out]
        have hb4 : Below w.heap.size w w3 := hbb.trans (hb3.mono hbb.size)
        have hown3 : w3.ownsRow w.heap.size 9 1 u5 L.length (strCells L) := own_below hown (hb2.trans (hb3.mono hb2.size))
        go_wp2_with (at_builtin; refine wpList_app _ rfl _ _ 27 rfl w.heap.size 9 i0 (.string ⟨#[]⟩) 1 16 Try.underlying27 hi hz0 hz1 hz2 rfl (by decide) _ L.length (strCells L) rfl (World.ownsRow.alloc hown3 _) (w3.heap.size + 1) (some ⟨w3.heap.size, 0, none⟩) 1 1 [.string ⟨wl.toArray⟩] rfl (Rd.new _ _ _) (by intro u hu; simp at hu; subst hu; rfl) (by unfold maxLen; omega) (by omega) (by have := hb4.size; simp; omega) ?_)
        intro v' w4 hown' hgrow hx
        clear hx
        have HOW := Lib.hid hown'
        have HG := Lib.hid hgrow
        clear hown' hgrow
        go_wp2
        go_roundw
        case rel => exact ⟨k + 1, L ++ [⟨wl.toArray⟩], by omega, by go_num, by have := HOW.out; simpa [strCells] using this, (hb4.alloc hb4.size _).grown HG.out (by have := hb4.size; simp; omega) (fun k hk => (hown3.lt k hk).1), Lib.hid (HST.out [⟨wl.toArray⟩] (by rw [HO.out]; rfl))⟩
        case measure => first | (simp [intOf]; done) | (simp [intOf]; omega)
    · have x1 : ¬ (k : Int) < (n : Int) := by omega
      go_wp2
      obtain ⟨A', c', rfl⟩ : ∃ A' c', u5 = .slice A' L.length c' := by
        rcases hown.2 with ⟨rfl, h0⟩ | ⟨g, cap, cur, rfl, _⟩
        · exact ⟨none, 0, by rw [h0]⟩
        · exact ⟨_, _, rfl⟩
      go_ret
      obtain rfl : k = n := by omega
      exact ⟨A', c', L, rfl, by rw [HV.out.1, List.take_of_length_le (by omega)], hown, hb, hLk⟩

theorem vars_row (A A2 : Option Addr) (n c n2 c2 B : Nat) (ls : List ByteArray) (env : List (ByteArray × ByteArray)) (w : World) (h : Rd w B 1 A n (strCells ls)) (h2 : Rd w B 2 A2 n2 (pairCells env)) (hB : B ≤ w.heap.size)
    (hn : n ≤ 2097152) (hn2 : n2 ≤ 140737488355328) (hw : ∀ b ∈ ls, b.size ≤ 2097152) (hv : ∀ p ∈ env, p.2.size ≤ 2097152) :
    Calls Try.prog 12 #[.slice A n c, .slice A2 n2 c2] w fun e w' => ∃ (A' : Option Addr) (c' : Nat) (l : List ByteArray), e = .returned (.slice A' l.length c') ∧
      l.map (fun b => b.data.toList) = Sp.varsL (ls.map (fun b => b.data.toList)) (envL env) ∧ Rd w' w'.heap.size 1 A' l.length (strCells l) ∧ Below w.heap.size w w' ∧ l.length ≤ n * 2097152 := by
  refine (vars_own A A2 n c n2 c2 B ls env w h h2 hB hn hn2 hw hv).mono ?_
  rintro e w' ⟨A', c', l, h1, h2, h3, h4, h5⟩
  exact ⟨A', c', l, h1, h2, Rd.of_own h3, h4, h5⟩

end Go.Proofs.Ytcefnglmacpehaa
