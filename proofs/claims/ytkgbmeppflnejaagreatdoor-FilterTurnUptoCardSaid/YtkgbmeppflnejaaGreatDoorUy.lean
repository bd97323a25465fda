/-
  A filter that is written is read as it was: the plain law; and the law's walk.
-/
import Derived.Test.YtkgbmeppflnejaaGreatDoorUx
import Derived.Test.YtkgbmeppflnejaaGreatDoorUw
namespace Go.Proofs.YtkgbmeppflnejaaGreatDoor
open Go.RowKit Go.Shelf

namespace Sp
theorem suffix_zero (k : Nat) (h1 : 1 ≤ k) (h2 : k ≤ 4) : ∀ c ∈ suffix (k : Int), c ≠ 0 := by
  obtain rfl | rfl | rfl | rfl : k = 1 ∨ k = 2 ∨ k = 3 ∨ k = 4 := by omega
  all_goals decide
theorem may_zero (l : List UInt8) (h : mayL l = true) : ∀ c ∈ l, c ≠ 0 := by
  obtain ⟨k, g, h1, h2, hl, _, _, _, ha, _⟩ := kindL_some l (by simpa [mayL] using h)
  have hs := suffix_zero k h1 h2
  have hg := name_zero _ ha
  have hh : ∀ c ∈ g, c ≠ 0 := by
    rcases cutAt_at g with ⟨_, e, _⟩ | ⟨_, e, _⟩
    · intro c hc
      rw [e] at hc
      rcases List.mem_append.1 hc with hc | hc
      · exact hg c (List.mem_append.2 (.inl hc))
      · rcases List.mem_cons.1 hc with rfl | hc
        · decide
        · exact hg c (List.mem_append.2 (.inr hc))
    · intro c hc
      rw [e] at hc
      exact hg c (List.mem_append.2 (.inl hc))
  intro c hc
  rw [hl] at hc
  rcases List.mem_append.1 hc with hc | hc
  · exact hh c hc
  · rcases List.mem_cons.1 hc with rfl | hc
    · decide
    · exact hs c hc
theorem words_zero (f : FD) (h : MayF f) : (wordsF f).any hasZero = false := by
  have hu : (f.units.map unitF).any hasZero = false := by
    rw [List.any_eq_false]
    intro l hl
    obtain ⟨u, hu, rfl⟩ := List.mem_map.1 hl
    have := unit_word u (List.all_eq_true.1 h.us u hu)
    have hz : hasZero (unitF u) = false := by
      unfold unitF
      refine zero_app _ (61 :: _) (by decide) (zero_not _ ?_)
      intro c hc
      rcases List.mem_cons.1 hc with rfl | hc
      · decide
      · rcases this.1 with e | e
        · rw [e] at hc; simp at hc; rw [hc]; decide
        · exact may_zero _ e c hc
    rw [hz]; decide
  have hk : (f.kinds.map kindF).any hasZero = false := by
    rw [List.any_eq_false]
    intro l hl
    obtain ⟨k, hk, rfl⟩ := List.mem_map.1 hl
    have hb := List.all_eq_true.1 h.ks k hk
    unfold kindB at hb
    simp only [Bool.and_eq_true, decide_eq_true_eq] at hb
    have e : k = 1 ∨ k = 2 ∨ k = 3 ∨ k = 4 ∨ k = 5 ∨ k = 6 := by omega
    rcases e with rfl | rfl | rfl | rfl | rfl | rfl <;> decide
  have hd : ∀ (p : List UInt8) (n : Int), hasZero p = false → hasZero (p ++ 61 :: decI n) = false := by
    intro p n hp
    refine zero_app _ _ hp (zero_not _ ?_)
    intro c hc
    rcases List.mem_cons.1 hc with rfl | hc
    · decide
    · exact dec_zero n c hc
  have hs : (sinceF f.since).any hasZero = false := by
    unfold sinceF
    split
    · rfl
    · rw [List.any_cons, hd _ _ (by decide)]; rfl
  have ht : (tillF f.till).any hasZero = false := by
    unfold tillF
    split
    · rfl
    · rw [List.any_cons, hd _ _ (by decide)]; rfl
  have hw : (wordF f.word).any hasZero = false := by
    unfold wordF
    split
    · rfl
    · have hc := h.w
      unfold wordB at hc
      rw [Bool.and_eq_true] at hc
      have : hasZero (kWord ++ 61 :: f.word.data.toList) = false := by
        refine zero_app _ _ (by decide) (zero_not _ ?_)
        intro c hc2
        rcases List.mem_cons.1 hc2 with rfl | hc2
        · decide
        · exact clean_zero _ hc.1 c hc2
      rw [List.any_cons, this]; rfl
  rw [wordsF, List.any_append, List.any_append, List.any_append, List.any_append, hu, hk, hs, ht, hw]; rfl
theorem words_few (f : FD) (h : MayF f) : (wordsF f).length ≤ 32 := by
  have h1 := h.few
  have h2 := kindI_few _ h.rk h.ks
  have h3 : (sinceF f.since).length ≤ 1 := by unfold sinceF; split <;> simp
  have h4 : (tillF f.till).length ≤ 1 := by unfold tillF; split <;> simp
  have h5 : (wordF f.word).length ≤ 1 := by unfold wordF; split <;> simp
  rw [wordsF, List.length_append, List.length_append, List.length_append, List.length_append, List.length_map, List.length_map]
  omega
/-- a filter that is written is read as it was -/
theorem turn (f : FD) (h : MayF f) : parseF (joinC (wordsF f)) = .ok f := by
  have hs := split_join (wordsF f) (words_few f h) (words_zero f h)
  have h1 := units_read f.units [] ⟨firstF, false, false, false⟩ rfl h.us h.ru (fun a ha => by cases ha) (by simpa using h.few)
  have h2 := kinds_read f.kinds [] ⟨⟨[] ++ f.units, firstF.kinds, firstF.since, firstF.till, firstF.word⟩, false, false, false⟩ rfl h.ks h.rk (fun a ha => by cases ha)
  obtain ⟨b0, h3⟩ := since_read f.since ⟨⟨[] ++ f.units, [] ++ f.kinds, firstF.since, firstF.till, firstF.word⟩, false, false, false⟩ h.s rfl rfl
  obtain ⟨b1, h4⟩ := till_read f.till ⟨⟨[] ++ f.units, [] ++ f.kinds, f.since, firstF.till, firstF.word⟩, b0, false, false⟩ h.t rfl rfl
  obtain ⟨b2, h5⟩ := word_read f.word ⟨⟨[] ++ f.units, [] ++ f.kinds, f.since, f.till, firstF.word⟩, b0, b1, false⟩ h.w rfl rfl
  unfold parseF
  rw [hs]
  simp only
  rw [wordsF, wordsP_app _ _ _ _ h1, wordsP_app _ _ _ _ h2, wordsP_app _ _ _ _ h3, wordsP_app _ _ _ _ h4, h5]
  rfl
theorem words_short (f : FD) (h : MayF f) : ∀ w ∈ wordsF f, w.length ≤ 200 := by
  intro w hw
  rw [wordsF, List.mem_append, List.mem_append, List.mem_append, List.mem_append] at hw
  rcases hw with hw | hw | hw | hw | hw
  · obtain ⟨u, hu, rfl⟩ := List.mem_map.1 hw
    have := unit_small' u (List.all_eq_true.1 h.us u hu)
    have e : (unitW u).data.toList.length = (unitW u).size := by simp
    unfold unitF kUnit
    simp only [List.length_append, List.length_cons, List.length_nil]
    omega
  · obtain ⟨k, hk, rfl⟩ := List.mem_map.1 hw
    have hb := List.all_eq_true.1 h.ks k hk
    unfold kindB at hb
    simp only [Bool.and_eq_true, decide_eq_true_eq] at hb
    have e : k = 1 ∨ k = 2 ∨ k = 3 ∨ k = 4 ∨ k = 5 ∨ k = 6 := by omega
    rcases e with rfl | rfl | rfl | rfl | rfl | rfl <;> decide
  · unfold sinceF at hw
    split at hw
    · cases hw
    · simp only [List.mem_singleton] at hw
      rw [hw]
      have ht := h.s
      unfold timeB at ht
      simp only [Bool.and_eq_true, decide_eq_true_eq] at ht
      have := decB_size f.since ht.1 (by omega)
      rw [toB_size] at this
      unfold kSince
      simp only [List.length_append, List.length_cons, List.length_nil]
      omega
  · unfold tillF at hw
    split at hw
    · cases hw
    · simp only [List.mem_singleton] at hw
      rw [hw]
      have ht := h.t
      unfold timeB at ht
      simp only [Bool.and_eq_true, decide_eq_true_eq] at ht
      have := decB_size f.till ht.1 (by omega)
      rw [toB_size] at this
      unfold kUntil
      simp only [List.length_append, List.length_cons, List.length_nil]
      omega
  · unfold wordF at hw
    split at hw
    · cases hw
    · simp only [List.mem_singleton] at hw
      rw [hw]
      have hc := h.w
      unfold wordB at hc
      rw [Bool.and_eq_true] at hc
      have h1 := of_decide_eq_true hc.2
      have e : f.word.data.toList.length = f.word.size := by simp
      unfold kWord
      simp only [List.length_append, List.length_cons, List.length_nil]
      omega
theorem text_short (f : FD) (h : MayF f) : (joinC (wordsF f)).length ≤ 1048576 := by
  unfold joinC
  split
  · simp
  · split
    · simp
    · have h1 := joinS_len 200 _ (words_short f h)
      have h2 := words_few f h
      have : (wordsF f).length * (4 * 200 + 3) ≤ 32 * (4 * 200 + 3) := Nat.mul_le_mul_right _ h2
      omega
end Sp
theorem fb_of (w : World) (f : Sp.FD) (UA KA : Option Addr) (uc kc : Nat) : FB (w.alloc (.cells #[.slice UA f.units.length uc, .slice KA f.kinds.length kc, .int .i64 f.since, .int .i64 f.till, .string f.word] 26)) w.heap.size (.slice UA f.units.length uc) (.slice KA f.kinds.length kc) (.int .i64 f.since) (.int .i64 f.till) (.string f.word) := FB.new w _ _ _ _ _ _
theorem Sp.M_ne : ∀ (l : List UInt8) (k : Nat) (cur : Option (List UInt8)) (q : UInt8) (out : List (List UInt8)) (e : Int), Sp.M k cur q out l = .error e → e ≠ 0
  | [], k, cur, q, out, e, h => by
    cases k <;> simp only [Sp.M] at h <;> split at h
    all_goals first | (injection h with h; rw [← h]; decide) | (cases h; done)
  | c :: r, k + 1, cur, q, out, e, h => by rw [Sp.M] at h; exact Sp.M_ne r k cur q out e h
  | c :: r, 0, cur, q, out, e, h => by
    rw [Sp.M_cons] at h
    split at h
    · injection h with h; rw [← h]; decide
    · split at h
      · exact Sp.M_ne r 0 _ _ _ e h
      · split at h
        · injection h with h
          rw [← h]
          unfold Sp.wrongE
          split <;> decide
        · split at h
          · split at h
            · injection h with h; rw [← h]; decide
            · exact Sp.M_ne r _ _ _ _ e h
          · split at h
            · exact Sp.M_ne r 0 _ _ _ e h
            · split at h
              · exact Sp.M_ne r 0 _ _ _ e h
              · exact Sp.M_ne r 0 _ _ _ e h
theorem Sp.wordsP_ne : ∀ (ws : List (List UInt8)) (s : Sp.PS) (e : Int), Sp.wordsP s ws = .error e → e ≠ 0
  | [], s, e, h => by cases h
  | l :: r, s, e, h => by
    rw [Sp.wordsP] at h
    cases hw : Sp.wordP s l with
    | error x => rw [hw] at h; injection h with h; rw [← h]; exact Sp.stepP_ne _ _ _ _ _ hw
    | ok t => rw [hw] at h; exact Sp.wordsP_ne r t e h
theorem Sp.parse_ne (l : List UInt8) (e : Int) (h : Sp.parseF l = .error e) : e ≠ 0 := by
  unfold Sp.parseF at h
  split at h
  · rename_i x hx
    injection h with h
    rw [← h]
    exact Sp.M_ne _ _ _ _ _ _ hx
  · split at h
    · rename_i x hx
      injection h with h
      rw [← h]
      exact Sp.wordsP_ne _ _ _ hx
    · cases h
set_option maxHeartbeats 16000000 in
set_option maxRecDepth 100000 in
theorem filterturn_any (f : Sp.FD) (UA KA : Option Addr) (uc kc : Nat) (s : ByteArray) (w : World) (h : FGood f UA KA w.heap.size w) (hs : s.size ≤ 1048576) (E : Env w) :
    Calls Tryz.prog 4 #[filtV f UA uc KA kc, .string s] w fun e w' => e = .returned (.bool true) ∧ Below w.heap.size w w' := by
  have hb1 : Below w.heap.size w (w.alloc (.cells #[.slice UA f.units.length uc, .slice KA f.kinds.length kc, .int .i64 f.since, .int .i64 f.till, .string f.word] 26)) := (Below.refl _ _).alloc (Nat.le_refl _) _
  have hf1 := fb_of w f UA KA uc kc
  have hl1 : w.heap.size < (w.alloc (.cells #[.slice UA f.units.length uc, .slice KA f.kinds.length kc, .int .i64 f.since, .int .i64 f.till, .string f.word] 26)).heap.size := by simp
  have HS := Lib.hid (shown_any _ (E.on hb1))
  have HB1 := Lib.hid hb1
  have HF1 := Lib.hid hf1
  have HL1 := Lib.hid hl1
  have HG := Lib.hid (fun W (hb : Below w.heap.size w W) => (h.on hb).more hb.size)
  have HE := Lib.hid E
  have HP := Lib.hid (fun W (hb : Below w.heap.size w W) => fparse_any s W hs (E.on hb))
  clear hb1 hf1 hl1 h E
  unfold filtV filtC
  go_enter Tryz.func4, Tryz.ntmps4
  go_wp2_with fail
  refine HS.out.mono ?_
  rintro e w2 ⟨rfl, hb2⟩
  have HB2 := Lib.hid (HB1.out.trans (hb2.mono HB1.out.size))
  have HF2 := Lib.hid (HF1.out.on HL1.out hb2)
  have HL2 : Hid (w.heap.size < w2.heap.size) := Lib.hid (Nat.lt_of_lt_of_le HL1.out hb2.size)
  have c0 := HF2.out.c0
  have c1 := HF2.out.c1
  have c2 := HF2.out.c2
  have c3 := HF2.out.c3
  have c4 := HF2.out.c4
  clear hb2 HB1 HF1 HL1 HS
  go_wp2_with fail
  refine (fmay_any f UA KA uc kc w2 (HG.out w2 HB2.out)).mono ?_
  rintro e w3 ⟨rfl, hb3⟩
  have HB3 := Lib.hid (HB2.out.trans (hb3.mono HB2.out.size))
  have HF3 := Lib.hid (HF2.out.on HL2.out hb3)
  have HL3 : Hid (w.heap.size < w3.heap.size) := Lib.hid (Nat.lt_of_lt_of_le HL2.out hb3.size)
  clear hb3 c0 c1 c2 c3 c4
  have c0 := HF3.out.c0
  have c1 := HF3.out.c1
  have c2 := HF3.out.c2
  have c3 := HF3.out.c3
  have c4 := HF3.out.c4
  cases hm : Sp.mayF f with
  | true =>
    have hmf := (Sp.mayF_iff f).1 hm
    obtain ⟨T, hT⟩ : ∃ T : ByteArray, T.data.toList = Sp.joinC (Sp.wordsF f) := ⟨⟨(Sp.joinC (Sp.wordsF f)).toArray⟩, rfl⟩
    have hTs : T.size ≤ 1048576 := by
      have h1 := Sp.text_short f hmf
      rw [← hT] at h1
      simpa using h1
    have HPR := Lib.hid (fprint_yes f UA KA uc kc w3 (HG.out w3 HB3.out) hm T hT (HE.out.on HB3.out))
    have HTT : Hid (Sp.parseF T.data.toList = .ok f) := Lib.hid (by rw [hT]; exact Sp.turn f hmf)
    have HPT := Lib.hid (fun W (hb : Below w.heap.size w W) => fparse_any T W hTs (HE.out.on hb))
    clear hm hmf hT hTs
    go_wp2_with fail
    refine HPR.out.mono ?_
    rintro e w4 ⟨rfl, hb4⟩
    have HB4 := Lib.hid (HB3.out.trans (hb4.mono HB3.out.size))
    have HF4 := Lib.hid (HF3.out.on HL3.out hb4)
    have HL4 : Hid (w.heap.size < w4.heap.size) := Lib.hid (Nat.lt_of_lt_of_le HL3.out hb4.size)
    clear hb4 c0 c1 c2 c3 c4
    go_wp2_with fail
    refine (HPT.out w4 HB4.out).mono ?_
    rintro e w5 ⟨hb5, hc5⟩
    rw [HTT.out] at hc5
    obtain ⟨UA2, uc2, KA2, kc2, rfl, hg5⟩ := hc5
    have HB5 := Lib.hid (HB4.out.trans (hb5.mono HB4.out.size))
    have HF5 := Lib.hid (HF4.out.on HL4.out hb5)
    have HL5 : Hid (w.heap.size < w5.heap.size) := Lib.hid (Nat.lt_of_lt_of_le HL4.out hb5.size)
    have hb6 : Below w5.heap.size w5 (w5.alloc (.cells #[.slice UA2 f.units.length uc2, .slice KA2 f.kinds.length kc2, .int .i64 f.since, .int .i64 f.till, .string f.word] 26)) := (Below.refl _ _).alloc (Nat.le_refl _) _
    have hf6 := HF5.out.on HL5.out hb6
    have c0 := hf6.c0
    have c1 := hf6.c1
    have c2 := hf6.c2
    have c3 := hf6.c3
    have c4 := hf6.c4
    have HB6 := Lib.hid (HB5.out.trans (hb6.mono HB5.out.size))
    have HSM := Lib.hid (rsamef_any f UA KA UA2 KA2 uc kc uc2 kc2 _ (HG.out _ (HB5.out.trans (hb6.mono HB5.out.size))) ((hg5.on hb6).more hb6.size))
    unfold filtV filtC at HSM
    clear hb5 hb6 hf6 hg5
    unfold filtV filtC
    go_wp2_with fail
    refine HSM.out.mono ?_
    rintro e w7 ⟨rfl, hb7⟩
    have HB7 := Lib.hid (HB6.out.trans (hb7.mono HB6.out.size))
    clear hb7 c0 c1 c2 c3 c4 HSM
    go_wp2_with fail
    refine (HP.out w7 HB7.out).mono ?_
    rintro e w8 ⟨hb8, hc8⟩
    have HB8 := Lib.hid (HB7.out.trans (hb8.mono HB7.out.size))
    cases hp : Sp.parseF s.data.toList with
    | error x =>
      rw [hp] at hc8
      have hx : (x != 0) = true := by simpa using Sp.parse_ne _ _ hp
      replace hc8 : e = .returned (.tuple #[.agg #[.slice none 0 0, .slice none 0 0, .int .i64 0, .int .i64 0, .string ⟨#[]⟩], .int .i64 x]) := hc8
      subst hc8
      clear hp hb8
      go_wp2
      go_ret
      exact ⟨rfl, HB8.out.alloc HB8.out.size _⟩
    | ok g =>
      rw [hp] at hc8
      have HMG := Lib.hid (Sp.parse_may _ g hp)
      obtain ⟨UA3, uc3, KA3, kc3, rfl, hg8⟩ := hc8
      have hb9 : Below w8.heap.size w8 (w8.alloc (.cells #[.slice UA3 g.units.length uc3, .slice KA3 g.kinds.length kc3, .int .i64 g.since, .int .i64 g.till, .string g.word] 26)) := (Below.refl _ _).alloc (Nat.le_refl _) _
      have HM9 := Lib.hid (fmay_any g UA3 KA3 uc3 kc3 _ ((hg8.on hb9).more hb9.size))
      rw [HMG.out] at HM9
      have HB9 := Lib.hid (HB8.out.trans (hb9.mono HB8.out.size))
      unfold filtV filtC at HM9
      clear hp hb8 hg8 hb9
      unfold filtV filtC
      go_wp2_with fail
      refine HM9.out.mono ?_
      rintro e w10 ⟨rfl, hb10⟩
      have HB10 := Lib.hid (HB9.out.trans (hb10.mono HB9.out.size))
      clear hb10
      go_wp2
      go_ret
      exact ⟨rfl, HB10.out⟩
  | false =>
    clear hm
    go_wp2_with fail
    refine (HP.out w3 HB3.out).mono ?_
    rintro e w8 ⟨hb8, hc8⟩
    have HB8 := Lib.hid (HB3.out.trans (hb8.mono HB3.out.size))
    cases hp : Sp.parseF s.data.toList with
    | error x =>
      rw [hp] at hc8
      have hx : (x != 0) = true := by simpa using Sp.parse_ne _ _ hp
      replace hc8 : e = .returned (.tuple #[.agg #[.slice none 0 0, .slice none 0 0, .int .i64 0, .int .i64 0, .string ⟨#[]⟩], .int .i64 x]) := hc8
      subst hc8
      clear hp hb8
      go_wp2
      go_ret
      exact ⟨rfl, HB8.out.alloc HB8.out.size _⟩
    | ok g =>
      rw [hp] at hc8
      have HMG := Lib.hid (Sp.parse_may _ g hp)
      obtain ⟨UA3, uc3, KA3, kc3, rfl, hg8⟩ := hc8
      have hb9 : Below w8.heap.size w8 (w8.alloc (.cells #[.slice UA3 g.units.length uc3, .slice KA3 g.kinds.length kc3, .int .i64 g.since, .int .i64 g.till, .string g.word] 26)) := (Below.refl _ _).alloc (Nat.le_refl _) _
      have HM9 := Lib.hid (fmay_any g UA3 KA3 uc3 kc3 _ ((hg8.on hb9).more hb9.size))
      rw [HMG.out] at HM9
      have HB9 := Lib.hid (HB8.out.trans (hb9.mono HB8.out.size))
      unfold filtV filtC at HM9
      clear hp hb8 hg8 hb9
      unfold filtV filtC
      go_wp2_with fail
      refine HM9.out.mono ?_
      rintro e w10 ⟨rfl, hb10⟩
      have HB10 := Lib.hid (HB9.out.trans (hb10.mono HB9.out.size))
      clear hb10
      go_wp2
      go_ret
      exact ⟨rfl, HB10.out⟩

end Go.Proofs.YtkgbmeppflnejaaGreatDoor
