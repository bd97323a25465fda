/-
  A filter as a text: the program's walk.
-/
import Derived.Test.YtijfeeiplljnjaaGreatDoorUs
namespace Go.Proofs.YtijfeeiplljnjaaGreatDoor
open Go.RowKit Go.Shelf

def tlx (x : ByteArray) : List UInt8 := x.data.toList
theorem unit_small' (u : ByteArray) (h : Sp.unitB u = true) : (unitW u).size ≤ 60 := unitW_size u (by
  unfold Sp.unitB at h
  by_cases he : u.toList.isEmpty = true
  · exact .inl (Sp.empty_of u he)
  · rw [Bool.or_eq_true] at h
    exact .inr ⟨he, h.resolve_left he⟩)
/-- words that are being put together -/
structure Out (B : Nat) (v : Value) (ys : List ByteArray) (ws : List (List UInt8)) (w : World) : Prop where
  own : OwnS B v ys w
  eq : ys.map (fun x => x.data.toList) = ws
  few : ∀ y ∈ ys, y.size ≤ 200
theorem Out.snoc {B : Nat} {v v' : Value} {ys : List ByteArray} {ws : List (List UInt8)} {w w' : World} (h : Out B v ys ws w) (X : ByteArray) (l : List UInt8) (hX : X.data.toList = l) (hs : X.size ≤ 200) (ho : w'.ownsRow B 9 1 v' (ys.length + 1) (ys.map Value.string ++ [.string X])) : Out B v' (ys ++ [X]) (ws ++ [l]) w' := by
  refine ⟨?_, by rw [List.map_append, h.eq]; simp [hX], fun y hy => ?_⟩
  · unfold OwnS
    rw [List.length_append, List.map_append]
    exact ho
  · rcases List.mem_append.1 hy with hy | hy
    · exact h.few y hy
    · rw [List.mem_singleton] at hy; rw [hy]; exact hs
theorem Out.below {B B' : Nat} {v : Value} {ys : List ByteArray} {ws : List (List UInt8)} {w w' : World} (h : Out B v ys ws w) (hb : Below B' w w') (hB : w.heap.size ≤ B') : Out B v ys ws w' := ⟨h.own.below hb hB, h.eq, h.few⟩
theorem grown_row {B : Nat} {v : Value} {ys : List ByteArray} {a w w9 : World} (h : Below B a w) (hB : B ≤ w.heap.size) (o : Obj) (ho : OwnS B v ys w) (hg : (w.alloc o).grownBy w9 v.ownBlock) : Below B a w9 :=
  (h.alloc hB o).grown hg (by simp; omega) (fun k hk => ((World.ownsRow.alloc ho o).lt k hk).1)
set_option maxHeartbeats 4000000 in
set_option maxRecDepth 100000 in
theorem fprint_no (f : Sp.FD) (UA KA : Option Addr) (uc kc : Nat) (w : World) (h : FGood f UA KA w.heap.size w) (hm : Sp.mayF f = false) :
    Calls Tryz.prog 10 #[filtV f UA uc KA kc] w fun e w' => e = .returned (.string ⟨#[]⟩) ∧ Below w.heap.size w w' := by
  have hb0 : Below w.heap.size w (w.alloc (.cells #[.slice UA f.units.length uc, .slice KA f.kinds.length kc, .int .i64 f.since, .int .i64 f.till, .string f.word] 26)) := (Below.refl _ _).alloc (Nat.le_refl _) _
  have HM := Lib.hid (fmay_any f UA KA uc kc _ ((h.on hb0).more hb0.size))
  rw [hm] at HM
  have HB := Lib.hid hb0
  clear h hm hb0
  unfold filtV filtC at *
  go_enter Tryz.func10, Tryz.ntmps10
  go_wp2_with fail
  refine HM.out.mono ?_
  rintro e w2 ⟨rfl, hb2⟩
  have HB2 := Lib.hid (HB.out.trans (hb2.mono HB.out.size))
  clear hb2
  go_wp2
  go_ret
  exact ⟨rfl, HB2.out⟩
set_option maxHeartbeats 16000000 in
set_option maxRecDepth 100000 in
theorem fprint_yes (f : Sp.FD) (UA KA : Option Addr) (uc kc : Nat) (w : World) (h : FGood f UA KA w.heap.size w) (hm : Sp.mayF f = true) (T : ByteArray) (hT : T.data.toList = Sp.joinC (Sp.wordsF f)) (E : Env w) :
    Calls Tryz.prog 10 #[filtV f UA uc KA kc] w fun e w' => e = .returned (.string T) ∧ Below w.heap.size w w' := by
  obtain ⟨i0, hi, hz0, hz1, hz2⟩ := info_parts str_info
  have hmf := (Sp.mayF_iff f).1 hm
  have hb0 : Below w.heap.size w (w.alloc (.cells #[.slice UA f.units.length uc, .slice KA f.kinds.length kc, .int .i64 f.since, .int .i64 f.till, .string f.word] 26)) := (Below.refl _ _).alloc (Nat.le_refl _) _
  have HM := Lib.hid (fmay_any f UA KA uc kc _ ((h.on hb0).more hb0.size))
  rw [hm] at HM
  have HB := Lib.hid hb0
  have HF0 := Lib.hid (FB.new w (.slice UA f.units.length uc) (.slice KA f.kinds.length kc) (.int .i64 f.since) (.int .i64 f.till) (.string f.word) 26)
  have HLT : Hid (w.heap.size < (w.alloc (.cells #[.slice UA f.units.length uc, .slice KA f.kinds.length kc, .int .i64 f.since, .int .i64 f.till, .string f.word] 26)).heap.size) := Lib.hid (by simp)
  have HUR := Lib.hid (fun k hk => Rd.strAt h.ru k hk)
  have HKR := Lib.hid (fun k hk => Rd.intAt h.rk k hk)
  have HMF := Lib.hid hmf
  have hul := hmf.few
  have hkl := Sp.kindI_few _ hmf.rk hmf.ks
  have HE := Lib.hid E
  have HUT : Hid (∀ k (h : k < f.units.length), f.units.take (k + 1) = f.units.take k ++ [f.units[k]]) := Lib.hid (fun k h => List.take_succ_eq_append_getElem h)
  have HKT : Hid (∀ k (h : k < f.kinds.length), f.kinds.take (k + 1) = f.kinds.take k ++ [f.kinds[k]]) := Lib.hid (fun k h => List.take_succ_eq_append_getElem h)
  have HTT := Lib.hid hT
  have hts := hmf.s
  have htt := hmf.t
  unfold timeB at hts htt
  simp only [Bool.and_eq_true, decide_eq_true_eq] at hts htt
  clear h hm hb0 hmf E hT
  unfold filtV filtC
  generalize hw1 : w.alloc (.cells #[.slice UA f.units.length uc, .slice KA f.kinds.length kc, .int .i64 f.since, .int .i64 f.till, .string f.word] 26) = w1 at *
  have HW1 := Lib.hid hw1
  clear hw1
  go_enter Tryz.func10, Tryz.ntmps10
  go_wp2_with fail
  rw [show w.alloc (.cells (#[.slice UA f.units.length uc, .slice KA f.kinds.length kc, .int .i64 f.since, .int .i64 f.till, .string f.word]) 26) = w1 from HW1.out]
  refine HM.out.mono ?_
  rintro e w2 ⟨rfl, hb2⟩
  have HB2 := Lib.hid (HB.out.trans (hb2.mono HB.out.size))
  have HF2 := Lib.hid (HF0.out.on HLT.out hb2)
  have HL2 : Hid (w.heap.size < w2.heap.size) := Lib.hid (Nat.lt_of_lt_of_le HLT.out hb2.size)
  have c0 := HF2.out.c0
  clear hb2
  go_wp2_with fail
  go_loopw [3, 14] (fun ov iv wr => ∃ (k : Nat) (ys : List ByteArray), (k ≤ f.units.length ∧ ys.length = k) ∧ iv = .int .i64 k ∧ Hid (Below w2.heap.size w2 wr) ∧ Hid (Out w2.heap.size ov ys ((f.units.take k).map Sp.unitF) wr)) (fun _ iv _ => f.units.length - (intOf iv).toNat)
  case atStart => exact ⟨0, [], ⟨Nat.zero_le _, rfl⟩, rfl, Lib.hid (Below.refl _ _), Lib.hid ⟨World.ownsRow_nil _ _ _ _, rfl, fun y hy => by cases hy⟩⟩
  case round =>
    obtain ⟨k, ys, ⟨hk, hyk⟩, rfl, HB3, HO3⟩ := hrel
    obtain ⟨A3, c3, rfl⟩ := HO3.out.own.form
    have HYK := Lib.hid hyk
    have hy32 : ys.length ≤ 16 := by omega
    clear c0 hyk
    by_cases hlt : k < f.units.length
    · obtain ⟨ad, hA, hc⟩ := HUR.out k hlt
      subst hA
      have c0 : wr.cell? (ad.add k) = some (.string f.units[k]) := hc wr (HB2.out.trans (HB3.out.mono HB2.out.size))
      have hub : Sp.unitB f.units[k] = true := List.all_eq_true.1 HMF.out.us _ (List.getElem_mem hlt)
      have hus := unit_small' _ hub
      have HTK := Lib.hid (HUT.out k hlt)
      clear hc hub
      generalize f.units[k] = u at *
      obtain ⟨U, hU⟩ : ∃ U, U = unitW u := ⟨_, rfl⟩
      rw [← hU] at hus
      have hcat : ¬ 9223372036854775807 < 5 + U.size := by omega
      have HXL : Hid (((⟨#[117, 110, 105, 116, 61]⟩ : ByteArray) ++ U).data.toList = Sp.unitF u) := Lib.hid (by rw [dataApp, hU]; rfl)
      have HXS : Hid (((⟨#[117, 110, 105, 116, 61]⟩ : ByteArray) ++ U).size ≤ 200) := Lib.hid (by rw [ByteArray.size_append]; show 5 + U.size ≤ 200; omega)
      have x1 : (0 : Int) ≤ (k : Int) := by omega
      have x2 : (k : Int) < (f.units.length : Int) := by omega

      cases hem : u.toList.isEmpty with
      | true =>
        have eU : U = ⟨#[45]⟩ := by rw [hU, unitW, if_pos hem]
        subst eU
        clear hU
        have hsz := HB3.out.size
        go_wp2_with (at_builtin; refine wpList_append_own _ rfl _ _ 23 rfl w2.heap.size 9 i0 (.string ⟨#[]⟩) 1 16 Tryz.underlying23 hi hz0 hz1 hz2 rfl (by decide) _ _ _ rfl (World.ownsRow.alloc HO3.out.own _) ⟨wr.heap.size, 0, none⟩ 1 1 [.string ((⟨#[117, 110, 105, 116, 61]⟩ : ByteArray) ++ ⟨#[45]⟩)] rfl rfl (cell_one_new _ _ _) (by simp [Value.oneCell']) (by simp only [maxLen]; omega) (by omega) (by simp; omega) ?_)
        intro v9 w9 hown9 hgrow9 _
        have HB9 := Lib.hid (grown_row HB3.out hsz (.cells #[.string ((⟨#[117, 110, 105, 116, 61]⟩ : ByteArray) ++ ⟨#[45]⟩)] 9) HO3.out.own hgrow9)
        have HO9 := Lib.hid (HO3.out.snoc ((⟨#[117, 110, 105, 116, 61]⟩ : ByteArray) ++ ⟨#[45]⟩) _ HXL.out HXS.out hown9)
        clear hown9 hgrow9
        go_wp2
        go_roundw
        case rel => exact ⟨k + 1, ys ++ [((⟨#[117, 110, 105, 116, 61]⟩ : ByteArray) ++ ⟨#[45]⟩)], ⟨by omega, by rw [List.length_append, HYK.out]; rfl⟩, by go_num, HB9, Lib.hid (by rw [HTK.out, List.map_append]; exact HO9.out)⟩
        case measure => simp [intOf]; omega
      | false =>
        have eU : u = U := by rw [hU, unitW, if_neg (by rw [hem]; decide)]
        subst eU
        clear hU
        have hsz := HB3.out.size
        go_wp2_with (at_builtin; refine wpList_append_own _ rfl _ _ 23 rfl w2.heap.size 9 i0 (.string ⟨#[]⟩) 1 16 Tryz.underlying23 hi hz0 hz1 hz2 rfl (by decide) _ _ _ rfl (World.ownsRow.alloc HO3.out.own _) ⟨wr.heap.size, 0, none⟩ 1 1 [.string ((⟨#[117, 110, 105, 116, 61]⟩ : ByteArray) ++ u)] rfl rfl (cell_one_new _ _ _) (by simp [Value.oneCell']) (by simp only [maxLen]; omega) (by omega) (by simp; omega) ?_)
        intro v9 w9 hown9 hgrow9 _
        have HB9 := Lib.hid (grown_row HB3.out hsz (.cells #[.string ((⟨#[117, 110, 105, 116, 61]⟩ : ByteArray) ++ u)] 9) HO3.out.own hgrow9)
        have HO9 := Lib.hid (HO3.out.snoc ((⟨#[117, 110, 105, 116, 61]⟩ : ByteArray) ++ u) _ HXL.out HXS.out hown9)
        clear hown9 hgrow9
        go_wp2
        go_roundw
        case rel => exact ⟨k + 1, ys ++ [((⟨#[117, 110, 105, 116, 61]⟩ : ByteArray) ++ u)], ⟨by omega, by rw [List.length_append, HYK.out]; rfl⟩, by go_num, HB9, Lib.hid (by rw [HTK.out, List.map_append]; exact HO9.out)⟩
        case measure => simp [intOf]; omega
    · have hke : k = f.units.length := by omega
      have x2 : ¬ (k : Int) < (f.units.length : Int) := by omega
      have HO4 : Hid (Out w2.heap.size (.slice A3 ys.length c3) ys (f.units.map Sp.unitF) wr) := Lib.hid (by have := HO3.out; rwa [hke, List.take_length] at this)
      have HX4 := Lib.hid (HB2.out.trans (HB3.out.mono HB2.out.size))
      have HF4 := Lib.hid (HF2.out.on HL2.out HB3.out)
      have c1 := HF4.out.c1
      obtain ⟨w4, hw4⟩ : ∃ w4, w4 = wr := ⟨_, rfl⟩
      have HB4 : Hid (Below w2.heap.size w2 w4) := Lib.hid (by rw [hw4]; exact HB3.out)
      rw [← hw4] at HO4 HX4 HF4 c1 ⊢
      clear hw4 hke HB3 HO3 hk
      have HYK4 : Hid (ys.length ≤ 16) := Lib.hid hy32
      clear HYK hy32
      go_wp2_with fail
      go_loopw [3, 29] (fun ov iv wr => ∃ (k : Nat) (zs : List ByteArray), (k ≤ f.kinds.length ∧ zs.length ≤ 16 + k) ∧ iv = .int .i64 k ∧ Hid (Below w2.heap.size w2 wr) ∧ Hid (Out w2.heap.size ov zs (f.units.map Sp.unitF ++ (f.kinds.take k).map Sp.kindF) wr)) (fun _ iv _ => f.kinds.length - (intOf iv).toNat)
      case atStart => exact ⟨0, ys, ⟨Nat.zero_le _, by have := HYK4.out; omega⟩, rfl, HB4, Lib.hid (by simpa using HO4.out)⟩
      case round =>
        clear HB4 HO4 HX4 HF4 c1 HYK4
        obtain ⟨k, zs, ⟨hk, hyk⟩, rfl, HB3, HO3⟩ := hrel
        obtain ⟨A3, c3, rfl⟩ := HO3.out.own.form
        have HYK := Lib.hid hyk
        have hy32 : zs.length ≤ 22 := by omega
        clear hyk
        by_cases hlt : k < f.kinds.length
        · obtain ⟨ad, hA, hc⟩ := HKR.out k hlt
          subst hA
          have c0 : wr.cell? (ad.add k) = some (.int .i64 f.kinds[k]) := hc wr (HB2.out.trans (HB3.out.mono HB2.out.size))
          have hub : Sp.kindB f.kinds[k] = true := List.all_eq_true.1 HMF.out.ks _ (List.getElem_mem hlt)
          have HTK := Lib.hid (HKT.out k hlt)
          unfold Sp.kindB at hub
          simp only [Bool.and_eq_true, decide_eq_true_eq] at hub
          clear hc
          generalize f.kinds[k] = u at *
          have x1 : (0 : Int) ≤ (k : Int) := by omega
          have x2 : (k : Int) < (f.kinds.length : Int) := by omega
          have HKI := Lib.hid (fkinds_any wr)
          have HB5 : Hid (Below w2.heap.size w2 (wr.alloc (.cells #[.string ⟨#[115, 97, 105, 100]⟩, .string ⟨#[115, 116, 97, 116, 101]⟩, .string ⟨#[106, 111, 98]⟩, .string ⟨#[99, 111, 110, 110]⟩, .string ⟨#[116, 105, 109, 101, 114]⟩, .string ⟨#[97, 115, 107]⟩] 9))) := Lib.hid (HB3.out.alloc HB3.out.size _)
          have HO5 : Hid (Out w2.heap.size (.slice A3 zs.length c3) zs (f.units.map Sp.unitF ++ (f.kinds.take k).map Sp.kindF) (wr.alloc (.cells #[.string ⟨#[115, 97, 105, 100]⟩, .string ⟨#[115, 116, 97, 116, 101]⟩, .string ⟨#[106, 111, 98]⟩, .string ⟨#[99, 111, 110, 110]⟩, .string ⟨#[116, 105, 109, 101, 114]⟩, .string ⟨#[97, 115, 107]⟩] 9))) := Lib.hid (HO3.out.below ((Below.refl _ _).alloc (Nat.le_refl _) _) (Nat.le_refl _))
          have HKC := Lib.hid (fun j (x : Value) (hj : (#[.string ⟨#[115, 97, 105, 100]⟩, .string ⟨#[115, 116, 97, 116, 101]⟩, .string ⟨#[106, 111, 98]⟩, .string ⟨#[99, 111, 110, 110]⟩, .string ⟨#[116, 105, 109, 101, 114]⟩, .string ⟨#[97, 115, 107]⟩] : Array Value)[j]? = some x) => (Lib.cell_of_heap (w := wr.alloc (.cells #[.string ⟨#[115, 97, 105, 100]⟩, .string ⟨#[115, 116, 97, 116, 101]⟩, .string ⟨#[106, 111, 98]⟩, .string ⟨#[99, 111, 110, 110]⟩, .string ⟨#[116, 105, 109, 101, 114]⟩, .string ⟨#[97, 115, 107]⟩] 9)) (Array.getElem?_push_size (xs := wr.heap)) j).trans hj)
          have hcases : u = 1 ∨ u = 2 ∨ u = 3 ∨ u = 4 ∨ u = 5 ∨ u = 6 := by omega
          clear hub
          rcases hcases with rfl | rfl | rfl | rfl | rfl | rfl
          · have k0 := HKC.out 0 (.string ⟨#[115, 97, 105, 100]⟩) rfl
            have HXL : Hid (((⟨#[107, 105, 110, 100, 61]⟩ : ByteArray) ++ ⟨#[115, 97, 105, 100]⟩).data.toList = Sp.kindF 1) := Lib.hid (by rw [dataApp]; rfl)
            have HXS : Hid (((⟨#[107, 105, 110, 100, 61]⟩ : ByteArray) ++ ⟨#[115, 97, 105, 100]⟩).size ≤ 200) := Lib.hid (by decide)
            clear HKC
            go_wp2_with fail
            refine HKI.out.mono ?_
            rintro e w5 ⟨rfl, hw5⟩
            rw [← hw5] at HB5 HO5 k0
            clear hw5 HKI c0
            have hsz9 := HB5.out.size
            go_wp2_with (at_builtin; refine wpList_append_own _ rfl _ _ 23 rfl w2.heap.size 9 i0 (.string ⟨#[]⟩) 1 16 Tryz.underlying23 hi hz0 hz1 hz2 rfl (by decide) _ _ _ rfl (World.ownsRow.alloc HO5.out.own _) ⟨w5.heap.size, 0, none⟩ 1 1 [.string ((⟨#[107, 105, 110, 100, 61]⟩ : ByteArray) ++ ⟨#[115, 97, 105, 100]⟩)] rfl rfl (cell_one_new _ _ _) (by simp [Value.oneCell']) (by simp only [maxLen]; omega) (by omega) (by simp; omega) ?_)
            intro v9 w9 hown9 hgrow9 _
            have HB9 := Lib.hid (grown_row HB5.out hsz9 (.cells #[.string ((⟨#[107, 105, 110, 100, 61]⟩ : ByteArray) ++ ⟨#[115, 97, 105, 100]⟩)] 9) HO5.out.own hgrow9)
            have HO9 := Lib.hid (HO5.out.snoc ((⟨#[107, 105, 110, 100, 61]⟩ : ByteArray) ++ ⟨#[115, 97, 105, 100]⟩) _ HXL.out HXS.out hown9)
            clear hown9 hgrow9
            go_wp2
            go_roundw
            case rel => exact ⟨k + 1, zs ++ [((⟨#[107, 105, 110, 100, 61]⟩ : ByteArray) ++ ⟨#[115, 97, 105, 100]⟩)], ⟨by omega, by rw [List.length_append]; have := HYK.out; simp; omega⟩, by go_num, HB9, Lib.hid (by rw [HTK.out, List.map_append, ← List.append_assoc]; exact HO9.out)⟩
            case measure => simp [intOf]; omega
          · have k0 := HKC.out 1 (.string ⟨#[115, 116, 97, 116, 101]⟩) rfl
            have HXL : Hid (((⟨#[107, 105, 110, 100, 61]⟩ : ByteArray) ++ ⟨#[115, 116, 97, 116, 101]⟩).data.toList = Sp.kindF 2) := Lib.hid (by rw [dataApp]; rfl)
            have HXS : Hid (((⟨#[107, 105, 110, 100, 61]⟩ : ByteArray) ++ ⟨#[115, 116, 97, 116, 101]⟩).size ≤ 200) := Lib.hid (by decide)
            clear HKC
            go_wp2_with fail
            refine HKI.out.mono ?_
            rintro e w5 ⟨rfl, hw5⟩
            rw [← hw5] at HB5 HO5 k0
            clear hw5 HKI c0
            have hsz9 := HB5.out.size
            go_wp2_with (at_builtin; refine wpList_append_own _ rfl _ _ 23 rfl w2.heap.size 9 i0 (.string ⟨#[]⟩) 1 16 Tryz.underlying23 hi hz0 hz1 hz2 rfl (by decide) _ _ _ rfl (World.ownsRow.alloc HO5.out.own _) ⟨w5.heap.size, 0, none⟩ 1 1 [.string ((⟨#[107, 105, 110, 100, 61]⟩ : ByteArray) ++ ⟨#[115, 116, 97, 116, 101]⟩)] rfl rfl (cell_one_new _ _ _) (by simp [Value.oneCell']) (by simp only [maxLen]; omega) (by omega) (by simp; omega) ?_)
            intro v9 w9 hown9 hgrow9 _
            have HB9 := Lib.hid (grown_row HB5.out hsz9 (.cells #[.string ((⟨#[107, 105, 110, 100, 61]⟩ : ByteArray) ++ ⟨#[115, 116, 97, 116, 101]⟩)] 9) HO5.out.own hgrow9)
            have HO9 := Lib.hid (HO5.out.snoc ((⟨#[107, 105, 110, 100, 61]⟩ : ByteArray) ++ ⟨#[115, 116, 97, 116, 101]⟩) _ HXL.out HXS.out hown9)
            clear hown9 hgrow9
            go_wp2
            go_roundw
            case rel => exact ⟨k + 1, zs ++ [((⟨#[107, 105, 110, 100, 61]⟩ : ByteArray) ++ ⟨#[115, 116, 97, 116, 101]⟩)], ⟨by omega, by rw [List.length_append]; have := HYK.out; simp; omega⟩, by go_num, HB9, Lib.hid (by rw [HTK.out, List.map_append, ← List.append_assoc]; exact HO9.out)⟩
            case measure => simp [intOf]; omega
          · have k0 := HKC.out 2 (.string ⟨#[106, 111, 98]⟩) rfl
            have HXL : Hid (((⟨#[107, 105, 110, 100, 61]⟩ : ByteArray) ++ ⟨#[106, 111, 98]⟩).data.toList = Sp.kindF 3) := Lib.hid (by rw [dataApp]; rfl)
            have HXS : Hid (((⟨#[107, 105, 110, 100, 61]⟩ : ByteArray) ++ ⟨#[106, 111, 98]⟩).size ≤ 200) := Lib.hid (by decide)
            clear HKC
            go_wp2_with fail
            refine HKI.out.mono ?_
            rintro e w5 ⟨rfl, hw5⟩
            rw [← hw5] at HB5 HO5 k0
            clear hw5 HKI c0
            have hsz9 := HB5.out.size
            go_wp2_with (at_builtin; refine wpList_append_own _ rfl _ _ 23 rfl w2.heap.size 9 i0 (.string ⟨#[]⟩) 1 16 Tryz.underlying23 hi hz0 hz1 hz2 rfl (by decide) _ _ _ rfl (World.ownsRow.alloc HO5.out.own _) ⟨w5.heap.size, 0, none⟩ 1 1 [.string ((⟨#[107, 105, 110, 100, 61]⟩ : ByteArray) ++ ⟨#[106, 111, 98]⟩)] rfl rfl (cell_one_new _ _ _) (by simp [Value.oneCell']) (by simp only [maxLen]; omega) (by omega) (by simp; omega) ?_)
            intro v9 w9 hown9 hgrow9 _
            have HB9 := Lib.hid (grown_row HB5.out hsz9 (.cells #[.string ((⟨#[107, 105, 110, 100, 61]⟩ : ByteArray) ++ ⟨#[106, 111, 98]⟩)] 9) HO5.out.own hgrow9)
            have HO9 := Lib.hid (HO5.out.snoc ((⟨#[107, 105, 110, 100, 61]⟩ : ByteArray) ++ ⟨#[106, 111, 98]⟩) _ HXL.out HXS.out hown9)
            clear hown9 hgrow9
            go_wp2
            go_roundw
            case rel => exact ⟨k + 1, zs ++ [((⟨#[107, 105, 110, 100, 61]⟩ : ByteArray) ++ ⟨#[106, 111, 98]⟩)], ⟨by omega, by rw [List.length_append]; have := HYK.out; simp; omega⟩, by go_num, HB9, Lib.hid (by rw [HTK.out, List.map_append, ← List.append_assoc]; exact HO9.out)⟩
            case measure => simp [intOf]; omega
          · have k0 := HKC.out 3 (.string ⟨#[99, 111, 110, 110]⟩) rfl
            have HXL : Hid (((⟨#[107, 105, 110, 100, 61]⟩ : ByteArray) ++ ⟨#[99, 111, 110, 110]⟩).data.toList = Sp.kindF 4) := Lib.hid (by rw [dataApp]; rfl)
            have HXS : Hid (((⟨#[107, 105, 110, 100, 61]⟩ : ByteArray) ++ ⟨#[99, 111, 110, 110]⟩).size ≤ 200) := Lib.hid (by decide)
            clear HKC
            go_wp2_with fail
            refine HKI.out.mono ?_
            rintro e w5 ⟨rfl, hw5⟩
            rw [← hw5] at HB5 HO5 k0
            clear hw5 HKI c0
            have hsz9 := HB5.out.size
            go_wp2_with (at_builtin; refine wpList_append_own _ rfl _ _ 23 rfl w2.heap.size 9 i0 (.string ⟨#[]⟩) 1 16 Tryz.underlying23 hi hz0 hz1 hz2 rfl (by decide) _ _ _ rfl (World.ownsRow.alloc HO5.out.own _) ⟨w5.heap.size, 0, none⟩ 1 1 [.string ((⟨#[107, 105, 110, 100, 61]⟩ : ByteArray) ++ ⟨#[99, 111, 110, 110]⟩)] rfl rfl (cell_one_new _ _ _) (by simp [Value.oneCell']) (by simp only [maxLen]; omega) (by omega) (by simp; omega) ?_)
            intro v9 w9 hown9 hgrow9 _
            have HB9 := Lib.hid (grown_row HB5.out hsz9 (.cells #[.string ((⟨#[107, 105, 110, 100, 61]⟩ : ByteArray) ++ ⟨#[99, 111, 110, 110]⟩)] 9) HO5.out.own hgrow9)
            have HO9 := Lib.hid (HO5.out.snoc ((⟨#[107, 105, 110, 100, 61]⟩ : ByteArray) ++ ⟨#[99, 111, 110, 110]⟩) _ HXL.out HXS.out hown9)
            clear hown9 hgrow9
            go_wp2
            go_roundw
            case rel => exact ⟨k + 1, zs ++ [((⟨#[107, 105, 110, 100, 61]⟩ : ByteArray) ++ ⟨#[99, 111, 110, 110]⟩)], ⟨by omega, by rw [List.length_append]; have := HYK.out; simp; omega⟩, by go_num, HB9, Lib.hid (by rw [HTK.out, List.map_append, ← List.append_assoc]; exact HO9.out)⟩
            case measure => simp [intOf]; omega
          · have k0 := HKC.out 4 (.string ⟨#[116, 105, 109, 101, 114]⟩) rfl
            have HXL : Hid (((⟨#[107, 105, 110, 100, 61]⟩ : ByteArray) ++ ⟨#[116, 105, 109, 101, 114]⟩).data.toList = Sp.kindF 5) := Lib.hid (by rw [dataApp]; rfl)
            have HXS : Hid (((⟨#[107, 105, 110, 100, 61]⟩ : ByteArray) ++ ⟨#[116, 105, 109, 101, 114]⟩).size ≤ 200) := Lib.hid (by decide)
            clear HKC
            go_wp2_with fail
            refine HKI.out.mono ?_
            rintro e w5 ⟨rfl, hw5⟩
            rw [← hw5] at HB5 HO5 k0
            clear hw5 HKI c0
            have hsz9 := HB5.out.size
            go_wp2_with (at_builtin; refine wpList_append_own _ rfl _ _ 23 rfl w2.heap.size 9 i0 (.string ⟨#[]⟩) 1 16 Tryz.underlying23 hi hz0 hz1 hz2 rfl (by decide) _ _ _ rfl (World.ownsRow.alloc HO5.out.own _) ⟨w5.heap.size, 0, none⟩ 1 1 [.string ((⟨#[107, 105, 110, 100, 61]⟩ : ByteArray) ++ ⟨#[116, 105, 109, 101, 114]⟩)] rfl rfl (cell_one_new _ _ _) (by simp [Value.oneCell']) (by simp only [maxLen]; omega) (by omega) (by simp; omega) ?_)
            intro v9 w9 hown9 hgrow9 _
            have HB9 := Lib.hid (grown_row HB5.out hsz9 (.cells #[.string ((⟨#[107, 105, 110, 100, 61]⟩ : ByteArray) ++ ⟨#[116, 105, 109, 101, 114]⟩)] 9) HO5.out.own hgrow9)
            have HO9 := Lib.hid (HO5.out.snoc ((⟨#[107, 105, 110, 100, 61]⟩ : ByteArray) ++ ⟨#[116, 105, 109, 101, 114]⟩) _ HXL.out HXS.out hown9)
            clear hown9 hgrow9
            go_wp2
            go_roundw
            case rel => exact ⟨k + 1, zs ++ [((⟨#[107, 105, 110, 100, 61]⟩ : ByteArray) ++ ⟨#[116, 105, 109, 101, 114]⟩)], ⟨by omega, by rw [List.length_append]; have := HYK.out; simp; omega⟩, by go_num, HB9, Lib.hid (by rw [HTK.out, List.map_append, ← List.append_assoc]; exact HO9.out)⟩
            case measure => simp [intOf]; omega
          · have k0 := HKC.out 5 (.string ⟨#[97, 115, 107]⟩) rfl
            have HXL : Hid (((⟨#[107, 105, 110, 100, 61]⟩ : ByteArray) ++ ⟨#[97, 115, 107]⟩).data.toList = Sp.kindF 6) := Lib.hid (by rw [dataApp]; rfl)
            have HXS : Hid (((⟨#[107, 105, 110, 100, 61]⟩ : ByteArray) ++ ⟨#[97, 115, 107]⟩).size ≤ 200) := Lib.hid (by decide)
            clear HKC
            go_wp2_with fail
            refine HKI.out.mono ?_
            rintro e w5 ⟨rfl, hw5⟩
            rw [← hw5] at HB5 HO5 k0
            clear hw5 HKI c0
            have hsz9 := HB5.out.size
            go_wp2_with (at_builtin; refine wpList_append_own _ rfl _ _ 23 rfl w2.heap.size 9 i0 (.string ⟨#[]⟩) 1 16 Tryz.underlying23 hi hz0 hz1 hz2 rfl (by decide) _ _ _ rfl (World.ownsRow.alloc HO5.out.own _) ⟨w5.heap.size, 0, none⟩ 1 1 [.string ((⟨#[107, 105, 110, 100, 61]⟩ : ByteArray) ++ ⟨#[97, 115, 107]⟩)] rfl rfl (cell_one_new _ _ _) (by simp [Value.oneCell']) (by simp only [maxLen]; omega) (by omega) (by simp; omega) ?_)
            intro v9 w9 hown9 hgrow9 _
            have HB9 := Lib.hid (grown_row HB5.out hsz9 (.cells #[.string ((⟨#[107, 105, 110, 100, 61]⟩ : ByteArray) ++ ⟨#[97, 115, 107]⟩)] 9) HO5.out.own hgrow9)
            have HO9 := Lib.hid (HO5.out.snoc ((⟨#[107, 105, 110, 100, 61]⟩ : ByteArray) ++ ⟨#[97, 115, 107]⟩) _ HXL.out HXS.out hown9)
            clear hown9 hgrow9
            go_wp2
            go_roundw
            case rel => exact ⟨k + 1, zs ++ [((⟨#[107, 105, 110, 100, 61]⟩ : ByteArray) ++ ⟨#[97, 115, 107]⟩)], ⟨by omega, by rw [List.length_append]; have := HYK.out; simp; omega⟩, by go_num, HB9, Lib.hid (by rw [HTK.out, List.map_append, ← List.append_assoc]; exact HO9.out)⟩
            case measure => simp [intOf]; omega
        · have hke : k = f.kinds.length := by omega
          have x2 : ¬ (k : Int) < (f.kinds.length : Int) := by omega
          have HO4 : Hid (Out w2.heap.size (.slice A3 zs.length c3) zs (f.units.map Sp.unitF ++ f.kinds.map Sp.kindF) wr) := Lib.hid (by have := HO3.out; rwa [hke, List.take_length] at this)
          have HZL : Hid (zs.length ≤ 22) := Lib.hid hy32
          have HIT := Lib.hid (fun n (W : World) (h0 : 0 ≤ n) (h1 : n < 6311433600) (hb : Below w.heap.size w W) => itoaB_any n W h0 (by omega) (HE.out.on hb))
          have hwz : f.word.size ≤ 100 := by
            have hw := HMF.out.w
            unfold Sp.wordB at hw
            rw [Bool.and_eq_true] at hw
            exact of_decide_eq_true hw.2
          have HF4 := Lib.hid (HF2.out.on HL2.out HB3.out)
          have c2 := HF4.out.c2
          have c3' := HF4.out.c3
          have c4 := HF4.out.c4
          clear hke hk HO3 HYK HUR HKR HUT HKT
          by_cases hs0 : f.since = 0
          · have us : (f.since != 0) = false := by rw [bne, hs0]; rfl
            by_cases ht0 : f.till = 6311433599
            · have ut : (f.till != 6311433599) = false := by rw [bne, ht0]; rfl
              cases hw0 : f.word.toList.isEmpty with
              | true =>
                have HWS : Hid ((f.units.map Sp.unitF ++ f.kinds.map Sp.kindF) = Sp.wordsF f) := Lib.hid (by rw [Sp.wordsF, Sp.sinceF, if_pos hs0, Sp.tillF, if_pos ht0, Sp.wordF, if_pos hw0]; simp)
                clear hs0 ht0
                have HZN : Hid (zs.length ≤ 1000) := Lib.hid (by have := HZL.out; omega)
                have HJ := Lib.hid (join_any zs w2.heap.size _ wr HO4.out.own HZN.out (fun y hy => by have := HO4.out.few y hy; omega) T (by rw [HTT.out, HO4.out.eq, HWS.out]))
                go_wp2_with fail
                refine HJ.out.mono ?_
                rintro e wj ⟨rfl, hbj⟩
                have HBJ := Lib.hid ((HB2.out.trans (HB3.out.mono HB2.out.size)).trans (hbj.mono (Nat.le_trans HB2.out.size HB3.out.size)))
                clear hbj
                go_wp2
                go_ret
                exact ⟨rfl, HBJ.out⟩
              | false =>
                have HWS : Hid (((f.units.map Sp.unitF ++ f.kinds.map Sp.kindF) ++ [Sp.kWord ++ 61 :: f.word.data.toList]) = Sp.wordsF f) := Lib.hid (by rw [Sp.wordsF, Sp.sinceF, if_pos hs0, Sp.tillF, if_pos ht0, Sp.wordF, if_neg (by rw [hw0]; decide)]; simp)
                clear hs0 ht0
                have hcat1 : ¬ 9223372036854775807 < 5 + f.word.size := by omega
                have HXL1 : Hid (((⟨#[119, 111, 114, 100, 61]⟩ : ByteArray) ++ f.word).data.toList = Sp.kWord ++ 61 :: f.word.data.toList) := Lib.hid (by rw [dataApp]; rfl)
                have HXS1 : Hid (((⟨#[119, 111, 114, 100, 61]⟩ : ByteArray) ++ f.word).size ≤ 200) := Lib.hid (by rw [ByteArray.size_append]; show 5 + f.word.size ≤ 200; omega)
                have hsz91 := HB3.out.size
                go_wp2_with (at_builtin; refine wpList_append_own _ rfl _ _ 23 rfl w2.heap.size 9 i0 (.string ⟨#[]⟩) 1 16 Tryz.underlying23 hi hz0 hz1 hz2 rfl (by decide) _ _ _ rfl (World.ownsRow.alloc HO4.out.own _) ⟨wr.heap.size, 0, none⟩ 1 1 [.string ((⟨#[119, 111, 114, 100, 61]⟩ : ByteArray) ++ f.word)] rfl rfl (cell_one_new _ _ _) (by simp [Value.oneCell']) (by simp only [maxLen]; omega) (by omega) (by simp; omega) ?_)
                intro v91 w91 hown91 hgrow91 _
                have HB91 := Lib.hid (grown_row HB3.out hsz91 (.cells #[.string ((⟨#[119, 111, 114, 100, 61]⟩ : ByteArray) ++ f.word)] 9) HO4.out.own hgrow91)
                obtain ⟨z1, hz1l, HOA1⟩ : ∃ z : List ByteArray, z.length ≤ 23 ∧ Hid (Out w2.heap.size v91 z _ w91) := ⟨zs ++ [((⟨#[119, 111, 114, 100, 61]⟩ : ByteArray) ++ f.word)], by have := HZL.out; simp; omega, Lib.hid (HO4.out.snoc ((⟨#[119, 111, 114, 100, 61]⟩ : ByteArray) ++ f.word) _ HXL1.out HXS1.out hown91)⟩
                have HFA1 := Lib.hid (HF2.out.on HL2.out HB91.out)
                obtain ⟨A91, c91, rfl⟩ := HOA1.out.own.form
                clear hown91 hgrow91 c2 c3' c4
                have c2 := HFA1.out.c2
                have c3' := HFA1.out.c3
                have c4 := HFA1.out.c4
                have HZN : Hid (z1.length ≤ 1000) := Lib.hid (by have := HZL.out; omega)
                have HJ := Lib.hid (join_any z1 w2.heap.size _ w91 HOA1.out.own HZN.out (fun y hy => by have := HOA1.out.few y hy; omega) T (by rw [HTT.out, HOA1.out.eq, HWS.out]))
                go_wp2_with fail
                refine HJ.out.mono ?_
                rintro e wj ⟨rfl, hbj⟩
                have HBJ := Lib.hid ((HB2.out.trans (HB91.out.mono HB2.out.size)).trans (hbj.mono (Nat.le_trans HB2.out.size HB91.out.size)))
                clear hbj
                go_wp2
                go_ret
                exact ⟨rfl, HBJ.out⟩
            · have ut : (f.till != 6311433599) = true := by simpa using ht0
              cases hw0 : f.word.toList.isEmpty with
              | true =>
                have HWS : Hid (((f.units.map Sp.unitF ++ f.kinds.map Sp.kindF) ++ [Sp.kUntil ++ 61 :: Sp.decI f.till]) = Sp.wordsF f) := Lib.hid (by rw [Sp.wordsF, Sp.sinceF, if_pos hs0, Sp.tillF, if_neg ht0, Sp.wordF, if_pos hw0]; simp)
                clear hs0 ht0
                have hd1 := decB_size f.till htt.1 (by omega)
                obtain ⟨D1, hD1⟩ : ∃ D, D = Sp.toB (Sp.decI f.till) := ⟨_, rfl⟩
                have HI1 := Lib.hid (HIT.out f.till wr htt.1 htt.2 (HB2.out.trans (HB3.out.mono HB2.out.size)))
                rw [← hD1] at hd1 HI1
                have hcat1 : ¬ 9223372036854775807 < 6 + D1.size := by omega
                have HXL1 : Hid (((⟨#[117, 110, 116, 105, 108, 61]⟩ : ByteArray) ++ D1).data.toList = Sp.kUntil ++ 61 :: Sp.decI f.till) := Lib.hid (by rw [dataApp, hD1, Sp.toB_list]; rfl)
                have HXS1 : Hid (((⟨#[117, 110, 116, 105, 108, 61]⟩ : ByteArray) ++ D1).size ≤ 200) := Lib.hid (by rw [ByteArray.size_append]; show 6 + D1.size ≤ 200; omega)
                clear hD1
                go_wp2_with fail
                refine HI1.out.mono ?_
                rintro e wi1 ⟨rfl, hbi1⟩
                have HBI1 := Lib.hid (HB3.out.trans (hbi1.mono HB3.out.size))
                have HOI1 := Lib.hid (HO4.out.below hbi1 (Nat.le_refl _))
                have HFI1 := Lib.hid (HF2.out.on HL2.out HBI1.out)
                clear hbi1 c2 c3' c4
                have c2 := HFI1.out.c2
                have c3' := HFI1.out.c3
                have c4 := HFI1.out.c4
                have hsz91 := HBI1.out.size
                go_wp2_with (at_builtin; refine wpList_append_own _ rfl _ _ 23 rfl w2.heap.size 9 i0 (.string ⟨#[]⟩) 1 16 Tryz.underlying23 hi hz0 hz1 hz2 rfl (by decide) _ _ _ rfl (World.ownsRow.alloc HOI1.out.own _) ⟨wi1.heap.size, 0, none⟩ 1 1 [.string ((⟨#[117, 110, 116, 105, 108, 61]⟩ : ByteArray) ++ D1)] rfl rfl (cell_one_new _ _ _) (by simp [Value.oneCell']) (by simp only [maxLen]; omega) (by omega) (by simp; omega) ?_)
                intro v91 w91 hown91 hgrow91 _
                have HB91 := Lib.hid (grown_row HBI1.out hsz91 (.cells #[.string ((⟨#[117, 110, 116, 105, 108, 61]⟩ : ByteArray) ++ D1)] 9) HOI1.out.own hgrow91)
                obtain ⟨z1, hz1l, HOA1⟩ : ∃ z : List ByteArray, z.length ≤ 23 ∧ Hid (Out w2.heap.size v91 z _ w91) := ⟨zs ++ [((⟨#[117, 110, 116, 105, 108, 61]⟩ : ByteArray) ++ D1)], by have := HZL.out; simp; omega, Lib.hid (HOI1.out.snoc ((⟨#[117, 110, 116, 105, 108, 61]⟩ : ByteArray) ++ D1) _ HXL1.out HXS1.out hown91)⟩
                have HFA1 := Lib.hid (HF2.out.on HL2.out HB91.out)
                obtain ⟨A91, c91, rfl⟩ := HOA1.out.own.form
                clear hown91 hgrow91 c2 c3' c4
                have c2 := HFA1.out.c2
                have c3' := HFA1.out.c3
                have c4 := HFA1.out.c4
                have HZN : Hid (z1.length ≤ 1000) := Lib.hid (by have := HZL.out; omega)
                have HJ := Lib.hid (join_any z1 w2.heap.size _ w91 HOA1.out.own HZN.out (fun y hy => by have := HOA1.out.few y hy; omega) T (by rw [HTT.out, HOA1.out.eq, HWS.out]))
                go_wp2_with fail
                refine HJ.out.mono ?_
                rintro e wj ⟨rfl, hbj⟩
                have HBJ := Lib.hid ((HB2.out.trans (HB91.out.mono HB2.out.size)).trans (hbj.mono (Nat.le_trans HB2.out.size HB91.out.size)))
                clear hbj
                go_wp2
                go_ret
                exact ⟨rfl, HBJ.out⟩
              | false =>
                have HWS : Hid ((((f.units.map Sp.unitF ++ f.kinds.map Sp.kindF) ++ [Sp.kUntil ++ 61 :: Sp.decI f.till]) ++ [Sp.kWord ++ 61 :: f.word.data.toList]) = Sp.wordsF f) := Lib.hid (by rw [Sp.wordsF, Sp.sinceF, if_pos hs0, Sp.tillF, if_neg ht0, Sp.wordF, if_neg (by rw [hw0]; decide)]; simp)
                clear hs0 ht0
                have hd1 := decB_size f.till htt.1 (by omega)
                obtain ⟨D1, hD1⟩ : ∃ D, D = Sp.toB (Sp.decI f.till) := ⟨_, rfl⟩
                have HI1 := Lib.hid (HIT.out f.till wr htt.1 htt.2 (HB2.out.trans (HB3.out.mono HB2.out.size)))
                rw [← hD1] at hd1 HI1
                have hcat1 : ¬ 9223372036854775807 < 6 + D1.size := by omega
                have HXL1 : Hid (((⟨#[117, 110, 116, 105, 108, 61]⟩ : ByteArray) ++ D1).data.toList = Sp.kUntil ++ 61 :: Sp.decI f.till) := Lib.hid (by rw [dataApp, hD1, Sp.toB_list]; rfl)
                have HXS1 : Hid (((⟨#[117, 110, 116, 105, 108, 61]⟩ : ByteArray) ++ D1).size ≤ 200) := Lib.hid (by rw [ByteArray.size_append]; show 6 + D1.size ≤ 200; omega)
                clear hD1
                go_wp2_with fail
                refine HI1.out.mono ?_
                rintro e wi1 ⟨rfl, hbi1⟩
                have HBI1 := Lib.hid (HB3.out.trans (hbi1.mono HB3.out.size))
                have HOI1 := Lib.hid (HO4.out.below hbi1 (Nat.le_refl _))
                have HFI1 := Lib.hid (HF2.out.on HL2.out HBI1.out)
                clear hbi1 c2 c3' c4
                have c2 := HFI1.out.c2
                have c3' := HFI1.out.c3
                have c4 := HFI1.out.c4
                have hsz91 := HBI1.out.size
                go_wp2_with (at_builtin; refine wpList_append_own _ rfl _ _ 23 rfl w2.heap.size 9 i0 (.string ⟨#[]⟩) 1 16 Tryz.underlying23 hi hz0 hz1 hz2 rfl (by decide) _ _ _ rfl (World.ownsRow.alloc HOI1.out.own _) ⟨wi1.heap.size, 0, none⟩ 1 1 [.string ((⟨#[117, 110, 116, 105, 108, 61]⟩ : ByteArray) ++ D1)] rfl rfl (cell_one_new _ _ _) (by simp [Value.oneCell']) (by simp only [maxLen]; omega) (by omega) (by simp; omega) ?_)
                intro v91 w91 hown91 hgrow91 _
                have HB91 := Lib.hid (grown_row HBI1.out hsz91 (.cells #[.string ((⟨#[117, 110, 116, 105, 108, 61]⟩ : ByteArray) ++ D1)] 9) HOI1.out.own hgrow91)
                obtain ⟨z1, hz1l, HOA1⟩ : ∃ z : List ByteArray, z.length ≤ 23 ∧ Hid (Out w2.heap.size v91 z _ w91) := ⟨zs ++ [((⟨#[117, 110, 116, 105, 108, 61]⟩ : ByteArray) ++ D1)], by have := HZL.out; simp; omega, Lib.hid (HOI1.out.snoc ((⟨#[117, 110, 116, 105, 108, 61]⟩ : ByteArray) ++ D1) _ HXL1.out HXS1.out hown91)⟩
                have HFA1 := Lib.hid (HF2.out.on HL2.out HB91.out)
                obtain ⟨A91, c91, rfl⟩ := HOA1.out.own.form
                clear hown91 hgrow91 c2 c3' c4
                have c2 := HFA1.out.c2
                have c3' := HFA1.out.c3
                have c4 := HFA1.out.c4
                have hcat2 : ¬ 9223372036854775807 < 5 + f.word.size := by omega
                have HXL2 : Hid (((⟨#[119, 111, 114, 100, 61]⟩ : ByteArray) ++ f.word).data.toList = Sp.kWord ++ 61 :: f.word.data.toList) := Lib.hid (by rw [dataApp]; rfl)
                have HXS2 : Hid (((⟨#[119, 111, 114, 100, 61]⟩ : ByteArray) ++ f.word).size ≤ 200) := Lib.hid (by rw [ByteArray.size_append]; show 5 + f.word.size ≤ 200; omega)
                have hsz92 := HB91.out.size
                go_wp2_with (at_builtin; refine wpList_append_own _ rfl _ _ 23 rfl w2.heap.size 9 i0 (.string ⟨#[]⟩) 1 16 Tryz.underlying23 hi hz0 hz1 hz2 rfl (by decide) _ _ _ rfl (World.ownsRow.alloc HOA1.out.own _) ⟨w91.heap.size, 0, none⟩ 1 1 [.string ((⟨#[119, 111, 114, 100, 61]⟩ : ByteArray) ++ f.word)] rfl rfl (cell_one_new _ _ _) (by simp [Value.oneCell']) (by simp only [maxLen]; omega) (by omega) (by simp; omega) ?_)
                intro v92 w92 hown92 hgrow92 _
                have HB92 := Lib.hid (grown_row HB91.out hsz92 (.cells #[.string ((⟨#[119, 111, 114, 100, 61]⟩ : ByteArray) ++ f.word)] 9) HOA1.out.own hgrow92)
                obtain ⟨z2, hz2l, HOA2⟩ : ∃ z : List ByteArray, z.length ≤ 24 ∧ Hid (Out w2.heap.size v92 z _ w92) := ⟨z1 ++ [((⟨#[119, 111, 114, 100, 61]⟩ : ByteArray) ++ f.word)], by have := HZL.out; simp; omega, Lib.hid (HOA1.out.snoc ((⟨#[119, 111, 114, 100, 61]⟩ : ByteArray) ++ f.word) _ HXL2.out HXS2.out hown92)⟩
                have HFA2 := Lib.hid (HF2.out.on HL2.out HB92.out)
                obtain ⟨A92, c92, rfl⟩ := HOA2.out.own.form
                clear hown92 hgrow92 c2 c3' c4
                have c2 := HFA2.out.c2
                have c3' := HFA2.out.c3
                have c4 := HFA2.out.c4
                have HZN : Hid (z2.length ≤ 1000) := Lib.hid (by have := HZL.out; omega)
                have HJ := Lib.hid (join_any z2 w2.heap.size _ w92 HOA2.out.own HZN.out (fun y hy => by have := HOA2.out.few y hy; omega) T (by rw [HTT.out, HOA2.out.eq, HWS.out]))
                go_wp2_with fail
                refine HJ.out.mono ?_
                rintro e wj ⟨rfl, hbj⟩
                have HBJ := Lib.hid ((HB2.out.trans (HB92.out.mono HB2.out.size)).trans (hbj.mono (Nat.le_trans HB2.out.size HB92.out.size)))
                clear hbj
                go_wp2
                go_ret
                exact ⟨rfl, HBJ.out⟩
          · have us : (f.since != 0) = true := by simpa using hs0
            by_cases ht0 : f.till = 6311433599
            · have ut : (f.till != 6311433599) = false := by rw [bne, ht0]; rfl
              cases hw0 : f.word.toList.isEmpty with
              | true =>
                have HWS : Hid (((f.units.map Sp.unitF ++ f.kinds.map Sp.kindF) ++ [Sp.kSince ++ 61 :: Sp.decI f.since]) = Sp.wordsF f) := Lib.hid (by rw [Sp.wordsF, Sp.sinceF, if_neg hs0, Sp.tillF, if_pos ht0, Sp.wordF, if_pos hw0]; simp)
                clear hs0 ht0
                have hd1 := decB_size f.since hts.1 (by omega)
                obtain ⟨D1, hD1⟩ : ∃ D, D = Sp.toB (Sp.decI f.since) := ⟨_, rfl⟩
                have HI1 := Lib.hid (HIT.out f.since wr hts.1 hts.2 (HB2.out.trans (HB3.out.mono HB2.out.size)))
                rw [← hD1] at hd1 HI1
                have hcat1 : ¬ 9223372036854775807 < 6 + D1.size := by omega
                have HXL1 : Hid (((⟨#[115, 105, 110, 99, 101, 61]⟩ : ByteArray) ++ D1).data.toList = Sp.kSince ++ 61 :: Sp.decI f.since) := Lib.hid (by rw [dataApp, hD1, Sp.toB_list]; rfl)
                have HXS1 : Hid (((⟨#[115, 105, 110, 99, 101, 61]⟩ : ByteArray) ++ D1).size ≤ 200) := Lib.hid (by rw [ByteArray.size_append]; show 6 + D1.size ≤ 200; omega)
                clear hD1
                go_wp2_with fail
                refine HI1.out.mono ?_
                rintro e wi1 ⟨rfl, hbi1⟩
                have HBI1 := Lib.hid (HB3.out.trans (hbi1.mono HB3.out.size))
                have HOI1 := Lib.hid (HO4.out.below hbi1 (Nat.le_refl _))
                have HFI1 := Lib.hid (HF2.out.on HL2.out HBI1.out)
                clear hbi1 c2 c3' c4
                have c2 := HFI1.out.c2
                have c3' := HFI1.out.c3
                have c4 := HFI1.out.c4
                have hsz91 := HBI1.out.size
                go_wp2_with (at_builtin; refine wpList_append_own _ rfl _ _ 23 rfl w2.heap.size 9 i0 (.string ⟨#[]⟩) 1 16 Tryz.underlying23 hi hz0 hz1 hz2 rfl (by decide) _ _ _ rfl (World.ownsRow.alloc HOI1.out.own _) ⟨wi1.heap.size, 0, none⟩ 1 1 [.string ((⟨#[115, 105, 110, 99, 101, 61]⟩ : ByteArray) ++ D1)] rfl rfl (cell_one_new _ _ _) (by simp [Value.oneCell']) (by simp only [maxLen]; omega) (by omega) (by simp; omega) ?_)
                intro v91 w91 hown91 hgrow91 _
                have HB91 := Lib.hid (grown_row HBI1.out hsz91 (.cells #[.string ((⟨#[115, 105, 110, 99, 101, 61]⟩ : ByteArray) ++ D1)] 9) HOI1.out.own hgrow91)
                obtain ⟨z1, hz1l, HOA1⟩ : ∃ z : List ByteArray, z.length ≤ 23 ∧ Hid (Out w2.heap.size v91 z _ w91) := ⟨zs ++ [((⟨#[115, 105, 110, 99, 101, 61]⟩ : ByteArray) ++ D1)], by have := HZL.out; simp; omega, Lib.hid (HOI1.out.snoc ((⟨#[115, 105, 110, 99, 101, 61]⟩ : ByteArray) ++ D1) _ HXL1.out HXS1.out hown91)⟩
                have HFA1 := Lib.hid (HF2.out.on HL2.out HB91.out)
                obtain ⟨A91, c91, rfl⟩ := HOA1.out.own.form
                clear hown91 hgrow91 c2 c3' c4
                have c2 := HFA1.out.c2
                have c3' := HFA1.out.c3
                have c4 := HFA1.out.c4
                have HZN : Hid (z1.length ≤ 1000) := Lib.hid (by have := HZL.out; omega)
                have HJ := Lib.hid (join_any z1 w2.heap.size _ w91 HOA1.out.own HZN.out (fun y hy => by have := HOA1.out.few y hy; omega) T (by rw [HTT.out, HOA1.out.eq, HWS.out]))
                go_wp2_with fail
                refine HJ.out.mono ?_
                rintro e wj ⟨rfl, hbj⟩
                have HBJ := Lib.hid ((HB2.out.trans (HB91.out.mono HB2.out.size)).trans (hbj.mono (Nat.le_trans HB2.out.size HB91.out.size)))
                clear hbj
                go_wp2
                go_ret
                exact ⟨rfl, HBJ.out⟩
              | false =>
                have HWS : Hid ((((f.units.map Sp.unitF ++ f.kinds.map Sp.kindF) ++ [Sp.kSince ++ 61 :: Sp.decI f.since]) ++ [Sp.kWord ++ 61 :: f.word.data.toList]) = Sp.wordsF f) := Lib.hid (by rw [Sp.wordsF, Sp.sinceF, if_neg hs0, Sp.tillF, if_pos ht0, Sp.wordF, if_neg (by rw [hw0]; decide)]; simp)
                clear hs0 ht0
                have hd1 := decB_size f.since hts.1 (by omega)
                obtain ⟨D1, hD1⟩ : ∃ D, D = Sp.toB (Sp.decI f.since) := ⟨_, rfl⟩
                have HI1 := Lib.hid (HIT.out f.since wr hts.1 hts.2 (HB2.out.trans (HB3.out.mono HB2.out.size)))
                rw [← hD1] at hd1 HI1
                have hcat1 : ¬ 9223372036854775807 < 6 + D1.size := by omega
                have HXL1 : Hid (((⟨#[115, 105, 110, 99, 101, 61]⟩ : ByteArray) ++ D1).data.toList = Sp.kSince ++ 61 :: Sp.decI f.since) := Lib.hid (by rw [dataApp, hD1, Sp.toB_list]; rfl)
                have HXS1 : Hid (((⟨#[115, 105, 110, 99, 101, 61]⟩ : ByteArray) ++ D1).size ≤ 200) := Lib.hid (by rw [ByteArray.size_append]; show 6 + D1.size ≤ 200; omega)
                clear hD1
                go_wp2_with fail
                refine HI1.out.mono ?_
                rintro e wi1 ⟨rfl, hbi1⟩
                have HBI1 := Lib.hid (HB3.out.trans (hbi1.mono HB3.out.size))
                have HOI1 := Lib.hid (HO4.out.below hbi1 (Nat.le_refl _))
                have HFI1 := Lib.hid (HF2.out.on HL2.out HBI1.out)
                clear hbi1 c2 c3' c4
                have c2 := HFI1.out.c2
                have c3' := HFI1.out.c3
                have c4 := HFI1.out.c4
                have hsz91 := HBI1.out.size
                go_wp2_with (at_builtin; refine wpList_append_own _ rfl _ _ 23 rfl w2.heap.size 9 i0 (.string ⟨#[]⟩) 1 16 Tryz.underlying23 hi hz0 hz1 hz2 rfl (by decide) _ _ _ rfl (World.ownsRow.alloc HOI1.out.own _) ⟨wi1.heap.size, 0, none⟩ 1 1 [.string ((⟨#[115, 105, 110, 99, 101, 61]⟩ : ByteArray) ++ D1)] rfl rfl (cell_one_new _ _ _) (by simp [Value.oneCell']) (by simp only [maxLen]; omega) (by omega) (by simp; omega) ?_)
                intro v91 w91 hown91 hgrow91 _
                have HB91 := Lib.hid (grown_row HBI1.out hsz91 (.cells #[.string ((⟨#[115, 105, 110, 99, 101, 61]⟩ : ByteArray) ++ D1)] 9) HOI1.out.own hgrow91)
                obtain ⟨z1, hz1l, HOA1⟩ : ∃ z : List ByteArray, z.length ≤ 23 ∧ Hid (Out w2.heap.size v91 z _ w91) := ⟨zs ++ [((⟨#[115, 105, 110, 99, 101, 61]⟩ : ByteArray) ++ D1)], by have := HZL.out; simp; omega, Lib.hid (HOI1.out.snoc ((⟨#[115, 105, 110, 99, 101, 61]⟩ : ByteArray) ++ D1) _ HXL1.out HXS1.out hown91)⟩
                have HFA1 := Lib.hid (HF2.out.on HL2.out HB91.out)
                obtain ⟨A91, c91, rfl⟩ := HOA1.out.own.form
                clear hown91 hgrow91 c2 c3' c4
                have c2 := HFA1.out.c2
                have c3' := HFA1.out.c3
                have c4 := HFA1.out.c4
                have hcat2 : ¬ 9223372036854775807 < 5 + f.word.size := by omega
                have HXL2 : Hid (((⟨#[119, 111, 114, 100, 61]⟩ : ByteArray) ++ f.word).data.toList = Sp.kWord ++ 61 :: f.word.data.toList) := Lib.hid (by rw [dataApp]; rfl)
                have HXS2 : Hid (((⟨#[119, 111, 114, 100, 61]⟩ : ByteArray) ++ f.word).size ≤ 200) := Lib.hid (by rw [ByteArray.size_append]; show 5 + f.word.size ≤ 200; omega)
                have hsz92 := HB91.out.size
                go_wp2_with (at_builtin; refine wpList_append_own _ rfl _ _ 23 rfl w2.heap.size 9 i0 (.string ⟨#[]⟩) 1 16 Tryz.underlying23 hi hz0 hz1 hz2 rfl (by decide) _ _ _ rfl (World.ownsRow.alloc HOA1.out.own _) ⟨w91.heap.size, 0, none⟩ 1 1 [.string ((⟨#[119, 111, 114, 100, 61]⟩ : ByteArray) ++ f.word)] rfl rfl (cell_one_new _ _ _) (by simp [Value.oneCell']) (by simp only [maxLen]; omega) (by omega) (by simp; omega) ?_)
                intro v92 w92 hown92 hgrow92 _
                have HB92 := Lib.hid (grown_row HB91.out hsz92 (.cells #[.string ((⟨#[119, 111, 114, 100, 61]⟩ : ByteArray) ++ f.word)] 9) HOA1.out.own hgrow92)
                obtain ⟨z2, hz2l, HOA2⟩ : ∃ z : List ByteArray, z.length ≤ 24 ∧ Hid (Out w2.heap.size v92 z _ w92) := ⟨z1 ++ [((⟨#[119, 111, 114, 100, 61]⟩ : ByteArray) ++ f.word)], by have := HZL.out; simp; omega, Lib.hid (HOA1.out.snoc ((⟨#[119, 111, 114, 100, 61]⟩ : ByteArray) ++ f.word) _ HXL2.out HXS2.out hown92)⟩
                have HFA2 := Lib.hid (HF2.out.on HL2.out HB92.out)
                obtain ⟨A92, c92, rfl⟩ := HOA2.out.own.form
                clear hown92 hgrow92 c2 c3' c4
                have c2 := HFA2.out.c2
                have c3' := HFA2.out.c3
                have c4 := HFA2.out.c4
                have HZN : Hid (z2.length ≤ 1000) := Lib.hid (by have := HZL.out; omega)
                have HJ := Lib.hid (join_any z2 w2.heap.size _ w92 HOA2.out.own HZN.out (fun y hy => by have := HOA2.out.few y hy; omega) T (by rw [HTT.out, HOA2.out.eq, HWS.out]))
                go_wp2_with fail
                refine HJ.out.mono ?_
                rintro e wj ⟨rfl, hbj⟩
                have HBJ := Lib.hid ((HB2.out.trans (HB92.out.mono HB2.out.size)).trans (hbj.mono (Nat.le_trans HB2.out.size HB92.out.size)))
                clear hbj
                go_wp2
                go_ret
                exact ⟨rfl, HBJ.out⟩
            · have ut : (f.till != 6311433599) = true := by simpa using ht0
              cases hw0 : f.word.toList.isEmpty with
              | true =>
                have HWS : Hid ((((f.units.map Sp.unitF ++ f.kinds.map Sp.kindF) ++ [Sp.kSince ++ 61 :: Sp.decI f.since]) ++ [Sp.kUntil ++ 61 :: Sp.decI f.till]) = Sp.wordsF f) := Lib.hid (by rw [Sp.wordsF, Sp.sinceF, if_neg hs0, Sp.tillF, if_neg ht0, Sp.wordF, if_pos hw0]; simp)
                clear hs0 ht0
                have hd1 := decB_size f.since hts.1 (by omega)
                obtain ⟨D1, hD1⟩ : ∃ D, D = Sp.toB (Sp.decI f.since) := ⟨_, rfl⟩
                have HI1 := Lib.hid (HIT.out f.since wr hts.1 hts.2 (HB2.out.trans (HB3.out.mono HB2.out.size)))
                rw [← hD1] at hd1 HI1
                have hcat1 : ¬ 9223372036854775807 < 6 + D1.size := by omega
                have HXL1 : Hid (((⟨#[115, 105, 110, 99, 101, 61]⟩ : ByteArray) ++ D1).data.toList = Sp.kSince ++ 61 :: Sp.decI f.since) := Lib.hid (by rw [dataApp, hD1, Sp.toB_list]; rfl)
                have HXS1 : Hid (((⟨#[115, 105, 110, 99, 101, 61]⟩ : ByteArray) ++ D1).size ≤ 200) := Lib.hid (by rw [ByteArray.size_append]; show 6 + D1.size ≤ 200; omega)
                clear hD1
                go_wp2_with fail
                refine HI1.out.mono ?_
                rintro e wi1 ⟨rfl, hbi1⟩
                have HBI1 := Lib.hid (HB3.out.trans (hbi1.mono HB3.out.size))
                have HOI1 := Lib.hid (HO4.out.below hbi1 (Nat.le_refl _))
                have HFI1 := Lib.hid (HF2.out.on HL2.out HBI1.out)
                clear hbi1 c2 c3' c4
                have c2 := HFI1.out.c2
                have c3' := HFI1.out.c3
                have c4 := HFI1.out.c4
                have hsz91 := HBI1.out.size
                go_wp2_with (at_builtin; refine wpList_append_own _ rfl _ _ 23 rfl w2.heap.size 9 i0 (.string ⟨#[]⟩) 1 16 Tryz.underlying23 hi hz0 hz1 hz2 rfl (by decide) _ _ _ rfl (World.ownsRow.alloc HOI1.out.own _) ⟨wi1.heap.size, 0, none⟩ 1 1 [.string ((⟨#[115, 105, 110, 99, 101, 61]⟩ : ByteArray) ++ D1)] rfl rfl (cell_one_new _ _ _) (by simp [Value.oneCell']) (by simp only [maxLen]; omega) (by omega) (by simp; omega) ?_)
                intro v91 w91 hown91 hgrow91 _
                have HB91 := Lib.hid (grown_row HBI1.out hsz91 (.cells #[.string ((⟨#[115, 105, 110, 99, 101, 61]⟩ : ByteArray) ++ D1)] 9) HOI1.out.own hgrow91)
                obtain ⟨z1, hz1l, HOA1⟩ : ∃ z : List ByteArray, z.length ≤ 23 ∧ Hid (Out w2.heap.size v91 z _ w91) := ⟨zs ++ [((⟨#[115, 105, 110, 99, 101, 61]⟩ : ByteArray) ++ D1)], by have := HZL.out; simp; omega, Lib.hid (HOI1.out.snoc ((⟨#[115, 105, 110, 99, 101, 61]⟩ : ByteArray) ++ D1) _ HXL1.out HXS1.out hown91)⟩
                have HFA1 := Lib.hid (HF2.out.on HL2.out HB91.out)
                obtain ⟨A91, c91, rfl⟩ := HOA1.out.own.form
                clear hown91 hgrow91 c2 c3' c4
                have c2 := HFA1.out.c2
                have c3' := HFA1.out.c3
                have c4 := HFA1.out.c4
                have hd2 := decB_size f.till htt.1 (by omega)
                obtain ⟨D2, hD2⟩ : ∃ D, D = Sp.toB (Sp.decI f.till) := ⟨_, rfl⟩
                have HI2 := Lib.hid (HIT.out f.till w91 htt.1 htt.2 (HB2.out.trans (HB91.out.mono HB2.out.size)))
                rw [← hD2] at hd2 HI2
                have hcat2 : ¬ 9223372036854775807 < 6 + D2.size := by omega
                have HXL2 : Hid (((⟨#[117, 110, 116, 105, 108, 61]⟩ : ByteArray) ++ D2).data.toList = Sp.kUntil ++ 61 :: Sp.decI f.till) := Lib.hid (by rw [dataApp, hD2, Sp.toB_list]; rfl)
                have HXS2 : Hid (((⟨#[117, 110, 116, 105, 108, 61]⟩ : ByteArray) ++ D2).size ≤ 200) := Lib.hid (by rw [ByteArray.size_append]; show 6 + D2.size ≤ 200; omega)
                clear hD2
                go_wp2_with fail
                refine HI2.out.mono ?_
                rintro e wi2 ⟨rfl, hbi2⟩
                have HBI2 := Lib.hid (HB91.out.trans (hbi2.mono HB91.out.size))
                have HOI2 := Lib.hid (HOA1.out.below hbi2 (Nat.le_refl _))
                have HFI2 := Lib.hid (HF2.out.on HL2.out HBI2.out)
                clear hbi2 c2 c3' c4
                have c2 := HFI2.out.c2
                have c3' := HFI2.out.c3
                have c4 := HFI2.out.c4
                have hsz92 := HBI2.out.size
                go_wp2_with (at_builtin; refine wpList_append_own _ rfl _ _ 23 rfl w2.heap.size 9 i0 (.string ⟨#[]⟩) 1 16 Tryz.underlying23 hi hz0 hz1 hz2 rfl (by decide) _ _ _ rfl (World.ownsRow.alloc HOI2.out.own _) ⟨wi2.heap.size, 0, none⟩ 1 1 [.string ((⟨#[117, 110, 116, 105, 108, 61]⟩ : ByteArray) ++ D2)] rfl rfl (cell_one_new _ _ _) (by simp [Value.oneCell']) (by simp only [maxLen]; omega) (by omega) (by simp; omega) ?_)
                intro v92 w92 hown92 hgrow92 _
                have HB92 := Lib.hid (grown_row HBI2.out hsz92 (.cells #[.string ((⟨#[117, 110, 116, 105, 108, 61]⟩ : ByteArray) ++ D2)] 9) HOI2.out.own hgrow92)
                obtain ⟨z2, hz2l, HOA2⟩ : ∃ z : List ByteArray, z.length ≤ 24 ∧ Hid (Out w2.heap.size v92 z _ w92) := ⟨z1 ++ [((⟨#[117, 110, 116, 105, 108, 61]⟩ : ByteArray) ++ D2)], by have := HZL.out; simp; omega, Lib.hid (HOI2.out.snoc ((⟨#[117, 110, 116, 105, 108, 61]⟩ : ByteArray) ++ D2) _ HXL2.out HXS2.out hown92)⟩
                have HFA2 := Lib.hid (HF2.out.on HL2.out HB92.out)
                obtain ⟨A92, c92, rfl⟩ := HOA2.out.own.form
                clear hown92 hgrow92 c2 c3' c4
                have c2 := HFA2.out.c2
                have c3' := HFA2.out.c3
                have c4 := HFA2.out.c4
                have HZN : Hid (z2.length ≤ 1000) := Lib.hid (by have := HZL.out; omega)
                have HJ := Lib.hid (join_any z2 w2.heap.size _ w92 HOA2.out.own HZN.out (fun y hy => by have := HOA2.out.few y hy; omega) T (by rw [HTT.out, HOA2.out.eq, HWS.out]))
                go_wp2_with fail
                refine HJ.out.mono ?_
                rintro e wj ⟨rfl, hbj⟩
                have HBJ := Lib.hid ((HB2.out.trans (HB92.out.mono HB2.out.size)).trans (hbj.mono (Nat.le_trans HB2.out.size HB92.out.size)))
                clear hbj
                go_wp2
                go_ret
                exact ⟨rfl, HBJ.out⟩
              | false =>
                have HWS : Hid (((((f.units.map Sp.unitF ++ f.kinds.map Sp.kindF) ++ [Sp.kSince ++ 61 :: Sp.decI f.since]) ++ [Sp.kUntil ++ 61 :: Sp.decI f.till]) ++ [Sp.kWord ++ 61 :: f.word.data.toList]) = Sp.wordsF f) := Lib.hid (by rw [Sp.wordsF, Sp.sinceF, if_neg hs0, Sp.tillF, if_neg ht0, Sp.wordF, if_neg (by rw [hw0]; decide)]; simp)
                clear hs0 ht0
                have hd1 := decB_size f.since hts.1 (by omega)
                obtain ⟨D1, hD1⟩ : ∃ D, D = Sp.toB (Sp.decI f.since) := ⟨_, rfl⟩
                have HI1 := Lib.hid (HIT.out f.since wr hts.1 hts.2 (HB2.out.trans (HB3.out.mono HB2.out.size)))
                rw [← hD1] at hd1 HI1
                have hcat1 : ¬ 9223372036854775807 < 6 + D1.size := by omega
                have HXL1 : Hid (((⟨#[115, 105, 110, 99, 101, 61]⟩ : ByteArray) ++ D1).data.toList = Sp.kSince ++ 61 :: Sp.decI f.since) := Lib.hid (by rw [dataApp, hD1, Sp.toB_list]; rfl)
                have HXS1 : Hid (((⟨#[115, 105, 110, 99, 101, 61]⟩ : ByteArray) ++ D1).size ≤ 200) := Lib.hid (by rw [ByteArray.size_append]; show 6 + D1.size ≤ 200; omega)
                clear hD1
                go_wp2_with fail
                refine HI1.out.mono ?_
                rintro e wi1 ⟨rfl, hbi1⟩
                have HBI1 := Lib.hid (HB3.out.trans (hbi1.mono HB3.out.size))
                have HOI1 := Lib.hid (HO4.out.below hbi1 (Nat.le_refl _))
                have HFI1 := Lib.hid (HF2.out.on HL2.out HBI1.out)
                clear hbi1 c2 c3' c4
                have c2 := HFI1.out.c2
                have c3' := HFI1.out.c3
                have c4 := HFI1.out.c4
                have hsz91 := HBI1.out.size
                go_wp2_with (at_builtin; refine wpList_append_own _ rfl _ _ 23 rfl w2.heap.size 9 i0 (.string ⟨#[]⟩) 1 16 Tryz.underlying23 hi hz0 hz1 hz2 rfl (by decide) _ _ _ rfl (World.ownsRow.alloc HOI1.out.own _) ⟨wi1.heap.size, 0, none⟩ 1 1 [.string ((⟨#[115, 105, 110, 99, 101, 61]⟩ : ByteArray) ++ D1)] rfl rfl (cell_one_new _ _ _) (by simp [Value.oneCell']) (by simp only [maxLen]; omega) (by omega) (by simp; omega) ?_)
                intro v91 w91 hown91 hgrow91 _
                have HB91 := Lib.hid (grown_row HBI1.out hsz91 (.cells #[.string ((⟨#[115, 105, 110, 99, 101, 61]⟩ : ByteArray) ++ D1)] 9) HOI1.out.own hgrow91)
                obtain ⟨z1, hz1l, HOA1⟩ : ∃ z : List ByteArray, z.length ≤ 23 ∧ Hid (Out w2.heap.size v91 z _ w91) := ⟨zs ++ [((⟨#[115, 105, 110, 99, 101, 61]⟩ : ByteArray) ++ D1)], by have := HZL.out; simp; omega, Lib.hid (HOI1.out.snoc ((⟨#[115, 105, 110, 99, 101, 61]⟩ : ByteArray) ++ D1) _ HXL1.out HXS1.out hown91)⟩
                have HFA1 := Lib.hid (HF2.out.on HL2.out HB91.out)
                obtain ⟨A91, c91, rfl⟩ := HOA1.out.own.form
                clear hown91 hgrow91 c2 c3' c4
                have c2 := HFA1.out.c2
                have c3' := HFA1.out.c3
                have c4 := HFA1.out.c4
                have hd2 := decB_size f.till htt.1 (by omega)
                obtain ⟨D2, hD2⟩ : ∃ D, D = Sp.toB (Sp.decI f.till) := ⟨_, rfl⟩
                have HI2 := Lib.hid (HIT.out f.till w91 htt.1 htt.2 (HB2.out.trans (HB91.out.mono HB2.out.size)))
                rw [← hD2] at hd2 HI2
                have hcat2 : ¬ 9223372036854775807 < 6 + D2.size := by omega
                have HXL2 : Hid (((⟨#[117, 110, 116, 105, 108, 61]⟩ : ByteArray) ++ D2).data.toList = Sp.kUntil ++ 61 :: Sp.decI f.till) := Lib.hid (by rw [dataApp, hD2, Sp.toB_list]; rfl)
                have HXS2 : Hid (((⟨#[117, 110, 116, 105, 108, 61]⟩ : ByteArray) ++ D2).size ≤ 200) := Lib.hid (by rw [ByteArray.size_append]; show 6 + D2.size ≤ 200; omega)
                clear hD2
                go_wp2_with fail
                refine HI2.out.mono ?_
                rintro e wi2 ⟨rfl, hbi2⟩
                have HBI2 := Lib.hid (HB91.out.trans (hbi2.mono HB91.out.size))
                have HOI2 := Lib.hid (HOA1.out.below hbi2 (Nat.le_refl _))
                have HFI2 := Lib.hid (HF2.out.on HL2.out HBI2.out)
                clear hbi2 c2 c3' c4
                have c2 := HFI2.out.c2
                have c3' := HFI2.out.c3
                have c4 := HFI2.out.c4
                have hsz92 := HBI2.out.size
                go_wp2_with (at_builtin; refine wpList_append_own _ rfl _ _ 23 rfl w2.heap.size 9 i0 (.string ⟨#[]⟩) 1 16 Tryz.underlying23 hi hz0 hz1 hz2 rfl (by decide) _ _ _ rfl (World.ownsRow.alloc HOI2.out.own _) ⟨wi2.heap.size, 0, none⟩ 1 1 [.string ((⟨#[117, 110, 116, 105, 108, 61]⟩ : ByteArray) ++ D2)] rfl rfl (cell_one_new _ _ _) (by simp [Value.oneCell']) (by simp only [maxLen]; omega) (by omega) (by simp; omega) ?_)
                intro v92 w92 hown92 hgrow92 _
                have HB92 := Lib.hid (grown_row HBI2.out hsz92 (.cells #[.string ((⟨#[117, 110, 116, 105, 108, 61]⟩ : ByteArray) ++ D2)] 9) HOI2.out.own hgrow92)
                obtain ⟨z2, hz2l, HOA2⟩ : ∃ z : List ByteArray, z.length ≤ 24 ∧ Hid (Out w2.heap.size v92 z _ w92) := ⟨z1 ++ [((⟨#[117, 110, 116, 105, 108, 61]⟩ : ByteArray) ++ D2)], by have := HZL.out; simp; omega, Lib.hid (HOI2.out.snoc ((⟨#[117, 110, 116, 105, 108, 61]⟩ : ByteArray) ++ D2) _ HXL2.out HXS2.out hown92)⟩
                have HFA2 := Lib.hid (HF2.out.on HL2.out HB92.out)
                obtain ⟨A92, c92, rfl⟩ := HOA2.out.own.form
                clear hown92 hgrow92 c2 c3' c4
                have c2 := HFA2.out.c2
                have c3' := HFA2.out.c3
                have c4 := HFA2.out.c4
                have hcat3 : ¬ 9223372036854775807 < 5 + f.word.size := by omega
                have HXL3 : Hid (((⟨#[119, 111, 114, 100, 61]⟩ : ByteArray) ++ f.word).data.toList = Sp.kWord ++ 61 :: f.word.data.toList) := Lib.hid (by rw [dataApp]; rfl)
                have HXS3 : Hid (((⟨#[119, 111, 114, 100, 61]⟩ : ByteArray) ++ f.word).size ≤ 200) := Lib.hid (by rw [ByteArray.size_append]; show 5 + f.word.size ≤ 200; omega)
                have hsz93 := HB92.out.size
                go_wp2_with (at_builtin; refine wpList_append_own _ rfl _ _ 23 rfl w2.heap.size 9 i0 (.string ⟨#[]⟩) 1 16 Tryz.underlying23 hi hz0 hz1 hz2 rfl (by decide) _ _ _ rfl (World.ownsRow.alloc HOA2.out.own _) ⟨w92.heap.size, 0, none⟩ 1 1 [.string ((⟨#[119, 111, 114, 100, 61]⟩ : ByteArray) ++ f.word)] rfl rfl (cell_one_new _ _ _) (by simp [Value.oneCell']) (by simp only [maxLen]; omega) (by omega) (by simp; omega) ?_)
                intro v93 w93 hown93 hgrow93 _
                have HB93 := Lib.hid (grown_row HB92.out hsz93 (.cells #[.string ((⟨#[119, 111, 114, 100, 61]⟩ : ByteArray) ++ f.word)] 9) HOA2.out.own hgrow93)
                obtain ⟨z3, hz3l, HOA3⟩ : ∃ z : List ByteArray, z.length ≤ 25 ∧ Hid (Out w2.heap.size v93 z _ w93) := ⟨z2 ++ [((⟨#[119, 111, 114, 100, 61]⟩ : ByteArray) ++ f.word)], by have := HZL.out; simp; omega, Lib.hid (HOA2.out.snoc ((⟨#[119, 111, 114, 100, 61]⟩ : ByteArray) ++ f.word) _ HXL3.out HXS3.out hown93)⟩
                have HFA3 := Lib.hid (HF2.out.on HL2.out HB93.out)
                obtain ⟨A93, c93, rfl⟩ := HOA3.out.own.form
                clear hown93 hgrow93 c2 c3' c4
                have c2 := HFA3.out.c2
                have c3' := HFA3.out.c3
                have c4 := HFA3.out.c4
                have HZN : Hid (z3.length ≤ 1000) := Lib.hid (by have := HZL.out; omega)
                have HJ := Lib.hid (join_any z3 w2.heap.size _ w93 HOA3.out.own HZN.out (fun y hy => by have := HOA3.out.few y hy; omega) T (by rw [HTT.out, HOA3.out.eq, HWS.out]))
                go_wp2_with fail
                refine HJ.out.mono ?_
                rintro e wj ⟨rfl, hbj⟩
                have HBJ := Lib.hid ((HB2.out.trans (HB93.out.mono HB2.out.size)).trans (hbj.mono (Nat.le_trans HB2.out.size HB93.out.size)))
                clear hbj
                go_wp2
                go_ret
                exact ⟨rfl, HBJ.out⟩

end Go.Proofs.YtijfeeiplljnjaaGreatDoor
