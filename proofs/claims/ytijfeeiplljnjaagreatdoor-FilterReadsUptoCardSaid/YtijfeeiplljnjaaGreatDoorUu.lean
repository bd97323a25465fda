/-
  A filter is read out of a text: the program's walk.
-/
import Derived.Test.YtijfeeiplljnjaaGreatDoorUt
import Derived.Test.YtijfeeiplljnjaaGreatDoorUi
namespace Go.Proofs.YtijfeeiplljnjaaGreatDoor
open Go.RowKit Go.Shelf

/-- a variable in which a filter lies -/
structure RB (w : World) (b : Nat) (x0 x1 x2 x3 x4 : Value) : Prop where
  c0 : w.cell? ⟨b, 0, none⟩ = some x0
  c1 : w.cell? ⟨b, 1, none⟩ = some x1
  c2 : w.cell? ⟨b, 2, none⟩ = some x2
  c3 : w.cell? ⟨b, 3, none⟩ = some x3
  c4 : w.cell? ⟨b, 4, none⟩ = some x4
  f0 : w.frozen? ⟨b, 0, none⟩ = false
  f1 : w.frozen? ⟨b, 1, none⟩ = false
  f2 : w.frozen? ⟨b, 2, none⟩ = false
  f3 : w.frozen? ⟨b, 3, none⟩ = false
  f4 : w.frozen? ⟨b, 4, none⟩ = false
theorem RB.on {w w' : World} {b : Nat} {x0 x1 x2 x3 x4 : Value} (h : RB w b x0 x1 x2 x3 x4) {B : Nat} (hB : b < B) (hb : Below B w w') : RB w' b x0 x1 x2 x3 x4 :=
  ⟨(hb.cell (p := ⟨b, 0, none⟩) hB).trans h.c0, (hb.cell (p := ⟨b, 1, none⟩) hB).trans h.c1, (hb.cell (p := ⟨b, 2, none⟩) hB).trans h.c2, (hb.cell (p := ⟨b, 3, none⟩) hB).trans h.c3, (hb.cell (p := ⟨b, 4, none⟩) hB).trans h.c4,
    (hb.frozen (p := ⟨b, 0, none⟩) hB).trans h.f0, (hb.frozen (p := ⟨b, 1, none⟩) hB).trans h.f1, (hb.frozen (p := ⟨b, 2, none⟩) hB).trans h.f2, (hb.frozen (p := ⟨b, 3, none⟩) hB).trans h.f3, (hb.frozen (p := ⟨b, 4, none⟩) hB).trans h.f4⟩
theorem RB.new (w : World) (x0 x1 x2 x3 x4 : Value) (t : TypeId) : RB (w.alloc (.cells #[x0, x1, x2, x3, x4] t)) w.heap.size x0 x1 x2 x3 x4 :=
  ⟨by simp, by simp, by simp, by simp, by simp, by go_simp, by go_simp, by go_simp, by go_simp, by go_simp⟩
theorem RB.put {w : World} {b : Nat} {x0 x1 x2 x3 x4 : Value} (h : RB w b x0 x1 x2 x3 x4) (y0 y1 y2 y3 y4 : Value) : RB (((((w.setCell ⟨b, 0, none⟩ y0).setCell ⟨b, 1, none⟩ y1).setCell ⟨b, 2, none⟩ y2).setCell ⟨b, 3, none⟩ y3).setCell ⟨b, 4, none⟩ y4) b y0 y1 y2 y3 y4 := by
  obtain ⟨c0, c1, c2, c3, c4, f0, f1, f2, f3, f4⟩ := h
  exact ⟨by go_simp, by go_simp, by go_simp, by go_simp, by go_simp, by go_simp, by go_simp, by go_simp, by go_simp, by go_simp⟩
theorem fparse_res {tmps : Array Value} {W : World} {b : Nat} {x0 x1 x2 x3 x4 : Value} {k : Int} (hc : RB W b x0 x1 x2 x3 x4) (h2 : tmps.getD 2 undef = .pointer (some ⟨b, 0, none⟩)) (h3 : tmps.getD 3 undef = .int .i64 k) :
    (results Tryz.f5 tmps).run Tryz.prog W = .ok (.tuple #[.agg #[x0, x1, x2, x3, x4], .int .i64 k]) W := by
  rw [results_cell_tmp (p := 2) (u := 3) (ty := 26) rfl, h2, h3]
  have c0 := hc.c0
  have c1 := hc.c1
  have c2 := hc.c2
  have c3 := hc.c3
  have c4 := hc.c4
  simp [go_sem, c0, c1, c2, c3, c4]
theorem unit_small (u : ByteArray) (h : Sp.unitB u = true) : u.size ≤ 60 := by
  have h1 := unitW_size u (by
    unfold Sp.unitB at h
    by_cases he : u.toList.isEmpty = true
    · exact .inl (Sp.empty_of u he)
    · rw [Bool.or_eq_true] at h
      exact .inr ⟨he, h.resolve_left he⟩)
  unfold unitW at h1
  by_cases he : u.toList.isEmpty = true
  · have := Sp.empty_of u he
    subst this
    decide
  · rw [if_neg he] at h1
    exact h1
theorem below_put5 {B b : Nat} {w w' : World} (h : Below B w w') (hB : B ≤ b) (x0 x1 x2 x3 x4 : Value) : Below B w (((((w'.setCell ⟨b, 0, none⟩ x0).setCell ⟨b, 1, none⟩ x1).setCell ⟨b, 2, none⟩ x2).setCell ⟨b, 3, none⟩ x3).setCell ⟨b, 4, none⟩ x4) :=
  Below.setCell (Below.setCell (Below.setCell (Below.setCell (Below.setCell h (p := ⟨b, 0, none⟩) hB _) (p := ⟨b, 1, none⟩) hB _) (p := ⟨b, 2, none⟩) hB _) (p := ⟨b, 3, none⟩) hB _) (p := ⟨b, 4, none⟩) hB _
theorem Sp.stepP_ne (s : Sp.PS) (k v : List UInt8) (has : Bool) (e : Int) (h : Sp.stepP s k v has = .error e) : e ≠ 0 := by
  unfold Sp.stepP Sp.stepU Sp.stepK Sp.stepS Sp.stepT Sp.stepW at h
  repeat' split at h
  all_goals first | (injection h with h; rw [← h]; decide) | (cases h; done)
/-- what Parse leaves -/
def ParseR (s : ByteArray) (w : World) (e : Ending) (w' : World) : Prop :=
  Below w.heap.size w w' ∧ match Sp.parseF s.data.toList with
  | .error x => e = .returned (.tuple #[filtV Sp.zeroF none 0 none 0, .int .i64 x])
  | .ok f => ∃ UA uc KA kc, e = .returned (.tuple #[filtV f UA uc KA kc, .int .i64 0]) ∧ FGood f UA KA w'.heap.size w'
theorem OwnS.base {B B' : Nat} {v : Value} {xs : List ByteArray} {w : World} (h : OwnS B v xs w) (hB : B' ≤ B) : OwnS B' v xs w := by
  refine ⟨h.1, ?_⟩
  rcases h.2 with hv | ⟨g, cap, cur, hv, hg, r⟩
  · exact .inl hv
  · exact .inr ⟨g, cap, cur, hv, by omega, r⟩
theorem frm_good {B b mb n : Nat} {s : Sp.PS} {w : World} (h : FRm B b mb n s w) (hm : Sp.MayF s.f) : ∃ UA uc KA kc, w.heap[b]? = some (.cells #[.slice UA s.f.units.length uc, .slice KA s.f.kinds.length kc, .int .i64 s.f.since, .int .i64 s.f.till, .string s.f.word, .map (some mb)] 42 (0, 0)) ∧ FGood s.f UA KA w.heap.size w ∧ OwnS B (.slice UA s.f.units.length uc) s.f.units w ∧ OwnI B (.slice KA s.f.kinds.length kc) s.f.kinds w := by
  obtain ⟨uv, kv, hB, hb, hu, hk, _⟩ := h
  obtain ⟨UA, uc, rfl⟩ := hu.form
  obtain ⟨KA, kc, rfl⟩ := hk.form
  refine ⟨UA, uc, KA, kc, hb, ⟨Rd.of_own hu, Rd.of_own hk, by have := hm.few; omega, by have := Sp.kindI_few _ hm.rk hm.ks; omega, fun u hu => ?_, ?_⟩, hu, hk⟩
  · have := unit_small u (List.all_eq_true.1 hm.us u hu)
    omega
  · have hw := hm.w
    unfold Sp.wordB at hw
    rw [Bool.and_eq_true] at hw
    have := of_decide_eq_true hw.2
    omega
theorem own_put {B c : Nat} {v : Value} {T : TypeId} {n : Nat} {xs : List Value} {w : World} (h : w.ownsRow B T 1 v n xs) (hc : c < B) (i : Nat) (x : Value) : (w.setCell ⟨c, i, none⟩ x).ownsRow B T 1 v n xs := by
  refine h.kept (grown_setCell w c i x) ?_
  cases hv : v.ownBlock with
  | none => exact .inl rfl
  | some g =>
    refine .inr fun e => ?_
    injection e with e
    have := (h.lt g hv).1
    omega
theorem fgood_put {B c : Nat} {s : Sp.PS} {w : World} {UA KA : Option Addr} {uc kc : Nat} (hu : OwnS B (.slice UA s.f.units.length uc) s.f.units w) (hk : OwnI B (.slice KA s.f.kinds.length kc) s.f.kinds w) (hg : FGood s.f UA KA w.heap.size w) (hc : c < B) (y0 y1 y2 y3 y4 : Value) :
    FGood s.f UA KA (((((w.setCell ⟨c, 0, none⟩ y0).setCell ⟨c, 1, none⟩ y1).setCell ⟨c, 2, none⟩ y2).setCell ⟨c, 3, none⟩ y3).setCell ⟨c, 4, none⟩ y4).heap.size (((((w.setCell ⟨c, 0, none⟩ y0).setCell ⟨c, 1, none⟩ y1).setCell ⟨c, 2, none⟩ y2).setCell ⟨c, 3, none⟩ y3).setCell ⟨c, 4, none⟩ y4) :=
  ⟨Rd.of_own (own_put (own_put (own_put (own_put (own_put hu hc 0 y0) hc 1 y1) hc 2 y2) hc 3 y3) hc 4 y4), Rd.of_own (own_put (own_put (own_put (own_put (own_put hk hc 0 y0) hc 1 y1) hc 2 y2) hc 3 y3) hc 4 y4), hg.un, hg.kn, hg.us, hg.ws⟩
set_option maxHeartbeats 16000000 in
set_option maxRecDepth 100000 in
theorem fparse_any (s : ByteArray) (w : World) (hs : s.size ≤ 1048576) (E : Env w) :
    Calls Tryz.prog 5 #[.string s] w (ParseR s w) := by
  have hmm := @run_makeMap Tryz.prog
  have hr0 := RB.new w (.slice none 0 0) (.slice none 0 0) (.int .i64 0) (.int .i64 0) (.string ⟨#[]⟩) 26
  have HSP := Lib.hid (split_any s (w.alloc (.cells #[.slice none 0 0, .slice none 0 0, .int .i64 0, .int .i64 0, .string ⟨#[]⟩] 26)) (by omega))
  have hw1 : Below w.heap.size w (w.alloc (.cells #[.slice none 0 0, .slice none 0 0, .int .i64 0, .int .i64 0, .string ⟨#[]⟩] 26)) := (Below.refl _ _).alloc (Nat.le_refl _) _
  have hz1 : w.heap.size < (w.alloc (.cells #[.slice none 0 0, .slice none 0 0, .int .i64 0, .int .i64 0, .string ⟨#[]⟩] 26)).heap.size := by simp
  have HR0 := Lib.hid hr0
  have HW1 := Lib.hid hw1
  have HZ1 := Lib.hid hz1
  have HE := Lib.hid E
  clear hr0 hw1 hz1 E
  generalize hwa : w.alloc (.cells #[.slice none 0 0, .slice none 0 0, .int .i64 0, .int .i64 0, .string ⟨#[]⟩] 26) = wa at *
  have HWA := Lib.hid hwa
  clear hwa
  go_enter Tryz.func5, Tryz.ntmps5
  go_wp2_with fail
  rw [HWA.out]
  refine HSP.out.mono ?_
  rintro e w2 ⟨hb2, hcase⟩
  have HB2 := Lib.hid (HW1.out.trans (hb2.mono HW1.out.size))
  have HR2 := Lib.hid (HR0.out.on HZ1.out hb2)
  have HZ2 : Hid (w.heap.size < w2.heap.size) := Lib.hid (Nat.lt_of_lt_of_le HZ1.out hb2.size)
  clear hb2
  rcases hcase with ⟨e0, hne, hsp, rfl⟩ | ⟨v, xs, hsp, hx32, hxs, hown, rfl⟩
  · have HP : Hid (Sp.parseF s.data.toList = .error e0) := Lib.hid (by rw [Sp.parseF, hsp])
    have hne0 : (e0 == 0) = false := by simpa using hne
    obtain ⟨r0, r1, r2, r3, r4, z0, z1, z2, z3, z4⟩ := HR2.out
    have HF := Lib.hid (HR2.out.put (.slice none 0 0) (.slice none 0 0) (.int .i64 0) (.int .i64 0) (.string ⟨#[]⟩))
    have HBF := Lib.hid (below_put5 HB2.out (Nat.le_refl _) (.slice none 0 0) (.slice none 0 0) (.int .i64 0) (.int .i64 0) (.string ⟨#[]⟩))
    clear hne hsp
    go_wp2
    refine bodyPost_ret (v := .tuple #[.agg #[.slice none 0 0, .slice none 0 0, .int .i64 0, .int .i64 0, .string ⟨#[]⟩], .int .i64 e0]) (fparse_res HF.out rfl rfl) rfl ?_
    refine ⟨HBF.out, ?_⟩
    rw [HP.out]
    rfl
  · have HP : Hid (Sp.parseF s.data.toList = match Sp.wordsP ⟨Sp.firstF, false, false, false⟩ (xs.map fun x => x.data.toList) with | .error e => .error e | .ok s => .ok s.f) := Lib.hid (by rw [Sp.parseF, hsp]; rfl)
    obtain ⟨A, cp, rfl⟩ := hown.form
    have HO := Lib.hid hown
    have HX := Lib.hid hxs
    have hF3 : FRm w2.heap.size (w2.heap.size + 1) w2.heap.size 0 ⟨Sp.firstF, false, false, false⟩ ((w2.alloc (.map #[] 0)).alloc (.cells #[.slice none 0 0, .slice none 0 0, .int .i64 0, .int .i64 6311433599, .string ⟨#[]⟩, .map (some w2.heap.size)] 42)) := by
      refine ⟨.slice none 0 0, .slice none 0 0, ⟨by omega, Nat.le_refl _⟩, ?_, World.ownsRow_nil _ _ _ _, World.ownsRow_nil _ _ _ _, ?_⟩
      · have := Array.getElem?_push_size (xs := (w2.alloc (.map #[] 0)).heap) (x := Obj.cells #[.slice none 0 0, .slice none 0 0, .int .i64 0, .int .i64 6311433599, .string ⟨#[]⟩, .map (some w2.heap.size)] 42 (0, 0))
        rw [show (w2.alloc (.map #[] 0)).heap.size = w2.heap.size + 1 by simp] at this
        exact this
      · exact (Had.new w2).below ((Below.refl _ _).alloc (Nat.le_refl _) _)
    have hb3 : Below w2.heap.size w2 ((w2.alloc (.map #[] 0)).alloc (.cells #[.slice none 0 0, .slice none 0 0, .int .i64 0, .int .i64 6311433599, .string ⟨#[]⟩, .map (some w2.heap.size)] 42)) := ((Below.refl _ _).alloc (Nat.le_refl _) _).alloc (by simp) _
    have HF3 := Lib.hid hF3
    have HB3 := Lib.hid hb3
    clear hsp hown hxs hF3 hb3
    have HXO : Hid (0 < xs.length → ∃ g c, A = some ⟨g, 0, none⟩ ∧ c = cp ∧ g < w2.heap.size ∧ ∀ (j : Nat) (x : ByteArray), xs[j]? = some x → w2.cell? ⟨g, j, none⟩ = some (.string x)) := Lib.hid (fun h0 => by
      obtain ⟨g, c, hv, ⟨_, hg⟩, _, hc⟩ := HO.out.cells h0
      injection hv with hA _ hcc
      exact ⟨g, c, hA, hcc.symm, hg, hc⟩)
    go_wp2_with fail
    generalize (w2.alloc (.map #[] 0)).alloc (.cells #[.slice none 0 0, .slice none 0 0, .int .i64 0, .int .i64 6311433599, .string ⟨#[]⟩, .map (some w2.heap.size)] 42) = w3 at HF3 HB3 ⊢
    go_loopw [25] (fun iv wr => ∃ (k : Nat) (st : Sp.PS), k ≤ xs.length ∧ iv = .int .i64 k ∧ Hid (FRm w2.heap.size (w2.heap.size + 1) w2.heap.size k st wr) ∧ Hid (Sp.MayF st.f) ∧ Hid (Below w2.heap.size w2 wr) ∧ Hid (Sp.wordsP ⟨Sp.firstF, false, false, false⟩ (xs.map fun x => x.data.toList) = Sp.wordsP st ((xs.drop k).map fun x => x.data.toList))) (fun iv _ => xs.length - (intOf iv).toNat)
    case atStart => exact ⟨0, ⟨Sp.firstF, false, false, false⟩, Nat.zero_le _, rfl, HF3, Lib.hid Sp.first_may, HB3, Lib.hid rfl⟩
    case round =>
      clear HF3 HB3 hmm
      obtain ⟨k, st, hk, rfl, HF, HM, HB, HW⟩ := hrel
      have HRR := Lib.hid (HR2.out.on HZ2.out HB.out)
      have HBB := Lib.hid (HB2.out.trans (HB.out.mono (Nat.le_of_lt HZ2.out)))
      by_cases hlt : k < xs.length
      · obtain ⟨g, c, hA, hcc, hg, hc⟩ := HXO.out (by omega)
        subst hA
        subst hcc
        have c0 : wr.cell? ⟨g, k, none⟩ = some (.string xs[k]) := (HB.out.cell (p := ⟨g, k, none⟩) hg).trans (hc k _ (List.getElem?_eq_getElem hlt))
        have hxs := HX.out xs[k] (List.getElem_mem hlt)
        have HD : Hid (xs.drop k = xs[k] :: xs.drop (k + 1)) := Lib.hid (List.drop_eq_getElem_cons hlt)
        clear hc
        generalize xs[k] = x at *
        have HWD := Lib.hid (fword_any w2.heap.size (w2.heap.size + 1) w2.heap.size k st x wr HF.out HM.out HB.out.size (by omega) (by omega) (fun W hW => HE.out.on (HB2.out.trans ((HB.out.trans hW).mono (Nat.le_of_lt HZ2.out)))))
        have x1 : (0 : Int) ≤ (k : Int) := by omega
        have x2 : (k : Int) < (xs.length : Int) := by omega
        cases hwp : Sp.wordP st x.data.toList with
        | error e0 =>
          have hne0 : (e0 == 0) = false := by simpa using Sp.stepP_ne _ _ _ _ _ hwp
          have HPE : Hid (Sp.parseF s.data.toList = .error e0) := Lib.hid (by rw [HP.out, HW.out, HD.out, List.map_cons, Sp.wordsP, hwp])
          rw [hwp] at HWD
          clear hwp
          go_wp2_with fail
          refine HWD.out.mono ?_
          rintro e w5 ⟨hb5, rfl⟩
          obtain ⟨r0, r1, r2, r3, r4, z0, z1, z2, z3, z4⟩ := HRR.out.on HZ2.out hb5
          have HFF := Lib.hid ((HRR.out.on HZ2.out hb5).put (.slice none 0 0) (.slice none 0 0) (.int .i64 0) (.int .i64 0) (.string ⟨#[]⟩))
          have HBF := Lib.hid (below_put5 (HBB.out.trans (hb5.mono (Nat.le_of_lt HZ2.out))) (Nat.le_refl _) (.slice none 0 0) (.slice none 0 0) (.int .i64 0) (.int .i64 0) (.string ⟨#[]⟩))
          clear hb5 c0
          go_wp2
          refine bodyPost_ret (v := .tuple #[.agg #[.slice none 0 0, .slice none 0 0, .int .i64 0, .int .i64 0, .string ⟨#[]⟩], .int .i64 e0]) (fparse_res HFF.out rfl rfl) rfl ?_
          refine ⟨HBF.out, ?_⟩
          rw [HPE.out]
          rfl
        | ok st2 =>
          have HM2 : Hid (Sp.MayF st2.f) := Lib.hid (Sp.stepP_may st st2 _ _ _ HM.out hwp)
          have HW2 : Hid (Sp.wordsP ⟨Sp.firstF, false, false, false⟩ (xs.map fun x => x.data.toList) = Sp.wordsP st2 ((xs.drop (k + 1)).map fun x => x.data.toList)) := Lib.hid (by rw [HW.out, HD.out, List.map_cons, Sp.wordsP, hwp])
          rw [hwp] at HWD
          clear hwp
          go_wp2_with fail
          refine HWD.out.mono ?_
          rintro e w5 ⟨hb5, rfl, hf5⟩
          have HB5 := Lib.hid (HB.out.trans hb5)
          have HF5 := Lib.hid hf5
          clear hb5 hf5 c0
          go_wp2
          go_roundw
          case rel => exact ⟨k + 1, st2, by omega, by go_num, HF5, HM2, HB5, HW2⟩
          case measure => simp [intOf]; omega
      · have x2 : ¬ (k : Int) < (xs.length : Int) := by omega
        have HPO : Hid (Sp.parseF s.data.toList = .ok st.f) := Lib.hid (by rw [HP.out, HW.out, List.drop_eq_nil_of_le (by omega), List.map_nil, Sp.wordsP])
        obtain ⟨UA, uc, KA, kc, hb5, hgood, hou, hok⟩ := frm_good HF.out HM.out
        have d0 : wr.cell? ⟨w2.heap.size + 1, 0, none⟩ = some (.slice UA st.f.units.length uc) := by rw [Lib.cell_of_heap hb5]; rfl
        have d1 : wr.cell? ⟨w2.heap.size + 1, 1, none⟩ = some (.slice KA st.f.kinds.length kc) := by rw [Lib.cell_of_heap hb5]; rfl
        have d2 : wr.cell? ⟨w2.heap.size + 1, 2, none⟩ = some (.int .i64 st.f.since) := by rw [Lib.cell_of_heap hb5]; rfl
        have d3 : wr.cell? ⟨w2.heap.size + 1, 3, none⟩ = some (.int .i64 st.f.till) := by rw [Lib.cell_of_heap hb5]; rfl
        have d4 : wr.cell? ⟨w2.heap.size + 1, 4, none⟩ = some (.string st.f.word) := by rw [Lib.cell_of_heap hb5]; rfl
        obtain ⟨r0, r1, r2, r3, r4, z0, z1, z2, z3, z4⟩ := HRR.out
        have HFF := Lib.hid (HRR.out.put (.slice UA st.f.units.length uc) (.slice KA st.f.kinds.length kc) (.int .i64 st.f.since) (.int .i64 st.f.till) (.string st.f.word))
        have HBF := Lib.hid (below_put5 HBB.out (Nat.le_refl _) (.slice UA st.f.units.length uc) (.slice KA st.f.kinds.length kc) (.int .i64 st.f.since) (.int .i64 st.f.till) (.string st.f.word))
        have HGD := Lib.hid hgood
        have HFM := Lib.hid (⟨hou, hok⟩ : OwnS w2.heap.size (.slice UA st.f.units.length uc) st.f.units wr ∧ OwnI w2.heap.size (.slice KA st.f.kinds.length kc) st.f.kinds wr)
        clear hb5 hgood hou hok
        go_wp2
        refine bodyPost_ret (v := .tuple #[.agg #[.slice UA st.f.units.length uc, .slice KA st.f.kinds.length kc, .int .i64 st.f.since, .int .i64 st.f.till, .string st.f.word], .int .i64 0]) (fparse_res HFF.out rfl rfl) rfl ?_
        refine ⟨HBF.out, ?_⟩
        rw [HPO.out]
        refine ⟨UA, uc, KA, kc, rfl, ?_⟩
        exact fgood_put HFM.out.1 HFM.out.2 HGD.out HZ2.out _ _ _ _ _

end Go.Proofs.YtijfeeiplljnjaaGreatDoor
