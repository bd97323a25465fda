/-
  A command's words: the program's Split, against the plain machine.
-/
import Derived.Test.YtijfeeiplljnjaaGreatDoorUh
import Derived.Test.YtijfeeiplljnjaaGreatDoorMem
namespace Go.Proofs.YtijfeeiplljnjaaGreatDoor
open Go.RowKit

namespace Sp
theorem M_over_one (c : UInt8) (r : List UInt8) (out : List (List UInt8)) (hk : blankC c = false) (ho : out.length = 32) :
    M 0 none 0 out (c :: r) = .error (match oneS c r with | .error e => e | .ok _ => 2) := by
  unfold oneS
  by_cases h1 : badC c = true
  · rw [if_pos h1]; exact M_bad _ _ _ _ _ h1
  rw [if_neg h1, M_over out c r (by simpa using h1) hk ho]
  unfold wrongE
  by_cases h2 : c = 92
  · rw [if_pos h2]
    cases hx : escS r with
    | none => rw [if_pos ⟨h2, rfl⟩]
    | some z => obtain ⟨b', n'⟩ := z; rw [if_neg (fun e => by cases e.2)]
  · rw [if_neg h2, if_neg (fun e => h2 e.1)]
end Sp

/-- what begins leaves: the machine's error -/
def BeginsR (B b : Nat) (s : ByteArray) (j : Nat) (w : World) (e : Ending) (w' : World) : Prop :=
  ∃ e0 : Int, e = .returned (.int .i64 e0) ∧ Kept B b w w' ∧ e0 ≠ 0 ∧ ∀ out : List (List UInt8), out.length = 32 → Sp.M 0 none 0 out (s.data.toList.drop j) = .error e0

set_option maxHeartbeats 2000000 in
set_option maxRecDepth 100000 in
theorem wbegins_any (B b : Nat) (s : ByteArray) (j : Nat) (l : List UInt8) (w : World) (h : Wr B b s j l w) (hj : j < s.size) (hs : s.size ≤ 140737488355328) (hl : l.length ≤ j) (hb0 : Sp.blankC s[j] = false) :
    Calls Tryz.prog 34 #[.pointer (some ⟨b, 0, none⟩)] w (BeginsR B b s j w) := by
  have HM := Lib.hid (fun (out : List (List UInt8)) (ho : out.length = 32) => Sp.M_over_one s[j] (s.data.toList.drop (j + 1)) out hb0 ho)
  have HW := Lib.hid (fun n => h.drewN n)
  have HK := Lib.hid (Kept.refl B b w)
  obtain ⟨p, v, h⟩ := h
  have c0 := h.c0
  have c1 := h.c1
  clear h hb0
  by_cases hc : s[j] = 39 ∨ s[j] = 34
  · have HE : Hid (∀ out : List (List UInt8), out.length = 32 → Sp.M 0 none 0 out (s.data.toList.drop j) = .error 2) := Lib.hid (fun out ho => by
      rw [drop_at s j hj, HM.out out ho]
      rcases hc with e | e <;> (rw [e]; rfl))
    have hq1 : ((s[j].toNat : Int) == 39) = true ∨ (((s[j].toNat : Int) == 39) = false ∧ ((s[j].toNat : Int) == 34) = true) := by
      by_cases h39 : s[j] = 39
      · exact .inl ((byte_is s[j] 39).trans (decide_eq_true h39))
      · exact .inr ⟨(byte_is s[j] 39).trans (decide_eq_false h39), (byte_is s[j] 34).trans (decide_eq_true (hc.resolve_left h39))⟩
    clear hc
    rcases hq1 with t1 | ⟨t1, t2⟩
    · have u1 : ((s[j].toNat : Int) != 39) = false := by rw [bne, t1]; rfl
      clear t1
      go_enter Tryz.func34, Tryz.ntmps34
      go_wp2
      go_quiet (fail)
      go_wp2
      go_ret
      exact ⟨2, rfl, HK.out.drewN _, by decide, HE.out⟩
    · have u1 : ((s[j].toNat : Int) != 39) = true := by rw [bne, t1]; rfl
      have u2 : ((s[j].toNat : Int) != 34) = false := by rw [bne, t2]; rfl
      clear t1 t2
      go_enter Tryz.func34, Tryz.ntmps34
      go_wp2
      go_quiet (fail)
      go_wp2
      go_ret
      exact ⟨2, rfl, HK.out.drewN _, by decide, HE.out⟩
  · have t1 : ((s[j].toNat : Int) == 39) = false := (byte_is s[j] 39).trans (decide_eq_false (fun e => hc (.inl e)))
    have t2 : ((s[j].toNat : Int) == 34) = false := (byte_is s[j] 34).trans (decide_eq_false (fun e => hc (.inr e)))
    have u1 : ((s[j].toNat : Int) != 39) = true := by rw [bne, t1]; rfl
    have u2 : ((s[j].toNat : Int) != 34) = true := by rw [bne, t2]; rfl
    clear hc t1 t2
    cases hx : Sp.oneS s[j] (s.data.toList.drop (j + 1)) with
    | error e5 =>
      have he5 : (e5 == 0) = false := by simpa using Sp.one_ne _ _ _ hx
      have HE : Hid (∀ out : List (List UInt8), out.length = 32 → Sp.M 0 none 0 out (s.data.toList.drop j) = .error e5) := Lib.hid (fun out ho => by
        rw [drop_at s j hj, HM.out out ho, hx])
      have HO := Lib.hid (fun n => wone_err B b s j l (w.drewN n) (HW.out n) hj hs e5 hx)
      clear hx
      go_enter Tryz.func34, Tryz.ntmps34
      go_wp2
      go_quiet (fail)
      have HO2 := Lib.hid (HO.out nq)
      have HK2 := Lib.hid (HK.out.drewN nq)
      clear c0 c1
      generalize w.drewN nq = w2 at HO2 HK2 ⊢
      go_wp2_with fail
      refine HO2.out.mono ?_
      rintro e w3 ⟨rfl, n3, rfl⟩
      go_wp2
      go_ret
      exact ⟨e5, rfl, HK2.out.drewN n3, by simpa using he5, HE.out⟩
    | ok z =>
      obtain ⟨c5, n5⟩ := z
      have HE : Hid (∀ out : List (List UInt8), out.length = 32 → Sp.M 0 none 0 out (s.data.toList.drop j) = .error 2) := Lib.hid (fun out ho => by
        rw [drop_at s j hj, HM.out out ho, hx])
      have HO := Lib.hid (fun n => wone_ok B b s j l (w.drewN n) (HW.out n) hj hs hl c5 n5 hx)
      clear hx
      go_enter Tryz.func34, Tryz.ntmps34
      go_wp2
      go_quiet (fail)
      have HO2 := Lib.hid (HO.out nq)
      have HK2 := Lib.hid (HK.out.drewN nq)
      clear c0 c1
      generalize w.drewN nq = w2 at HO2 HK2 ⊢
      go_wp2_with fail
      refine HO2.out.mono ?_
      rintro e w3 ⟨rfl, hw3, hk3⟩
      go_wp2
      go_ret
      exact ⟨2, rfl, HK2.out.trans hk3, by decide, HE.out⟩

theorem str_info : (Tryz.prog.info? 9).map (fun i => (i.zero, i.size, i.bytes)) = some (some (.string ⟨#[]⟩), 1, 16) := by kernel_rfl
/-- a row of texts of the call's own -/
def OwnS (B : Nat) (v : Value) (xs : List ByteArray) (w : World) : Prop := w.ownsRow B 9 1 v xs.length (xs.map Value.string)
theorem OwnS.row {B : Nat} {v : Value} {xs : List ByteArray} {w : World} (h : OwnS B v xs w) : ∀ g, v.ownBlock = some g → ∃ cs, w.heap[g]? = some (.cells cs 9 (0, 0)) := by
  intro g hg
  rcases h.2 with ⟨hv, _⟩ | ⟨g', cap, cur, hv, _, hh, _⟩
  · rw [hv] at hg; cases hg
  · rw [hv] at hg
    injection hg with hg
    subst hg
    exact ⟨cur, hh⟩
theorem OwnS.form {B : Nat} {v : Value} {xs : List ByteArray} {w : World} (h : OwnS B v xs w) : ∃ A c, v = .slice A xs.length c := by
  rcases h.2 with ⟨hv, h0⟩ | ⟨g', cap, cur, hv, _⟩
  · exact ⟨none, 0, by rw [hv, h0]⟩
  · exact ⟨_, _, hv⟩
theorem OwnS.kept {B B' b : Nat} {v : Value} {xs : List ByteArray} {w w' : World} (h : OwnS B v xs w) (hk : Kept B' b w w') (hb : ∀ cs fz, w.heap[b]? ≠ some (.cells cs 9 fz)) : OwnS B v xs w' := by
  refine ⟨h.1, ?_⟩
  rcases h.2 with hv | ⟨g, cap, cur, hv, hg, hh, r⟩
  · exact .inl hv
  · exact .inr ⟨g, cap, cur, hv, hg, hk.row hh (fun e => hb cur (0, 0) (e ▸ hh)) (by decide), r⟩
theorem Wr.not_str {B b k : Nat} {s : ByteArray} {l : List UInt8} {w : World} (h : Wr B b s k l w) : ∀ cs fz, w.heap[b]? ≠ some (.cells cs 9 fz) := by
  obtain ⟨p, v, h⟩ := h
  intro cs fz e
  rw [h.heap] at e
  injection e with e
  injection e with _ e _
  revert e
  decide
/-- a reader stands where a row of texts grows -/
theorem Wr.grown {B b k : Nat} {s : ByteArray} {l : List UInt8} {w w' : World} {row : Option Nat} (h : Wr B b s k l w) (hg : w.grownBy w' row) (hr : ∀ g, row = some g → ∃ cs, w.heap[g]? = some (.cells cs 9 (0, 0))) : Wr B b s k l w' := by
  have hlt := h.lt
  have hns := h.not_str
  obtain ⟨p, v, hp, hB, hb, hown, hne, h0⟩ := h
  refine ⟨p, v, hp, hB, (hg.block b hlt (fun e => ?_)).trans hb, hown.kept hg ?_, hne, h0⟩
  · obtain ⟨cs, hc⟩ := hr b e.symm
    exact hns _ _ hc
  · cases hv : v.ownBlock with
    | none => exact .inl rfl
    | some g =>
      refine .inr fun e => ?_
      obtain ⟨cs, hc⟩ := hr g e.symm
      rcases hown.2 with ⟨hv2, _⟩ | ⟨g', cap, cur, fz, hv2, _, hh, _⟩
      · rw [hv2] at hv; cases hv
      · rw [hv2] at hv
        injection hv with hv
        subst hv
        rw [hh] at hc
        injection hc with hc
        injection hc with _ hc _
        revert hc
        decide

/-- what Split leaves -/
def SplitR (s : ByteArray) (w : World) (e : Ending) (w' : World) : Prop :=
  Below w.heap.size w w' ∧ ((∃ e0 : Int, e0 ≠ 0 ∧ Sp.splitW s.data.toList = .error e0 ∧ e = .returned (.tuple #[.slice none 0 0, .int .i64 e0])) ∨
    (∃ (v : Value) (xs : List ByteArray), Sp.splitW s.data.toList = .ok (xs.map fun x => x.data.toList) ∧ xs.length ≤ 32 ∧ (∀ x ∈ xs, x.size ≤ s.size) ∧ OwnS w.heap.size v xs w' ∧ e = .returned (.tuple #[v, .int .i64 0])))

set_option maxHeartbeats 4000000 in
set_option maxRecDepth 100000 in
theorem split_any (s : ByteArray) (w : World) (hs : s.size ≤ 140737488355328) :
    Calls Tryz.prog 11 #[.string s] w (SplitR s w) := by
  obtain ⟨i0, hi, hz0, hz1, hz2⟩ := info_parts str_info
  obtain ⟨b, hbx⟩ : ∃ b, b = w.heap.size := ⟨_, rfl⟩
  have HC : Hid (w.heap.size = b) := Lib.hid hbx.symm
  have HBL := Lib.hid (wblanks_any b b s 0 [] _ (by rw [hbx]; exact wr_fresh w s) (Nat.zero_le _) hs)
  have HK := Lib.hid ((Below.refl b w).alloc (by rw [hbx]; exact Nat.le_refl _) (.cells #[.string s, .int .i64 0, .pointer none, .slice none 0 0] 68))
  clear hbx
  go_enter Tryz.func11, Tryz.ntmps11
  go_wp2_with fail
  rw [HC.out]
  refine HBL.out.mono ?_
  rintro e w1 ⟨rfl, j1, ⟨_, hj1⟩, ⟨hw1, hk1⟩, hm1, hn1⟩
  have H1 : Hid (Wr b b s j1 [] w1 ∧ Below b w w1 ∧ OwnS b (.slice none 0 0) [] w1) := Lib.hid ⟨hw1, HK.out.trans hk1.below, World.ownsRow_nil _ _ _ _⟩
  have HM1 : Hid (Sp.splitW s.data.toList = Sp.M 0 none 0 [] (s.data.toList.drop j1)) := Lib.hid (by have := hm1 []; rwa [List.drop_zero] at this)
  have HN1 := Lib.hid hn1
  clear hw1 hk1 hm1 hn1 HBL HK
  go_wp2_with fail
  go_loopg [5] (s.size - j1) (fun g ov wr => ∃ (i : Nat) (l' : List UInt8) (xs : List ByteArray), (i ≤ s.size ∧ s.size - i ≤ g ∧ l'.length ≤ i ∧ xs.length ≤ 32) ∧ Hid (Wr b b s i l' wr ∧ Below b w wr ∧ OwnS b ov xs wr) ∧ Hid (∀ x ∈ xs, x.size ≤ s.size) ∧ Hid (Sp.splitW s.data.toList = Sp.M 0 none 0 (xs.map fun x => x.data.toList) (s.data.toList.drop i)) ∧ Hid (∀ h : i < s.size, Sp.blankC s[i] = false))
  case atStart => exact ⟨j1, [], [], ⟨hj1, Nat.le_refl _, Nat.zero_le _, by decide⟩, H1, Lib.hid (fun _ h => by cases h), HM1, HN1⟩
  case round =>
    obtain ⟨i, l', xs, ⟨hi2, hg, hl', hx32⟩, HR, HX, HM, HN⟩ := hrel
    obtain ⟨A, cp, rfl⟩ := HR.out.2.2.form
    clear H1 HM1 HN1
    by_cases hlt : i < s.size
    · have HE := Lib.hid (wend_any b b s i l' wr HR.out.1 false (by simp; omega))
      by_cases h32 : xs.length = 32
      · have t32 : ((xs.length : Int) == 32) = true := by rw [h32]; rfl
        have HBG := Lib.hid (fun n => wbegins_any b b s i l' (wr.drewN n) (HR.out.1.drewN n) hlt hs hl' (HN.out hlt))
        have H32 := Lib.hid h32
        clear h32
        go_wp2_with fail
        refine HE.out.mono ?_
        rintro e w2 ⟨rfl, n2, rfl⟩
        have HBG2 := Lib.hid (HBG.out n2)
        go_wp2_with fail
        refine HBG2.out.mono ?_
        rintro e w3 ⟨e3, rfl, hk3, hne3, hm3⟩
        have HK3 := Lib.hid hk3
        have HM3 := Lib.hid hm3
        have HNE3 := Lib.hid hne3
        clear hk3 hm3 hne3
        go_wp2
        go_ret2
        unfold SplitR
        rw [HC.out]
        exact ⟨(belowQ HR.out.2.1 n2).trans HK3.out.below, .inl ⟨e3, HNE3.out, by rw [HM.out]; exact HM3.out _ (by rw [List.length_map]; exact H32.out), rfl⟩⟩
      · have t32 : ((xs.length : Int) == 32) = false := by simp; omega
        have h31 : xs.length < 32 := by omega
        have HNX := Lib.hid (fun n => wnext_any b b s i l' (wr.drewN n) (HR.out.1.drewN n) hlt hs (HN.out hlt))
        clear h32
        go_wp2_with fail
        refine HE.out.mono ?_
        rintro e w2 ⟨rfl, n2, rfl⟩
        have HNX2 := Lib.hid (HNX.out n2)
        go_wp2_with fail
        refine HNX2.out.mono ?_
        rintro e w3 ⟨x, e3, rfl, hk3, hm3⟩
        have HO3 : Hid (OwnS b (.slice A xs.length cp) xs w3) := Lib.hid (OwnS.kept (w := wr.drewN n2) HR.out.2.2 hk3 (HR.out.1.drewN n2).not_str)
        have HB3 := Lib.hid ((belowQ HR.out.2.1 n2).trans hk3.below)
        clear hk3
        rcases hm3 with ⟨hne3, hm3⟩ | ⟨rfl, j3, l3, ⟨hj3, hj3', hl3⟩, hxs3, hw3, hm3⟩
        · have he3 : (e3 == 0) = false := by simpa using hne3
          have HM3 := Lib.hid hm3
          have HNE3 := Lib.hid hne3
          clear hm3 hne3
          go_wp2
          go_ret2
          unfold SplitR
          rw [HC.out]
          exact ⟨HB3.out, .inl ⟨e3, HNE3.out, by rw [HM.out]; exact HM3.out _ (by rw [List.length_map]; exact h31), rfl⟩⟩
        · have HM3 := Lib.hid hm3
          have HW3 := Lib.hid hw3
          have HS3 := Lib.hid hxs3
          have hsz3 := HB3.out.size
          have hsz0 : b ≤ w3.heap.size := by have := hw3.lt; omega
          clear hm3 hw3 hxs3
          go_wp2_with (at_builtin; refine wpList_append_own _ rfl _ _ 23 rfl b 9 i0 (.string ⟨#[]⟩) 1 16 Tryz.underlying23 hi hz0 hz1 hz2 rfl (by decide) _ _ _ rfl (World.ownsRow.alloc HO3.out _) ⟨w3.heap.size, 0, none⟩ 1 1 [.string x] rfl rfl (cell_one_new _ _ _) (by simp [Value.oneCell']) (by simp only [maxLen]; omega) (by omega) (by simp; omega) ?_)
          intro v9 w9 hown9 hgrow9 _
          have HW9 := Lib.hid ((HW3.out.alloc (.cells #[.string x] 9)).grown hgrow9 (fun g hg => OwnS.row (w := w3.alloc (.cells #[.string x] 9)) (World.ownsRow.alloc HO3.out _) g hg))
          have HB9 := Lib.hid ((HB3.out.alloc hsz0 (.cells #[.string x] 9)).grown hgrow9 (by simp; omega) (fun k hk => ((World.ownsRow.alloc HO3.out (.cells #[.string x] 9)).lt k hk).1))
          have HO9 : Hid (OwnS b v9 (xs ++ [x]) w9) := Lib.hid (by
            unfold OwnS
            rw [List.length_append, List.map_append]
            exact hown9)
          obtain ⟨A9, c9, rfl⟩ := HO9.out.form
          clear hown9 hgrow9
          have HBL9 := Lib.hid (wblanks_any b b s j3 l3 w9 HW9.out (by omega) hs)
          go_wp2_with fail
          refine HBL9.out.mono ?_
          rintro e w10 ⟨rfl, j10, ⟨hj10, hj10'⟩, ⟨hw10, hk10⟩, hm10, hn10⟩
          have H10 : Hid (Wr b b s j10 l3 w10 ∧ Below b w w10 ∧ OwnS b (.slice A9 (xs ++ [x]).length c9) (xs ++ [x]) w10) := Lib.hid ⟨hw10, HB9.out.trans hk10.below, HO9.out.kept hk10 HW9.out.not_str⟩
          have HM10 := Lib.hid hm10
          have HN10 := Lib.hid hn10
          clear hw10 hk10 hm10 hn10
          go_wp2
          go_roundg (s.size - j10)
          case measure => omega
          case rel =>
            refine ⟨j10, l3, xs ++ [x], ⟨hj10', Nat.le_refl _, by omega, by simp; omega⟩, (by rw [show xs.length + 1 = (xs ++ [x]).length by simp]; exact H10), Lib.hid (fun y hy => ?_), Lib.hid ?_, HN10⟩
            · rcases List.mem_append.1 hy with hy | hy
              · exact HX.out y hy
              · rw [List.mem_singleton] at hy; rw [hy]; exact HS3.out
            · rw [HM.out, HM3.out _ (by rw [List.length_map]; exact h31), HM10.out, List.map_append]
              rfl
    · have HE := Lib.hid (wend_any b b s i l' wr HR.out.1 true (by simp; omega))
      go_wp2_with fail
      refine HE.out.mono ?_
      rintro e w2 ⟨rfl, n2, rfl⟩
      go_wp2
      go_ret2
      unfold SplitR
      rw [HC.out]
      refine ⟨belowQ HR.out.2.1 n2, .inr ⟨_, xs, ?_, hx32, HX.out, HR.out.2.2, rfl⟩⟩
      rw [HM.out, drop_end s i (by omega), Sp.M_end]
      simp

end Go.Proofs.YtijfeeiplljnjaaGreatDoor
