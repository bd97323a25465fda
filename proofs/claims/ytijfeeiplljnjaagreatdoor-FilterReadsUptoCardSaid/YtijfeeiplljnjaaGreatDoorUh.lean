/-
  A reader takes a word: the program's walk.
-/
import Derived.Test.YtijfeeiplljnjaaGreatDoorUg
import Derived.BigRegion
namespace Go.Proofs.YtijfeeiplljnjaaGreatDoor
open Go.RowKit

theorem Kept.row {B b g : Nat} {w w' : World} {cs : Array Value} {T : TypeId} {fz : Nat × Nat} (h : Kept B b w w') (hg : w.heap[g]? = some (.cells cs T fz)) (hb : g ≠ b) (hT : T ≠ 5) : w'.heap[g]? = some (.cells cs T fz) :=
  h.others g _ hg (fun e => hb (Option.some.inj e)) (fun c fz' e => by injection e with _ e _; exact hT e)
/-- the variable in which next keeps its reader -/
def BoxR (bx b : Nat) (w : World) : Prop := w.heap[bx]? = some (.cells #[.pointer (some ⟨b, 0, none⟩)] 62 (0, 0))
theorem BoxR.cell {bx b : Nat} {w : World} (h : BoxR bx b w) : w.cell? ⟨bx, 0, none⟩ = some (.pointer (some ⟨b, 0, none⟩)) := by rw [Lib.cell_of_heap h]; rfl
theorem BoxR.kept {B bx b : Nat} {w w' : World} (h : BoxR bx b w) (hk : Kept B b w w') (hb : bx ≠ b) : BoxR bx b w' := hk.row h hb (by decide)
theorem BoxR.drewN {bx b : Nat} {w : World} (h : BoxR bx b w) (n : Nat) : BoxR bx b (w.drewN n) := h
theorem BoxR.lt {bx b : Nat} {w : World} (h : BoxR bx b w) : bx < w.heap.size := (Array.getElem?_eq_some_iff.1 h).1

theorem BoxR.alloc {bx b : Nat} {w : World} (h : BoxR bx b w) (o : Obj) : BoxR bx b (w.alloc o) := (Lib.alloc_old w o bx h.lt).trans h
theorem room_few {cur : Option (List UInt8)} {out : List (List UInt8)} (h : out.length < 32) : Sp.Room cur out := fun e => by omega
/-- what next leaves: an error that the machine has too, or a word, from whose end the machine goes on -/
def NextR (B b : Nat) (s : ByteArray) (j : Nat) (w : World) (e : Ending) (w' : World) : Prop :=
  ∃ (x : ByteArray) (e0 : Int), e = .returned (.tuple #[.string x, .int .i64 e0]) ∧ Kept B b w w' ∧
    ((e0 ≠ 0 ∧ ∀ out : List (List UInt8), out.length < 32 → Sp.M 0 none 0 out (s.data.toList.drop j) = .error e0) ∨
     (e0 = 0 ∧ ∃ (j' : Nat) (l' : List UInt8), (j < j' ∧ j' ≤ s.size ∧ l'.length ≤ j') ∧ x.size ≤ s.size ∧ Wr B b s j' l' w' ∧ ∀ out : List (List UInt8), out.length < 32 → Sp.M 0 none 0 out (s.data.toList.drop j) = Sp.M 0 none 0 (out ++ [x.data.toList]) (s.data.toList.drop j')))

set_option maxHeartbeats 1000000 in
theorem wtake_any (B b bx bc : Nat) (s : ByteArray) (j : Nat) (l : List UInt8) (w : World) (h : Wr B b s j l w) (hj : j < s.size) (hs : s.size ≤ 140737488355328) (hl : l.length ≤ j) (q : UInt8) (hq : q = 39 ∨ q = 34) (hx : BoxR bx b w) (hc : w.cell? ⟨bc, 0, none⟩ = some (.int .u8 q.toNat)) :
    Calls Tryz.prog 64 #[.pointer (some ⟨bx, 0, none⟩), .pointer (some ⟨bc, 0, none⟩)] w (QuotedR B b s j l q w) := by
  have HQ := Lib.hid (wquoted_any B b s j l w h hj hs hl q hq)
  have c0 := hx.cell
  clear h hx hl hq
  go_enter Tryz.func64, Tryz.ntmps64
  go_wp2_with fail
  refine HQ.out.mono ?_
  rintro e w2 ⟨e0, rfl, hr⟩
  go_wp2
  go_ret
  exact ⟨e0, rfl, hr⟩

set_option maxHeartbeats 4000000 in
set_option maxRecDepth 100000 in
theorem wnext_any (B b : Nat) (s : ByteArray) (j : Nat) (l : List UInt8) (w : World) (h : Wr B b s j l w) (hj : j < s.size) (hs : s.size ≤ 140737488355328) (hb0 : Sp.blankC s[j] = false) :
    Calls Tryz.prog 35 #[.pointer (some ⟨b, 0, none⟩)] w (NextR B b s j w) := by
  obtain ⟨bx, hbx⟩ : ∃ bx, bx = w.heap.size := ⟨_, rfl⟩
  have hblt := h.lt
  have hbb : bx ≠ b := by omega
  have hBw : B ≤ w.heap.size := by obtain ⟨_, _, h⟩ := h; exact h.base
  have HB : Hid (BoxR w.heap.size b (w.alloc (.cells #[.pointer (some ⟨b, 0, none⟩)] 62))) := Lib.hid Array.getElem?_push_size
  have HC : Hid (w.heap.size = bx) := Lib.hid hbx.symm
  have HR := Lib.hid (wr_reset B b s j l _ (h.alloc (.cells #[.pointer (some ⟨b, 0, none⟩)] 62)))
  have HK := Lib.hid ((Kept.refl B b w).alloc hBw (.cells #[.pointer (some ⟨b, 0, none⟩)] 62))
  have HB0 := Lib.hid hb0
  clear h hblt hb0
  go_enter Tryz.func35, Tryz.ntmps35
  go_wp2_with fail
  refine HR.out.mono ?_
  rintro e w1 ⟨rfl, hw1, hk1⟩
  have HW1 := Lib.hid hw1
  have HX1 : Hid (BoxR bx b w1) := Lib.hid (by rw [hbx] at hbb ⊢; exact HB.out.kept hk1 hbb)
  have HK1 := Lib.hid (HK.out.trans hk1)
  clear hw1 hk1 HB HR HK
  rw [HC.out]
  clear hbx
  go_wp2_with fail
  go_loopg [26] (s.size - j) (fun g _ wr => ∃ (i : Nat) (l' : List UInt8), (j ≤ i ∧ i ≤ s.size ∧ s.size - i ≤ g ∧ l'.length ≤ i) ∧ Hid (Wr B b s i l' wr ∧ Kept B b w wr ∧ BoxR bx b wr) ∧ Hid (∃ cur : Option (List UInt8), cur.getD [] = l' ∧ (cur = none → i = j) ∧ ∀ out : List (List UInt8), out.length < 32 → Sp.M 0 none 0 out (s.data.toList.drop j) = Sp.M 0 cur 0 out (s.data.toList.drop i)))
  case atStart => exact ⟨j, [], ⟨Nat.le_refl _, by omega, Nat.le_refl _, Nat.zero_le _⟩, Lib.hid ⟨HW1.out, HK1.out, HX1.out⟩, Lib.hid ⟨none, rfl, fun _ => rfl, fun _ _ => rfl⟩⟩
  case round =>
    obtain ⟨i, l', ⟨hi1, hi2, hg, hl'⟩, HR, HM⟩ := hrel
    obtain ⟨p, v, hat⟩ := HR.out.1
    have d0 := hat.c0
    have d1 := hat.c1
    have d2 := HR.out.2.2.cell
    have HAT := Lib.hid hat
    clear hat HW1 HK1 HX1
    by_cases hlt : i < s.size
    · have HE := Lib.hid (fun n => wend_any B b s i l' (wr.drewN n) (HR.out.1.drewN n) false (by simp; omega))
      cases hbl : Sp.blankC s[i] with
      | true =>
        have HBL := Lib.hid (blank_any s[i] true hbl)
        have HBF := Lib.hid hbl
        have HNE : Hid (i ≠ j) := Lib.hid (fun e => by subst e; rw [HB0.out] at hbl; cases hbl)
        clear hbl
        go_wp2
        go_quiet (first | (go_at_call 33; exact Calls.quiet_of (HE.out _)) | (go_at_call 61; exact Calls.quiet_of_same (HBL.out _)))
        have e2 : (wr.drewN nq).cell? ⟨bx, 0, none⟩ = some (.pointer (some ⟨b, 0, none⟩)) := d2
        have HW2 := Lib.hid (wr_string B b s i l' _ (HR.out.1.drewN nq))
        have HK2 := Lib.hid (HR.out.2.1.drewN nq)
        clear d0 d1 d2
        generalize wr.drewN nq = w2 at e2 HW2 HK2 ⊢
        go_wp2_with fail
        refine HW2.out.mono ?_
        rintro e w3 ⟨rfl, hw3, hk3⟩
        go_wp2
        go_ret2
        obtain ⟨cur, h1, h2, h3⟩ := HM.out
        refine ⟨⟨l'.toArray⟩, 0, rfl, HK2.out.trans hk3, .inr ⟨rfl, i, l', ⟨?_, hi2, hl'⟩, by show l'.toArray.size ≤ _; simp; omega, hw3, fun out ho => ?_⟩⟩
        · have := HNE.out; omega
        · cases hcur : cur with
          | none => exact absurd (h2 hcur) (HNE.out)
          | some y =>
            rw [h3 out ho, hcur]
            rw [hcur] at h1
            rw [← h1]
            rw [drop_at s i hlt, Sp.M_blank _ _ _ _ HBF.out, Sp.M_blank _ _ _ _ HBF.out]
            simp
      | false =>
        have HBL := Lib.hid (blank_any s[i] false hbl)
        have HBF := Lib.hid hbl
        clear hbl
        by_cases hc : s[i] = 39 ∨ s[i] = 34
        · have hq1 : ((s[i].toNat : Int) == 39) = true ∨ (((s[i].toNat : Int) == 39) = false ∧ ((s[i].toNat : Int) == 34) = true) := by
            by_cases h39 : s[i] = 39
            · exact .inl ((byte_is s[i] 39).trans (decide_eq_true h39))
            · exact .inr ⟨(byte_is s[i] 39).trans (decide_eq_false h39), (byte_is s[i] 34).trans (decide_eq_true (hc.resolve_left h39))⟩
          have HCC := Lib.hid hc
          have HQ1 := Lib.hid hq1
          clear hq1 hc
          go_wp2
          go_quiet (first | (go_at_call 33; exact Calls.quiet_of (HE.out _)) | (go_at_call 61; exact Calls.quiet_of_same (HBL.out _)))
          have e0 : (wr.drewN nq).cell? ⟨b, 0, none⟩ = some (.string s) := d0
          have e1 : (wr.drewN nq).cell? ⟨b, 1, none⟩ = some (.int .i64 i) := d1
          have e2 : (wr.drewN nq).cell? ⟨bx, 0, none⟩ = some (.pointer (some ⟨b, 0, none⟩)) := d2
          have HW2 := Lib.hid (HR.out.1.drewN nq)
          have HK2 := Lib.hid (HR.out.2.1.drewN nq)
          have HX2 := Lib.hid (HR.out.2.2.drewN nq)
          clear d0 d1 d2
          generalize wr.drewN nq = w2 at e0 e1 e2 HW2 HK2 HX2 ⊢
          have l1 : b < w2.heap.size := HW2.out.lt
          have l2 : bx < w2.heap.size := HX2.out.lt
          have m0 : (w2.alloc (.cells #[.int .u8 0] 5)).cell? ⟨b, 0, none⟩ = some (.string s) := (World.cell?_alloc_lt w2 _ _ l1).trans e0
          have m1 : (w2.alloc (.cells #[.int .u8 0] 5)).cell? ⟨b, 1, none⟩ = some (.int .i64 i) := (World.cell?_alloc_lt w2 _ _ l1).trans e1
          have m2 : (w2.alloc (.cells #[.int .u8 0] 5)).cell? ⟨bx, 0, none⟩ = some (.pointer (some ⟨b, 0, none⟩)) := (World.cell?_alloc_lt w2 _ _ l2).trans e2
          clear l1 l2
          go_wp2
          go_region
          have HB2 := Lib.hid (show B ≤ w2.heap.size by obtain ⟨_, _, h⟩ := HW2.out; exact h.base)
          clear m0 m1 m2 e0 e1 e2
          rcases HQ1.out with t1 | ⟨t1, t2⟩
          · have HT := Lib.hid (wtake_any B b bx w2.heap.size s i l' _ (((HW2.out.alloc (.cells #[.int .u8 s[i].toNat] 5))).drewN 1) hlt hs hl' s[i] HCC.out (HX2.out.alloc _) (by show (w2.alloc _).cell? _ = _; rw [Lib.cell_of_heap Array.getElem?_push_size]; rfl))
            have HK3 := Lib.hid ((HK2.out.alloc HB2.out (.cells #[.int .u8 s[i].toNat] 5)).drewN 1)
            have HX3 := Lib.hid ((HX2.out.alloc (.cells #[.int .u8 s[i].toNat] 5)))
            go_wp2_with fail
            refine HT.out.mono ?_
            rintro e w5 ⟨e5, rfl, hk5, hm5⟩
            have HK5 := Lib.hid (HK3.out.trans hk5)
            have HX5 : Hid (BoxR bx b w5) := Lib.hid (BoxR.kept (w := (w2.alloc (.cells #[.int .u8 s[i].toNat] 5)).drewN 1) HX3.out hk5 hbb)
            clear hk5
            rcases hm5 with ⟨hne, hm5⟩ | ⟨rfl, i5, l5, hb5, hw5, hm5⟩
            · have he5 : (e5 == 0) = false := by simpa using hne
              have HM5 := Lib.hid hm5
              clear hm5 hne
              go_wp2
              go_ret2
              obtain ⟨cur, h1, h2, h3⟩ := HM.out
              refine ⟨⟨#[]⟩, e5, rfl, HK5.out, .inl ⟨by simpa using he5, fun out ho => ?_⟩⟩
              rw [h3 out ho, drop_at s i hlt, Sp.M_quote cur out _ _ (room_few ho) HCC.out, h1]
              exact HM5.out out
            · have HM5 := Lib.hid hm5
              have HW5 := Lib.hid hw5
              clear hm5 hw5
              go_wp2
              go_roundg (s.size - i5)
              case measure => omega
              case rel =>
                obtain ⟨cur, h1, h2, h3⟩ := HM.out
                refine ⟨i5, l5, ⟨by omega, by omega, Nat.le_refl _, by omega⟩, Lib.hid ⟨HW5.out, HK5.out, HX5.out⟩, Lib.hid ⟨some l5, rfl, fun e => by (cases e), fun out ho => ?_⟩⟩
                rw [h3 out ho, drop_at s i hlt, Sp.M_quote cur out _ _ (room_few ho) HCC.out, h1]
                exact HM5.out out
          · have HT := Lib.hid (wtake_any B b bx w2.heap.size s i l' _ (((HW2.out.alloc (.cells #[.int .u8 s[i].toNat] 5))).drewN 1) hlt hs hl' s[i] HCC.out (HX2.out.alloc _) (by show (w2.alloc _).cell? _ = _; rw [Lib.cell_of_heap Array.getElem?_push_size]; rfl))
            have HK3 := Lib.hid ((HK2.out.alloc HB2.out (.cells #[.int .u8 s[i].toNat] 5)).drewN 1)
            have HX3 := Lib.hid ((HX2.out.alloc (.cells #[.int .u8 s[i].toNat] 5)))
            go_wp2_with fail
            refine HT.out.mono ?_
            rintro e w5 ⟨e5, rfl, hk5, hm5⟩
            have HK5 := Lib.hid (HK3.out.trans hk5)
            have HX5 : Hid (BoxR bx b w5) := Lib.hid (BoxR.kept (w := (w2.alloc (.cells #[.int .u8 s[i].toNat] 5)).drewN 1) HX3.out hk5 hbb)
            clear hk5
            rcases hm5 with ⟨hne, hm5⟩ | ⟨rfl, i5, l5, hb5, hw5, hm5⟩
            · have he5 : (e5 == 0) = false := by simpa using hne
              have HM5 := Lib.hid hm5
              clear hm5 hne
              go_wp2
              go_ret2
              obtain ⟨cur, h1, h2, h3⟩ := HM.out
              refine ⟨⟨#[]⟩, e5, rfl, HK5.out, .inl ⟨by simpa using he5, fun out ho => ?_⟩⟩
              rw [h3 out ho, drop_at s i hlt, Sp.M_quote cur out _ _ (room_few ho) HCC.out, h1]
              exact HM5.out out
            · have HM5 := Lib.hid hm5
              have HW5 := Lib.hid hw5
              clear hm5 hw5
              go_wp2
              go_roundg (s.size - i5)
              case measure => omega
              case rel =>
                obtain ⟨cur, h1, h2, h3⟩ := HM.out
                refine ⟨i5, l5, ⟨by omega, by omega, Nat.le_refl _, by omega⟩, Lib.hid ⟨HW5.out, HK5.out, HX5.out⟩, Lib.hid ⟨some l5, rfl, fun e => by (cases e), fun out ho => ?_⟩⟩
                rw [h3 out ho, drop_at s i hlt, Sp.M_quote cur out _ _ (room_few ho) HCC.out, h1]
                exact HM5.out out
        · have t1 : ((s[i].toNat : Int) == 39) = false := (byte_is s[i] 39).trans (decide_eq_false (fun e => hc (.inl e)))
          have t2 : ((s[i].toNat : Int) == 34) = false := (byte_is s[i] 34).trans (decide_eq_false (fun e => hc (.inr e)))
          have HCC := Lib.hid hc
          clear hc
          go_wp2
          go_quiet (first | (go_at_call 33; exact Calls.quiet_of (HE.out _)) | (go_at_call 61; exact Calls.quiet_of_same (HBL.out _)))
          have e0 : (wr.drewN nq).cell? ⟨b, 0, none⟩ = some (.string s) := d0
          have e1 : (wr.drewN nq).cell? ⟨b, 1, none⟩ = some (.int .i64 i) := d1
          have e2 : (wr.drewN nq).cell? ⟨bx, 0, none⟩ = some (.pointer (some ⟨b, 0, none⟩)) := d2
          have HW2 := Lib.hid (HR.out.1.drewN nq)
          have HK2 := Lib.hid (HR.out.2.1.drewN nq)
          have HX2 := Lib.hid (HR.out.2.2.drewN nq)
          clear d0 d1 d2
          generalize wr.drewN nq = w2 at e0 e1 e2 HW2 HK2 HX2 ⊢
          have l1 : b < w2.heap.size := HW2.out.lt
          have l2 : bx < w2.heap.size := HX2.out.lt
          have m0 : (w2.alloc (.cells #[.int .u8 0] 5)).cell? ⟨b, 0, none⟩ = some (.string s) := (World.cell?_alloc_lt w2 _ _ l1).trans e0
          have m1 : (w2.alloc (.cells #[.int .u8 0] 5)).cell? ⟨b, 1, none⟩ = some (.int .i64 i) := (World.cell?_alloc_lt w2 _ _ l1).trans e1
          have m2 : (w2.alloc (.cells #[.int .u8 0] 5)).cell? ⟨bx, 0, none⟩ = some (.pointer (some ⟨b, 0, none⟩)) := (World.cell?_alloc_lt w2 _ _ l2).trans e2
          clear l1 l2
          go_wp2
          go_region
          have HB2 := Lib.hid (show B ≤ w2.heap.size by obtain ⟨_, _, h⟩ := HW2.out; exact h.base)
          have HW3 := Lib.hid ((HW2.out.alloc (.cells #[.int .u8 s[i].toNat] 5)).drewN 1)
          have HK3 := Lib.hid ((HK2.out.alloc HB2.out (.cells #[.int .u8 s[i].toNat] 5)).drewN 1)
          have HX3 := Lib.hid ((HX2.out.alloc (.cells #[.int .u8 s[i].toNat] 5)).drewN 1)
          clear m0 m1 m2 e0 e1 e2
          cases hx : Sp.oneS s[i] (s.data.toList.drop (i + 1)) with
          | error e5 =>
            have he5 : (e5 == 0) = false := by simpa using Sp.one_ne _ _ _ hx
            have HO := Lib.hid (wone_err B b s i l' _ HW3.out hlt hs e5 hx)
            have HXX := Lib.hid hx
            clear hx
            go_wp2_with fail
            refine HO.out.mono ?_
            rintro e w5 ⟨rfl, n5, rfl⟩
            go_wp2
            go_ret2
            obtain ⟨cur, h1, h2, h3⟩ := HM.out
            refine ⟨⟨#[]⟩, e5, rfl, (by have := HK3.out.drewN n5; rwa [World.drewN_drewN] at this), .inl ⟨by simpa using he5, fun out ho => ?_⟩⟩
            rw [h3 out ho, drop_at s i hlt]
            exact Sp.M_one_err cur 0 out _ _ (room_few ho) e5 HXX.out
          | ok z =>
            obtain ⟨c5, n5⟩ := z
            have hlen := Sp.one_len _ _ _ _ hx
            rw [List.length_drop, show s.data.toList.length = s.size by simp] at hlen
            have HO := Lib.hid (wone_ok B b s i l' _ HW3.out hlt hs hl' c5 n5 hx)
            have HXX := Lib.hid hx
            clear hx
            go_wp2_with fail
            refine HO.out.mono ?_
            rintro e w5 ⟨rfl, hw5, hk5⟩
            have HW5 := Lib.hid hw5
            have HK5 := Lib.hid (HK3.out.trans hk5)
            have HX5 : Hid (BoxR bx b w5) := Lib.hid (HX3.out.kept hk5 hbb)
            clear hw5 hk5
            go_wp2
            go_roundg (s.size - (i + n5))
            case measure => omega
            case rel =>
              obtain ⟨cur, h1, h2, h3⟩ := HM.out
              refine ⟨i + n5, l' ++ [c5], ⟨by omega, by omega, Nat.le_refl _, by simp; omega⟩, Lib.hid ⟨HW5.out, HK5.out, HX5.out⟩, Lib.hid ⟨some (l' ++ [c5]), rfl, fun e => by (cases e), fun out ho => ?_⟩⟩
              rw [h3 out ho, drop_at s i hlt, Sp.M_one_ok cur 0 out _ _ (room_few ho) (fun _ => ⟨HBF.out, fun e => HCC.out (.inl e), fun e => HCC.out (.inr e)⟩) (fun e => absurd rfl e) c5 n5 HXX.out, ← drop_at s i hlt, List.drop_drop, h1]
    · have HE := Lib.hid (fun n => wend_any B b s i l' (wr.drewN n) (HR.out.1.drewN n) true (by simp; omega))
      have HNE : Hid (i ≠ j) := Lib.hid (fun e => by subst e; exact hlt hj)
      go_wp2
      go_quiet (first | (go_at_call 33; exact Calls.quiet_of (HE.out _)))
      have e2 : (wr.drewN nq).cell? ⟨bx, 0, none⟩ = some (.pointer (some ⟨b, 0, none⟩)) := d2
      have HW2 := Lib.hid (wr_string B b s i l' _ (HR.out.1.drewN nq))
      have HK2 := Lib.hid (HR.out.2.1.drewN nq)
      clear d0 d1 d2
      generalize wr.drewN nq = w2 at e2 HW2 HK2 ⊢
      go_wp2_with fail
      refine HW2.out.mono ?_
      rintro e w3 ⟨rfl, hw3, hk3⟩
      go_wp2
      go_ret2
      obtain ⟨cur, h1, h2, h3⟩ := HM.out
      refine ⟨⟨l'.toArray⟩, 0, rfl, HK2.out.trans hk3, .inr ⟨rfl, i, l', ⟨?_, hi2, hl'⟩, by show l'.toArray.size ≤ _; simp; omega, hw3, fun out ho => ?_⟩⟩
      · have := HNE.out; omega
      · cases hcur : cur with
        | none => exact absurd (h2 hcur) (HNE.out)
        | some y =>
          rw [h3 out ho, hcur]
          rw [hcur] at h1
          rw [← h1]
          rw [drop_end s i (by omega), Sp.M_end, Sp.M_end]
          simp

end Go.Proofs.YtijfeeiplljnjaaGreatDoor
