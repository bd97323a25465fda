/-
  Going over fields, step by step: what is left to be gone over, and what will have been written then.
-/
import Derived.Test.YtkgkipohalekmaaDoorBt
import Derived.Deep.Cut
namespace Go.Proofs.YtkgkipohalekmaaDoor
open Go.RowKit Go.Shelf
theorem na_int (a : Addr) (w : World) : (nilAhead 302 80 (.pointer (some a)) "Int").run Tryd.prog w = .ok (some false) w := by kernel_rfl
theorem na_bool (a : Addr) (w : World) : (nilAhead 302 80 (.pointer (some a)) "Bool").run Tryd.prog w = .ok (some false) w := by kernel_rfl
theorem na_text (a : Addr) (w : World) : (nilAhead 302 80 (.pointer (some a)) "Text").run Tryd.prog w = .ok (some false) w := by kernel_rfl
theorem na_len (a : Addr) (w : World) : (nilAhead 302 80 (.pointer (some a)) "Len").run Tryd.prog w = .ok (some false) w := by kernel_rfl
theorem me_int (a : Addr) (w : World) : (method 302 80 (.pointer (some a)) "Int").run Tryd.prog w = .ok (101, .pointer (some a)) w := by kernel_rfl
theorem me_bool (a : Addr) (w : World) : (method 302 80 (.pointer (some a)) "Bool").run Tryd.prog w = .ok (100, .pointer (some a)) w := by kernel_rfl
theorem me_text (a : Addr) (w : World) : (method 302 80 (.pointer (some a)) "Text").run Tryd.prog w = .ok (103, .pointer (some a)) w := by kernel_rfl
theorem me_len (a : Addr) (w : World) : (method 302 80 (.pointer (some a)) "Len").run Tryd.prog w = .ok (102, .pointer (some a)) w := by kernel_rfl
theorem me_bad (a : Addr) (w : World) : (method 302 80 (.pointer (some a)) "Bad").run Tryd.prog w = .ok (99, .pointer (some a)) w := by kernel_rfl
/-- cells from i on, of types q, are left in the box at (blk, o); with them all S will have been written -/
def Gst (W0 : World) (wb blk o i : Nat) (S : List UInt8) (q : List Ty) (w0 w : World) : Prop :=
  ∃ s cs vs, St W0 wb s w ∧ Bx W0 wb blk (o + i) vs w ∧ Ce.Ats W0 W0.heap.size cs vs ∧ Ce.Oks cs q ∧ s ++ Ce.txts cs = S ∧ s.length + 23 * Ce.bulks cs ≤ 100000000 ∧ Chg wb blk o i w0 w
section
variable {W0 w0 w w' : World} {wb blk o i : Nat} {S : List UInt8} {q : List Ty}
theorem Gst.keep (h : Gst W0 wb blk o i S q w0 w) (hb : Below w.heap.size w w') : Gst W0 wb blk o i S q w0 w' := by
  obtain ⟨s, cs, vs, h1, h2, h3, h4, h5, h6, h7⟩ := h
  refine ⟨s, cs, vs, h1.keep hb, h2.keep hb, h3, h4, h5, h6, ?_⟩
  have hc : Chg wb blk (o + i) 0 w w' := ⟨Oth.below hb, fun cells t hc _ => ⟨cells, (hb.block blk (Array.getElem?_eq_some_iff.1 hc).1).trans hc, rfl, fun _ _ => rfl, id⟩⟩
  exact h7.step hc
theorem Gst.lt (h : Gst W0 wb blk o i S q w0 w) : blk < w.heap.size := by
  obtain ⟨s, cs, vs, _, h2, _⟩ := h
  exact h2.lt
theorem Gst.wlt (h : Gst W0 wb blk o i S q w0 w) : wb < w.heap.size := by
  obtain ⟨s, cs, vs, h1, _⟩ := h
  exact h1.wu.lt
theorem Gst.ne (h : Gst W0 wb blk o i S q w0 w) : blk ≠ wb := by
  obtain ⟨s, cs, vs, _, h2, _⟩ := h
  exact h2.ne
theorem Gst.hb (h : Gst W0 wb blk o i S q w0 w) : Below W0.heap.size W0 w := by
  obtain ⟨s, cs, vs, h1, _⟩ := h
  exact h1.hb
/-- one cell more is done -/
theorem Gst.one {t : Ty} {s : List UInt8} {c : Ce} {r : List Ce} {v : Value} {us : List Value} (h1 : St W0 wb (s ++ c.txt) w') (h2 : Bx W0 wb blk (o + i) (v :: us) w) (h3 : Ce.Ats W0 W0.heap.size r us) (ht : c.Ok t) (h4 : Ce.Oks r q) (h5 : s ++ Ce.txts (c :: r) = S) (h6 : s.length + 23 * Ce.bulks (c :: r) ≤ 100000000) (h7 : Chg wb blk o i w0 w) (hc : Chg wb blk (o + i) 1 w w') :
    Gst W0 wb blk o (i + 1) S q w0 w' := by
  refine ⟨s ++ c.txt, r, us, h1, by have := h2.step hc; simpa [Nat.add_assoc] using this, h3, h4, ?_, ?_, h7.step hc⟩
  · rw [← h5, Ce.txts, List.append_assoc]
  · have := Ce.txt_len c t ht
    rw [Ce.bulks] at h6
    rw [List.length_append]
    omega
theorem stp_int (E : Env W0) (p : Nat) (h : Gst W0 wb blk o i S (.i :: q) w0 w) (hp : p = o + i) :
    Calls Tryd.prog 101 #[.pointer (some ⟨wb, 0, none⟩), .pointer (some ⟨blk, p, none⟩)] w fun e w' => e = .returned (.tuple #[]) ∧ Gst W0 wb blk o (i + 1) S q w0 w' := by
  subst hp
  obtain ⟨s, cs, vs, h1, h2, h3, h4, h5, h6, h7⟩ := h
  match cs, h3, h4, h5, h6 with
  | .i n :: r, m3, h4, h5, h6 =>
    unfold Ce.Ats at m3
    obtain ⟨v, us, rfl, hv, a3⟩ := m3
    unfold Ce.At at hv
    subst hv
    unfold Ce.Oks at h4
    have hn := h4.1
    unfold Ce.Ok at hn
    refine (w_int W0 w wb s ⟨blk, o + i, none⟩ n E h1 (by have := h2.cell 0 rfl; simpa using this) hn.1 hn.2 (by omega) (h2.po _) h2.ne).mono ?_
    rintro e w' ⟨rfl, g1, g2⟩
    exact ⟨rfl, Gst.one (c := .i n) (by unfold Ce.txt; exact g1) h2 a3 h4.1 h4.2 h5 h6 h7 (Chg.of_oth g2 h2.ne)⟩
  | .b _ :: _, _, h4, _, _ => unfold Ce.Oks Ce.Ok at h4; exact h4.1.elim
  | .s _ :: _, _, h4, _, _ => unfold Ce.Oks Ce.Ok at h4; exact h4.1.elim
  | .l _ _ :: _, _, h4, _, _ => unfold Ce.Oks Ce.Ok at h4; exact h4.1.elim
  | [], _, h4, _, _ => unfold Ce.Oks at h4; exact h4.elim
theorem stp_bool (E : Env W0) (p : Nat) (h : Gst W0 wb blk o i S (.b :: q) w0 w) (hp : p = o + i) :
    Calls Tryd.prog 100 #[.pointer (some ⟨wb, 0, none⟩), .pointer (some ⟨blk, p, none⟩)] w fun e w' => e = .returned (.tuple #[]) ∧ Gst W0 wb blk o (i + 1) S q w0 w' := by
  subst hp
  obtain ⟨s, cs, vs, h1, h2, h3, h4, h5, h6, h7⟩ := h
  match cs, h3, h4, h5, h6 with
  | .b n :: r, m3, h4, h5, h6 =>
    unfold Ce.Ats at m3
    obtain ⟨v, us, rfl, hv, a3⟩ := m3
    unfold Ce.At at hv
    subst hv
    unfold Ce.Oks at h4
    refine (w_bool W0 w wb s ⟨blk, o + i, none⟩ n E h1 (by have := h2.cell 0 rfl; simpa using this) (by omega)).mono ?_
    rintro e w' ⟨rfl, g1, g2⟩
    exact ⟨rfl, Gst.one (c := .b n) (by unfold Ce.txt; exact g1) h2 a3 h4.1 h4.2 h5 h6 h7 (Chg.of_oth g2 h2.ne)⟩
  | .i _ :: _, _, h4, _, _ => unfold Ce.Oks Ce.Ok at h4; exact h4.1.elim
  | .s _ :: _, _, h4, _, _ => unfold Ce.Oks Ce.Ok at h4; exact h4.1.elim
  | .l _ _ :: _, _, h4, _, _ => unfold Ce.Oks Ce.Ok at h4; exact h4.1.elim
  | [], _, h4, _, _ => unfold Ce.Oks at h4; exact h4.elim
theorem stp_text (E : Env W0) (p : Nat) (h : Gst W0 wb blk o i S (.s :: q) w0 w) (hp : p = o + i) :
    Calls Tryd.prog 103 #[.pointer (some ⟨wb, 0, none⟩), .pointer (some ⟨blk, p, none⟩)] w fun e w' => e = .returned (.tuple #[]) ∧ Gst W0 wb blk o (i + 1) S q w0 w' := by
  subst hp
  obtain ⟨s, cs, vs, h1, h2, h3, h4, h5, h6, h7⟩ := h
  match cs, h3, h4, h5, h6 with
  | .s n :: r, m3, h4, h5, h6 =>
    unfold Ce.Ats at m3
    obtain ⟨v, us, rfl, hv, a3⟩ := m3
    unfold Ce.At at hv
    subst hv
    unfold Ce.Oks at h4
    have h6' := h6
    simp only [Ce.bulks, Ce.bulk] at h6'
    refine (w_text W0 w wb s ⟨blk, o + i, none⟩ n E h1 (by have := h2.cell 0 rfl; simpa using this) (by omega) (by omega) (h2.po _) h2.ne).mono ?_
    rintro e w' ⟨rfl, g1, g2⟩
    exact ⟨rfl, Gst.one (c := .s n) (by unfold Ce.txt; exact g1) h2 a3 h4.1 h4.2 h5 h6 h7 (Chg.of_oth g2 h2.ne)⟩
  | .i _ :: _, _, h4, _, _ => unfold Ce.Oks Ce.Ok at h4; exact h4.1.elim
  | .b _ :: _, _, h4, _, _ => unfold Ce.Oks Ce.Ok at h4; exact h4.1.elim
  | .l _ _ :: _, _, h4, _, _ => unfold Ce.Oks Ce.Ok at h4; exact h4.1.elim
  | [], _, h4, _, _ => unfold Ce.Oks at h4; exact h4.elim
end
set_option maxRecDepth 100000 in
set_option maxHeartbeats 4000000 in
theorem relation_w {W0 w0 w : World} {wb blk o i : Nat} {S : List UInt8} {q : List Ty} (E : Env W0) (p : Nat) (h : Gst W0 wb blk o i S (.i :: .s :: q) w0 w) (hp : p = o + i) :
    Calls Tryd.prog 61 #[.iface 80 (.pointer (some ⟨wb, 0, none⟩)), .pointer (some ⟨blk, p, none⟩)] w fun e w' => e = .returned (.tuple #[]) ∧ Gst W0 wb blk o (i + 2) S q w0 w' := by
  have q1 := na_int
  have q2 := na_text
  have q3 := me_int
  have q4 := me_text
  have HP := Lib.hid hp
  have HG := Lib.hid (h.keep (Below.drew (Below.refl _ w)))
  clear h hp
  go_enter Tryd.func61, Tryd.ntmps61
  go_upto_region 0 with fail
  go_still_tail 7, (by kernel_rfl)
  change wpList _ _ _ _ _ w.drew
  generalize w.drew = w2 at *
  go_wp2_with fail
  refine (stp_int E _ HG.out (by have := HP.out; omega)).mono ?_
  rintro e w3 ⟨rfl, h3⟩
  replace HG := Lib.hid (h3.keep (Below.drew (Below.refl _ w3)))
  clear h3
  go_upto_region 1 with fail
  go_still_tail 7, (by kernel_rfl)
  change wpList _ _ _ _ _ w3.drew
  generalize w3.drew = w4 at *
  go_wp2_with fail
  refine (stp_text E _ HG.out (by have := HP.out; omega)).mono ?_
  rintro e w5 ⟨rfl, h5⟩
  replace HG := Lib.hid h5
  clear h5
  go_wp2
  go_end0
  exact ⟨rfl, HG.out⟩

end Go.Proofs.YtkgkipohalekmaaDoor
