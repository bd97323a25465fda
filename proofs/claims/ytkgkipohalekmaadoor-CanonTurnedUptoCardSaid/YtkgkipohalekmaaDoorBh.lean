/-
  A machine as a text, and whether two are the same: the program's walks.
-/
import Derived.Test.YtkgkipohalekmaaDoorBy
import Derived.Test.YtkgkipohalekmaaDoorBu
namespace Go.Proofs.YtkgkipohalekmaaDoor
open Go.RowKit Go.Shelf
/-- the bytes that stand ahead of all fields -/
def headB : List UInt8 := [109, 97, 116, 105, 110, 115, 49, 32]
def textM (cs : List Ce) : List UInt8 := headB ++ Ce.txts cs
theorem headB_data : (⟨#[109, 97, 116, 105, 110, 115, 49, 32]⟩ : ByteArray).data.toList = headB := rfl
theorem Below.fresh {w0 w : World} (h : Below w0.heap.size w0 w) : Below w0.heap.size w0 w := h
theorem head_w (W0 : World) (wb : Nat) (W : World) (h : St W0 wb [] W) : Calls Tryd.prog 22 #[.pointer (some ⟨wb, 0, none⟩), .string ⟨#[109, 97, 116, 105, 110, 115, 49, 32]⟩] W fun e w' => (∃ v, e = .returned v) ∧ St W0 wb headB w' ∧ Oth (· = wb) W w' := by
  obtain ⟨R, hR⟩ : ∃ R : ByteArray, R = ⟨#[109, 97, 116, 105, 110, 115, 49, 32]⟩ := ⟨_, rfl⟩
  have h1 : R.data.toList = headB := by rw [hR]; rfl
  have h2 : R.size ≤ 10000000 := by rw [hR]; decide
  rw [← hR]
  refine (st_write W0 wb [] R (Nat.zero_le _) h2 W h).mono ?_
  rintro e w' ⟨rfl, h3, h4⟩
  rw [h1, List.nil_append] at h3
  exact ⟨⟨_, rfl⟩, h3, h4⟩
set_option maxRecDepth 100000 in
set_option maxHeartbeats 8000000 in
theorem text_w (cs : List Ce) (vs : Array Value) (w : World) (E : Env w) (ha : Ce.Ats w w.heap.size cs vs.toList) (ho : Ce.Oks cs qMach) (hl : Ce.bulks cs ≤ 2097152) :
    Calls Tryd.prog 13 #[.agg vs] w fun e w' => e = .returned (.string ⟨(textM cs).toArray⟩) ∧ Below w.heap.size w w' := by
  have hb1 : Below w.heap.size w (w.alloc (.cells vs 34)) := (Below.refl _ _).alloc (Nat.le_refl _) _
  have hx1 := heap_alloc_new w (.cells vs 34)
  have hs1 : (w.alloc (.cells vs 34)).heap.size = w.heap.size + 1 := by simp
  have HA := Lib.hid ha
  have HO := Lib.hid ho
  have HL := Lib.hid hl
  clear ha ho hl
  go_enter Tryd.func13, Tryd.ntmps13
  go_upto_region 1 with fail
  generalize w.alloc (.cells vs 34) = w1 at *
  have HX1 := Lib.hid hx1
  have HB1 := Lib.hid hb1
  have hst : St w w1.heap.size [] (w1.alloc (.cells #[.pointer none, .slice none 0 0] 82)) := ⟨wu_fresh w1 w.heap.size hb1.size, hb1.trans (((Below.refl _ _).alloc (Nat.le_refl _) _).mono hb1.size)⟩
  have hx2 : (w1.alloc (.cells #[.pointer none, .slice none 0 0] 82)).heap[w.heap.size]? = some (.cells vs 34 (0, 0)) := by
    rw [← hx1]
    exact ((Below.refl _ w1).alloc (Nat.le_refl _) _).block w.heap.size (by omega)
  have hne : w.heap.size ≠ w1.heap.size := by omega
  clear hx1 hb1 hs1
  go_upto_region 2 with fail
  generalize w1.alloc (.cells #[.pointer none, .slice none 0 0] 82) = w2 at *
  have HS2 := Lib.hid hst
  have HX2 := Lib.hid hx2
  generalize w1.heap.size = wb at *
  clear hst hx2 HX1 HB1
  go_wp2_with fail
  refine (head_w w wb w2 HS2.out).mono ?_
  rintro e w3 ⟨⟨v3, rfl⟩, hs3, ho3⟩
  have hx3 := ho3.2 _ _ HX2.out hne (fun c fz e => by cases e)
  have HG : Hid (Gst w wb w.heap.size 0 0 (textM cs) (qMach ++ []) w3 w3) := Lib.hid (by
    rw [List.append_nil]
    refine ⟨headB, cs, vs.toList, hs3, ⟨⟨vs, 34, hx3, by decide, fun j v hj => ?_⟩, hne, Nat.le_refl _⟩, HA.out, HO.out, rfl, ?_, Chg.refl _ _ _ _⟩
    · rw [Nat.add_zero, Nat.zero_add, ← Array.getElem?_toList]
      exact hj
    · have := HL.out
      show 8 + _ ≤ _
      omega)
  clear hs3 ho3 hx3 HS2 HX2
  go_wp2_with fail
  refine (Machine_w (q := []) E 0 HG.out rfl).mono ?_
  rintro e w4 ⟨rfl, hg⟩
  obtain ⟨hs4, _⟩ := hg.done
  have HS4 := Lib.hid hs4
  clear hg hs4 HG
  go_wp2_with fail
  refine (wu_string w.heap.size wb (textM cs) w4 HS4.out.wu (by unfold textM headB; simp)).mono ?_
  rintro e w5 ⟨rfl, hb5⟩
  have HF := Lib.hid (HS4.out.hb.trans hb5)
  clear hb5
  go_wp2
  go_ret
  exact ⟨rfl, HF.out⟩

end Go.Proofs.YtkgkipohalekmaaDoor
