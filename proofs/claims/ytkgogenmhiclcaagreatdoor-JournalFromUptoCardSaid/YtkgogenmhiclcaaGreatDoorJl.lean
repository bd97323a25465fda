/-
  The laws about reading a log from a cursor on, and about what is kept of one: their walks.
-/
import Derived.Test.YtkgogenmhiclcaaGreatDoorJk
import Derived.Test.YtkgogenmhiclcaaGreatDoorJo
namespace Go.Proofs.YtkgogenmhiclcaaGreatDoor
open Go.RowKit

set_option maxRecDepth 100000 in
set_option maxHeartbeats 8000000 in
theorem jfrom_any (D : RowsD) (s : ByteArray) (nn : Int) (w : World) (h : RowsGood w D) (hs : s.size ≤ 1048576) (E : Env w) :
    Calls Tryz.prog 4 #[rowsV D, .string s, .int .i64 nn] w fun e w' => e = .returned (.bool true) ∧ Below w.heap.size w w' := by
  obtain ⟨A, n, c, l⟩ := D
  have hrd : Rd w w.heap.size 5 A n (rowsC l) := h.rd
  have HG : Hid (GoodL l) := Lib.hid h.good
  have HRD := Lib.hid hrd
  clear h hrd
  show Calls Tryz.prog 4 #[.slice A n c, .string s, .int .i64 nn] w _
  go_enter Tryz.func4, Tryz.ntmps4
  go_wp2_with fail
  refine (shown_any w E).mono ?_
  rintro e w1 ⟨rfl, hb1⟩
  have HB1 := Lib.hid hb1
  clear hb1
  by_cases hn : n > 300
  · have x1 : (n : Int) > 300 := by omega
    go_wp2
    go_ret
    exact ⟨rfl, HB1.out⟩
  · have x1 : ¬ (n : Int) > 300 := by omega
    have HF1 := Lib.hid (fun W (h : Rd W w.heap.size 5 A n (rowsC l) ∧ w.heap.size ≤ W.heap.size) (E : Env W) => from_any l HG.out.fits A n c w.heap.size s nn W h.1 h.2 (by omega) hs E)
    have HF2 := Lib.hid (fun W (h : Rd W w.heap.size 5 A n (rowsC l) ∧ w.heap.size ≤ W.heap.size) => rfrom_any l HG.out.fits A n c w.heap.size s nn W (And.left h) (And.right h) (by omega) hs)
    have HSM := Lib.hid (fun A1 A2 c1 c2 B1 B2 w h1 h2 hB1 hB2 => same_any (Sp.fromRows l s nn) A1 A2 (Sp.fromRows l s nn).length c1 c2 B1 B2 w h1 h2 hB1 hB2 (by
      have h1 : (Sp.fromRows l s nn).length ≤ l.length := by
        rw [Sp.fromRows]
        split
        · exact Nat.zero_le _
        · exact Sp.out_le _ _ _ _
      have h2 : l.length = n := by have := HRD.out.1; rw [rowsC_len] at this; omega
      omega))
    have HRB : Hid (∀ W, Below w.heap.size w W → Rd W w.heap.size 5 A n (rowsC l) ∧ w.heap.size ≤ W.heap.size) := Lib.hid fun W hW => ⟨Rd.below HRD.out hW, hW.size⟩
    generalize Sp.fromRows l s nn = R at *
    generalize Sp.fromNext l s nn = X at *
    generalize Sp.fromErr l s = er at *
    generalize R.length = m at *
    go_wp2_with fail
    refine (HF1.out w1 (HRB.out _ HB1.out) (E.on HB1.out)).mono ?_
    rintro e w2 ⟨A2, c2, rfl, hr2, hb2⟩
    have HB2 : Hid (Below w.heap.size w w2) := Lib.hid (HB1.out.trans (hb2.mono HB1.out.size))
    have HR2 := Lib.hid hr2
    clear hr2 hb2 HB1 HF1
    go_wp2_with fail
    refine (HF2.out w2 (HRB.out _ HB2.out)).mono ?_
    rintro e w3 ⟨A3, c3, rfl, hr3, hb3⟩
    have HB3 : Hid (Below w.heap.size w w3) := Lib.hid (HB2.out.trans (hb3.mono HB2.out.size))
    have HR3 := Lib.hid hr3
    have HR2' := Lib.hid ((Rd.below HR2.out hb3).more hb3.size)
    clear hr3 hb3 HB2 HR2 HF2
    go_wp2_with fail
    refine (HSM.out _ _ _ _ _ _ _ HR2'.out HR3.out (Nat.le_refl _) (Nat.le_refl _)).mono ?_
    rintro e w4 ⟨rfl, hb4⟩
    have HB4 : Hid (Below w.heap.size w w4) := Lib.hid (HB3.out.trans (hb4.mono HB3.out.size))
    clear hb4 HB3
    go_wp2
    go_ret
    exact ⟨by simp, HB4.out⟩

end Go.Proofs.YtkgogenmhiclcaaGreatDoor
