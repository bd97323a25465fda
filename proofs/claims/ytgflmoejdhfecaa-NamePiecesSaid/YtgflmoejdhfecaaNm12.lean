/-
  The walk of the statements' own example: names that are shown.
-/
import Derived.Test.YtgflmoejdhfecaaNm4
import Derived.Test.YtgflmoejdhfecaaNm7
import Derived.Test.YtgflmoejdhfecaaNm11
namespace Go.Proofs.Ytgflmoejdhfecaa
open Go.RowKit

theorem sh0 : Sp.partsL [97, 45, 98, 64, 120, 46, 121, 46, 115, 111, 99, 107, 101, 116] = ([97, 45, 98], [120, 46, 121], true) := by decide +kernel
theorem sh1 : Sp.instanceL [102, 64, 46, 116, 105, 109, 101, 114] [49] = ([102, 64, 49, 46, 116, 105, 109, 101, 114], true) := by decide +kernel
theorem sh2 : Sp.unescL [97, 45, 98, 92, 120, 50, 100] = some [97, 47, 98, 45] := by decide +kernel
theorem sh3 : Sp.mayL [97, 46, 115, 101, 114, 118, 105, 99, 101] = true := by decide +kernel
theorem sh4 : Sp.mayL [97, 46, 98] = false := by decide +kernel
theorem sh5 : Sp.kindL [120, 46, 116, 97, 114, 103, 101, 116] = 4 := by decide +kernel
theorem sh6 : Sp.templateL [102, 64, 49, 46, 116, 105, 109, 101, 114] = [102, 64, 46, 116, 105, 109, 101, 114] := by decide +kernel
theorem sh7 : Sp.changeL [97, 46, 115, 111, 99, 107, 101, 116] 1 = [97, 46, 115, 101, 114, 118, 105, 99, 101] := by decide +kernel
theorem sh8 : Sp.escL true [47, 97, 46, 98, 45] = [45, 97, 46, 98, 92, 120, 50, 100] := by decide +kernel

set_option maxHeartbeats 1000000 in
theorem shown_any (w : World) :
    Calls Try.prog 9 #[] w fun e w' => e = .returned (.bool true) ∧ Below w.heap.size w w' := by
  go_enter Try.func9, Try.ntmps9
  go_wp2_with fail
  refine (parts_any ⟨#[97, 45, 98, 64, 120, 46, 121, 46, 115, 111, 99, 107, 101, 116]⟩ _ (by decide)).mono ?_
  rintro e w1 ⟨rfl, h1⟩
  simp only [sh0]
  have hb1 := h1
  clear h1
  go_wp2_with fail
  refine (instance_any ⟨#[102, 64, 46, 116, 105, 109, 101, 114]⟩ ⟨#[49]⟩ _ (by decide) (by decide)).mono ?_
  rintro e w2 ⟨rfl, h2⟩
  simp only [sh1]
  have hb2 := hb1.trans (h2.mono hb1.size)
  clear h2 hb1
  go_wp2_with fail
  refine (unescape_any ⟨#[97, 45, 98, 92, 120, 50, 100]⟩ _ (by decide)).mono ?_
  rintro e w3 ⟨rfl, h3⟩
  simp only [sh2]
  have hb3 := hb2.trans (h3.mono hb2.size)
  clear h3 hb2
  go_wp2_with fail
  refine (may_any ⟨#[97, 46, 115, 101, 114, 118, 105, 99, 101]⟩ _ (by decide)).mono ?_
  rintro e w4 ⟨rfl, h4⟩
  simp only [sh3]
  have hb4 := hb3.trans (h4.mono hb3.size)
  clear h4 hb3
  go_wp2_with fail
  refine (may_any ⟨#[97, 46, 98]⟩ _ (by decide)).mono ?_
  rintro e w5 ⟨rfl, h5⟩
  simp only [sh4]
  have hb5 := hb4.trans (h5.mono hb4.size)
  clear h5 hb4
  go_wp2_with fail
  refine (kind_any ⟨#[120, 46, 116, 97, 114, 103, 101, 116]⟩ _ (by decide)).mono ?_
  rintro e w6 ⟨rfl, h6⟩
  simp only [sh5]
  have hb6 := hb5.trans (h6.mono hb5.size)
  clear h6 hb5
  go_wp2_with fail
  refine (template_any ⟨#[102, 64, 49, 46, 116, 105, 109, 101, 114]⟩ _ (by decide)).mono ?_
  rintro e w7 ⟨rfl, h7⟩
  simp only [sh6]
  have hb7 := hb6.trans (h7.mono hb6.size)
  clear h7 hb6
  go_wp2_with fail
  refine (change_any ⟨#[97, 46, 115, 111, 99, 107, 101, 116]⟩ 1 _ (by decide)).mono ?_
  rintro e w8 ⟨rfl, h8⟩
  simp only [sh7]
  have hb8 := hb7.trans (h8.mono hb7.size)
  clear h8 hb7
  go_wp2_with fail
  refine (escape_any ⟨#[47, 97, 46, 98, 45]⟩ _ (by decide)).mono ?_
  rintro e w9 ⟨rfl, h9⟩
  simp only [sh8]
  have hb9 := hb8.trans (h9.mono hb8.size)
  clear h9 hb8
  go_wp2
  go_ret
  exact ⟨rfl, hb9⟩
end Go.Proofs.Ytgflmoejdhfecaa
