/-
  A machine in short: the words of states, results, kinds of jobs.
-/
import Derived.Test.YtkgkipohalekmaaDoorBh
import Derived.Test.YtkgkipohalekmaaDoorBe
namespace Go.Proofs.YtkgkipohalekmaaDoor
open Go.RowKit Go.Shelf

def stateL : List (List UInt8) := [[100, 111, 119, 110], [112, 114, 101], [109, 97, 105, 110], [112, 111, 115, 116], [117, 112], [114, 101, 108, 111, 97, 100], [115, 116, 111, 112], [116, 111, 108, 100], [112, 97, 117, 115, 101], [102, 97, 105, 108, 101, 100]]
def stateW (n : Int) : List UInt8 := if n < 0 then [] else (stateL[n.toNat]?).getD []
def resW (n : Int) : List UInt8 := if n = 1 then [99, 111, 100, 101] else if n = 2 then [100, 105, 101, 100] else if n = 3 then [116, 105, 109, 101] else if n = 4 then [108, 105, 109, 105, 116] else []
def typeW (n : Int) : List UInt8 := if n = 1 then [115, 116, 97, 114, 116] else if n = 2 then [115, 116, 111, 112] else if n = 3 then [114, 101, 115, 116, 97, 114, 116] else if n = 4 then [114, 101, 108, 111, 97, 100] else [110, 111, 110, 101]
set_option maxRecDepth 100000 in
set_option maxHeartbeats 8000000 in
theorem res_any (n : Int) (w : World) : Calls Tryd.prog 33 #[.int .i64 n] w fun e w' => e = .returned (.string ⟨(resW n).toArray⟩) ∧ Below w.heap.size w w' := by
  by_cases h1 : n = 1
  · subst h1
    have HB : Hid (Below w.heap.size w w) := Lib.hid (Below.refl _ _)
    go_enter Tryd.func33, Tryd.ntmps33
    go_wp2
    go_ret
    exact ⟨rfl, HB.out⟩
  by_cases h2 : n = 2
  · subst h2
    have HB : Hid (Below w.heap.size w w) := Lib.hid (Below.refl _ _)
    go_enter Tryd.func33, Tryd.ntmps33
    go_wp2
    go_ret
    exact ⟨rfl, HB.out⟩
  by_cases h3 : n = 3
  · subst h3
    have HB : Hid (Below w.heap.size w w) := Lib.hid (Below.refl _ _)
    go_enter Tryd.func33, Tryd.ntmps33
    go_wp2
    go_ret
    exact ⟨rfl, HB.out⟩
  by_cases h4 : n = 4
  · subst h4
    have HB : Hid (Below w.heap.size w w) := Lib.hid (Below.refl _ _)
    go_enter Tryd.func33, Tryd.ntmps33
    go_wp2
    go_ret
    exact ⟨rfl, HB.out⟩
  have e1 : (n == 1) = false := by simp [h1]
  have e2 : (n == 2) = false := by simp [h2]
  have e3 : (n == 3) = false := by simp [h3]
  have e4 : (n == 4) = false := by simp [h4]
  have HR : Hid (resW n = []) := Lib.hid (by unfold resW; simp [h1, h2, h3, h4])
  have HB : Hid (Below w.heap.size w w) := Lib.hid (Below.refl _ _)
  clear h1 h2 h3 h4
  go_enter Tryd.func33, Tryd.ntmps33
  go_wp2
  go_ret
  rw [HR.out]
  exact ⟨rfl, HB.out⟩

set_option maxRecDepth 100000 in
set_option maxHeartbeats 8000000 in
theorem type_any (n : Int) (w : World) : Calls Tryd.prog 25 #[.int .i64 n] w fun e w' => e = .returned (.string ⟨(typeW n).toArray⟩) ∧ Below w.heap.size w w' := by
  by_cases h1 : n = 1
  · subst h1
    have HB : Hid (Below w.heap.size w w) := Lib.hid (Below.refl _ _)
    go_enter Tryd.func25, Tryd.ntmps25
    go_wp2
    go_ret
    exact ⟨rfl, HB.out⟩
  by_cases h2 : n = 2
  · subst h2
    have HB : Hid (Below w.heap.size w w) := Lib.hid (Below.refl _ _)
    go_enter Tryd.func25, Tryd.ntmps25
    go_wp2
    go_ret
    exact ⟨rfl, HB.out⟩
  by_cases h3 : n = 3
  · subst h3
    have HB : Hid (Below w.heap.size w w) := Lib.hid (Below.refl _ _)
    go_enter Tryd.func25, Tryd.ntmps25
    go_wp2
    go_ret
    exact ⟨rfl, HB.out⟩
  by_cases h4 : n = 4
  · subst h4
    have HB : Hid (Below w.heap.size w w) := Lib.hid (Below.refl _ _)
    go_enter Tryd.func25, Tryd.ntmps25
    go_wp2
    go_ret
    exact ⟨rfl, HB.out⟩
  have e1 : (n == 1) = false := by simp [h1]
  have e2 : (n == 2) = false := by simp [h2]
  have e3 : (n == 3) = false := by simp [h3]
  have e4 : (n == 4) = false := by simp [h4]
  have HR : Hid (typeW n = [110, 111, 110, 101]) := Lib.hid (by unfold typeW; simp [h1, h2, h3, h4])
  have HB : Hid (Below w.heap.size w w) := Lib.hid (Below.refl _ _)
  clear h1 h2 h3 h4
  go_enter Tryd.func25, Tryd.ntmps25
  go_wp2
  go_ret
  rw [HR.out]
  exact ⟨rfl, HB.out⟩

set_option maxRecDepth 100000 in
set_option maxHeartbeats 8000000 in
theorem state_any (n : Int) (w : World) : Calls Tryd.prog 27 #[.int .i64 n] w fun e w' => e = .returned (.string ⟨(stateW n).toArray⟩) ∧ Below w.heap.size w w' := by
  have hb : Below w.heap.size w (w.alloc (.cells #[.string ⟨#[100, 111, 119, 110]⟩, .string ⟨#[112, 114, 101]⟩, .string ⟨#[109, 97, 105, 110]⟩, .string ⟨#[112, 111, 115, 116]⟩, .string ⟨#[117, 112]⟩, .string ⟨#[114, 101, 108, 111, 97, 100]⟩, .string ⟨#[115, 116, 111, 112]⟩, .string ⟨#[116, 111, 108, 100]⟩, .string ⟨#[112, 97, 117, 115, 101]⟩, .string ⟨#[102, 97, 105, 108, 101, 100]⟩] 9)) := (Below.refl _ _).alloc (Nat.le_refl _) _
  have HB := Lib.hid hb
  clear hb

  by_cases h0 : n = 0
  · subst h0
    go_enter Tryd.func27, Tryd.ntmps27
    go_wp2
    go_ret
    exact ⟨rfl, HB.out⟩

  by_cases h1 : n = 1
  · subst h1
    go_enter Tryd.func27, Tryd.ntmps27
    go_wp2
    go_ret
    exact ⟨rfl, HB.out⟩

  by_cases h2 : n = 2
  · subst h2
    go_enter Tryd.func27, Tryd.ntmps27
    go_wp2
    go_ret
    exact ⟨rfl, HB.out⟩

  by_cases h3 : n = 3
  · subst h3
    go_enter Tryd.func27, Tryd.ntmps27
    go_wp2
    go_ret
    exact ⟨rfl, HB.out⟩

  by_cases h4 : n = 4
  · subst h4
    go_enter Tryd.func27, Tryd.ntmps27
    go_wp2
    go_ret
    exact ⟨rfl, HB.out⟩

  by_cases h5 : n = 5
  · subst h5
    go_enter Tryd.func27, Tryd.ntmps27
    go_wp2
    go_ret
    exact ⟨rfl, HB.out⟩

  by_cases h6 : n = 6
  · subst h6
    go_enter Tryd.func27, Tryd.ntmps27
    go_wp2
    go_ret
    exact ⟨rfl, HB.out⟩

  by_cases h7 : n = 7
  · subst h7
    go_enter Tryd.func27, Tryd.ntmps27
    go_wp2
    go_ret
    exact ⟨rfl, HB.out⟩

  by_cases h8 : n = 8
  · subst h8
    go_enter Tryd.func27, Tryd.ntmps27
    go_wp2
    go_ret
    exact ⟨rfl, HB.out⟩

  by_cases h9 : n = 9
  · subst h9
    go_enter Tryd.func27, Tryd.ntmps27
    go_wp2
    go_ret
    exact ⟨rfl, HB.out⟩

  by_cases hn : n < 0
  · have HR : Hid (stateW n = []) := Lib.hid (by unfold stateW; rw [if_pos hn])
    clear h0 h1 h2 h3 h4 h5 h6 h7 h8 h9
    go_enter Tryd.func27, Tryd.ntmps27
    go_wp2
    go_ret
    rw [HR.out]
    exact ⟨rfl, HB.out⟩
  · have hg : (10 : Int) ≤ n := by omega
    have HR : Hid (stateW n = []) := Lib.hid (by
      unfold stateW
      rw [if_neg hn]
      have h1 : 10 ≤ n.toNat := by omega
      rw [List.getElem?_eq_none (by show 10 ≤ n.toNat; exact h1)]
      rfl)
    clear h0 h1 h2 h3 h4 h5 h6 h7 h8 h9
    go_enter Tryd.func27, Tryd.ntmps27
    go_wp2
    go_ret
    rw [HR.out]
    exact ⟨rfl, HB.out⟩

end Go.Proofs.YtkgkipohalekmaaDoor
