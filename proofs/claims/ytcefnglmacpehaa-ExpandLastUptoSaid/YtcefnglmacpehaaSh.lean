/-
  The walk of what the laws of expand show at constants.
-/
import Derived.Test.YtcefnglmacpehaaEx10
import Derived.Test.YtcefnglmacpehaaSpG
namespace Go.Proofs.Ytcefnglmacpehaa
open Go.RowKit

theorem Rd.fresh (w : World) (xs : Array Value) (t : TypeId) (n size : Nat) (h : xs.size = n * size) : Rd (w.alloc (.cells xs t)) (w.heap.size + 1) size (some ⟨w.heap.size, 0, none⟩) n xs.toList := by
  refine ⟨by simpa using h, fun _ => ⟨_, rfl, by simp, ?_⟩⟩
  intro j u hu
  rw [Array.getElem?_toList] at hu
  by_cases hj : j = 0
  · subst hj; simpa [Addr.add] using hu
  · simpa [Addr.add, hj] using hu

/-- the three words and the two variables that are shown -/
def shWords : List ByteArray := [⟨#[36, 65]⟩, ⟨#[60, 36, 123, 66, 125, 62, 36, 36]⟩, ⟨#[36, 99]⟩]
def shEnv : List (ByteArray × ByteArray) := [(⟨#[65]⟩, ⟨#[120, 32, 32, 121]⟩), (⟨#[66]⟩, ⟨#[113]⟩)]
def shOut : List ByteArray := [⟨#[120]⟩, ⟨#[121]⟩, ⟨#[60, 113, 62, 36]⟩]
theorem sh1 (w2 : World) (o : Obj) : Rd ((w2.alloc (.cells #[.string ⟨#[36, 65]⟩, .string ⟨#[60, 36, 123, 66, 125, 62, 36, 36]⟩, .string ⟨#[36, 99]⟩] 9)).alloc o) (w2.heap.size + 2) 1 (some ⟨w2.heap.size, 0, none⟩) 3 (strCells shWords) :=
  (((Rd.fresh w2 #[.string ⟨#[36, 65]⟩, .string ⟨#[60, 36, 123, 66, 125, 62, 36, 36]⟩, .string ⟨#[36, 99]⟩] 9 3 1 rfl).alloc (by simp) _).more (by omega))
theorem sh2 (w2 : World) (t : TypeId) : Rd (w2.alloc (.cells #[.string ⟨#[65]⟩, .string ⟨#[120, 32, 32, 121]⟩, .string ⟨#[66]⟩, .string ⟨#[113]⟩] t)) (w2.heap.size + 1) 2 (some ⟨w2.heap.size, 0, none⟩) 2 (pairCells shEnv) :=
  Rd.fresh _ #[.string ⟨#[65]⟩, .string ⟨#[120, 32, 32, 121]⟩, .string ⟨#[66]⟩, .string ⟨#[113]⟩] t 2 2 rfl
theorem sh3 (w2 : World) : Rd (w2.alloc (.cells #[.string ⟨#[120]⟩, .string ⟨#[121]⟩, .string ⟨#[60, 113, 62, 36]⟩] 9)) (w2.heap.size + 1) 1 (some ⟨w2.heap.size, 0, none⟩) 3 (strCells shOut) :=
  Rd.fresh w2 #[.string ⟨#[120]⟩, .string ⟨#[121]⟩, .string ⟨#[60, 113, 62, 36]⟩] 9 3 1 rfl
theorem shWords_len : ∀ b ∈ shWords, b.size ≤ 2097152 := fun b hb => Nat.le_trans ((by decide : ∀ b ∈ shWords, b.size ≤ 20) b hb) (by omega)
theorem shEnv_len : ∀ p ∈ shEnv, p.2.size ≤ 2097152 := fun b hb => Nat.le_trans ((by decide : ∀ p ∈ shEnv, p.2.size ≤ 20) b hb) (by omega)
theorem sh_vars : Sp.varsL (shWords.map (fun b => b.data.toList)) (envL shEnv) = [[120], [121], [60, 113, 62, 36]] := Sp.shown_vars
theorem sh_same (l : List ByteArray) (h : l.map (fun b => b.data.toList) = [[120], [121], [60, 113, 62, 36]]) : sameB l shOut = true := by unfold sameB; rw [h]; decide

theorem sh_call (w2 : World) (t : TypeId) : Calls Try.prog 12 #[.slice (some ⟨w2.heap.size, 0, none⟩) 3 3, .slice (some ⟨w2.heap.size + 1, 0, none⟩) 2 2]
    ((w2.alloc (.cells #[.string ⟨#[36, 65]⟩, .string ⟨#[60, 36, 123, 66, 125, 62, 36, 36]⟩, .string ⟨#[36, 99]⟩] 9)).alloc (.cells #[.string ⟨#[65]⟩, .string ⟨#[120, 32, 32, 121]⟩, .string ⟨#[66]⟩, .string ⟨#[113]⟩] t))
    fun e w' => ∃ (A' : Option Addr) (c' : Nat) (l : List ByteArray), e = .returned (.slice A' l.length c') ∧ l.map (fun b => b.data.toList) = [[120], [121], [60, 113, 62, 36]] ∧ Rd w' w'.heap.size 1 A' l.length (strCells l) ∧ Below w2.heap.size w2 w' := by
  have h1 := sh1 w2 (.cells #[.string ⟨#[65]⟩, .string ⟨#[120, 32, 32, 121]⟩, .string ⟨#[66]⟩, .string ⟨#[113]⟩] t)
  have h2 : Rd ((w2.alloc (.cells #[.string ⟨#[36, 65]⟩, .string ⟨#[60, 36, 123, 66, 125, 62, 36, 36]⟩, .string ⟨#[36, 99]⟩] 9)).alloc (.cells #[.string ⟨#[65]⟩, .string ⟨#[120, 32, 32, 121]⟩, .string ⟨#[66]⟩, .string ⟨#[113]⟩] t)) (w2.heap.size + 2) 2 (some ⟨w2.heap.size + 1, 0, none⟩) 2 (pairCells shEnv) := by
    have := sh2 (w2.alloc (.cells #[.string ⟨#[36, 65]⟩, .string ⟨#[60, 36, 123, 66, 125, 62, 36, 36]⟩, .string ⟨#[36, 99]⟩] 9)) t
    simpa using this
  have hb : Below w2.heap.size w2 ((w2.alloc (.cells #[.string ⟨#[36, 65]⟩, .string ⟨#[60, 36, 123, 66, 125, 62, 36, 36]⟩, .string ⟨#[36, 99]⟩] 9)).alloc (.cells #[.string ⟨#[65]⟩, .string ⟨#[120, 32, 32, 121]⟩, .string ⟨#[66]⟩, .string ⟨#[113]⟩] t)) :=
    ((Below.refl _ _).alloc (Nat.le_refl _) _).alloc (by simp) _
  generalize hw : ((w2.alloc (.cells #[.string ⟨#[36, 65]⟩, .string ⟨#[60, 36, 123, 66, 125, 62, 36, 36]⟩, .string ⟨#[36, 99]⟩] 9)).alloc (.cells #[.string ⟨#[65]⟩, .string ⟨#[120, 32, 32, 121]⟩, .string ⟨#[66]⟩, .string ⟨#[113]⟩] t)) = w3 at *
  have hsz : w2.heap.size + 2 ≤ w3.heap.size := by rw [← hw]; simp
  clear hw
  refine (vars_row _ _ 3 3 2 2 (w2.heap.size + 2) shWords shEnv w3 h1 h2 hsz (by omega) (by omega) shWords_len shEnv_len).mono ?_
  rintro e w4 ⟨A', c', l, rfl, hl, hr, hb3, hlen⟩
  exact ⟨A', c', l, rfl, hl.trans sh_vars, hr, hb.trans (hb3.mono (by omega))⟩

theorem sh_eq (w : World) (A : Option Addr) (c : Nat) (l : List ByteArray) (h : Rd w w.heap.size 1 A l.length (strCells l)) (hl : l.map (fun b => b.data.toList) = [[120], [121], [60, 113, 62, 36]]) :
    Calls Try.prog 11 #[.slice A l.length c, .slice (some ⟨w.heap.size, 0, none⟩) 3 3] (w.alloc (.cells #[.string ⟨#[120]⟩, .string ⟨#[121]⟩, .string ⟨#[60, 113, 62, 36]⟩] 9))
    fun e w' => e = .returned (.bool true) ∧ Below w.heap.size w w' := by
  have hll : l.length = 3 := by simpa using congrArg List.length hl
  have h3 := sh3 w
  have h1 := (h.alloc (Nat.le_refl _) (.cells #[.string ⟨#[120]⟩, .string ⟨#[121]⟩, .string ⟨#[60, 113, 62, 36]⟩] 9)).more (show w.heap.size ≤ w.heap.size + 1 by omega)
  have hb := (Below.refl w.heap.size w).alloc (Nat.le_refl _) (.cells #[.string ⟨#[120]⟩, .string ⟨#[121]⟩, .string ⟨#[60, 113, 62, 36]⟩] 9)
  generalize w.alloc (.cells #[.string ⟨#[120]⟩, .string ⟨#[121]⟩, .string ⟨#[60, 113, 62, 36]⟩] 9) = w2 at *
  refine (rsame_any A _ l.length 3 c 3 (w.heap.size + 1) l shOut w2 h1 h3 (by omega) (by omega)).mono ?_
  rintro e w5 ⟨rfl, n, rfl⟩
  rw [sh_same l hl]
  exact ⟨rfl, belowQ hb _⟩

set_option maxHeartbeats 2000000 in
theorem shown_any (w : World) : Calls Try.prog 8 #[] w fun e w' => e = .returned (.bool true) ∧ Below w.heap.size w w' := by
  go_enter Try.func8, Try.ntmps8
  go_wp2_with fail
  refine (spec_any _ _ _ (by decide) (by decide)).mono ?_
  rintro e w1 ⟨rfl, hb1⟩
  rw [show ∀ x y, (Sp.specL x y) = Sp.specL x y from fun _ _ => rfl, Sp.shown_spec]
  go_wp2_with fail
  refine (spec_any _ _ _ (by decide) (by decide)).mono ?_
  rintro e w2 ⟨rfl, hb2⟩
  rw [Sp.shown_wrong]
  have hb := hb1.trans (hb2.mono hb1.size)
  go_wp2_with fail
  refine (sh_call w2 _).mono ?_
  rintro e w3 ⟨A', c', l, rfl, hl2, hr, hb3⟩
  have hb4 : Below w.heap.size w w3 := hb.trans (hb3.mono hb.size)
  clear hb1 hb2 hb3 hb
  go_wp2_with fail
  refine (sh_eq w3 A' c' l hr hl2).mono ?_
  rintro e w5 ⟨rfl, hb5⟩
  go_wp2
  go_ret
  exact ⟨rfl, hb4.trans (hb5.mono hb4.size)⟩

end Go.Proofs.Ytcefnglmacpehaa
