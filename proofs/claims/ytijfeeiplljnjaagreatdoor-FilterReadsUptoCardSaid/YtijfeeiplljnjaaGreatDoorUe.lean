/-
  A reader's small steps: is it at the end, over blanks.
-/
import Derived.Test.YtijfeeiplljnjaaGreatDoorUd
import Derived.Deep.LoopGhost
import Derived.Deep.QuietTactic
namespace Go.Proofs.YtijfeeiplljnjaaGreatDoor
open Go.RowKit

theorem drop_at (s : ByteArray) (k : Nat) (h : k < s.size) : s.data.toList.drop k = s[k] :: s.data.toList.drop (k + 1) := by
  have hz : s.data.toList.length = s.size := by simp
  have h1 : k < s.data.toList.length := by omega
  have h2 := List.drop_eq_getElem_cons h1
  exact h2
theorem drop_end (s : ByteArray) (k : Nat) (h : s.size ≤ k) : s.data.toList.drop k = [] := List.drop_eq_nil_of_le (by simpa using h)

set_option maxHeartbeats 1000000 in
theorem wend_any (B b : Nat) (s : ByteArray) (k : Nat) (l : List UInt8) (w : World) (h : Wr B b s k l w) (e0 : Bool) (he : e0 = decide (s.size ≤ k)) :
    Calls Tryz.prog 33 #[.pointer (some ⟨b, 0, none⟩)] w fun e w' => e = .returned (.bool e0) ∧ ∃ n, w' = w.drewN n := by
  obtain ⟨p, v, h⟩ := h
  have c0 := h.c0
  have c1 := h.c1
  have HB := Lib.hid he
  clear h he
  go_enter Tryz.func33, Tryz.ntmps33
  go_wp2
  go_quiet (fail)
  go_wp2
  go_ret
  exact ⟨ret_bool HB.out.symm, nq, rfl⟩

set_option maxHeartbeats 2000000 in
set_option maxRecDepth 100000 in
theorem wblanks_any (B b : Nat) (s : ByteArray) (k : Nat) (l : List UInt8) (w : World) (h : Wr B b s k l w) (hk : k ≤ s.size) (hs : s.size ≤ 140737488355328) :
    Calls Tryz.prog 32 #[.pointer (some ⟨b, 0, none⟩)] w fun e w' => e = .returned (.tuple #[]) ∧ ∃ j : Nat, (k ≤ j ∧ j ≤ s.size) ∧ (Wr B b s j l w' ∧ Kept B b w w') ∧ (∀ out, Sp.M 0 none 0 out (s.data.toList.drop k) = Sp.M 0 none 0 out (s.data.toList.drop j)) ∧ ∀ h : j < s.size, Sp.blankC s[j] = false := by
  have HW0 := Lib.hid h
  clear h
  go_enter Tryz.func32, Tryz.ntmps32
  go_wp2_with fail
  go_loopg [16] (s.size - k) (fun g _ wr => ∃ j : Nat, (k ≤ j ∧ j ≤ s.size ∧ s.size - j ≤ g) ∧ Hid (Wr B b s j l wr ∧ Kept B b w wr) ∧ Hid (∀ out, Sp.M 0 none 0 out (s.data.toList.drop k) = Sp.M 0 none 0 out (s.data.toList.drop j)))
  case atStart => exact ⟨k, ⟨Nat.le_refl _, hk, Nat.le_refl _⟩, Lib.hid ⟨HW0.out, Kept.refl _ _ _⟩, Lib.hid fun _ => rfl⟩
  case round =>
    obtain ⟨j, ⟨hj1, hj2, hg⟩, HR, HM⟩ := hrel
    obtain ⟨p, v, hat⟩ := HR.out.1
    have c0 := hat.c0
    have c1 := hat.c1
    have f1 := hat.fz 1
    have HAT := Lib.hid hat
    clear hat
    by_cases hlt : j < s.size
    · have HE := Lib.hid (fun n => wend_any B b s j l (wr.drewN n) (HR.out.1.drewN n) false (by simp; omega))
      cases hb : Sp.blankC s[j] with
      | true =>
        have HB := Lib.hid (blank_any s[j] true hb)
        have HM2 : Hid (∀ out, Sp.M 0 none 0 out (s.data.toList.drop k) = Sp.M 0 none 0 out (s.data.toList.drop (j + 1))) := Lib.hid fun out => by
          rw [HM.out, drop_at s j hlt, Sp.M_blank _ _ _ _ hb]; simp
        clear hb
        go_wp2
        go_quiet (first | (go_at_call 33; exact Calls.quiet_of (HE.out _)) | (go_at_call 61; exact Calls.quiet_of_same (HB.out _)))
        go_wp2
        go_roundg (s.size - (j + 1))
        case measure => omega
        case rel => exact ⟨j + 1, ⟨by omega, by omega, Nat.le_refl _⟩, Lib.hid ⟨⟨p, v, (HAT.out.drewN _).at (j + 1) _ (by omega)⟩, (HR.out.2.drewN _).set HAT.out.2.1 _ _⟩, HM2⟩
      | false =>
        have HB := Lib.hid (blank_any s[j] false hb)
        have HN := Lib.hid hb
        clear hb
        go_wp2
        go_quiet (first | (go_at_call 33; exact Calls.quiet_of (HE.out _)) | (go_at_call 61; exact Calls.quiet_of_same (HB.out _)))
        go_wp2
        go_end0
        exact ⟨rfl, j, ⟨hj1, hj2⟩, ⟨HR.out.1.drewN _, HR.out.2.drewN _⟩, HM.out, fun _ => HN.out⟩
    · have HE := Lib.hid (fun n => wend_any B b s j l (wr.drewN n) (HR.out.1.drewN n) true (by simp; omega))
      go_wp2
      go_quiet (first | (go_at_call 33; exact Calls.quiet_of (HE.out _)))
      go_wp2
      go_end0
      exact ⟨rfl, j, ⟨hj1, hj2⟩, ⟨HR.out.1.drewN _, HR.out.2.drewN _⟩, HM.out, fun h => absurd h hlt⟩

end Go.Proofs.YtijfeeiplljnjaaGreatDoor
