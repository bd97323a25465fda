/-
  The walks of Escape and Unescape.
-/
import Derived.Test.YtijfeeiplljnjaaGreatDoorNm8
import Derived.Test.YtijfeeiplljnjaaGreatDoorBu
namespace Go.Proofs.YtijfeeiplljnjaaGreatDoor
open Go.RowKit

/-- how long a slot's text is -/
def strLen : Value → Nat
  | .string b => b.size
  | _ => 0

/-- the first byte of a text, and what is behind it -/
theorem head_of (rb : ByteArray) (c : UInt8) (r : List UInt8) (h : rb.data.toList = c :: r) : ∃ h0 : 0 < rb.size, rb[0] = c := by
  have h1 : rb.data.toList.length = rb.size := by simp
  have h0 : 0 < rb.size := by rw [← h1, h]; simp
  refine ⟨h0, ?_⟩
  have : rb[0] = rb.data.toList[0]'(by omega) := by simp [ByteArray.getElem_eq_getElem_data]
  rw [this]; simp [h]

/-- where the loop of Unescape stands: what is left, what is written -/
def UnRel (s rb : ByteArray) (acc : List UInt8) : Prop :=
  Sp.unescL s.data.toList = (Sp.unescL rb.data.toList).map (acc ++ ·) ∧ acc.length + rb.size ≤ s.size

theorem UnRel.step {s rb : ByteArray} {acc : List UInt8} (h : UnRel s rb acc) (n : Nat) (c : UInt8) (hn : 1 ≤ n) (hn2 : n ≤ rb.size)
    (hu : Sp.unescL rb.data.toList = (Sp.unescL (rb.data.toList.drop n)).map (c :: ·)) : UnRel s (rb.extract n rb.size) (acc ++ [c]) := by
  refine ⟨?_, ?_⟩
  · rw [ext_drop, h.1, hu]
    simp only [Option.map_map]
    congr 1
    funext x
    simp
  · have := h.2
    simp
    omega

end Go.Proofs.YtijfeeiplljnjaaGreatDoor
