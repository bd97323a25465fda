/-
  The walks of Escape and Unescape.
-/
import Derived.Test.YtcefnglmacpehaaNm8
import Derived.Test.YtcefnglmacpehaaBu
namespace Go.Proofs.Ytcefnglmacpehaa
open Go.RowKit

/-- how long a slot's text is -/
def strLen : Value → Nat
  | .string b => b.size
  | _ => 0

/-- the first byte of a text, and what is behind it -/
theorem head_of (rb : ByteArray) (c : UInt8) (r : List UInt8) (h : rb.data.toList = c :: r) : ∃ h0 : 0 < rb.size, rb[0] = c := by
  have h1 : rb.data.toList.length = rb.size := by simp
  have h0 : 0 < rb.size := by rw [← h1, h]; simp
  refine ⟨h0, ?_⟩
  have : rb[0] = rb.data.toList[0]'(by omega) := by simp [ByteArray.getElem_eq_getElem_data]
  rw [this]; simp [h]

/-- where the loop of Unescape stands: what is left, what is written -/
def UnRel (s rb : ByteArray) (acc : List UInt8) : Prop :=
  Sp.unescL s.data.toList = (Sp.unescL rb.data.toList).map (acc ++ ·) ∧ acc.length + rb.size ≤ s.size

theorem UnRel.step {s rb : ByteArray} {acc : List UInt8} (h : UnRel s rb acc) (n : Nat) (c : UInt8) (hn : 1 ≤ n) (hn2 : n ≤ rb.size)
    (hu : Sp.unescL rb.data.toList = (Sp.unescL (rb.data.toList.drop n)).map (c :: ·)) : UnRel s (rb.extract n rb.size) (acc ++ [c]) := by
  refine ⟨?_, ?_⟩
  · rw [ext_drop, h.1, hu]
    simp only [Option.map_map]
    congr 1
    funext x
    simp
  · have := h.2
    simp
    omega

set_option maxHeartbeats 1000000 in
theorem unescape_any (s : ByteArray) (w : World) (hs : s.size ≤ 140737488355328) :
    Calls Try.prog 38 #[.string s] w fun e w' => e = .returned (.tuple #[.string ⟨((Sp.unescL s.data.toList).getD []).toArray⟩, .bool (Sp.unescL s.data.toList).isSome]) ∧ Below w.heap.size w w' := by
  go_enter Try.func38, Try.ntmps38
  go_wp2_with fail
  go_loopw [0] (fun v wr => ∃ (rb : ByteArray) (acc : List UInt8), v = .string rb ∧ Hid (UnRel s rb acc) ∧ Bu w.heap.size w.heap.size acc wr ∧ Below w.heap.size w wr) (fun v _ => strLen v)
  case atStart => exact ⟨s, [], rfl, Lib.hid ⟨by simp, by simp⟩, bu_fresh w w.heap.size (Nat.le_refl _), (Below.refl _ _).alloc (Nat.le_refl _) _⟩
  case round =>
    obtain ⟨rb, acc, rfl, HU, hbu, hb⟩ := hrel
    have hbs := hbu.base
    have hac : acc.length + rb.size ≤ 140737488355328 := Nat.le_trans HU.out.2 hs
    match hl : rb.data.toList with
    | [] =>
      have he : rb.toList.isEmpty = true := by rw [Lib.toList_data, hl]; rfl
      have HE : Hid (Sp.unescL s.data.toList = some acc) := Lib.hid (by rw [HU.out.1, hl]; simp [Sp.unescL])
      clear hl
      go_wp2_with (go_at_call 20; refine (bu_string _ _ _ _ hbu hbs).mono ?_; rintro e w2 ⟨rfl, hbu2, hb2, _⟩)
      go_ret2
      exact ⟨by rw [HE.out]; rfl, hb.trans hb2⟩
    | c :: r =>
      obtain ⟨h0, hc0⟩ := head_of rb c r hl
      have he : rb.toList.isEmpty = false := by rw [Lib.toList_data, hl]; rfl
      have hi0 : (0 : Int) < (rb.size : Int) := by omega
      have HC := Lib.hid hc0
      have HLR := Lib.hid hl
      clear hl hc0
      by_cases h45 : c = 45
      · have t1 : ((rb[0].toNat : Int) == 45) = true := by rw [HC.out, h45]; rfl
        have HN : Hid (UnRel s (rb.extract 1 rb.size) (acc ++ [47])) := Lib.hid (HU.out.step 1 47 (by omega) (by omega) (by rw [HLR.out]; simp [Sp.unescL, h45]))
        clear h45
        go_wp2_with (go_at_call 17; refine (bu_wb _ _ _ 47 47 (by decide) _ hbu (by omega) hbs).mono ?_; rintro e w2 ⟨rfl, hbu2, hb2, _⟩)
        go_roundw
        case rel => exact ⟨_, _, rfl, HN, hbu2, hb.trans hb2⟩
        case measure => simp [strLen]; omega
      · have t1 : ((rb[0].toNat : Int) == 45) = false := Sp.at_ne rb 0 h0 45 (by rw [HC.out]; exact h45)
        cases hkp : Sp.kept c
        · have HK : Hid (Sp.kept rb[0] = false) := Lib.hid (by rw [HC.out]; exact hkp)
          cases hpx : Lib.hasPrefix rb.data.toList [92, 120]
          · have HE : Hid (Sp.unescL s.data.toList = none) := Lib.hid (by rw [HU.out.1, HLR.out, Sp.unesc_bad c r h45 hkp (by rw [← HLR.out]; exact hpx)]; rfl)
            have HP := Lib.hid hpx
            clear h45 hkp hpx
            go_wp2_with (first
              | (go_at_call 58; refine (kept_any _ _).mono ?_; rintro e w2 ⟨rfl, rfl⟩; rw [HK.out])
              | (go_at_call 53; refine (Try.strings_HasPrefix rb ⟨#[92, 120]⟩ _).mono ?_; rintro e w2 ⟨rfl, rfl⟩; rw [show Lib.hasPrefix rb.data.toList _ = false from HP.out]))
            go_ret2
            exact ⟨by rw [HE.out]; rfl, hb⟩
          · have HP := Lib.hid hpx
            obtain ⟨t, ht⟩ : ∃ t, rb.data.toList = 92 :: 120 :: t := by
              obtain ⟨t, ht⟩ := List.isPrefixOf_iff_prefix.1 hpx
              exact ⟨t, ht.symm⟩
            have hsz : rb.size = t.length + 2 := by
              have : rb.data.toList.length = rb.size := by simp
              rw [← this, ht]; simp
            have i2 : (2 : Int) ≤ (rb.size : Int) := by omega
            have HD : Hid ((rb.extract 2 rb.size).data.toList = t) := Lib.hid (by rw [ext_drop, ht]; rfl)
            clear h45 hkp hpx
            cases h2 : (Sp.twoL t).2
            · have HE : Hid (Sp.unescL s.data.toList = none) := Lib.hid (by rw [HU.out.1, ht, Sp.unesc_pre, h2]; rfl)
              have H2 : Hid ((Sp.twoL (rb.extract 2 rb.size).data.toList).2 = false) := Lib.hid (by rw [HD.out]; exact h2)
              clear h2 ht hsz
              go_wp2_with (first
                | (go_at_call 58; refine (kept_any _ _).mono ?_; rintro e w2 ⟨rfl, rfl⟩; rw [HK.out])
                | (go_at_call 53; refine (Try.strings_HasPrefix rb ⟨#[92, 120]⟩ _).mono ?_; rintro e w2 ⟨rfl, rfl⟩; rw [show Lib.hasPrefix rb.data.toList _ = true from HP.out])
                | (go_at_call 59; refine (two_any _ _).mono ?_; rintro e w2 ⟨rfl, n2, rfl⟩; rw [H2.out]))
              go_ret2
              exact ⟨by rw [HE.out]; rfl, belowQ hb _⟩
            · have hsz2 := Sp.twoL_size t h2
              have i4 : (4 : Int) ≤ (rb.size : Int) := by omega
              have H2 : Hid ((Sp.twoL (rb.extract 2 rb.size).data.toList).2 = true) := Lib.hid (by rw [HD.out]; exact h2)
              have HN : Hid (UnRel s (rb.extract 4 rb.size) (acc ++ [(Sp.twoL t).1])) := Lib.hid (HU.out.step 4 (Sp.twoL t).1 (by omega) (by omega) (by rw [ht, Sp.unesc_pre, h2]; rfl))
              clear h2 ht hsz
              go_wp2_with (first
                | (go_at_call 58; refine (kept_any _ _).mono ?_; rintro e w2 ⟨rfl, rfl⟩; rw [HK.out])
                | (go_at_call 53; refine (Try.strings_HasPrefix rb ⟨#[92, 120]⟩ _).mono ?_; rintro e w2 ⟨rfl, rfl⟩; rw [show Lib.hasPrefix rb.data.toList _ = true from HP.out])
                | (go_at_call 59; refine (two_any _ _).mono ?_; rintro e w2 ⟨rfl, n2, rfl⟩; rw [H2.out, HD.out])
                | (go_at_call 17; refine (bu_wb _ _ _ (Sp.twoL t).1 _ rfl _ (hbu.drewN _) (by omega) hbs).mono ?_; rintro e w2 ⟨rfl, hbu2, hb2, _⟩))
              go_roundw
              case rel => exact ⟨_, _, rfl, HN, hbu2, (belowQ hb _).trans hb2⟩
              case measure => simp [strLen]; omega
        · have HK : Hid (Sp.kept rb[0] = true) := Lib.hid (by rw [HC.out]; exact hkp)
          have HN : Hid (UnRel s (rb.extract 1 rb.size) (acc ++ [rb[0]])) := Lib.hid (HU.out.step 1 rb[0] (by omega) (by omega) (by rw [HLR.out, HC.out, Sp.unesc_kept c r h45 hkp]; rfl))
          clear h45 hkp
          go_wp2_with (first
            | (go_at_call 58; refine (kept_any _ _).mono ?_; rintro e w2 ⟨rfl, rfl⟩; rw [HK.out])
            | (go_at_call 17; refine (bu_wb _ _ _ rb[0] _ rfl _ hbu (by omega) hbs).mono ?_; rintro e w2 ⟨rfl, hbu2, hb2, _⟩))
          go_roundw
          case rel => exact ⟨_, _, rfl, HN, hbu2, hb.trans hb2⟩
          case measure => simp [strLen]; omega

end Go.Proofs.Ytcefnglmacpehaa
