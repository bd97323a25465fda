/-
  The walks of Escape and Unescape.
-/
import Derived.Test.YtgflmoejdhfecaaNm8
import Derived.Test.YtgflmoejdhfecaaBu
namespace Go.Proofs.Ytgflmoejdhfecaa
open Go.RowKit

set_option maxHeartbeats 1000000 in
theorem escape_any (s : ByteArray) (w : World) (hs : s.size ≤ 35184372088832) :
    Calls Try.prog 22 #[.string s] w fun e w' => e = .returned (.string ⟨(Sp.escL true s.data.toList).toArray⟩) ∧ Below w.heap.size w w' := by
  have hlen : ∀ k, (Sp.escL true (s.data.toList.take k)).length ≤ 4 * k := by
    intro k
    have h1 := Sp.escL_len true (s.data.toList.take k)
    have h2 : (s.data.toList.take k).length ≤ k := by rw [List.length_take]; omega
    omega
  have HL := Lib.hid hlen
  clear hlen
  go_enter Try.func22, Try.ntmps22
  go_wp2_with fail
  go_loopw [8] (fun i wr => ∃ k : Nat, k ≤ s.size ∧ i = .int .i64 k ∧ Bu w.heap.size w.heap.size (Sp.escL true (s.data.toList.take k)) wr ∧ Below w.heap.size w wr) (fun i _ => s.size - (intOf i).toNat)
  case atStart => exact ⟨0, Nat.zero_le _, rfl, by simpa [Sp.escL] using bu_fresh w w.heap.size (Nat.le_refl _), (Below.refl _ _).alloc (Nat.le_refl _) _⟩
  case round =>
    obtain ⟨k, hk, rfl, hbu, hb⟩ := hrel
    have hbs := hbu.base
    have hb4 := HL.out k
    by_cases hlt : k < s.size
    · have HS := Lib.hid (Sp.escTo_succ s k hlt)
      by_cases h47 : (s[k].toNat : Int) = 47
      · have h47b : ((s[k].toNat : Int) == 47) = true := by simpa using h47
        have HE : Hid (Sp.escB (decide (k = 0)) s[k] = [45]) := Lib.hid (by unfold Sp.escB; rw [if_pos h47])
        clear h47
        go_wp2_with (go_at_call 36; refine (bu_wb _ _ _ 45 45 (by decide) _ hbu (by omega) hbs).mono ?_; rintro e w2 ⟨rfl, hbu2, hb2, _⟩)
        go_roundw
        case rel => exact ⟨k + 1, by omega, by go_num, by rw [HS.out, HE.out]; exact hbu2, hb.trans hb2⟩
        case measure => simp [intOf]; omega
      · have h47b : ((s[k].toNat : Int) == 47) = false := by simpa using h47
        cases hkp : Sp.kept s[k]
        · have HKP := Lib.hid hkp
          have HE : Hid (Sp.escB (decide (k = 0)) s[k] = Sp.byteL s[k]) := Lib.hid (by unfold Sp.escB; rw [if_neg h47, if_neg (by rw [hkp]; simp)])
          clear h47 hkp
          go_wp2_with (go_at_call 37; refine (kept_any _ _).mono ?_; rintro e w' ⟨rfl, rfl⟩; rw [HKP.out])
          refine (byte_any _ _).mono ?_
          rintro e w2 ⟨rfl, nb, rfl⟩
          go_wp2_with fail
          refine (bu_writeString _ _ _ _ _ (hbu.drewN _) (show _ + (Sp.byteL s[k]).length ≤ _ by simp [Sp.byteL]; omega) hbs).mono ?_
          rintro e w3 ⟨rfl, hbu2, hb2, _⟩
          go_wp2
          go_roundw
          case rel => exact ⟨k + 1, by omega, by go_num, by rw [HS.out, HE.out]; exact hbu2, (below_drewN hb _).trans hb2⟩
          case measure => simp [intOf]; omega
        · have HKP := Lib.hid hkp
          by_cases h46 : (s[k].toNat : Int) = 46
          · have h46b : ((s[k].toNat : Int) != 46) = false := by simpa using h46
            by_cases hk0 : k = 0
            · have HE : Hid (Sp.escB (decide (k = 0)) s[k] = Sp.byteL s[k]) := Lib.hid (by unfold Sp.escB; rw [if_neg h47, if_neg (fun h => h.2.elim (fun g => g h46) (fun g => by simp [hk0] at g))])
              have hk0b : decide (0 < k) = false := by simp; omega
              clear h47 hkp h46 hk0
              go_wp2_with (go_at_call 37; refine (kept_any _ _).mono ?_; rintro e w' ⟨rfl, rfl⟩; rw [HKP.out])
              refine (byte_any _ _).mono ?_
              rintro e w2 ⟨rfl, nb, rfl⟩
              go_wp2_with fail
              refine (bu_writeString _ _ _ _ _ (hbu.drewN _) (show _ + (Sp.byteL s[k]).length ≤ _ by simp [Sp.byteL]; omega) hbs).mono ?_
              rintro e w3 ⟨rfl, hbu2, hb2, _⟩
              go_wp2
              go_roundw
              case rel => exact ⟨k + 1, by omega, by go_num, by rw [HS.out, HE.out]; exact hbu2, (below_drewN hb _).trans hb2⟩
              case measure => simp [intOf]; omega
            · have HE : Hid (Sp.escB (decide (k = 0)) s[k] = [s[k]]) := Lib.hid (by unfold Sp.escB; rw [if_neg h47, if_pos (by simp [hkp, hk0])])
              have hk0b : decide (0 < k) = true := by simp; omega
              have hk0c : 0 < k := by omega
              clear h47 hkp h46 hk0
              go_wp2_with (first | (go_at_call 37; refine (kept_any _ _).mono ?_; rintro e w' ⟨rfl, rfl⟩; rw [HKP.out]) | (go_at_call 36; refine (bu_wb _ _ _ s[k] _ rfl _ hbu (by omega) hbs).mono ?_; rintro e w2 ⟨rfl, hbu2, hb2, _⟩))
              go_roundw
              case rel => exact ⟨k + 1, by omega, by go_num, by rw [HS.out, HE.out]; exact hbu2, hb.trans hb2⟩
              case measure => simp [intOf]; omega
          · have h46b : ((s[k].toNat : Int) != 46) = true := by simpa using h46
            have HE : Hid (Sp.escB (decide (k = 0)) s[k] = [s[k]]) := Lib.hid (by unfold Sp.escB; rw [if_neg h47, if_pos (by simp [hkp, h46])])
            clear h47 hkp h46
            go_wp2_with (first | (go_at_call 37; refine (kept_any _ _).mono ?_; rintro e w' ⟨rfl, rfl⟩; rw [HKP.out]) | (go_at_call 36; refine (bu_wb _ _ _ s[k] _ rfl _ hbu (by omega) hbs).mono ?_; rintro e w2 ⟨rfl, hbu2, hb2, _⟩))
            go_roundw
            case rel => exact ⟨k + 1, by omega, by go_num, by rw [HS.out, HE.out]; exact hbu2, hb.trans hb2⟩
            case measure => simp [intOf]; omega
    · go_wp2_with (go_at_call 40; refine (bu_string _ _ _ _ hbu hbs).mono ?_; rintro e w2 ⟨rfl, hbu2, hb2, _⟩)
      go_ret
      exact ⟨ret_str (by rw [Sp.take_all s k hk hlt]), hb.trans hb2⟩

/-- how long a slot's text is -/
def strLen : Value → Nat
  | .string b => b.size
  | _ => 0

/-- the first byte of a text, and what is behind it -/
theorem head_of (rb : ByteArray) (c : UInt8) (r : List UInt8) (h : rb.data.toList = c :: r) : ∃ h0 : 0 < rb.size, rb[0] = c := by
  have h1 : rb.data.toList.length = rb.size := by simp
  have h0 : 0 < rb.size := by rw [← h1, h]; simp
  refine ⟨h0, ?_⟩
  have : rb[0] = rb.data.toList[0]'(by omega) := by simp [ByteArray.getElem_eq_getElem_data]
  rw [this]; simp [h]

/-- where the loop of Unescape stands: what is left, what is written -/
def UnRel (s rb : ByteArray) (acc : List UInt8) : Prop :=
  Sp.unescL s.data.toList = (Sp.unescL rb.data.toList).map (acc ++ ·) ∧ acc.length + rb.size ≤ s.size

theorem UnRel.step {s rb : ByteArray} {acc : List UInt8} (h : UnRel s rb acc) (n : Nat) (c : UInt8) (hn : 1 ≤ n) (hn2 : n ≤ rb.size)
    (hu : Sp.unescL rb.data.toList = (Sp.unescL (rb.data.toList.drop n)).map (c :: ·)) : UnRel s (rb.extract n rb.size) (acc ++ [c]) := by
  refine ⟨?_, ?_⟩
  · rw [ext_drop, h.1, hu]
    simp only [Option.map_map]
    congr 1
    funext x
    simp
  · have := h.2
    simp
    omega

set_option maxHeartbeats 1000000 in
theorem unescape_any (s : ByteArray) (w : World) (hs : s.size ≤ 140737488355328) :
    Calls Try.prog 23 #[.string s] w fun e w' => e = .returned (.tuple #[.string ⟨((Sp.unescL s.data.toList).getD []).toArray⟩, .bool (Sp.unescL s.data.toList).isSome]) ∧ Below w.heap.size w w' := by
  go_enter Try.func23, Try.ntmps23
  go_wp2_with fail
  go_loopw [0] (fun v wr => ∃ (rb : ByteArray) (acc : List UInt8), v = .string rb ∧ Hid (UnRel s rb acc) ∧ Bu w.heap.size w.heap.size acc wr ∧ Below w.heap.size w wr) (fun v _ => strLen v)
  case atStart => exact ⟨s, [], rfl, Lib.hid ⟨by simp, by simp⟩, bu_fresh w w.heap.size (Nat.le_refl _), (Below.refl _ _).alloc (Nat.le_refl _) _⟩
  case round =>
    obtain ⟨rb, acc, rfl, HU, hbu, hb⟩ := hrel
    have hbs := hbu.base
    have hac : acc.length + rb.size ≤ 140737488355328 := Nat.le_trans HU.out.2 hs
    match hl : rb.data.toList with
    | [] =>
      have he : rb.toList.isEmpty = true := by rw [Lib.toList_data, hl]; rfl
      have HE : Hid (Sp.unescL s.data.toList = some acc) := Lib.hid (by rw [HU.out.1, hl]; simp [Sp.unescL])
      clear hl
      go_wp2_with (go_at_call 40; refine (bu_string _ _ _ _ hbu hbs).mono ?_; rintro e w2 ⟨rfl, hbu2, hb2, _⟩)
      go_ret2
      exact ⟨by rw [HE.out]; rfl, hb.trans hb2⟩
    | c :: r =>
      obtain ⟨h0, hc0⟩ := head_of rb c r hl
      have he : rb.toList.isEmpty = false := by rw [Lib.toList_data, hl]; rfl
      have hi0 : (0 : Int) < (rb.size : Int) := by omega
      have HC := Lib.hid hc0
      have HLR := Lib.hid hl
      clear hl hc0
      by_cases h45 : c = 45
      · have t1 : ((rb[0].toNat : Int) == 45) = true := by rw [HC.out, h45]; rfl
        have HN : Hid (UnRel s (rb.extract 1 rb.size) (acc ++ [47])) := Lib.hid (HU.out.step 1 47 (by omega) (by omega) (by rw [HLR.out]; simp [Sp.unescL, h45]))
        clear h45
        go_wp2_with (go_at_call 36; refine (bu_wb _ _ _ 47 47 (by decide) _ hbu (by omega) hbs).mono ?_; rintro e w2 ⟨rfl, hbu2, hb2, _⟩)
        go_roundw
        case rel => exact ⟨_, _, rfl, HN, hbu2, hb.trans hb2⟩
        case measure => simp [strLen]; omega
      · have t1 : ((rb[0].toNat : Int) == 45) = false := Sp.at_ne rb 0 h0 45 (by rw [HC.out]; exact h45)
        cases hkp : Sp.kept c
        · have HK : Hid (Sp.kept rb[0] = false) := Lib.hid (by rw [HC.out]; exact hkp)
          cases hpx : Lib.hasPrefix rb.data.toList [92, 120]
          · have HE : Hid (Sp.unescL s.data.toList = none) := Lib.hid (by rw [HU.out.1, HLR.out, Sp.unesc_bad c r h45 hkp (by rw [← HLR.out]; exact hpx)]; rfl)
            have HP := Lib.hid hpx
            clear h45 hkp hpx
            go_wp2_with (first
              | (go_at_call 37; refine (kept_any _ _).mono ?_; rintro e w2 ⟨rfl, rfl⟩; rw [HK.out])
              | (go_at_call 41; refine (Try.strings_HasPrefix rb ⟨#[92, 120]⟩ _).mono ?_; rintro e w2 ⟨rfl, rfl⟩; rw [show Lib.hasPrefix rb.data.toList _ = false from HP.out]))
            go_ret2
            exact ⟨by rw [HE.out]; rfl, hb⟩
          · have HP := Lib.hid hpx
            obtain ⟨t, ht⟩ : ∃ t, rb.data.toList = 92 :: 120 :: t := by
              obtain ⟨t, ht⟩ := List.isPrefixOf_iff_prefix.1 hpx
              exact ⟨t, ht.symm⟩
            have hsz : rb.size = t.length + 2 := by
              have : rb.data.toList.length = rb.size := by simp
              rw [← this, ht]; simp
            have i2 : (2 : Int) ≤ (rb.size : Int) := by omega
            have HD : Hid ((rb.extract 2 rb.size).data.toList = t) := Lib.hid (by rw [ext_drop, ht]; rfl)
            clear h45 hkp hpx
            cases h2 : (Sp.twoL t).2
            · have HE : Hid (Sp.unescL s.data.toList = none) := Lib.hid (by rw [HU.out.1, ht, Sp.unesc_pre, h2]; rfl)
              have H2 : Hid ((Sp.twoL (rb.extract 2 rb.size).data.toList).2 = false) := Lib.hid (by rw [HD.out]; exact h2)
              clear h2 ht hsz
              go_wp2_with (first
                | (go_at_call 37; refine (kept_any _ _).mono ?_; rintro e w2 ⟨rfl, rfl⟩; rw [HK.out])
                | (go_at_call 41; refine (Try.strings_HasPrefix rb ⟨#[92, 120]⟩ _).mono ?_; rintro e w2 ⟨rfl, rfl⟩; rw [show Lib.hasPrefix rb.data.toList _ = true from HP.out])
                | (go_at_call 42; refine (two_any _ _).mono ?_; rintro e w2 ⟨rfl, n2, rfl⟩; rw [H2.out]))
              go_ret2
              exact ⟨by rw [HE.out]; rfl, below_drewN hb _⟩
            · have hsz2 := Sp.twoL_size t h2
              have i4 : (4 : Int) ≤ (rb.size : Int) := by omega
              have H2 : Hid ((Sp.twoL (rb.extract 2 rb.size).data.toList).2 = true) := Lib.hid (by rw [HD.out]; exact h2)
              have HN : Hid (UnRel s (rb.extract 4 rb.size) (acc ++ [(Sp.twoL t).1])) := Lib.hid (HU.out.step 4 (Sp.twoL t).1 (by omega) (by omega) (by rw [ht, Sp.unesc_pre, h2]; rfl))
              clear h2 ht hsz
              go_wp2_with (first
                | (go_at_call 37; refine (kept_any _ _).mono ?_; rintro e w2 ⟨rfl, rfl⟩; rw [HK.out])
                | (go_at_call 41; refine (Try.strings_HasPrefix rb ⟨#[92, 120]⟩ _).mono ?_; rintro e w2 ⟨rfl, rfl⟩; rw [show Lib.hasPrefix rb.data.toList _ = true from HP.out])
                | (go_at_call 42; refine (two_any _ _).mono ?_; rintro e w2 ⟨rfl, n2, rfl⟩; rw [H2.out, HD.out])
                | (go_at_call 36; refine (bu_wb _ _ _ (Sp.twoL t).1 _ rfl _ (hbu.drewN _) (by omega) hbs).mono ?_; rintro e w2 ⟨rfl, hbu2, hb2, _⟩))
              go_roundw
              case rel => exact ⟨_, _, rfl, HN, hbu2, (below_drewN hb _).trans hb2⟩
              case measure => simp [strLen]; omega
        · have HK : Hid (Sp.kept rb[0] = true) := Lib.hid (by rw [HC.out]; exact hkp)
          have HN : Hid (UnRel s (rb.extract 1 rb.size) (acc ++ [rb[0]])) := Lib.hid (HU.out.step 1 rb[0] (by omega) (by omega) (by rw [HLR.out, HC.out, Sp.unesc_kept c r h45 hkp]; rfl))
          clear h45 hkp
          go_wp2_with (first
            | (go_at_call 37; refine (kept_any _ _).mono ?_; rintro e w2 ⟨rfl, rfl⟩; rw [HK.out])
            | (go_at_call 36; refine (bu_wb _ _ _ rb[0] _ rfl _ hbu (by omega) hbs).mono ?_; rintro e w2 ⟨rfl, hbu2, hb2, _⟩))
          go_roundw
          case rel => exact ⟨_, _, rfl, HN, hbu2, hb.trans hb2⟩
          case measure => simp [strLen]; omega
end Go.Proofs.Ytgflmoejdhfecaa
