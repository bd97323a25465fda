/-
  The walk of a word in which variables are their values.
-/
import Derived.Test.YtcefnglmacpehaaEx5
namespace Go.Proofs.Ytcefnglmacpehaa
open Go.RowKit

set_option maxHeartbeats 400000 in
theorem slcutBr_any (s : ByteArray) (w : World) (hs : s.size ≤ 281474976710656) :
    Calls Try.prog 65 #[.string s, .string ⟨#[125]⟩] w fun e w' => e = .returned (.tuple #[.string ⟨(Sp.cutBr s.data.toList).1.toArray⟩, .string ⟨(Sp.cutBr s.data.toList).2.1.toArray⟩, .bool (Sp.cutBr s.data.toList).2.2]) ∧ ∃ n, w' = w.drewN n := by
  rcases Sp.index_spec s.data.toList 125 with ⟨e, hn⟩ | ⟨i, e, hi, hl, hn⟩
  · rw [Sp.cutBr_miss _ hn]
    have E := Lib.hid e; clear e hn
    go_enter Try.func65, Try.ntmps65
    go_wp2_with (go_at_call 70; refine (Try.stringslite_Index_one _ _ _).mono ?_; rintro e w' ⟨rfl, rfl⟩; rw [E.out])
    go_ret3
    exact ⟨rfl, 0, rfl⟩
  · have hc := Sp.cutBr_hit _ (s.data.toList.drop (i + 1)) hn
    rw [← hl] at hc
    rw [hc]
    have E := Lib.hid e; clear e hn hc hl
    have hi2 : i < s.size := by simpa using hi
    clear hi
    have c1 : (0 : Int) ≤ ↑i := by omega
    have c2 : (↑i : Int) ≤ ↑s.size := by omega
    have c3 : (0 : Int) ≤ ↑i + 1 := by omega
    have c4 : (↑i + 1 : Int) ≤ ↑s.size := by omega
    go_enter Try.func65, Try.ntmps65
    go_wp2_with (go_at_call 70; refine (Try.stringslite_Index_one _ _ _).mono ?_; rintro e w' ⟨rfl, rfl⟩; rw [E.out])
    go_region
    go_wp2
    go_ret3
    exact ⟨by rw [ext_take, ext_drop]; rfl, 1, rfl⟩

set_option maxHeartbeats 400000 in
theorem scutBr_any (s : ByteArray) (w : World) (hs : s.size ≤ 281474976710656) :
    Calls Try.prog 51 #[.string s, .string ⟨#[125]⟩] w fun e w' => e = .returned (.tuple #[.string ⟨(Sp.cutBr s.data.toList).1.toArray⟩, .string ⟨(Sp.cutBr s.data.toList).2.1.toArray⟩, .bool (Sp.cutBr s.data.toList).2.2]) ∧ ∃ n, w' = w.drewN n := by
  go_enter Try.func51, Try.ntmps51
  go_wp2_with (go_at_call 65; refine (slcutBr_any _ _ hs).mono ?_; rintro e w' ⟨rfl, n, rfl⟩)
  go_ret3
  exact ⟨rfl, n, rfl⟩

set_option maxHeartbeats 1000000 in
theorem within_any (s : ByteArray) (A : Option Addr) (n c B : Nat) (env : List (ByteArray × ByteArray)) (w : World) (h : Rd w B 2 A n (pairCells env)) (hB : B ≤ w.heap.size) (hn : n ≤ 140737488355328)
    (hs : s.size ≤ 2097152) (hv : ∀ p ∈ env, p.2.size ≤ 2097152) :
    Calls Try.prog 28 #[.string s, .slice A n c] w fun e w' => e = .returned (.string ⟨(Sp.wordL (envL env) s.data.toList).toArray⟩) ∧ Below w.heap.size w w' := by
  have hM : ∀ p ∈ envL env, p.2.length ≤ 2097152 := by
    intro p hp
    obtain ⟨q, hq, rfl⟩ := List.mem_map.1 hp
    exact hv q hq
  have HM := Lib.hid hM
  clear hM
  go_enter Try.func28, Try.ntmps28
  go_wp2_with fail
  go_loopw [0] (fun v wr => ∃ (rb : ByteArray) (acc : List UInt8), v = .string rb ∧ Hid (Sp.WRel (envL env) 2097152 s.data.toList rb.data.toList acc) ∧ Bu w.heap.size w.heap.size acc wr ∧ Below w.heap.size w wr) (fun v _ => strLen v)
  case atStart => exact ⟨s, [], rfl, Lib.hid (Sp.WRel.start _ _ _), bu_fresh w w.heap.size (Nat.le_refl _), (Below.refl _ _).alloc (Nat.le_refl _) _⟩
  case round =>
    obtain ⟨rb, acc, rfl, HW, hbu, hb⟩ := hrel
    have hbs := hbu.base
    have hac : acc.length + rb.size * 2097152 ≤ s.size * 2097152 := HW.out.2
    have hrs : rb.size ≤ 2097152 := by omega
    have hac2 : acc.length ≤ 4398046511104 := by omega
    match hl : rb.data.toList with
    | [] =>
      have he : rb.toList.isEmpty = true := by rw [Lib.toList_data, hl]; rfl
      have HE : Hid (Sp.wordL (envL env) s.data.toList = acc) := Lib.hid (by have := HW.out; rw [hl] at this; exact this.done)
      clear hl
      go_wp2_with (go_at_call 20; refine (bu_string _ _ _ _ hbu hbs).mono ?_; rintro e w2 ⟨rfl, hbu2, hb2, _⟩)
      go_ret
      exact ⟨ret_str (by rw [HE.out]), hb.trans hb2⟩
    | ch :: r =>
      obtain ⟨h0, hc0⟩ := head_of rb ch r hl
      have he : rb.toList.isEmpty = false := by rw [Lib.toList_data, hl]; rfl
      have hi0 : (0 : Int) < (rb.size : Int) := by omega
      have htl : (Lib.trimPrefix rb.data.toList [36, 123]).length ≤ 281474976710656 := by
        have h1 : rb.data.toList.length = rb.size := by simp
        unfold Lib.trimPrefix; split
        · rw [List.length_drop]; omega
        · omega
      generalize ht : Lib.trimPrefix rb.data.toList [36, 123] = t at htl
      have HT : Hid (Lib.trimPrefix rb.data.toList (ByteArray.mk #[36, 123]).data.toList = t) := Lib.hid ht
      generalize hx : (Sp.cutBr t).1 = x
      generalize hy : (Sp.cutBr t).2.1 = y
      generalize hz : (Sp.cutBr t).2.2 = z
      have HX := Lib.hid hx; have HY := Lib.hid hy; have HZ := Lib.hid hz
      have hxl : x.length ≤ 281474976710656 := by have := (Sp.cutBr_len t).1; rw [hx] at this; omega
      have hl2 : rb.data.toList.drop 1 = r := by rw [hl]; rfl
      have HL := Lib.hid hl
      have HC := Lib.hid hc0
      clear hx hy hz hl hc0
      cases h1 : Lib.hasPrefix rb.data.toList [36, 36] with
      | true =>
        have H1 : Hid (Lib.hasPrefix rb.data.toList (ByteArray.mk #[36, 36]).data.toList = true) := Lib.hid h1
        have h22 : 2 ≤ rb.size := by
          have h1 := h1
          have h3 : rb.data.toList.length = rb.size := by simp
          rw [HL.out] at h1 h3
          match r with
          | [] => simp [Lib.hasPrefix] at h1
          | _ :: _ => simp at h3; omega
        have z1 : (2 : Int) ≤ (rb.size : Int) := by omega
        clear h1 ht hl2
        go_wp2_with (first
          | (go_at_call 52; refine (Try.strings_TrimPrefix _ _ _).mono ?_; rintro e w' ⟨rfl, rfl⟩; rw [HT.out])
          | (go_at_call 51; refine (scutBr_any ⟨t.toArray⟩ _ htl).mono ?_; rintro e w' ⟨rfl, n1, rfl⟩; simp only [HX.out, HY.out, HZ.out])
          | (go_at_call 53; refine (Try.strings_HasPrefix _ _ _).mono ?_; rintro e w' ⟨rfl, rfl⟩; rw [H1.out]))
        refine (bu_writeString _ _ acc ⟨#[36]⟩ _ (hbu.drewN _) (show acc.length + 1 ≤ _ by omega) hbs).mono ?_
        rintro e w2 ⟨rfl, hbu2, hb2, _⟩
        go_wp2
        go_roundw
        case rel => exact ⟨_, _, rfl, Lib.hid (by have := HW.out.two (by omega) H1.out; rw [ext_drop]; exact this), hbu2, (belowQ hb _).trans hb2⟩
        case measure => simp [strLen]; omega
      | false =>
        have H1 : Hid (Lib.hasPrefix rb.data.toList (ByteArray.mk #[36, 36]).data.toList = false) := Lib.hid h1
        have one : Hid (Sp.braceL rb.data.toList = false → Sp.WRel (envL env) 2097152 s.data.toList r (acc ++ [ch])) := Lib.hid (by
          intro hnb; have hw := HW.out; rw [HL.out] at hnb h1 hw; exact hw.one (by omega) h1 hnb)
        have hr1 : Hid ((rb.extract 1 rb.size).data.toList = r) := Lib.hid (by rw [ext_drop]; exact hl2)
        have z1 : (1 : Int) ≤ (rb.size : Int) := by omega
        cases h2 : Lib.hasPrefix rb.data.toList [36, 123] with
        | false =>
          have H2 : Hid (Lib.hasPrefix rb.data.toList (ByteArray.mk #[36, 123]).data.toList = false) := Lib.hid h2
          have hnb : Hid (Sp.braceL rb.data.toList = false) := Lib.hid (by unfold Sp.braceL; rw [h2]; rfl)
          clear ht hl2 h1 h2
          go_wp2_with (first
          | (go_at_call 52; refine (Try.strings_TrimPrefix _ _ _).mono ?_; rintro e w' ⟨rfl, rfl⟩; rw [HT.out])
          | (go_at_call 51; refine (scutBr_any ⟨t.toArray⟩ _ htl).mono ?_; rintro e w' ⟨rfl, n1, rfl⟩; simp only [HX.out, HY.out, HZ.out])
          | (go_at_call 53; refine (Try.strings_HasPrefix _ _ _).mono ?_; rintro e w' ⟨rfl, rfl⟩; first | rw [H1.out] | rw [H2.out])
          | (go_at_call 17; refine (bu_wb _ _ acc ch _ (by rw [HC.out]) _ (hbu.drewN _) (by omega) hbs).mono ?_; rintro e w2 ⟨rfl, hbu2, hb2, _⟩))
          go_roundw
          case rel => exact ⟨_, _, rfl, Lib.hid (by rw [hr1.out]; exact one.out hnb.out), hbu2, (belowQ hb _).trans hb2⟩
          case measure => simp [strLen]; omega
        | true =>
          have H2 : Hid (Lib.hasPrefix rb.data.toList (ByteArray.mk #[36, 123]).data.toList = true) := Lib.hid h2
          have ht2 : Hid (rb.data.toList.drop 2 = t) := Lib.hid (by rw [← ht]; unfold Lib.trimPrefix; rw [if_pos h2]; rfl)
          have hbr : Hid (Sp.braceL rb.data.toList = (z && Sp.varL x)) := Lib.hid (by unfold Sp.braceL; rw [h2, ht2.out, HX.out, HZ.out, Bool.true_and])
          clear ht hl2
          cases z with
          | false =>
            have hnb : Hid (Sp.braceL rb.data.toList = false) := Lib.hid (by rw [hbr.out]; rfl)
            clear h1 h2
            go_wp2_with (first
          | (go_at_call 52; refine (Try.strings_TrimPrefix _ _ _).mono ?_; rintro e w' ⟨rfl, rfl⟩; rw [HT.out])
          | (go_at_call 51; refine (scutBr_any ⟨t.toArray⟩ _ htl).mono ?_; rintro e w' ⟨rfl, n1, rfl⟩; simp only [HX.out, HY.out, HZ.out])
          | (go_at_call 53; refine (Try.strings_HasPrefix _ _ _).mono ?_; rintro e w' ⟨rfl, rfl⟩; first | rw [H1.out] | rw [H2.out])
          | (go_at_call 17; refine (bu_wb _ _ acc ch _ (by rw [HC.out]) _ (hbu.drewN _) (by omega) hbs).mono ?_; rintro e w2 ⟨rfl, hbu2, hb2, _⟩))
            go_roundw
            case rel => exact ⟨_, _, rfl, Lib.hid (by rw [hr1.out]; exact one.out hnb.out), hbu2, (belowQ hb _).trans hb2⟩
            case measure => simp [strLen]; omega
          | true =>
            cases hv2 : Sp.varL x with
            | false =>
              have HV : Hid (Sp.varL x = false) := Lib.hid hv2
              have hnb : Hid (Sp.braceL rb.data.toList = false) := Lib.hid (by rw [hbr.out, hv2]; rfl)
              clear h1 h2 hv2
              go_wp2_with (first
          | (go_at_call 52; refine (Try.strings_TrimPrefix _ _ _).mono ?_; rintro e w' ⟨rfl, rfl⟩; rw [HT.out])
          | (go_at_call 51; refine (scutBr_any ⟨t.toArray⟩ _ htl).mono ?_; rintro e w' ⟨rfl, n1, rfl⟩; simp only [HX.out, HY.out, HZ.out])
          | (go_at_call 53; refine (Try.strings_HasPrefix _ _ _).mono ?_; rintro e w' ⟨rfl, rfl⟩; first | rw [H1.out] | rw [H2.out]))
              refine (variable_any ⟨x.toArray⟩ _ (show x.length ≤ _ by omega)).mono ?_
              rintro e w2 ⟨rfl, hb2⟩
              rw [HV.out]
              go_wp2_with fail
              refine (bu_wb _ _ acc ch _ (by rw [HC.out]) _ ((hbu.drewN _).below hb2) (by omega) (Nat.le_trans hbs hb2.size)).mono ?_
              rintro e w3 ⟨rfl, hbu3, hb3, _⟩
              go_wp2
              go_roundw
              case rel => exact ⟨_, _, rfl, Lib.hid (by rw [hr1.out]; exact one.out hnb.out), hbu3, ((belowQ hb _).trans (hb2.mono hbs)).trans hb3⟩
              case measure => simp [strLen]; omega
            | true =>
              have HV : Hid (Sp.varL x = true) := Lib.hid hv2
              have hyes : Hid (Sp.WRel (envL env) 2097152 s.data.toList y (acc ++ Sp.valueL (envL env) x)) := Lib.hid (by
                have := HW.out.val HM.out h1 (by rw [hbr.out, hv2]; rfl)
                rw [ht2.out, HX.out, HY.out] at this; exact this)
              have hyl : y.length < rb.size := by
                have q1 := (Sp.cutBr_len t).2
                rw [HY.out, ← ht2.out] at q1
                have q2 : rb.data.toList.length = rb.size := by simp
                rw [List.length_drop] at q1; omega
              generalize hvl : Sp.valueL (envL env) x = vl at hyes
              have HVL := Lib.hid hvl
              have hvlen : vl.length ≤ 2097152 := by have := Sp.valueL_len _ _ HM.out x; rw [hvl] at this; exact this
              clear h1 h2 hv2 hvl
              go_wp2_with (first
          | (go_at_call 52; refine (Try.strings_TrimPrefix _ _ _).mono ?_; rintro e w' ⟨rfl, rfl⟩; rw [HT.out])
          | (go_at_call 51; refine (scutBr_any ⟨t.toArray⟩ _ htl).mono ?_; rintro e w' ⟨rfl, n1, rfl⟩; simp only [HX.out, HY.out, HZ.out])
          | (go_at_call 53; refine (Try.strings_HasPrefix _ _ _).mono ?_; rintro e w' ⟨rfl, rfl⟩; first | rw [H1.out] | rw [H2.out]))
              refine (variable_any ⟨x.toArray⟩ _ (show x.length ≤ _ by omega)).mono ?_
              rintro e w2 ⟨rfl, hb2⟩
              rw [HV.out]
              go_wp2_with fail
              refine (value_any A n c B env ⟨x.toArray⟩ w2 (h.below (((belowQ hb _).trans (hb2.mono hbs)).mono hB)) hn).mono ?_
              rintro e w3 ⟨rfl, rfl⟩
              rw [HVL.out]
              go_wp2_with fail
              refine (bu_writeString _ _ acc ⟨vl.toArray⟩ _ ((hbu.drewN _).below hb2) (show acc.length + vl.length ≤ _ by omega) (Nat.le_trans hbs hb2.size)).mono ?_
              rintro e w3 ⟨rfl, hbu3, hb3, _⟩
              go_wp2
              go_roundw
              case rel => exact ⟨_, _, rfl, hyes, hbu3, ((belowQ hb _).trans (hb2.mono hbs)).trans hb3⟩
              case measure => (have e9 : (ByteArray.mk y.toArray).size = y.length := rfl); simp [strLen]; omega

end Go.Proofs.Ytcefnglmacpehaa
