/-
  The walk of a text with percent signs.
-/
import Derived.Test.YtcefnglmacpehaaEx2
namespace Go.Proofs.Ytcefnglmacpehaa
open Go.RowKit

namespace Sp
theorem trimSuffix_len (a b : List UInt8) : (Lib.trimSuffix a b).length ≤ a.length := by
  unfold Lib.trimSuffix; split <;> simp
theorem unescL_len (l : List UInt8) : ∀ x, unescL l = some x → x.length ≤ l.length := by
  induction hn : l.length using Nat.strongRecOn generalizing l with
  | _ n ih =>
    intro x hx
    match l with
    | [] => simp [unescL] at hx; subst hx; simp
    | c :: r =>
      by_cases h1 : c = 45
      · have e1 : unescL (c :: r) = (unescL r).map (47 :: ·) := by
          conv => lhs; unfold unescL
          rw [if_pos h1]
        rw [e1] at hx
        obtain ⟨y, hy, rfl⟩ := Option.map_eq_some_iff.1 hx
        have := ih r.length (by simp at hn; omega) r rfl y hy
        simp at hn ⊢; omega
      · cases h2 : kept c
        · rcases unesc_split c r h1 h2 with ⟨a, b, r2, _, hr, _, _, e⟩ | ⟨e, _⟩
          · rw [e] at hx
            obtain ⟨y, hy, rfl⟩ := Option.map_eq_some_iff.1 hx
            subst hr
            have := ih r2.length (by simp at hn; omega) r2 rfl y hy
            simp at hn ⊢; omega
          · rw [e] at hx; simp at hx
        · rw [unesc_kept c r h1 h2] at hx
          obtain ⟨y, hy, rfl⟩ := Option.map_eq_some_iff.1 hx
          have := ih r.length (by simp at hn; omega) r rfl y hy
          simp at hn ⊢; omega
theorem goL_plain (u : List UInt8) (c : UInt8) (r : List UInt8) (h : c ≠ 37) : goL u (c :: r) = (goL u r).map (c :: ·) := by
  cases r <;> simp [goL, h]
theorem standsL_len (c : UInt8) (u t : List UInt8) (h : mayL u = true) (ht : standsL c u = some t) : t.length ≤ 60 := by
  have hl := mayL_len u h
  have hp := partsL_len60 u
  have ht' := trimSuffix_len u (46 :: suffix (kindL u))
  unfold standsL at ht
  split at ht
  · simp at ht; subst ht; simp
  split at ht
  · simp at ht; subst ht; omega
  split at ht
  · simp at ht; subst ht; omega
  split at ht
  · simp at ht; subst ht; omega
  split at ht
  · simp at ht; subst ht; omega
  split at ht
  · simp at ht; subst ht
    cases hx : unescL (partsL u).2.1 with
    | none => simp; omega
    | some y => have := unescL_len _ _ hx; simp; omega
  · simp at ht

/-- where the loop of Spec stands -/
def SpecRel (u s : List UInt8) (k : Nat) (acc : List UInt8) : Prop := goL u s = (goL u (s.drop k)).map (acc ++ ·) ∧ acc.length ≤ 61 * k
theorem SpecRel.start (u s : List UInt8) : SpecRel u s 0 [] := ⟨by simp, by simp⟩
theorem SpecRel.plain {u : List UInt8} {s : ByteArray} {k : Nat} {acc : List UInt8} (h : SpecRel u s.data.toList k acc) (hk : k < s.size) (hc : s[k] ≠ 37) :
    SpecRel u s.data.toList (k + 1) (acc ++ [s[k]]) := by
  refine ⟨?_, by have := h.2; simp; omega⟩
  have e : s.data.toList.drop k = s[k] :: s.data.toList.drop (k + 1) := by rw [List.drop_eq_getElem_cons (by simpa using hk)]; simp [ByteArray.getElem_eq_getElem_data]
  rw [h.1, e]
  rw [goL_plain _ _ _ hc, Option.map_map]
  congr 1; funext x; simp
theorem SpecRel.last {u : List UInt8} {s : ByteArray} {k : Nat} {acc : List UInt8} (h : SpecRel u s.data.toList k acc) (hk : k < s.size) (hc : s[k] = 37) (hl : k + 1 = s.size) :
    goL u s.data.toList = none := by
  have e : s.data.toList.drop k = [37] := by
    rw [List.drop_eq_getElem_cons (by simpa using hk), List.drop_eq_nil_of_le (by simp; omega)]
    simp [ByteArray.getElem_eq_getElem_data] at hc ⊢; exact hc
  rw [h.1, e]; simp [goL]
theorem SpecRel.two {s : ByteArray} {k : Nat} (hk : k + 1 < s.size) (hc : s[k] = 37) :
    s.data.toList.drop k = 37 :: s[k + 1] :: s.data.toList.drop (k + 2) := by
  rw [List.drop_eq_getElem_cons (by simp; omega), List.drop_eq_getElem_cons (by simpa using hk)]
  simp [ByteArray.getElem_eq_getElem_data] at hc ⊢; exact hc
theorem SpecRel.stop {u : List UInt8} {s : ByteArray} {k : Nat} {acc : List UInt8} (h : SpecRel u s.data.toList k acc) (hk : k + 1 < s.size) (hc : s[k] = 37) (hn : standsL s[k + 1] u = none) :
    goL u s.data.toList = none := by
  rw [h.1, SpecRel.two hk hc]; simp [goL, hn]
theorem SpecRel.sign {u : List UInt8} {s : ByteArray} {k : Nat} {acc t : List UInt8} (h : SpecRel u s.data.toList k acc) (hk : k + 1 < s.size) (hc : s[k] = 37) (hm : mayL u = true) (hn : standsL s[k + 1] u = some t) :
    SpecRel u s.data.toList (k + 2) (acc ++ t) := by
  refine ⟨?_, by have := h.2; have := standsL_len _ _ _ hm hn; simp; omega⟩
  rw [h.1, SpecRel.two hk hc]
  simp only [goL, hn, ↓reduceIte, Option.map_map]
  congr 1; funext x; simp
theorem SpecRel.done {u : List UInt8} {s : ByteArray} {k : Nat} {acc : List UInt8} (h : SpecRel u s.data.toList k acc) (hk : ¬ k < s.size) : goL u s.data.toList = some acc := by
  rw [h.1, List.drop_eq_nil_of_le (by simp; omega)]; simp [goL]
end Sp

/-- a builder that older blocks' growth leaves as it is -/
theorem Bu.below {B b : Nat} {l : List UInt8} {w w' : World} (h : Bu B b l w) (hb : Below w.heap.size w w') : Bu B b l w' := by
  have one : ∀ p, Lib.BuilderAtF 42 5 B b p (Lib.byteCells l) w → Lib.BuilderAtF 42 5 B b p (Lib.byteCells l) w' := by
    intro p hp
    have hlt := hp.lt
    obtain ⟨hB, v, hv, hown, hne⟩ := hp
    exact ⟨hB, v, (hb.block b hlt).trans hv, hown.kept (row := none) ⟨hb.os, hb.tape, hb.output, hb.size, fun k hk _ => hb.block k hk⟩ (Classical.em _), hne⟩
  unfold Bu at h ⊢
  exact h.elim (fun x => .inl (one _ x)) (fun x => .inr (one _ x))

set_option maxHeartbeats 1000000 in
theorem spec_any (s u : ByteArray) (w : World) (hs : s.size ≤ 1099511627776) (hu : u.size ≤ 140737488355328) :
    Calls Try.prog 9 #[.string s, .string u] w fun e w' => e = .returned (.tuple #[.string ⟨(Sp.specL s.data.toList u.data.toList).1.toArray⟩, .int .i64 (Sp.specL s.data.toList u.data.toList).2]) ∧ Below w.heap.size w w' := by
  by_cases hm : Sp.mayL u.data.toList = true
  · have HM := Lib.hid hm
    have HG : Hid (∀ o, Sp.goL u.data.toList s.data.toList = o → Sp.specL s.data.toList u.data.toList = match o with | some t => (t, 0) | none => ([], 14)) := Lib.hid (by
      intro o ho; unfold Sp.specL; rw [if_pos hm, ho]; cases o <;> rfl)
    clear hm
    go_enter Try.func9, Try.ntmps9
    go_wp2_with (go_at_call 14; refine (may_any _ _ (by omega)).mono ?_; rintro e w1 ⟨rfl, hb1⟩; rw [HM.out])
    go_loopw [7] (fun i wr => ∃ (k : Nat) (acc : List UInt8), k ≤ s.size ∧ i = .int .i64 k ∧ Hid (Sp.SpecRel u.data.toList s.data.toList k acc) ∧ Bu w.heap.size w1.heap.size acc wr ∧ Below w.heap.size w wr) (fun i _ => s.size - (intOf i).toNat)
    case atStart => exact ⟨0, [], Nat.zero_le _, rfl, Lib.hid (Sp.SpecRel.start _ _), bu_fresh w1 w.heap.size hb1.size, hb1.alloc hb1.size _⟩
    case round =>
      obtain ⟨k, acc, hk, rfl, HR, hbu, hb⟩ := hrel
      have hbs := hbu.base
      have hac : acc.length ≤ 61 * k := HR.out.2
      by_cases hlt : k < s.size
      · by_cases hc : (s[k].toNat : Int) = 37
        · have hcb : ((s[k].toNat : Int) != 37) = false := by simpa using hc
          have hce : s[k] = 37 := UInt8.toNat_inj.1 (by simpa using (by omega : s[k].toNat = 37))
          by_cases hl : k + 1 < s.size
          · have hlb : ((k : Int) + 1 == (s.size : Int)) = false := by simp; omega
            generalize hx : Sp.standsL s[k + 1] u.data.toList = x
            have HX := Lib.hid hx
            have HC := Lib.hid hce
            clear hx hce hc
            have hl2 : ((k : Int) + 1) < (s.size : Int) := by omega
            have hl3 : (0 : Int) ≤ ((k : Int) + 1) := by omega
            go_wp2_with (go_at_call 18; refine (stands_any _ u _ hu).mono ?_; rintro e w2 ⟨rfl, hb2⟩)
            · have hn : x = none := by cases x with
                | none => rfl
                | some t => exfalso; have hx2 := HX.out; clear HX; simp_all
              go_ret2
              exact ⟨by rw [HG.out _ (HR.out.stop hl HC.out (hn ▸ HX.out))]; rfl, hb.trans (hb2.mono hb.size)⟩
            · cases x with
              | none => exfalso; have hx2 := HX.out; clear HX; simp_all
              | some t =>
                have ht : t.length ≤ 60 := Sp.standsL_len _ _ _ HM.out HX.out
                rw [HX.out]
                refine (bu_writeString _ _ acc ⟨t.toArray⟩ _ (hbu.below hb2) (show _ + t.length ≤ _ by omega) (Nat.le_trans hbs hb2.size)).mono ?_
                rintro e w3 ⟨rfl, hbu3, hb3, _⟩
                go_wp2
                go_roundw
                case rel => exact ⟨k + 2, _, by omega, by go_num, Lib.hid (HR.out.sign hl HC.out HM.out HX.out), hbu3, (hb.trans (hb2.mono hb.size)).trans hb3⟩
                case measure => simp [intOf]; omega
          · have hlb : ((k : Int) + 1 == (s.size : Int)) = true := by simp; omega
            have hl2 : k + 1 = s.size := by omega
            have HC := Lib.hid hce
            clear hce hc
            go_wp2
            go_ret2
            exact ⟨by rw [HG.out _ (HR.out.last hlt HC.out hl2)]; rfl, hb⟩
        · have hcb : ((s[k].toNat : Int) != 37) = true := by simpa using hc
          have hce : Hid (s[k] ≠ 37) := Lib.hid (fun h => hc (by rw [h]; rfl))
          clear hc
          go_wp2_with (go_at_call 17; refine (bu_wb _ _ _ s[k] _ rfl _ hbu (by omega) hbs).mono ?_; rintro e w2 ⟨rfl, hbu2, hb2, _⟩)
          go_roundw
          case rel => exact ⟨k + 1, _, by omega, by go_num, Lib.hid (HR.out.plain hlt hce.out), hbu2, hb.trans hb2⟩
          case measure => simp [intOf]; omega
      · go_wp2_with (go_at_call 20; refine (bu_string _ _ _ _ hbu hbs).mono ?_; rintro e w2 ⟨rfl, hbu2, hb2, _⟩)
        go_ret2
        exact ⟨by rw [HG.out _ (HR.out.done hlt)]; rfl, hb.trans hb2⟩
  · have hm2 : Sp.mayL u.data.toList = false := by simpa using hm
    have e : Sp.specL s.data.toList u.data.toList = ([], 5) := by simp [Sp.specL, hm2]
    rw [e]
    clear e hm
    go_enter Try.func9, Try.ntmps9
    go_wp2_with (go_at_call 14; refine (may_any _ _ (by omega)).mono ?_; rintro e w1 ⟨rfl, hb1⟩)
    go_ret2
    exact ⟨rfl, hb1⟩

end Go.Proofs.Ytcefnglmacpehaa
