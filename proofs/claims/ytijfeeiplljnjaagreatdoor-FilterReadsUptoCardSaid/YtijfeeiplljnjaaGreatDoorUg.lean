/-
  A reader takes what stands between quotes, and a word: the program's walks.
-/
import Derived.Test.YtijfeeiplljnjaaGreatDoorUf
namespace Go.Proofs.YtijfeeiplljnjaaGreatDoor
open Go.RowKit

namespace Sp
theorem one_ne (c : UInt8) (r : List UInt8) (e : Int) (h : oneS c r = .error e) : e ≠ 0 := by
  unfold oneS at h
  by_cases h1 : badC c = true
  · rw [if_pos h1] at h; injection h with h; rw [← h]; decide
  rw [if_neg h1] at h
  by_cases h2 : c = 92
  · rw [if_pos h2] at h
    cases hx : escS r with
    | none => rw [hx] at h; injection h with h; rw [← h]; decide
    | some z => obtain ⟨b', n'⟩ := z; rw [hx] at h; cases h
  · rw [if_neg h2] at h; cases h
end Sp
/-- what quoted leaves: an error that the machine has too, or a place and a word from which the machine goes on -/
def QuotedR (B b : Nat) (s : ByteArray) (j : Nat) (l : List UInt8) (q : UInt8) (w : World) (e : Ending) (w' : World) : Prop :=
  ∃ e0 : Int, e = .returned (.int .i64 e0) ∧ Kept B b w w' ∧
    ((e0 ≠ 0 ∧ ∀ out, Sp.M 0 (some l) q out (s.data.toList.drop (j + 1)) = .error e0) ∨
     (e0 = 0 ∧ ∃ (j' : Nat) (l' : List UInt8), (j < j' ∧ j' ≤ s.size ∧ l'.length ≤ j') ∧ Wr B b s j' l' w' ∧ ∀ out, Sp.M 0 (some l) q out (s.data.toList.drop (j + 1)) = Sp.M 0 (some l') 0 out (s.data.toList.drop j')))

theorem room_some (x : List UInt8) (out : List (List UInt8)) : Sp.Room (some x) out := fun h => by cases h.1

set_option maxHeartbeats 4000000 in
set_option maxRecDepth 100000 in
theorem wquoted_any (B b : Nat) (s : ByteArray) (j : Nat) (l : List UInt8) (w : World) (h : Wr B b s j l w) (hj : j < s.size) (hs : s.size ≤ 140737488355328) (hl : l.length ≤ j) (q : UInt8) (hq : q = 39 ∨ q = 34) :
    Calls Tryz.prog 65 #[.pointer (some ⟨b, 0, none⟩), .int .u8 q.toNat] w (QuotedR B b s j l q w) := by
  obtain ⟨p0, v0, h⟩ := h
  have c1 := h.c1
  have f1 := h.fz 1
  have HQ := Lib.hid hq
  have HL := Lib.hid hl
  have HA := Lib.hid (⟨⟨p0, v0, h.at (j + 1) ((j : Int) + 1) (by omega)⟩, (Kept.refl B b w).set h.2.1 1 (.int .i64 ((j : Int) + 1))⟩ : Wr B b s (j + 1) l (w.setCell ⟨b, 1, none⟩ (.int .i64 ((j : Int) + 1))) ∧ Kept B b w (w.setCell ⟨b, 1, none⟩ (.int .i64 ((j : Int) + 1))))
  clear h hq hl
  go_enter Tryz.func65, Tryz.ntmps65
  go_wp2_with fail
  go_loopg [28] (s.size - (j + 1)) (fun g _ wr => ∃ (i : Nat) (l' : List UInt8), (j + 1 ≤ i ∧ i ≤ s.size ∧ s.size - i ≤ g ∧ l'.length ≤ i) ∧ Hid (Wr B b s i l' wr ∧ Kept B b w wr) ∧ Hid (∀ out, Sp.M 0 (some l) q out (s.data.toList.drop (j + 1)) = Sp.M 0 (some l') q out (s.data.toList.drop i)))
  case atStart => exact ⟨j + 1, l, ⟨Nat.le_refl _, by omega, Nat.le_refl _, by have := HL.out; omega⟩, HA, Lib.hid fun _ => rfl⟩
  case round =>
    obtain ⟨i, l', ⟨hi1, hi2, hg, hl'⟩, HR, HM⟩ := hrel
    obtain ⟨p, v, hat⟩ := HR.out.1
    have d0 := hat.c0
    have d1 := hat.c1
    have f3 := hat.fz 1
    have HAT := Lib.hid hat
    clear hat c1 f1 HA
    by_cases hlt : i < s.size
    · have HE := Lib.hid (fun n => wend_any B b s i l' (wr.drewN n) (HR.out.1.drewN n) false (by simp; omega))
      by_cases hc : s[i] = q
      · have t1 : ((s[i].toNat : Int) == (q.toNat : Int)) = true := (byte_is s[i] q).trans (decide_eq_true hc)
        have HM2 : Hid (∀ out, Sp.M 0 (some l) q out (s.data.toList.drop (j + 1)) = Sp.M 0 (some l') 0 out (s.data.toList.drop (i + 1))) := Lib.hid fun out => by
          rw [HM.out, drop_at s i hlt, hc, Sp.M_close (some l') q out _ (room_some _ _) HQ.out]; rfl
        clear hc
        go_wp2
        go_quiet (first | (go_at_call 33; exact Calls.quiet_of (HE.out _)))
        have e1 : (wr.drewN nq).cell? ⟨b, 1, none⟩ = some (.int .i64 i) := d1
        have g1 : (wr.drewN nq).frozen? ⟨b, 1, none⟩ = false := f3
        have HE2 := Lib.hid (HE.out nq)
        have HT2 := Lib.hid (HAT.out.drewN nq)
        have HK2 := Lib.hid (HR.out.2.drewN nq)
        clear d0 d1 f3
        generalize wr.drewN nq = w2 at e1 g1 HE2 HT2 HK2 ⊢
        go_wp2_with fail
        refine HE2.out.mono ?_
        rintro e w3 ⟨rfl, n3, rfl⟩
        have HT3 := Lib.hid ((HT2.out.drewN n3).at (i + 1) ((i : Int) + 1) (by omega))
        have HK3 := Lib.hid ((HK2.out.drewN n3).set HT2.out.2.1 1 (.int .i64 ((i : Int) + 1)))
        go_wp2
        go_ret
        exact ⟨0, rfl, HK3.out, .inr ⟨rfl, i + 1, l', ⟨by omega, by omega, by omega⟩, ⟨_, _, HT3.out⟩, HM2.out⟩⟩
      · have t1 : ((s[i].toNat : Int) == (q.toNat : Int)) = false := (byte_is s[i] q).trans (decide_eq_false hc)
        have HC := Lib.hid hc
        clear hc
        cases hx : Sp.oneS s[i] (s.data.toList.drop (i + 1)) with
        | error e0 =>
          have he0 : (e0 == 0) = false := by simpa using Sp.one_ne _ _ _ hx
          have HO := Lib.hid (fun n => wone_err B b s i l' (wr.drewN n) (HR.out.1.drewN n) hlt hs e0 hx)
          have HM2 : Hid (∀ out, Sp.M 0 (some l) q out (s.data.toList.drop (j + 1)) = .error e0) := Lib.hid fun out => by
            rw [HM.out, drop_at s i hlt]
            exact Sp.M_one_err _ _ _ _ _ (room_some _ _) e0 hx
          have HX := Lib.hid hx
          clear hx
          go_wp2
          go_quiet (first | (go_at_call 33; exact Calls.quiet_of (HE.out _)))
          have HO2 := Lib.hid (HO.out nq)
          have HK2 := Lib.hid (HR.out.2.drewN nq)
          clear d0 d1 f3
          generalize wr.drewN nq = w2 at HO2 HK2 ⊢
          go_wp2_with fail
          refine HO2.out.mono ?_
          rintro e w3 ⟨rfl, n3, rfl⟩
          go_wp2
          go_ret
          exact ⟨e0, rfl, HK2.out.drewN n3, .inl ⟨by simpa using he0, HM2.out⟩⟩
        | ok z =>
          obtain ⟨c0, n0⟩ := z
          have hlen := Sp.one_len _ _ _ _ hx
          rw [List.length_drop, show s.data.toList.length = s.size by simp] at hlen
          have HO := Lib.hid (fun n => wone_ok B b s i l' (wr.drewN n) (HR.out.1.drewN n) hlt hs hl' c0 n0 hx)
          have HM2 : Hid (∀ out, Sp.M 0 (some l) q out (s.data.toList.drop (j + 1)) = Sp.M 0 (some (l' ++ [c0])) q out (s.data.toList.drop (i + n0))) := Lib.hid fun out => by
            rw [HM.out, drop_at s i hlt, Sp.M_one_ok _ _ _ _ _ (room_some _ _) (fun e => by rcases HQ.out with g | g <;> (rw [g] at e; exact absurd e (by decide))) (fun _ => HC.out) c0 n0 hx, ← drop_at s i hlt, List.drop_drop]
            rfl
          clear hx
          go_wp2
          go_quiet (first | (go_at_call 33; exact Calls.quiet_of (HE.out _)))
          have HO2 := Lib.hid (HO.out nq)
          have HK2 := Lib.hid (HR.out.2.drewN nq)
          clear d0 d1 f3
          generalize wr.drewN nq = w2 at HO2 HK2 ⊢
          go_wp2_with fail
          refine HO2.out.mono ?_
          rintro e w3 ⟨rfl, hw3, hk3⟩
          have HW3 := Lib.hid hw3
          have HK3 := Lib.hid (HK2.out.trans hk3)
          clear hw3 hk3
          go_wp2
          go_roundg (s.size - (i + n0))
          case measure => omega
          case rel => exact ⟨i + n0, l' ++ [c0], ⟨by omega, by omega, Nat.le_refl _, by simp; omega⟩, Lib.hid ⟨HW3.out, HK3.out⟩, HM2⟩
    · have HE := Lib.hid (fun n => wend_any B b s i l' (wr.drewN n) (HR.out.1.drewN n) true (by simp; omega))
      have HM2 : Hid (∀ out, Sp.M 0 (some l) q out (s.data.toList.drop (j + 1)) = .error 13) := Lib.hid fun out => by
        rw [HM.out, drop_end s i (by omega)]
        exact Sp.M_open _ _ _ (by rcases HQ.out with g | g <;> (rw [g]; decide))
      go_wp2
      go_quiet (first | (go_at_call 33; exact Calls.quiet_of (HE.out _)))
      have HE2 := Lib.hid (HE.out nq)
      have HK2 := Lib.hid (HR.out.2.drewN nq)
      clear d0 d1 f3
      generalize wr.drewN nq = w2 at HE2 HK2 ⊢
      go_wp2_with fail
      refine HE2.out.mono ?_
      rintro e w3 ⟨rfl, n3, rfl⟩
      go_wp2
      go_ret
      exact ⟨13, rfl, HK2.out.drewN n3, .inl ⟨by decide, HM2.out⟩⟩

end Go.Proofs.YtijfeeiplljnjaaGreatDoor
