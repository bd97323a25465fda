/-
  A reader takes a byte, a quote's text: the program's walks, against the plain machine.
-/
import Derived.Test.YtijfeeiplljnjaaGreatDoorUe
namespace Go.Proofs.YtijfeeiplljnjaaGreatDoor
open Go.RowKit

namespace Sp
/-- one byte as it stands, or by a backslash: the byte, how many bytes it takes -/
def oneS (c : UInt8) (r : List UInt8) : Except Int (UInt8 × Nat) :=
  if badC c = true then .error 1 else if c = 92 then (match escS r with
    | none => .error 13
    | some (b, n) => .ok (b, n + 1)) else .ok (c, 1)
theorem two_len (r : List UInt8) (h : (twoL r).2 = true) : 2 ≤ r.length := by
  match r, h with
  | [], h => cases h
  | [_], h => cases h
  | _ :: _ :: _, _ => simp
theorem esc_len (r : List UInt8) (b : UInt8) (n : Nat) (h : escS r = some (b, n)) : 1 ≤ n ∧ n ≤ r.length := by
  match r, h with
  | [], h => cases h
  | c :: t, h =>
    rw [escS] at h
    by_cases h1 : c = 92 ∨ c = 34 ∨ c = 39
    · rw [if_pos h1] at h; injection h with h; injection h with _ h; subst h; simp
    rw [if_neg h1] at h
    by_cases h2 : c = 110
    · rw [if_pos h2] at h; injection h with h; injection h with _ h; subst h; simp
    rw [if_neg h2] at h
    by_cases h3 : c = 116
    · rw [if_pos h3] at h; injection h with h; injection h with _ h; subst h; simp
    rw [if_neg h3] at h
    by_cases h4 : c = 115
    · rw [if_pos h4] at h; injection h with h; injection h with _ h; subst h; simp
    rw [if_neg h4] at h
    by_cases h5 : c = 120
    · rw [if_pos h5] at h
      by_cases h6 : (twoL t).2 = true ∧ (twoL t).1 ≠ 0
      · rw [if_pos h6] at h; injection h with h; injection h with _ h; subst h
        have := two_len t h6.1
        simp only [List.length_cons]; omega
      · rw [if_neg h6] at h; cases h
    · rw [if_neg h5] at h; cases h
theorem one_len (c : UInt8) (r : List UInt8) (b : UInt8) (n : Nat) (h : oneS c r = .ok (b, n)) : 1 ≤ n ∧ n ≤ r.length + 1 := by
  unfold oneS at h
  by_cases h1 : badC c = true
  · rw [if_pos h1] at h; cases h
  rw [if_neg h1] at h
  by_cases h2 : c = 92
  · rw [if_pos h2] at h
    cases hx : escS r with
    | none => rw [hx] at h; cases h
    | some z =>
      obtain ⟨b', n'⟩ := z
      rw [hx] at h
      injection h with h
      injection h with _ h
      have := esc_len r b' n' hx
      omega
  · rw [if_neg h2] at h; injection h with h; injection h with _ h; subst h; simp
/-- what the machine does at a byte that opens or closes nothing -/
theorem M_one_err (cur : Option (List UInt8)) (q : UInt8) (out : List (List UInt8)) (c : UInt8) (r : List UInt8) (hr : Room cur out) (e : Int) (h : oneS c r = .error e) : M 0 cur q out (c :: r) = .error e := by
  unfold oneS at h
  by_cases h1 : badC c = true
  · rw [if_pos h1] at h; injection h with h; rw [← h]; exact M_bad _ _ _ _ _ h1
  rw [if_neg h1] at h
  by_cases h2 : c = 92
  · rw [if_pos h2] at h
    cases hx : escS r with
    | none => rw [hx] at h; injection h with h; rw [← h, h2]; exact M_esc_none _ _ _ _ hr hx
    | some z => obtain ⟨b', n'⟩ := z; rw [hx] at h; cases h
  · rw [if_neg h2] at h; cases h
theorem M_one_ok (cur : Option (List UInt8)) (q : UInt8) (out : List (List UInt8)) (c : UInt8) (r : List UInt8) (hr : Room cur out) (hk : q = 0 → blankC c = false ∧ c ≠ 39 ∧ c ≠ 34) (hq : q ≠ 0 → c ≠ q) (b : UInt8) (n : Nat) (h : oneS c r = .ok (b, n)) : M 0 cur q out (c :: r) = M 0 (some (cur.getD [] ++ [b])) q out ((c :: r).drop n) := by
  unfold oneS at h
  by_cases h1 : badC c = true
  · rw [if_pos h1] at h; cases h
  rw [if_neg h1] at h
  by_cases h2 : c = 92
  · rw [if_pos h2] at h
    cases hx : escS r with
    | none => rw [hx] at h; cases h
    | some z =>
      obtain ⟨b', n'⟩ := z
      rw [hx] at h
      injection h with h
      injection h with hb hn
      subst hb
      subst hn
      rw [h2, M_esc _ _ _ _ hr _ _ hx, List.drop_succ_cons]
  · rw [if_neg h2] at h
    injection h with h
    injection h with hb hn
    subst hb
    subst hn
    rw [M_byte _ _ _ _ _ hr (by simpa using h1) h2 hk hq]
    rfl
end Sp

set_option maxHeartbeats 2000000 in
set_option maxRecDepth 100000 in
theorem wone_err (B b : Nat) (s : ByteArray) (k : Nat) (l : List UInt8) (w : World) (h : Wr B b s k l w) (hk : k < s.size) (hs : s.size ≤ 140737488355328) (e0 : Int) (h1 : Sp.oneS s[k] (s.data.toList.drop (k + 1)) = .error e0) :
    Calls Tryz.prog 62 #[.pointer (some ⟨b, 0, none⟩)] w fun e w' => e = .returned (.int .i64 e0) ∧ ∃ n, w' = w.drewN n := by
  obtain ⟨p, v, h⟩ := h
  have c0 := h.c0
  have c1 := h.c1
  clear h
  unfold Sp.oneS at h1
  cases hb : Sp.badC s[k] with
  | true =>
    rw [hb, if_pos rfl] at h1
    injection h1 with h1
    subst h1
    have HB := Lib.hid (bad_any s[k] true hb)
    clear hb
    go_enter Tryz.func62, Tryz.ntmps62
    go_wp2
    go_quiet (fail)
    go_wp2_with (go_at_call 86; refine (HB.out _).mono ?_; rintro e w2 ⟨rfl, rfl⟩)
    go_ret
    exact ⟨rfl, _, rfl⟩
  | false =>
    rw [hb, if_neg (by decide)] at h1
    by_cases h92 : s[k] = 92
    · rw [if_pos h92] at h1
      have f92 : ((s[k].toNat : Int) == 92) = true := by exact (byte_is s[k] 92).trans (decide_eq_true h92)
      have hx : Sp.escS (s.data.toList.drop (k + 1)) = none := by
        cases hx : Sp.escS (s.data.toList.drop (k + 1)) with
        | none => rfl
        | some z => obtain ⟨b', n'⟩ := z; rw [hx] at h1; cases h1
      rw [hx] at h1
      injection h1 with h1
      subst h1
      have HB := Lib.hid (bad_any s[k] false hb)
      have HX := Lib.hid (escape_any' (s.extract k s.size) none (by rw [ext_drop, List.drop_drop]; exact hx) (by rw [ByteArray.size_extract]; omega))
      have hki : (k : Int) ≤ (s.size : Int) := by omega
      clear hb h92 hx
      go_enter Tryz.func62, Tryz.ntmps62
      go_wp2
      go_quiet (fail)
      have d0 : (w.drewN nq).cell? ⟨b, 0, none⟩ = some (.string s) := c0
      have d1 : (w.drewN nq).cell? ⟨b, 1, none⟩ = some (.int .i64 k) := c1
      generalize hw1 : w.drewN nq = w1 at *
      have HW := Lib.hid hw1
      clear hw1 c0 c1
      go_wp2_with (go_at_call 86; refine (HB.out _).mono ?_; rintro e w2 ⟨rfl, rfl⟩)
      go_quiet (first | (go_at_call 87; exact Calls.quiet_of (HX.out _)))
      go_wp2
      go_ret
      exact ⟨rfl, _, by rw [← HW.out, World.drewN_drewN]⟩
    · rw [if_neg h92] at h1; cases h1

set_option maxHeartbeats 2000000 in
set_option maxRecDepth 100000 in
theorem wone_ok (B b : Nat) (s : ByteArray) (k : Nat) (l : List UInt8) (w : World) (h : Wr B b s k l w) (hk : k < s.size) (hs : s.size ≤ 140737488355328) (hl : l.length ≤ k) (c0 : UInt8) (n0 : Nat) (h1 : Sp.oneS s[k] (s.data.toList.drop (k + 1)) = .ok (c0, n0)) :
    Calls Tryz.prog 62 #[.pointer (some ⟨b, 0, none⟩)] w fun e w' => e = .returned (.int .i64 0) ∧ (Wr B b s (k + n0) (l ++ [c0]) w' ∧ Kept B b w w') := by
  have hlen := Sp.one_len _ _ _ _ h1
  rw [List.length_drop, show s.data.toList.length = s.size by simp] at hlen
  have hn0 : k + n0 ≤ s.size := by omega
  have hll : l.length + 1 ≤ 140737488355328 := by omega
  have HWR := Lib.hid (fun n => h.drewN n)
  obtain ⟨p, v, h⟩ := h
  have a0 := h.c0
  have a1 := h.c1
  have HB0 := Lib.hid h.2.1
  clear h
  unfold Sp.oneS at h1
  cases hb : Sp.badC s[k] with
  | true => rw [hb, if_pos rfl] at h1; cases h1
  | false =>
    rw [hb, if_neg (by decide)] at h1
    by_cases h92 : s[k] = 92
    · rw [if_pos h92] at h1
      have f92 : ((s[k].toNat : Int) == 92) = true := by exact (byte_is s[k] 92).trans (decide_eq_true h92)
      obtain ⟨n1, hx, hn1⟩ : ∃ n1, Sp.escS (s.data.toList.drop (k + 1)) = some (c0, n1) ∧ n0 = n1 + 1 := by
        cases hx : Sp.escS (s.data.toList.drop (k + 1)) with
        | none => rw [hx] at h1; cases h1
        | some z =>
          obtain ⟨b', n'⟩ := z
          rw [hx] at h1
          injection h1 with h1
          injection h1 with e1 e2
          exact ⟨n', by rw [e1], e2.symm⟩
      clear h1
      have HB := Lib.hid (bad_any s[k] false hb)
      have HX : Hid (∀ w, Calls Tryz.prog 87 #[.string (s.extract k s.size)] w fun e w' => e = .returned (.tuple #[.int .u8 c0.toNat, .int .i64 (n0 : Int)]) ∧ ∃ n, w' = w.drewN n) := Lib.hid (by
        rw [hn1]
        exact escape_any' (s.extract k s.size) (some (c0, n1)) (by rw [ext_drop, List.drop_drop]; exact hx) (by rw [ByteArray.size_extract]; omega))
      have hki : (k : Int) ≤ (s.size : Int) := by omega
      have hp0 : ((n0 : Int) == 0) = false := by simp; omega
      clear hb h92 hx hn1
      go_enter Tryz.func62, Tryz.ntmps62
      go_wp2
      go_quiet (fail)
      have d0 : (w.drewN nq).cell? ⟨b, 0, none⟩ = some (.string s) := a0
      have d1 : (w.drewN nq).cell? ⟨b, 1, none⟩ = some (.int .i64 k) := a1
      have HW := Lib.hid (HWR.out nq)
      have HK := Lib.hid ((Kept.refl B b w).drewN nq)
      generalize w.drewN nq = w1 at d0 d1 HW HK ⊢
      clear a0 a1
      go_wp2_with (go_at_call 86; refine (HB.out _).mono ?_; rintro e w2 ⟨rfl, rfl⟩)
      go_quiet (first | (go_at_call 87; exact Calls.quiet_of (HX.out _)))
      have HW2 := Lib.hid (wr_writeByte B b s k l c0 _ (HW.out.drewN nq) hll)
      have HK2 := Lib.hid (HK.out.drewN nq)
      clear d0 d1
      generalize w2.drewN nq = w3 at HW2 HK2 ⊢
      go_wp2_with fail
      refine HW2.out.mono ?_
      rintro e w4 ⟨rfl, ⟨p4, v4, h4⟩, hk4⟩
      have q1 := h4.c1
      have f1 := h4.fz 1
      have H4 := Lib.hid h4
      have HK4 := Lib.hid (HK2.out.trans hk4)
      clear h4 hk4
      go_wp2
      go_ret
      exact ⟨rfl, ⟨p4, v4, H4.out.at (k + n0) _ (by omega)⟩, HK4.out.set HB0.out _ _⟩
    · rw [if_neg h92] at h1
      injection h1 with h1
      injection h1 with e1 e2
      subst e2
      have f92 : ((s[k].toNat : Int) == 92) = false := by exact (byte_is s[k] 92).trans (decide_eq_false h92)
      have HB := Lib.hid (bad_any s[k] false hb)
      have HC := Lib.hid e1
      clear hb h92 e1
      go_enter Tryz.func62, Tryz.ntmps62
      go_wp2
      go_quiet (fail)
      have HW := Lib.hid (wr_writeByte B b s k l s[k] _ (HWR.out nq) hll)
      have HK := Lib.hid ((Kept.refl B b w).drewN nq)
      generalize w.drewN nq = w1 at HW HK ⊢
      clear a0 a1
      go_wp2_with (go_at_call 86; refine (HB.out _).mono ?_; rintro e w2 ⟨rfl, rfl⟩)
      refine HW.out.mono ?_
      rintro e w4 ⟨rfl, ⟨p4, v4, h4⟩, hk4⟩
      have q1 := h4.c1
      have f1 := h4.fz 1
      have H4 := Lib.hid h4
      have HK4 := Lib.hid (HK.out.trans hk4)
      clear h4 hk4
      go_wp2
      go_ret
      exact ⟨rfl, ⟨p4, v4, by rw [← HC.out]; exact H4.out.at (k + 1) _ (by omega)⟩, HK4.out.set HB0.out _ _⟩

end Go.Proofs.YtijfeeiplljnjaaGreatDoor
