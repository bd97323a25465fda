/-
  A machine of which one thing is turned: plain laws on its cells, and on rows that one of them lies in.
-/
import Derived.Test.YtkgkipohalekmaaDoorHc
namespace Go.Proofs.YtkgkipohalekmaaDoor
open Go.RowKit Go.Shelf
theorem Ce.ats_set {w : World} {B : Nat} {c : Ce} {v : Value} (hc : c.At w B v) : ∀ (cs : List Ce) (us : List Value) (k : Nat), Ce.Ats w B cs us → Ce.Ats w B (cs.set k c) (us.set k v)
  | [], us, k, h => by
    unfold Ce.Ats at h
    rw [h]
    simp [Ce.Ats]
  | d :: r, us, 0, h => by
    unfold Ce.Ats at h
    obtain ⟨u, q, rfl, _, h2⟩ := h
    rw [List.set_cons_zero, List.set_cons_zero]
    unfold Ce.Ats
    exact ⟨_, _, rfl, hc, h2⟩
  | d :: r, us, k + 1, h => by
    unfold Ce.Ats at h
    obtain ⟨u, q, rfl, h1, h2⟩ := h
    rw [List.set_cons_succ, List.set_cons_succ]
    unfold Ce.Ats
    exact ⟨_, _, rfl, h1, Ce.ats_set hc r q k h2⟩
theorem Ce.oks_set {c : Ce} {t : Ty} (hc : c.Ok t) : ∀ (cs : List Ce) (q : List Ty) (k : Nat), q[k]? = some t → Ce.Oks cs q → Ce.Oks (cs.set k c) q
  | [], [], k, _, h => by simpa using h
  | d :: r, p :: q, 0, hq, h => by
    obtain rfl : p = t := by simpa using hq
    unfold Ce.Oks at h
    rw [List.set_cons_zero]
    unfold Ce.Oks
    exact ⟨hc, h.2⟩
  | d :: r, p :: q, k + 1, hq, h => by
    unfold Ce.Oks at h
    rw [List.set_cons_succ]
    unfold Ce.Oks
    exact ⟨h.1, Ce.oks_set hc r q k (by simpa using hq) h.2⟩
  | [], _ :: _, _, _, h => by unfold Ce.Oks at h; exact h.elim
  | _ :: _, [], _, _, h => by unfold Ce.Oks at h; exact h.elim
theorem Ce.bulks_set {c d : Ce} : ∀ (cs : List Ce) (k : Nat), cs[k]? = some d → Ce.bulks (cs.set k c) + d.bulk = Ce.bulks cs + c.bulk
  | [], k, h => by cases h
  | e :: r, 0, h => by
    obtain rfl : e = d := by simpa using h
    rw [List.set_cons_zero]
    simp only [Ce.bulks]
    omega
  | e :: r, k + 1, h => by
    rw [List.set_cons_succ]
    have := Ce.bulks_set (c := c) (d := d) r k (by simpa using h)
    simp only [Ce.bulks]
    omega
theorem set_same {α : Type} {l : List α} {k : Nat} {x : α} (h : l[k]? = some x) : l.set k x = l := by
  apply List.ext_getElem?
  intro i
  rw [List.getElem?_set]
  split
  · rename_i e
    subst e
    split
    · exact h.symm
    · rename_i h2
      exact (List.getElem?_eq_none (by omega)).symm
  · rfl
theorem set_other {α : Type} {l : List α} {k : Nat} {x y : α} (h : l[k]? = some x) (hne : y ≠ x) : l.set k y ≠ l := fun e => by
  have h1 : (l.set k y)[k]? = some y := by rw [List.getElem?_set_self (List.getElem?_eq_some_iff.1 h).1]
  rw [e, h] at h1
  exact hne (by injection h1 with h1; exact h1.symm)
theorem Ce.oks_at : ∀ (cs : List Ce) (q : List Ty) (k : Nat) (c : Ce), Ce.Oks cs q → cs[k]? = some c → ∃ t, q[k]? = some t ∧ c.Ok t
  | [], _, k, _, _, h => by cases h
  | d :: r, p :: q, 0, c, ho, h => by
    obtain rfl : d = c := by simpa using h
    unfold Ce.Oks at ho
    exact ⟨p, rfl, ho.1⟩
  | d :: r, p :: q, k + 1, c, ho, h => by
    unfold Ce.Oks at ho
    exact Ce.oks_at r q k c ho.2 (by simpa using h)
  | _ :: _, [], _, _, ho, _ => by unfold Ce.Oks at ho; exact ho.elim
theorem Ce.ats_at {w : World} {B : Nat} : ∀ (cs : List Ce) (us : List Value) (k : Nat) (c : Ce), Ce.Ats w B cs us → cs[k]? = some c → ∃ v, us[k]? = some v ∧ c.At w B v
  | [], _, k, _, _, h => by cases h
  | d :: r, us, 0, c, ha, h => by
    obtain rfl : d = c := by simpa using h
    unfold Ce.Ats at ha
    obtain ⟨v, q, rfl, h1, _⟩ := ha
    exact ⟨v, rfl, h1⟩
  | d :: r, us, k + 1, c, ha, h => by
    unfold Ce.Ats at ha
    obtain ⟨v, q, rfl, _, h2⟩ := ha
    obtain ⟨u, h3, h4⟩ := Ce.ats_at r q k c h2 (by simpa using h)
    exact ⟨u, by simpa using h3, h4⟩
/-- the type of a cell of one of many elements -/
theorem rep_at {e : List Ty} {n i p : Nat} {t : Ty} (hi : i < n) (hp : p < e.length) (h : e[p]? = some t) : ((List.replicate n e).flatten)[i * e.length + p]? = some t := by
  induction n generalizing i with
  | zero => omega
  | succ n ih =>
    rw [List.replicate_succ, List.flatten_cons]
    cases i with
    | zero =>
      rw [Nat.zero_mul, Nat.zero_add, List.getElem?_append_left hp]
      exact h
    | succ i =>
      rw [show (i + 1) * e.length + p = e.length + (i * e.length + p) from by rw [Nat.add_mul, Nat.one_mul]; omega, List.getElem?_append_right (by omega), Nat.add_sub_cancel_left]
      exact ih (by omega)
/-- what one finds at a place of one type -/
theorem ok_i {c : Ce} (h : c.Ok .i) : ∃ n, c = .i n ∧ -9223372036854775808 ≤ n ∧ n ≤ 9223372036854775807 := by
  cases c with
  | i n => unfold Ce.Ok at h; exact ⟨n, rfl, h⟩
  | b _ => unfold Ce.Ok at h; exact h.elim
  | s _ => unfold Ce.Ok at h; exact h.elim
  | l _ _ => unfold Ce.Ok at h; exact h.elim
theorem ok_b {c : Ce} (h : c.Ok .b) : ∃ n, c = .b n := by
  cases c with
  | i n => unfold Ce.Ok at h; exact h.elim
  | b x => exact ⟨x, rfl⟩
  | s _ => unfold Ce.Ok at h; exact h.elim
  | l _ _ => unfold Ce.Ok at h; exact h.elim
theorem ok_l {c : Ce} {nb : Nat} {e : List Ty} (h : c.Ok (.l nb e)) : ∃ n es, c = .l n es ∧ (n ≤ 140737488351232 ∧ n * nb ≤ 140737488351232) ∧ Ce.Oks es (List.replicate n e).flatten := by
  cases c with
  | i n => unfold Ce.Ok at h; exact h.elim
  | b x => unfold Ce.Ok at h; exact h.elim
  | s _ => unfold Ce.Ok at h; exact h.elim
  | l n es => unfold Ce.Ok at h; exact ⟨n, es, rfl, h⟩
/-- a row of one's own, read -/
theorem own_rd {w : World} {base n k B : Nat} {e : TypeId} {v : Value} {xs : List Value} (h : w.ownsRow base e k v n xs) (hB : w.heap.size ≤ B) : ∃ A c, v = .slice A n c ∧ n ≤ c ∧ Rd w B k A n xs := by
  obtain ⟨hl, ⟨rfl, rfl⟩ | ⟨g, cap, cur, rfl, hb, hg, hc, _, hs, ht⟩⟩ := h
  · exact ⟨none, 0, rfl, Nat.le_refl _, hl, fun h => absurd h (Nat.lt_irrefl _)⟩
  · refine ⟨some ⟨g, 0, none⟩, cap, rfl, hc, hl, fun _ => ⟨_, rfl, Nat.lt_of_lt_of_le (Array.getElem?_eq_some_iff.1 hg).1 hB, fun j u hu => ?_⟩⟩
    have e1 : (⟨g, 0, none⟩ : Addr).add j = ⟨g, j, none⟩ := by rw [Addr.add_mid, Nat.zero_add]
    rw [e1, cell_of_row _ _ _ _ _ _ hg]
    rw [← ht, List.getElem?_take] at hu
    split at hu
    · simpa using hu
    · cases hu
/-- a cell of a row of one's own, stored anew -/
theorem own_set {w : World} {base n k g cap : Nat} {e : TypeId} {xs : List Value} (h : w.ownsRow base e k (.slice (some ⟨g, 0, none⟩) n cap) n xs) (j : Nat) (_hj : j < n * k) (v : Value) : (w.setCell ⟨g, j, none⟩ v).ownsRow base e k (.slice (some ⟨g, 0, none⟩) n cap) n (xs.set j v) := by
  obtain ⟨hl, ⟨h0, _⟩ | ⟨g', cap', cur, hv, hb, hg, hc, hm, hs, ht⟩⟩ := h
  · cases h0
  · injection hv with hv _ hcap
    injection hv with hv
    injection hv with hv
    subst hv hcap
    refine ⟨by rw [List.length_set]; exact hl, .inr ⟨g, cap, cur.setIfInBounds j v, rfl, hb, heap_setCell_same w g j cur e v hg, hc, hm, by rw [Array.size_setIfInBounds]; exact hs, ?_⟩⟩
    rw [Array.toList_setIfInBounds, List.take_set, ht]
theorem ofInt_nat (x : Int) : (BitVec.ofInt 64 x).toNat = (x % 18446744073709551616).toNat := by
  rw [BitVec.toNat_ofInt]
  rfl
theorem xor_nat (x y : Int) : bits BinOp.xor IntKind.i64 x y = IntKind.i64.wrap ((BitVec.ofInt 64 x ^^^ BitVec.ofInt 64 y).toNat : Int) := rfl
theorem and_nat (x y : Int) : bits BinOp.and IntKind.i64 x y = IntKind.i64.wrap ((BitVec.ofInt 64 x &&& BitVec.ofInt 64 y).toNat : Int) := rfl
theorem xor_zero (x : Int) (h : -9223372036854775808 ≤ x ∧ x ≤ 9223372036854775807) : bits BinOp.xor IntKind.i64 x 0 = x := by
  rw [xor_nat, show BitVec.ofInt 64 0 = 0#64 from rfl, BitVec.xor_zero, ofInt_nat, IntKind.wrap_i64]
  omega
theorem xor_other (x y : Int) (hy : -9223372036854775808 ≤ y ∧ y ≤ 9223372036854775807) (h0 : y ≠ 0) : bits BinOp.xor IntKind.i64 x y ≠ x := fun e => by
  rw [xor_nat, IntKind.wrap_i64] at e
  have h1 := (BitVec.ofInt 64 x ^^^ BitVec.ofInt 64 y).isLt
  have h2 : (BitVec.ofInt 64 x ^^^ BitVec.ofInt 64 y).toNat = (BitVec.ofInt 64 x).toNat := by
    rw [ofInt_nat]
    omega
  have h3 := BitVec.eq_of_toNat_eq h2
  have h4 : BitVec.ofInt 64 y = 0#64 := by
    have h5 : BitVec.ofInt 64 x ^^^ (BitVec.ofInt 64 x ^^^ BitVec.ofInt 64 y) = BitVec.ofInt 64 x ^^^ BitVec.ofInt 64 x := by rw [h3]
    rw [← BitVec.xor_assoc, BitVec.xor_self, BitVec.zero_xor] at h5
    exact h5
  have h6 := congrArg BitVec.toNat h4
  rw [ofInt_nat] at h6
  have h7 : (0#64).toNat = 0 := rfl
  rw [h7] at h6
  omega
theorem xor_in (x y : Int) : -9223372036854775808 ≤ bits BinOp.xor IntKind.i64 x y ∧ bits BinOp.xor IntKind.i64 x y ≤ 9223372036854775807 := by
  rw [xor_nat, IntKind.wrap_i64]
  omega
theorem mask_in (x : Int) (m : Nat) (hm : m < 9223372036854775808) : 0 ≤ bits BinOp.and IntKind.i64 x (m : Int) ∧ bits BinOp.and IntKind.i64 x (m : Int) ≤ (m : Int) := by
  rw [and_nat, IntKind.wrap_i64]
  have h1 : (BitVec.ofInt 64 x &&& BitVec.ofInt 64 (m : Int)).toNat ≤ m := by
    rw [BitVec.toNat_and]
    refine Nat.le_trans Nat.and_le_right ?_
    rw [ofInt_nat]
    omega
  omega

end Go.Proofs.YtkgkipohalekmaaDoor
