/-
  The walk of the reference's words in which variables are their values.
-/
import Derived.Test.YtcefnglmacpehaaEx10
namespace Go.Proofs.Ytcefnglmacpehaa
open Go.RowKit

namespace Sp
theorem drop_cons (s : ByteArray) (k : Nat) (h : k < s.size) : s.data.toList.drop k = s[k] :: s.data.toList.drop (k + 1) := by
  rw [List.drop_eq_getElem_cons (by simpa using h)]; simp [ByteArray.getElem_eq_getElem_data]
theorem pre_other (c : UInt8) (r : List UInt8) (a b : UInt8) (h : c ≠ a) : Lib.hasPrefix (c :: r) [a, b] = false := by
  unfold Lib.hasPrefix
  simp only [List.isPrefixOf, Bool.and_eq_false_iff, beq_eq_false_iff_ne]
  exact .inl (Ne.symm h)
theorem cutBr_drop (l : List UInt8) (h : (cutBr l).2.2 = true) : (cutBr l).2.1 = l.drop ((cutBr l).1.length + 1) := by
  rcases index_spec l 125 with ⟨_, hn⟩ | ⟨i, _, hi, hl, hn⟩
  · rw [cutBr_miss l hn] at h; simp at h
  · have e := cutBr_hit _ (l.drop (i + 1)) hn
    rw [← hl] at e
    rw [e]
    simp [Nat.min_eq_left (Nat.le_of_lt hi)]
theorem varL_ne (l : List UInt8) (h : varL l = true) : l ≠ [] := by
  intro hh; subst hh; simp [varL] at h
/-- a word that a dollar sign begins: the braced name, and whether there is one -/
theorem brace_of (r : List UInt8) : (bracedL r = [] → braceL (36 :: r) = false) ∧ (bracedL r ≠ [] → braceL (36 :: r) = true ∧ (cutBr (r.drop 1)).1 = bracedL r ∧ (cutBr (r.drop 1)).2.1 = r.drop ((bracedL r).length + 2)) := by
  match r with
  | [] => simp [bracedL, braceL, Lib.hasPrefix]
  | c :: r =>
    by_cases hc : c = 123
    · subst hc
      have hb : braceL (36 :: 123 :: r) = ((cutBr r).2.2 && varL (cutBr r).1) := by simp [braceL, Lib.hasPrefix]
      have hd : bracedL (123 :: r) = if (cutBr r).2.2 && varL (cutBr r).1 then (cutBr r).1 else [] := rfl
      rw [hb, hd]
      cases q : ((cutBr r).2.2 && varL (cutBr r).1) with
      | false => simp
      | true =>
        simp only [Bool.and_eq_true] at q
        have hne := varL_ne _ q.2
        refine ⟨fun h => absurd h (by simpa using hne), fun _ => ⟨rfl, rfl, ?_⟩⟩
        rw [if_pos rfl]
        simp only [List.drop_succ_cons, List.drop_zero]
        exact cutBr_drop r q.1
    · have h1 : bracedL (c :: r) = [] := by
        unfold bracedL
        split
        · rename_i hh; simp at hh; exact absurd hh.1 hc
        · rfl
      have h2 : braceL (36 :: c :: r) = false := by
        unfold braceL
        have : Lib.hasPrefix (36 :: c :: r) [36, 123] = false := by
          unfold Lib.hasPrefix
          simp only [List.isPrefixOf, Bool.and_eq_false_iff, beq_eq_false_iff_ne]
          exact .inr (.inl (Ne.symm hc))
        rw [this]; rfl
      exact ⟨fun _ => h2, fun h => absurd h1 h⟩

theorem WRel.plain {env : List (List UInt8 × List UInt8)} {M : Nat} {w : List UInt8} {s : ByteArray} {k : Nat} {acc : List UInt8} (h : WRel env M w (s.data.toList.drop k) acc) (hM : 1 ≤ M) (hk : k < s.size) (hc : s[k] ≠ 36 ∨ k + 1 = s.size) :
    WRel env M w (s.data.toList.drop (k + 1)) (acc ++ [s[k]]) := by
  have hd := drop_cons s k hk
  rw [hd] at h
  rcases hc with hc | hc
  · exact h.one hM (pre_other _ _ _ _ hc) (by unfold braceL; rw [pre_other _ _ _ _ hc]; rfl)
  · have hn : s.data.toList.drop (k + 1) = [] := List.drop_eq_nil_of_le (by simp; omega)
    rw [hn] at h ⊢
    have hp : ∀ b, Lib.hasPrefix [s[k]] [36, b] = false := by intro b; unfold Lib.hasPrefix; simp [List.isPrefixOf]
    exact h.one hM (hp 36) (by unfold braceL; rw [hp 123]; rfl)
theorem WRel.dd {env : List (List UInt8 × List UInt8)} {M : Nat} {w : List UInt8} {s : ByteArray} {k : Nat} {acc : List UInt8} (h : WRel env M w (s.data.toList.drop k) acc) (hM : 1 ≤ M) (hk : k + 1 < s.size) (hc : s[k] = 36) (hd : s[k + 1] = 36) :
    WRel env M w (s.data.toList.drop (k + 2)) (acc ++ [36]) := by
  have h1 := drop_cons s k (by omega)
  have h2 := drop_cons s (k + 1) hk
  rw [h1, h2, hc, hd] at h
  have := h.two hM (by simp [Lib.hasPrefix])
  simpa using this
theorem WRel.sole {env : List (List UInt8 × List UInt8)} {M : Nat} {w : List UInt8} {s : ByteArray} {k : Nat} {acc : List UInt8} (h : WRel env M w (s.data.toList.drop k) acc) (hM : 1 ≤ M) (hk : k + 1 < s.size) (hc : s[k] = 36) (hd : s[k + 1] ≠ 36)
    (hb : bracedL (s.data.toList.drop (k + 1)) = []) : WRel env M w (s.data.toList.drop (k + 1)) (acc ++ [36]) := by
  have h1 := drop_cons s k (by omega)
  have h2 := drop_cons s (k + 1) hk
  rw [h1, hc] at h
  refine h.one hM ?_ ((brace_of _).1 hb)
  rw [h2]
  unfold Lib.hasPrefix
  simp only [List.isPrefixOf, Bool.and_eq_false_iff, beq_eq_false_iff_ne]
  exact .inr (.inl (Ne.symm hd))
theorem WRel.braced {env : List (List UInt8 × List UInt8)} {M : Nat} {w : List UInt8} {s : ByteArray} {k : Nat} {acc : List UInt8} (h : WRel env M w (s.data.toList.drop k) acc) (hM : ∀ p ∈ env, p.2.length ≤ M) (hk : k + 1 < s.size) (hc : s[k] = 36) (hd : s[k + 1] ≠ 36)
    (hb : bracedL (s.data.toList.drop (k + 1)) ≠ []) : WRel env M w (s.data.toList.drop (k + ((bracedL (s.data.toList.drop (k + 1))).length + 2) + 1)) (acc ++ valueL env (bracedL (s.data.toList.drop (k + 1)))) := by
  have h1 := drop_cons s k (by omega)
  have h2 := drop_cons s (k + 1) hk
  obtain ⟨b1, b2, b3⟩ := (brace_of _).2 hb
  rw [h1, hc] at h
  have := h.val hM (by
    rw [h2]
    unfold Lib.hasPrefix
    simp only [List.isPrefixOf, Bool.and_eq_false_iff, beq_eq_false_iff_ne]
    exact .inr (.inl (Ne.symm hd))) b1
  simp only [List.drop_succ_cons] at this
  rw [b2, b3, List.drop_drop] at this
  rw [show k + ((bracedL (s.data.toList.drop (k + 1))).length + 2) + 1 = k + 1 + ((bracedL (s.data.toList.drop (k + 1))).length + 2) from by omega]
  exact this
theorem oneL_no (env : List (List UInt8 × List UInt8)) (s : ByteArray) (h : ¬ ∃ h0 : 1 < s.size, (s[0].toNat : Int) = 36 ∧ varL (s.data.toList.drop 1) = true) : oneL env s.data.toList = [wordL env s.data.toList] := by
  have hz : s.data.toList.length = s.size := by simp
  match hl : s.data.toList with
  | [] => rfl
  | [c] =>
    unfold oneL
    split
    · rename_i v hh
      simp at hh
      have hv : varL v = false := by rw [hh.2]; rfl
      rw [if_neg (by rw [hv]; simp)]
    · rfl
  | c :: d :: r =>
    have h0 : 1 < s.size := by rw [← hz, hl]; simp
    have hc : s[0] = c := by
      have := drop_cons s 0 (by omega)
      rw [List.drop_zero, hl] at this
      exact ((List.cons.inj this).1).symm
    by_cases hc6 : c = 36
    · have hv : varL (d :: r) = false := by
        cases q : varL (d :: r)
        · rfl
        · exact absurd ⟨h0, by rw [hc, hc6]; rfl, by rw [hl]; exact q⟩ h
      subst hc6
      simp [oneL, hv]
    · unfold oneL
      split
      · rename_i hh; simp at hh; exact absurd hh.1 hc6
      · rfl
theorem bracedL_len (l : List UInt8) : (bracedL l).length ≤ l.length := by
  unfold bracedL
  split
  · rename_i r
    split
    · have := (cutBr_len r).1; simp; omega
    · simp
  · simp
theorem ext_one (s : ByteArray) (k : Nat) (h : k < s.size) : (s.extract k (k + 1)).data.toList = [s[k]] := by
  rw [Lib.extract_data]
  have h1 : k < s.data.toList.length := by simpa using h
  rw [show k + 1 - k = 1 from by omega, List.drop_eq_getElem_cons h1]
  simp [ByteArray.getElem_eq_getElem_data]
end Sp

end Go.Proofs.Ytcefnglmacpehaa
