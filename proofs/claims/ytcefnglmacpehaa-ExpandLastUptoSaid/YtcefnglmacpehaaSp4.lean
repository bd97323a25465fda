/-
  The plain laws that the statements on names say, out of the two ways' being one. No program in sight.
-/
import Derived.Test.YtcefnglmacpehaaSp3
namespace Go.Proofs.Ytcefnglmacpehaa
namespace Sp

/-- a name is its pieces put together again -/
theorem pieces_law (l : List UInt8) (h : mayL l = true) : (if (partsL l).2.2 then (partsL l).1 ++ 64 :: (partsL l).2.1 else (partsL l).1) ++ 46 :: suffix (kindL l) = l ∧ (partsL l).1 ≠ [] := by
  have hk : kindL l ≠ 0 := by simpa [mayL] using h
  obtain ⟨k, hd, g1, g2, g3, g4, g5, g6, g7, g8⟩ := kindL_some l hk
  have hp : partsL l = cutAt hd := by simp [partsL, h, g8]
  rw [hp, g4]
  refine ⟨?_, g6⟩
  rcases cutAt_at hd with ⟨a1, a2, a3⟩ | ⟨a1, a2, a3⟩
  · rw [a1, if_pos rfl, ← a2, g3]
  · rw [a1, if_neg (by simp), ← a2, g3]

theorem suffix_len_le (k : Nat) (h1 : 1 ≤ k) (h2 : k ≤ 4) : 5 ≤ (suffix (k : Int)).length ∧ (suffix (k : Int)).length ≤ 7 := by
  have h : ∀ n : Fin 4, 5 ≤ (suffix ((n.val + 1 : Nat) : Int)).length ∧ (suffix ((n.val + 1 : Nat) : Int)).length ≤ 7 := by decide +kernel
  have := h ⟨k - 1, by omega⟩
  have e : k - 1 + 1 = k := by omega
  simpa only [e] using this

theorem suffix_some (j : Int) (h : suffix j ≠ []) : ∃ k : Nat, 1 ≤ k ∧ k ≤ 4 ∧ j = k := by
  unfold suffix at h
  by_cases h1 : j = 1
  · exact ⟨1, by omega, by omega, h1⟩
  · by_cases h2 : j = 2
    · exact ⟨2, by omega, by omega, h2⟩
    · by_cases h3 : j = 3
      · exact ⟨3, by omega, by omega, h3⟩
      · by_cases h4 : j = 4
        · exact ⟨4, by omega, by omega, h4⟩
        · simp [h1, h2, h3, h4] at h

theorem turn_template (l : List UInt8) (h : templateL l ≠ []) : instanceL (templateL l) (partsL l).2.1 = (l, true) ∧ templateL (templateL l) = [] ∧ kindL (templateL l) = kindL l := by
  have hi : (partsL l).2.1.isEmpty = false := by
    cases hi : (partsL l).2.1.isEmpty
    · rfl
    · unfold templateL at h; rw [hi] at h; simp at h
  have ht : templateL l = madeL (partsL l).1 [] (kindL l) := by unfold templateL; rw [hi]; simp
  by_cases hk : kindL l = 0
  · rw [partsL_no l hk] at hi; simp at hi
  · obtain ⟨k, hd, g1, g2, g3, g4, g5, g6, g7, g8⟩ := kindL_some l hk
    have hm : mayL l = true := by simp [mayL, hk]
    have hp : partsL l = cutAt hd := by simp [partsL, hm, g8]
    rw [ht, g4, hp]
    rw [hp] at hi
    rcases cutAt_at hd with ⟨a1, a2, a3⟩ | ⟨a1, a2, a3⟩
    · have hl : madeL (cutAt hd).1 (cutAt hd).2.1 (k : Int) = l := by rw [made_form, ← a2, g3]
      rw [allName_append] at g7
      have hal : allName (cutAt hd).1 = true := by
        cases hx : allName (cutAt hd).1
        · rw [hx] at g7; simp at g7
        · rfl
      have hlen : ¬ 60 < (((cutAt hd).1 ++ 64 :: []) ++ 46 :: suffix (k : Int)).length := by
        rw [← hl, made_form] at g5
        simp only [List.length_append, List.length_cons, List.length_nil] at g5 ⊢
        omega
      have hf := kindL_form ((cutAt hd).1 ++ 64 :: []) k g1 g2
      have hc : cutAt ((cutAt hd).1 ++ 64 :: []) = ((cutAt hd).1, [], true) := cutAt_hit _ _ a3
      rw [hc, if_neg hlen, if_neg g6, if_neg (by simp [hal])] at hf
      have hcd : cutDot (((cutAt hd).1 ++ 64 :: []) ++ 46 :: suffix (k : Int)) = ((cutAt hd).1 ++ 64 :: [], suffix (k : Int)) := cutDot_hit _ _ (suffix_nodot _)
      rw [← made_form] at hf hcd
      have hk0 : ¬ k = 0 := by omega
      have hmt : mayL (madeL (cutAt hd).1 [] (k : Int)) = true := by simp [mayL, hf, hk0]
      have hpt : partsL (madeL (cutAt hd).1 [] (k : Int)) = ((cutAt hd).1, [], true) := by unfold partsL; rw [if_pos hmt, hcd, hc]
      refine ⟨?_, ?_, hf⟩
      · unfold instanceL bareL
        rw [hpt, hf]
        simp only [hl, hm, hi]
        simp
      · unfold templateL
        rw [hpt]; simp
    · rw [a3] at hi; simp at hi

theorem change_zero (l : List UInt8) (j : Int) (h : changeL l j = []) : mayL l = false ∨ suffix j = [] ∨ 53 < l.length := by
  cases hm : mayL l
  · exact .inl rfl
  · right
    by_cases hs : suffix j = []
    · exact .inl hs
    · right
      have hk : kindL l ≠ 0 := by simpa [mayL] using hm
      obtain ⟨k, hd, g1, g2, g3, g4, g5, g6, g7, g8⟩ := kindL_some l hk
      obtain ⟨n, n1, n2, rfl⟩ := suffix_some j hs
      unfold changeL at h
      rw [hm, g8] at h
      simp only [Bool.not_true, Bool.false_or] at h
      have e : hd ++ [46] ++ suffix (n : Int) = hd ++ 46 :: suffix (n : Int) := by simp
      rw [e] at h
      have hf := kindL_form hd n n1 n2
      have s1 := suffix_len_le k g1 g2
      have s2 := suffix_len_le n n1 n2
      have hll : l.length = hd.length + 1 + (suffix (k : Int)).length := by rw [g3]; simp; omega
      have hcl : (hd ++ 46 :: suffix (n : Int)).length = hd.length + 1 + (suffix (n : Int)).length := by simp; omega
      by_cases hc : 60 < (hd ++ 46 :: suffix (n : Int)).length
      · omega
      · rw [if_neg hc, if_neg g6, if_neg (by rw [g7]; simp)] at hf
        have : mayL (hd ++ 46 :: suffix (n : Int)) = true := by
          have h0 : ¬ n = 0 := by omega
          simp [mayL, hf, h0]
        rw [this] at h
        simp at h

theorem change_some (l : List UInt8) (j : Int) (h : changeL l j ≠ []) : kindL (changeL l j) = j ∧ changeL (changeL l j) (kindL l) = l := by
  cases hm : mayL l
  · unfold changeL at h; rw [hm] at h; simp at h
  · have hk : kindL l ≠ 0 := by simpa [mayL] using hm
    obtain ⟨k, hd, g1, g2, g3, g4, g5, g6, g7, g8⟩ := kindL_some l hk
    have e : hd ++ [46] ++ suffix j = hd ++ 46 :: suffix j := by simp
    have hc : changeL l j = if !mayL (hd ++ 46 :: suffix j) then [] else hd ++ 46 :: suffix j := by
      unfold changeL; rw [hm, g8, e]; rfl
    cases hmc : mayL (hd ++ 46 :: suffix j)
    · rw [hc, hmc] at h; simp at h
    · rw [hc, hmc]
      simp only [Bool.not_true, if_false, Bool.false_eq_true]
      have hkc : kindL (hd ++ 46 :: suffix j) ≠ 0 := by simpa [mayL] using hmc
      obtain ⟨k2, hd2, q1, q2, q3, q4, q5, q6, q7, q8⟩ := kindL_some _ hkc
      have hcd : cutDot (hd ++ 46 :: suffix j) = (hd, suffix j) := cutDot_hit _ _ (suffix_nodot _)
      rw [hcd] at q8
      have hs : suffix j = suffix (k2 : Int) := (Prod.mk.inj q8).2
      have hsn : suffix j ≠ [] := by
        have := suffix_len_le k2 q1 q2
        intro h0; rw [← hs, h0] at this; simp at this
      obtain ⟨n, n1, n2, rfl⟩ := suffix_some j hsn
      have hnk : (n : Int) = k2 := by
        have a1 := kindOf_suffix n n1 n2
        have a2 := kindOf_suffix k2 q1 q2
        rw [hs, a2] at a1
        exact a1.symm
      refine ⟨by rw [q4, hnk], ?_⟩
      unfold changeL
      rw [hmc, hcd, g4]
      have e2 : hd ++ [46] ++ suffix (k : Int) = l := by rw [g3]; simp
      simp only [e2, hm]
      simp

/-! ### escaping -/
theorem kept_not45 (c : UInt8) (h : kept c = true) : c ≠ 45 := by
  intro h0; subst h0
  have : kept 45 = false := by decide +kernel
  rw [this] at h; cases h

theorem byte_two (c : UInt8) (r : List UInt8) : twoL (hexD (c.toNat / 16) :: hexD (c.toNat % 16) :: r) = (c, true) := by
  have h : ∀ n : Fin 256, isHex (hexD (n.val / 16)) = true ∧ isHex (hexD (n.val % 16)) = true ∧ twoB (hexD (n.val / 16)) (hexD (n.val % 16)) = UInt8.ofNat n.val := by decide +kernel
  obtain ⟨h1, h2, h3⟩ := h ⟨c.toNat, c.toNat_lt⟩
  simp only at h1 h2 h3
  simp [twoL, h1, h2, h3]

theorem unesc_escB (f : Bool) (c : UInt8) (r : List UInt8) : unescL (escB f c ++ r) = (unescL r).map (c :: ·) := by
  unfold escB
  split
  · rename_i h
    have hc : c = 47 := UInt8.toNat.inj (by have : (47 : UInt8).toNat = 47 := rfl; omega)
    subst hc
    simp [unescL]
  · split
    · rename_i h
      exact unesc_kept c r (kept_not45 c h.1) h.1
    · unfold byteL
      show unescL (92 :: 120 :: (hexD (c.toNat / 16) :: hexD (c.toNat % 16) :: r)) = _
      rw [unesc_pre, byte_two]
      simp

theorem unesc_esc : ∀ (f : Bool) (l : List UInt8), unescL (escL f l) = some l
  | _, [] => rfl
  | f, c :: r => by
    show unescL (escB f c ++ escL false r) = _
    rw [unesc_escB, unesc_esc false r]
    rfl

theorem kept_name (c : UInt8) (h : kept c = true) : nameByte c = true := by
  unfold kept at h
  unfold nameByte
  simp only [Bool.or_eq_true] at h ⊢
  rcases h with ((((h | h) | h) | h) | h) <;> simp [h]

theorem escB_name (f : Bool) (c : UInt8) : allName (escB f c) = true := by
  unfold escB
  split
  · decide +kernel
  · split
    · rename_i h
      simp [allName, kept_name c h.1]
    · have hh : ∀ n : Fin 16, nameByte (hexD n.val) = true := by decide +kernel
      have h1 := hh ⟨c.toNat / 16, by have := c.toNat_lt; omega⟩
      have h2 := hh ⟨c.toNat % 16, by omega⟩
      have h3 : nameByte 92 = true := by decide +kernel
      have h4 : nameByte 120 = true := by decide +kernel
      simp only at h1 h2
      simp [byteL, allName, h1, h2, h3, h4]

theorem esc_name : ∀ (f : Bool) (l : List UInt8), allName (escL f l) = true
  | _, [] => rfl
  | f, c :: r => by
    show allName (escB f c ++ escL false r) = true
    rw [allName_append, escB_name, esc_name false r]; rfl

/-- 'x@' ahead of an escaped text, '.timer' behind it: a name, if it is not too long -/
theorem esc_may (l : List UInt8) (h : (([120, 64] ++ escL true l) ++ [46, 116, 105, 109, 101, 114]).length ≤ 60) : mayL (([120, 64] ++ escL true l) ++ [46, 116, 105, 109, 101, 114]) = true := by
  have hf := kindL_form ([120] ++ 64 :: escL true l) 3 (by omega) (by omega)
  have hc : cutAt ([120] ++ 64 :: escL true l) = ([120], escL true l, true) := cutAt_hit _ _ (by simp)
  have e : ([120] ++ 64 :: escL true l) ++ 46 :: suffix ((3 : Nat) : Int) = ([120, 64] ++ escL true l) ++ [46, 116, 105, 109, 101, 114] := by simp [suffix]
  have hx : allName [120] = true := by decide +kernel
  rw [hc, e, if_neg (by omega), if_neg (by simp), if_neg (by rw [allName_append, esc_name, hx]; simp)] at hf
  unfold mayL
  rw [hf]; rfl

theorem unesc_append : ∀ (n : Nat) (a b x y : List UInt8), a.length ≤ n → unescL a = some x → unescL b = some y → unescL (a ++ b) = some (x ++ y)
  | _, [], b, x, y, _, ha, hb => by
    have : x = [] := by simpa [unescL] using ha.symm
    subst this; simpa using hb
  | 0, c :: r, _, _, _, h, _, _ => by simp at h
  | n + 1, c :: r, b, x, y, h, ha, hb => by
    have hr : r.length ≤ n := by simpa using h
    by_cases h45 : c = 45
    · subst h45
      have e : ∀ t, unescL (45 :: t) = (unescL t).map (47 :: ·) := fun t => by simp [unescL]
      rw [e] at ha
      rw [List.cons_append, e]
      cases hu : unescL r with
      | none => rw [hu] at ha; cases ha
      | some z =>
        rw [hu] at ha
        rw [unesc_append n r b z y hr hu hb]
        have := Option.some.inj ha
        simp only at this
        rw [← this]; rfl
    · cases hk : kept c
      · rcases unesc_split c r h45 hk with ⟨p, q, r2, rfl, rfl, hp, hq, hu⟩ | ⟨hu, _⟩
        · rw [hu] at ha
          have e : unescL ((92 :: 120 :: p :: q :: r2) ++ b) = (unescL (r2 ++ b)).map (twoB p q :: ·) := by
            show unescL (92 :: 120 :: (p :: q :: (r2 ++ b))) = _
            rw [unesc_pre]; simp [twoL, hp, hq]
          rw [e]
          have hr2 : r2.length ≤ n := by simp at hr; omega
          cases hu2 : unescL r2 with
          | none => rw [hu2] at ha; cases ha
          | some z =>
            rw [hu2] at ha
            rw [unesc_append n r2 b z y hr2 hu2 hb]
            have := Option.some.inj ha
            simp only at this
            rw [← this]; rfl
        · rw [hu] at ha; cases ha
      · rw [unesc_kept c r h45 hk] at ha
        rw [List.cons_append, unesc_kept c _ h45 hk]
        cases hu : unescL r with
        | none => rw [hu] at ha; cases ha
        | some z =>
          rw [hu] at ha
          rw [unesc_append n r b z y hr hu hb]
          have := Option.some.inj ha
          simp only at this
          rw [← this]; rfl

theorem unesc_len : ∀ (n : Nat) (a x : List UInt8), a.length ≤ n → unescL a = some x → x.length ≤ a.length
  | _, [], x, _, ha => by
    have : x = [] := by simpa [unescL] using ha.symm
    subst this; simp
  | 0, c :: r, _, h, _ => by simp at h
  | n + 1, c :: r, x, h, ha => by
    have hr : r.length ≤ n := by simpa using h
    have step : ∀ (t : List UInt8) (k : UInt8), t.length ≤ r.length → (unescL t).map (k :: ·) = some x → x.length ≤ (c :: r).length := by
      intro t k ht hk
      cases hu : unescL t with
      | none => rw [hu] at hk; cases hk
      | some z =>
        rw [hu] at hk
        have h1 := unesc_len n t z (by omega) hu
        have := Option.some.inj hk
        simp only at this
        rw [← this]; simp; omega
    by_cases h45 : c = 45
    · have e : unescL (c :: r) = (unescL r).map (47 :: ·) := by subst h45; simp [unescL]
      rw [e] at ha
      exact step r 47 (Nat.le_refl _) ha
    · cases hk : kept c
      · rcases unesc_split c r h45 hk with ⟨p, q, r2, _, hr2, _, _, hu⟩ | ⟨hu, _⟩
        · rw [hu] at ha
          exact step r2 _ (by rw [hr2]; simp; omega) ha
        · rw [hu] at ha; cases ha
      · rw [unesc_kept c r h45 hk] at ha
        exact step r c (Nat.le_refl _) ha

theorem unesc_getD_len (a : List UInt8) : ((unescL a).getD []).length ≤ a.length := by
  cases hu : unescL a with
  | none => simp
  | some x => exact unesc_len _ a x (Nat.le_refl _) hu

theorem esc_join (a b : List UInt8) (h : ∀ c r, b = c :: r → c ≠ 46) : escL true (a ++ b) = escL true a ++ escL true b := by
  rw [escL_append]
  congr 1
  cases b with
  | nil => rfl
  | cons c r =>
    have hc := h c r rfl
    have hc2 : (c.toNat : Int) ≠ 46 := by
      intro h0; apply hc
      exact UInt8.toNat.inj (by have : (46 : UInt8).toNat = 46 := rfl; omega)
    have e : ∀ f, escB f c = escB true c := by
      intro f; unfold escB; simp [hc2]
    simp only [escL]
    rw [e]
end Sp

end Go.Proofs.Ytcefnglmacpehaa
