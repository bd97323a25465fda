/-
  A calendar that is written is read as it was: in plain Lean.
-/
import Derived.Test.YtpkpoglmmjaoeaaGreatDoorCd
namespace Go.Proofs.YtpkpoglmmjaoeaaGreatDoor
namespace Sp
theorem valC_snoc (l : List UInt8) (c : UInt8) : valC (l ++ [c]) = 10 * valC l + (c.toNat - 48) := by simp [valC, List.foldl_append]
theorem digC_of (k : Nat) (h : k < 10) : digC (UInt8.ofNat (48 + k)) = true := by
  simp [digC]; omega
theorem decDig (n : Nat) : (∀ c ∈ Lib.decDigits n, digC c = true) ∧ valC (Lib.decDigits n) = n ∧ 1 ≤ (Lib.decDigits n).length := by
  rw [Lib.decDigits]
  split
  · rename_i hs
    refine ⟨by simpa using digC_of n hs, ?_, by simp⟩
    simp [valC]; omega
  · rename_i hs
    obtain ⟨h1, h2, h3⟩ := decDig (n / 10)
    refine ⟨?_, ?_, by simp⟩
    · intro c hc
      rcases List.mem_append.1 hc with hc | hc
      · exact h1 c hc
      · rw [List.mem_singleton] at hc; subst hc; exact digC_of _ (Nat.mod_lt n (by decide))
    · rw [valC_snoc, h2]
      have e : (UInt8.ofNat (48 + n % 10)).toNat = 48 + n % 10 := by rw [UInt8.toNat_ofNat']; omega
      rw [e]; omega
termination_by n
decreasing_by omega
theorem decLong (k n : Nat) (h : n < 10 ^ (k + 1)) : (Lib.decDigits n).length ≤ k + 1 := by
  induction k generalizing n with
  | zero => rw [Lib.decDigits, dif_pos (by simpa using h)]; simp
  | succ k ih =>
    rw [Lib.decDigits]
    split
    · simp
    · have := ih (n / 10) (by rw [Nat.pow_succ] at h; omega)
      simp; omega
/-- the bytes that a part may have -/
def partC (c : UInt8) : Bool := digC c || c == 42 || c == 46 || c == 47
theorem digC_ne {c d : UInt8} (h : digC c = true) (hd : digC d = false) : c ≠ d := by
  rintro rfl; rw [h] at hd; cases hd
theorem val_zeros (k : Nat) (l : List UInt8) : valC (List.replicate k 48 ++ l) = valC l := by
  induction k with
  | zero => rfl
  | succ k ih =>
    rw [List.replicate_succ, List.cons_append]
    have e : ∀ m, valC (48 :: m) = valC m := fun m => by simp [valC]
    rw [e, ih]
theorem pad_is (n : Int) (f : Nat) (h0 : 0 ≤ n) (h1 : n ≤ 9999) : (∀ c ∈ padL n f, digC c = true) ∧ numC (padL n f) = some n := by
  obtain ⟨d1, d2, d3⟩ := decDig n.toNat
  have d4 := decLong 3 n.toNat (by omega)
  have hd : ∀ c ∈ padL n f, digC c = true := by
    intro c hc
    unfold padL decN at hc
    split at hc
    · exact d1 c hc
    · rcases List.mem_append.1 hc with hc | hc
      · rw [List.eq_of_mem_replicate hc]; decide
      · exact d1 c hc
  have hl : 1 ≤ (padL n f).length ∧ (padL n f).length ≤ 4 := by
    unfold padL decN
    split
    · omega
    · rw [List.length_append, List.length_replicate]; omega
  have hv : valC (padL n f) = n.toNat := by
    unfold padL decN
    split
    · exact d2
    · rw [val_zeros]; exact d2
  refine ⟨hd, ?_⟩
  unfold numC
  rw [if_pos ⟨hl.1, hl.2, List.all_eq_true.2 hd⟩, hv]
  simp; omega
theorem num_dec (n : Int) (h0 : 0 ≤ n) (h1 : n ≤ 9999) : (∀ c ∈ decN n, digC c = true) ∧ numC (decN n) = some n := by
  have := pad_is n 0 h0 h1
  unfold padL at this
  simpa using this
theorem cut1_none (c : UInt8) : ∀ l : List UInt8, (∀ x ∈ l, x ≠ c) → cut1 c l = (l, [], false)
  | [], _ => rfl
  | b :: l, h => by rw [cut1, if_neg (h b (by simp)), cut1_none c l (fun x hx => h x (by simp [hx]))]
theorem cut1_hit (c : UInt8) : ∀ (a r : List UInt8), (∀ x ∈ a, x ≠ c) → cut1 c (a ++ c :: r) = (a, r, true)
  | [], r, _ => by simp [cut1]
  | b :: a, r, h => by rw [List.cons_append, cut1, if_neg (h b (by simp)), cut1_hit c a r (fun x hx => h x (by simp [hx]))]
theorem cutD_none : ∀ l : List UInt8, (∀ x ∈ l, x ≠ 46) → cutD l = (l, [], false)
  | [], _ => rfl
  | [b], _ => rfl
  | b :: b' :: l, h => by rw [cutD, if_neg (fun e => h b (by simp) e.1), cutD_none (b' :: l) (fun x hx => h x (by simp at hx ⊢; exact .inr hx))]
theorem cutD_hit : ∀ (a r : List UInt8), (∀ x ∈ a, x ≠ 46) → cutD (a ++ 46 :: 46 :: r) = (a, r, true)
  | [], r, _ => by simp [cutD]
  | [b], r, h => by
    have hb : b ≠ 46 := h b (by simp)
    have := cutD_hit [] r (by simp)
    rw [List.nil_append] at this
    show cutD (b :: 46 :: 46 :: r) = _
    rw [cutD, if_neg (fun e => hb e.1), this]
  | b :: b' :: a, r, h => by
    have := cutD_hit (b' :: a) r (fun x hx => h x (by simp at hx ⊢; exact .inr hx))
    rw [List.cons_append] at this ⊢
    rw [List.cons_append, cutD, if_neg (fun e => h b (by simp) e.1)]
    rw [this]
theorem body_back (p : PartD) (f : Nat) (h : mayPartB p f = true) (st : Int) :
    bodyP ((if 0 ≤ p.fr then padL p.fr f else [42]) ++ (if 0 ≤ p.to then 46 :: 46 :: padL p.to f else [])) st = some ⟨p.fr, p.to, st⟩ := by
  have hlo : 0 ≤ lowF f ∧ highF f ≤ 2199 := by
    unfold lowF highF
    constructor <;> split <;> decide
  unfold mayPartB at h
  split at h
  · cases h
  · split at h
    · rename_i e
      have e2 : p.to = -1 := of_decide_eq_true h
      rw [if_neg (by omega), if_neg (by omega), e, e2]
      rfl
    · split at h
      · cases h
      · rename_i h1 h2 h3
        have hf0 : 0 ≤ p.fr := by omega
        have hf1 : p.fr ≤ 9999 := by omega
        obtain ⟨a1, a2⟩ := pad_is p.fr f hf0 hf1
        have hne : padL p.fr f ≠ [42] := fun e => by
          have := a1 42 (by rw [e]; simp)
          revert this; decide
        have hnd : ∀ x ∈ padL p.fr f, x ≠ 46 := fun x hx => digC_ne (a1 x hx) (by decide)
        rw [if_pos hf0]
        by_cases ht : 0 ≤ p.to
        · have ht2 : p.to ≤ 9999 := by
            simp only [Bool.or_eq_true, Bool.and_eq_true, decide_eq_true_eq] at h
            omega
          obtain ⟨b1, b2⟩ := pad_is p.to f ht ht2
          rw [if_pos ht]
          unfold bodyP
          rw [if_neg (fun e => by
            have h4 := congrArg List.length e
            simp at h4
            omega), cutD_hit _ _ hnd]
          simp only [a2, b2, if_true]
        · have et : p.to = -1 := by
            simp only [Bool.or_eq_true, Bool.and_eq_true, decide_eq_true_eq] at h
            omega
          rw [if_neg ht, List.append_nil]
          unfold bodyP
          rw [if_neg hne, cutD_none _ hnd]
          simp only [a2, et]
          rfl
theorem pad_bytes (n : Int) (f : Nat) : ∀ c ∈ padL n f, digC c = true := by
  intro c hc
  unfold padL decN at hc
  split at hc
  · exact (decDig n.toNat).1 c hc
  · rcases List.mem_append.1 hc with hc | hc
    · rw [List.eq_of_mem_replicate hc]; decide
    · exact (decDig n.toNat).1 c hc
theorem head_bytes (p : PartD) (f : Nat) : ∀ c ∈ ((if 0 ≤ p.fr then padL p.fr f else [42]) ++ (if 0 ≤ p.to then 46 :: 46 :: padL p.to f else [])), c ≠ 47 ∧ partC c = true := by
  have hd : ∀ c, digC c = true → c ≠ 47 ∧ partC c = true := fun c h => ⟨digC_ne h (by decide), by unfold partC; rw [h]; rfl⟩
  intro c hc
  rcases List.mem_append.1 hc with hc | hc
  · split at hc
    · exact hd c (pad_bytes _ _ c hc)
    · rw [List.mem_singleton] at hc; subst hc; decide
  · split at hc
    · simp only [List.mem_cons] at hc
      rcases hc with rfl | rfl | hc
      · decide
      · decide
      · exact hd c (pad_bytes _ _ c hc)
    · cases hc
theorem pad_long (n : Int) (f : Nat) : 1 ≤ (padL n f).length := by
  have := (decDig n.toNat).2.2
  unfold padL decN
  split
  · exact this
  · rw [List.length_append]; omega
theorem part_bytes (p : PartD) (f : Nat) : (∀ c ∈ partL p f, partC c = true) ∧ partL p f ≠ [] := by
  constructor
  · intro c hc
    unfold partL at hc
    rw [← List.append_assoc] at hc
    rcases List.mem_append.1 hc with hc | hc
    · exact (head_bytes p f c hc).2
    · split at hc
      · rcases List.mem_cons.1 hc with rfl | hc
        · decide
        · unfold partC
          rw [(decDig _).1 c hc]; rfl
      · cases hc
  · unfold partL
    intro e
    have h := congrArg List.length e
    rw [List.length_append, List.length_nil] at h
    have h2 := pad_long p.fr f
    split at h
    · omega
    · simp at h
theorem part_back (p : PartD) (f : Nat) (h : mayPartB p f = true) : partP (partL p f) = some p := by
  have hst : 0 ≤ p.st ∧ p.st ≤ 9999 := by
    unfold mayPartB at h
    split at h
    · cases h
    · omega
  have hb := body_back p f h
  have hh := head_bytes p f
  unfold partL
  rw [← List.append_assoc]
  generalize ((if 0 ≤ p.fr then padL p.fr f else [42]) ++ (if 0 ≤ p.to then 46 :: 46 :: padL p.to f else [])) = H at *
  unfold partP
  by_cases hs : 0 < p.st
  · rw [if_pos hs, cut1_hit 47 _ _ (fun x hx => (hh x hx).1)]
    simp only [if_true, (num_dec p.st (by omega) hst.2).2]
    rw [if_neg (by omega), hb]
  · have e : p.st = 0 := by omega
    rw [if_neg hs, List.append_nil, cut1_none 47 _ (fun x hx => (hh x hx).1)]
    have h2 := hb 0
    rw [show (⟨p.fr, p.to, 0⟩ : PartD) = p from by rw [← e]] at h2
    simpa using h2
theorem split_one (c : UInt8) : ∀ l : List UInt8, (∀ x ∈ l, x ≠ c) → splitC c l = [l]
  | [], _ => rfl
  | b :: l, h => by rw [splitC, if_neg (h b (by simp)), split_one c l (fun x hx => h x (by simp [hx]))]
theorem split_hit (c : UInt8) : ∀ (a r : List UInt8), (∀ x ∈ a, x ≠ c) → splitC c (a ++ c :: r) = a :: splitC c r
  | [], r, _ => by simp [splitC]
  | b :: a, r, h => by rw [List.cons_append, splitC, if_neg (h b (by simp)), split_hit c a r (fun x hx => h x (by simp [hx]))]
theorem split_join (c : UInt8) : ∀ ws : List (List UInt8), ws ≠ [] → (∀ w ∈ ws, ∀ x ∈ w, x ≠ c) → splitC c (joinL [c] ws) = ws
  | [], h, _ => absurd rfl h
  | [w], _, h => split_one c w (h w (by simp))
  | w :: v :: r, _, h => by
    rw [joinL, List.append_assoc]
    show splitC c (w ++ c :: joinL [c] (v :: r)) = _
    rw [split_hit c w _ (h w (by simp)), split_join c (v :: r) (by simp) (fun u hu => h u (by simp at hu ⊢; exact .inr hu))]
theorem join_bytes (P : UInt8 → Prop) (c : List UInt8) (hc : ∀ x ∈ c, P x) : ∀ ws : List (List UInt8), (∀ w ∈ ws, ∀ x ∈ w, P x) → ∀ x ∈ joinL c ws, P x
  | [], _, x, hx => by cases hx
  | [w], h, x, hx => h w (by simp) x hx
  | w :: v :: r, h, x, hx => by
    rw [joinL] at hx
    rcases List.mem_append.1 hx with hx | hx
    · rcases List.mem_append.1 hx with hx | hx
      · exact h w (by simp) x hx
      · exact hc x hx
    · exact join_bytes P c hc (v :: r) (fun u hu => h u (by simp at hu ⊢; exact .inr hu)) x hx
theorem allSome_of {α β : Type} (g : α → Option β) (e : β → α) : ∀ l : List β, (∀ x ∈ l, g (e x) = some x) → allSome ((l.map e).map g) = some l
  | [], _ => rfl
  | x :: l, h => by
    rw [List.map_cons, List.map_cons, h x (by simp), allSome, allSome_of g e l (fun y hy => h y (by simp [hy]))]
theorem fieldC (l : List PartD) (f : Nat) : ∀ c ∈ fieldL l f, (partC c || c == 44) = true :=
  join_bytes (fun c => (partC c || c == 44) = true) [44] (by decide) _ (fun w hw x hx => by
    obtain ⟨p, _, rfl⟩ := List.mem_map.1 hw
    rw [(part_bytes p f).1 x hx]; rfl)
theorem field_back (l : List PartD) (f : Nat) (h : mayList l f = true) : partsP (fieldL l f) = some l := by
  unfold mayList at h
  simp only [Bool.and_eq_true, decide_eq_true_eq, List.all_eq_true] at h
  unfold partsP fieldL
  rw [split_join 44 _ (by
    intro e
    have := congrArg List.length e
    simp at this
    rw [this] at h
    simp at h) (fun w hw x hx => by
    obtain ⟨p, _, rfl⟩ := List.mem_map.1 hw
    have h2 := (part_bytes p f).1 x hx
    rintro rfl
    revert h2; decide)]
  exact allSome_of partP (fun p => partL p f) l (fun p hp => part_back p f (h.2 p hp))
/-- the days -/
theorem day_names (d : Int) (h1 : 1 ≤ d) (h2 : d ≤ 7) : wordDays (dayName d) = some ((d - 1).toNat, (d - 1).toNat) ∧ (∀ c ∈ dayName d, letC c = true) ∧ dayName d ≠ [] := by
  have h : d = 1 ∨ d = 2 ∨ d = 3 ∨ d = 4 ∨ d = 5 ∨ d = 6 ∨ d = 7 := by omega
  rcases h with rfl | rfl | rfl | rfl | rfl | rfl | rfl <;> exact ⟨by decide, by decide, by decide⟩
theorem days_range : ∀ (l : List Int) (a : Int), mayDays a l = true → ∀ d ∈ l, a < d ∧ d ≤ 7
  | [], _, _, d, hd => by cases hd
  | x :: r, a, h, d, hd => by
    rw [mayDays] at h
    split at h
    · cases h
    · rcases List.mem_cons.1 hd with rfl | hd
      · omega
      · have := days_range r x h d hd; omega
theorem days_pair (l : List Int) (a : Int) (h : mayDays a l = true) : l.Pairwise (· < ·) := by
  induction l generalizing a with
  | nil => exact List.Pairwise.nil
  | cons x r ih =>
    rw [mayDays] at h
    split at h
    · cases h
    · exact List.Pairwise.cons (fun d hd => (days_range r x h d hd).1) (ih x h)
theorem sorted_eq : ∀ (X Y : List Int), X.Pairwise (· < ·) → Y.Pairwise (· < ·) → (∀ d, d ∈ X ↔ d ∈ Y) → X = Y
  | [], [], _, _, _ => rfl
  | [], y :: Y, _, _, h => by have := (h y).2 (by simp); cases this
  | x :: X, [], _, _, h => by have := (h x).1 (by simp); cases this
  | x :: X, y :: Y, hX, hY, h => by
    obtain ⟨a1, a2⟩ := List.pairwise_cons.1 hX
    obtain ⟨b1, b2⟩ := List.pairwise_cons.1 hY
    have e : x = y := by
      rcases List.mem_cons.1 ((h x).1 (by simp)) with h1 | h1
      · exact h1
      · rcases List.mem_cons.1 ((h y).2 (by simp)) with h2 | h2
        · exact h2.symm
        · have := b1 x h1; have := a1 y h2; omega
    subst e
    congr 1
    refine sorted_eq X Y a2 b2 fun d => ⟨fun hd => ?_, fun hd => ?_⟩
    · rcases List.mem_cons.1 ((h d).1 (by simp [hd])) with h1 | h1
      · have := a1 d hd; omega
      · exact h1
    · rcases List.mem_cons.1 ((h d).2 (by simp [hd])) with h1 | h1
      · have := b1 d hd; omega
      · exact h1
theorem daysOf_sorted (ws : List (Nat × Nat)) : (daysOf ws).Pairwise (· < ·) := List.Pairwise.sublist List.filter_sublist (by decide)
theorem days_back (l : List Int) (hne : l ≠ []) (h : mayDays 0 l = true) : daysP (joinL [44] (l.map dayName)) = some l := by
  have hr := days_range l 0 h
  unfold daysP
  rw [split_join 44 _ (by simpa using hne) (fun w hw x hx => by
    obtain ⟨d, hd, rfl⟩ := List.mem_map.1 hw
    have h2 := (day_names d (by have := hr d hd; omega) (hr d hd).2).2.1 x hx
    rintro rfl
    revert h2; decide)]
  have e : allSome ((l.map dayName).map wordDays) = some (l.map fun d => ((d - 1).toNat, (d - 1).toNat)) := by
    clear hne h
    induction l with
    | nil => rfl
    | cons x r ih =>
      rw [List.map_cons, List.map_cons, (day_names x (by have := hr x (by simp); omega) (hr x (by simp)).2).1, allSome, ih (fun d hd => hr d (by simp [hd]))]
      rfl
  rw [e]
  show some (daysOf _) = some l
  congr 1
  refine sorted_eq _ _ (daysOf_sorted _) (days_pair l 0 h) fun d => ?_
  unfold daysOf
  rw [List.mem_filter, List.any_map, List.any_eq_true]
  constructor
  · rintro ⟨_, x, hx, h2⟩
    have h3 := hr x hx
    simp only [Function.comp, Bool.and_eq_true, decide_eq_true_eq] at h2
    have : d = x := by omega
    rw [this]; exact hx
  · intro hd
    have h3 := hr d hd
    refine ⟨?_, d, hd, ?_⟩
    · have h4 : d = 1 ∨ d = 2 ∨ d = 3 ∨ d = 4 ∨ d = 5 ∨ d = 6 ∨ d = 7 := by omega
      simpa using h4
    · simp only [Function.comp, Bool.and_eq_true, decide_eq_true_eq]
      omega
end Sp

end Go.Proofs.YtpkpoglmmjaoeaaGreatDoor
