/-
  A calendar's whole text is read as it was: in plain Lean.
-/
import Derived.Test.YtpkpoglmmjaoeaaGreatDoorCe
namespace Go.Proofs.YtpkpoglmmjaoeaaGreatDoor
namespace Sp
theorem pad_short (n : Int) (f : Nat) (hf : f ≠ 0) (h1 : n ≤ 99) : (padL n f).length ≤ 2 := by
  have := decLong 1 n.toNat (by omega)
  unfold padL decN
  rw [if_neg hf, List.length_append, List.length_replicate]; omega
theorem pad_year (n : Int) (h1 : n ≤ 9999) : (padL n 0).length ≤ 4 := by
  have := decLong 3 n.toNat (by omega)
  unfold padL decN
  rw [if_pos rfl]; exact this
theorem part_len (p : PartD) (f : Nat) (h : mayPartB p f = true) : (partL p f).length ≤ (if f = 0 then 15 else 11) := by
  have hlo : highF f ≤ 2199 ∧ (f ≠ 0 → highF f ≤ 59) := by
    unfold highF
    constructor <;> split <;> first | decide | (intro h; first | exact absurd rfl h | decide)
  have hb : p.fr ≤ highF f ∧ p.to ≤ highF f ∧ p.st ≤ 9999 := by
    have h5 : 0 ≤ highF f := by unfold highF; split <;> decide
    unfold mayPartB at h
    split at h
    · cases h
    · split at h
      · have e2 : p.to = -1 := of_decide_eq_true h
        omega
      · split at h
        · cases h
        · simp only [Bool.or_eq_true, Bool.and_eq_true, decide_eq_true_eq] at h
          omega
  have hs : (if 0 < p.st then 47 :: decN p.st else []).length ≤ 5 := by
    have := decLong 3 p.st.toNat (by omega)
    unfold decN
    split
    · rw [List.length_cons]; omega
    · simp
  unfold partL
  rw [List.length_append, List.length_append]
  by_cases hf : f = 0
  · subst hf
    have a1 := pad_year p.fr (by omega)
    have a2 := pad_year p.to (by omega)
    have b1 : (if 0 ≤ p.fr then padL p.fr 0 else [42]).length ≤ 4 := by split <;> first | omega | (simp; done) | (simp; omega)
    have b2 : (if 0 ≤ p.to then 46 :: 46 :: padL p.to 0 else []).length ≤ 6 := by split <;> first | omega | (simp; done) | (simp; omega)
    simp only [if_true]; omega
  · have a1 := pad_short p.fr f hf (by have := hlo.2 hf; omega)
    have a2 := pad_short p.to f hf (by have := hlo.2 hf; omega)
    have b1 : (if 0 ≤ p.fr then padL p.fr f else [42]).length ≤ 2 := by split <;> first | omega | (simp; done) | (simp; omega)
    have b2 : (if 0 ≤ p.to then 46 :: 46 :: padL p.to f else []).length ≤ 4 := by split <;> first | omega | (simp; done) | (simp; omega)
    rw [if_neg hf]; omega
theorem join_len (n : Nat) : ∀ ws : List (List UInt8), (∀ w ∈ ws, w.length ≤ n) → (joinL [44] ws).length ≤ ws.length * (n + 1)
  | [], _ => by simp [joinL]
  | [w], h => by have := h w (by simp); simp [joinL]; omega
  | w :: v :: r, h => by
    have h1 := h w (by simp)
    have h2 := join_len n (v :: r) (fun u hu => h u (by simp at hu ⊢; exact .inr hu))
    rw [joinL, List.length_append, List.length_append]
    show _ ≤ ((v :: r).length + 1) * (n + 1)
    rw [Nat.add_mul]
    generalize (v :: r).length * (n + 1) = z at *
    simp only [List.length_cons, List.length_nil]
    omega
theorem field_len (l : List PartD) (f : Nat) (h : mayList l f = true) : (fieldL l f).length ≤ (if f = 0 then 64 else 48) := by
  unfold mayList at h
  simp only [Bool.and_eq_true, decide_eq_true_eq, List.all_eq_true] at h
  have h1 := join_len (if f = 0 then 15 else 11) (l.map fun p => partL p f) (fun w hw => by
    obtain ⟨p, hp, rfl⟩ := List.mem_map.1 hw
    exact part_len p f (h.2 p hp))
  unfold fieldL
  rw [List.length_map] at h1
  have h2 := Nat.mul_le_mul_right ((if f = 0 then 15 else 11) + 1) h.1.2
  split <;> simp_all <;> omega
theorem days_len (l : List Int) (h : mayDays 0 l = true) : l.length ≤ 7 := by
  have hr := days_range l 0 h
  have hp := days_pair l 0 h
  have hs : l.Sublist [1, 2, 3, 4, 5, 6, 7] := by
    have e : l = ([1, 2, 3, 4, 5, 6, 7] : List Int).filter fun d => l.contains d := by
      refine sorted_eq _ _ hp (List.Pairwise.sublist List.filter_sublist (by decide)) fun d => ?_
      rw [List.mem_filter, List.contains_iff_mem]
      constructor
      · intro hd
        have := hr d hd
        have h4 : d = 1 ∨ d = 2 ∨ d = 3 ∨ d = 4 ∨ d = 5 ∨ d = 6 ∨ d = 7 := by omega
        exact ⟨by simpa using h4, hd⟩
      · exact fun h => h.2
    rw [e]; exact List.filter_sublist
  exact hs.length_le
theorem daysL_len (l : List Int) (h : mayDays 0 l = true) : (joinL [44] (l.map dayName)).length ≤ 28 := by
  have hr := days_range l 0 h
  have h1 := join_len 3 (l.map dayName) (fun w hw => by
    obtain ⟨d, hd, rfl⟩ := List.mem_map.1 hw
    have := hr d hd
    have h4 : d = 1 ∨ d = 2 ∨ d = 3 ∨ d = 4 ∨ d = 5 ∨ d = 6 ∨ d = 7 := by omega
    rcases h4 with rfl | rfl | rfl | rfl | rfl | rfl | rfl <;> decide)
  rw [List.length_map] at h1
  have := days_len l h
  omega
theorem field_ne (l : List PartD) (f : Nat) (h : mayList l f = true) : ∃ b r, fieldL l f = b :: r ∧ letC b = false := by
  have hc := fieldC l f
  unfold mayList at h
  simp only [Bool.and_eq_true, decide_eq_true_eq] at h
  cases l with
  | nil => simp at h
  | cons p q =>
    have hp := (part_bytes p f).2
    have e : ∃ b r, fieldL (p :: q) f = b :: r := by
      unfold fieldL
      cases hx : partL p f with
      | nil => exact absurd hx hp
      | cons b r =>
        cases q with
        | nil => exact ⟨b, r, by simp [joinL, hx]⟩
        | cons p' q' => exact ⟨b, _, by simp [joinL, hx]; rfl⟩
    obtain ⟨b, r, e⟩ := e
    refine ⟨b, r, e, ?_⟩
    have := hc b (by rw [e]; simp)
    unfold partC digC at this
    unfold letC
    simp only [Bool.or_eq_true, Bool.and_eq_true, decide_eq_true_eq, beq_iff_eq] at this
    have h3 : b.toNat ≤ 57 := by
      rcases this with (((h | h) | h) | h) | h
      · omega
      · subst h; decide
      · subst h; decide
      · subst h; decide
      · subst h; decide
    simp only [Bool.or_eq_false_iff, Bool.and_eq_false_iff, decide_eq_false_iff_not]
    omega
theorem fieldC_ne (l : List PartD) (f : Nat) (d : UInt8) (hd : (partC d || d == 44) = false) : ∀ c ∈ fieldL l f, c ≠ d := by
  intro c hc e
  have := fieldC l f c hc
  rw [e, hd] at this; cases this
theorem namesC (l : List Int) (h : mayDays 0 l = true) (d : UInt8) (hd : (letC d || d == 44) = false) : ∀ c ∈ joinL [44] (l.map dayName), c ≠ d := by
  have hr := days_range l 0 h
  have hj := join_bytes (fun c => (letC c || c == 44) = true) [44] (by decide) (l.map dayName) (fun w hw x hx => by
    obtain ⟨d, hd, rfl⟩ := List.mem_map.1 hw
    rw [(day_names d (by have := hr d hd; omega) (hr d hd).2).2.1 x hx]; rfl)
  intro c hc e
  have := hj c hc
  rw [e, hd] at this; cases this
theorem names_head (l : List Int) (hne : l ≠ []) (h : mayDays 0 l = true) : headLet (joinL [44] (l.map dayName)) = true := by
  have hr := days_range l 0 h
  cases l with
  | nil => exact absurd rfl hne
  | cons x q =>
    obtain ⟨_, h2, h3⟩ := day_names x (by have := hr x (by simp); omega) (hr x (by simp)).2
    cases hx : dayName x with
    | nil => exact absurd hx h3
    | cons b r =>
      have hb := h2 b (by rw [hx]; simp)
      cases q with
      | nil => simp [joinL, hx, headLet, hb]
      | cons p' q' => simp [joinL, hx, headLet, hb]
def dateL (c : CalD) : List UInt8 := fieldL c.year 0 ++ 45 :: (fieldL c.month 1 ++ 45 :: fieldL c.day 2)
def clkL (c : CalD) : List UInt8 := fieldL c.hour 3 ++ 58 :: (fieldL c.min 4 ++ 58 :: fieldL c.sec 5)
theorem cal_parts (c : CalD) : calL c = (if c.days.isEmpty then [] else joinL [44] (c.days.map dayName) ++ [32]) ++ (dateL c ++ 32 :: clkL c) := by
  unfold calL dateL clkL
  simp [List.append_assoc]
theorem has1_mem (c : UInt8) (l : List UInt8) : has1 c l = true ↔ c ∈ l := by
  unfold has1
  rw [List.any_eq_true]
  constructor
  · rintro ⟨x, hx, h⟩
    rw [beq_iff_eq] at h; subst h; exact hx
  · exact fun h => ⟨c, h, beq_self_eq_true c⟩
theorem named_clk (l : List UInt8) (h : (58 : UInt8) ∈ l) : namedL l = l := by
  unfold namedL
  have key : ∀ m : List UInt8, has1 58 m = false → l ≠ m := fun m hm e => by
    rw [← e, ← Bool.not_eq_true, has1_mem] at hm
    exact hm h
  rw [if_neg (key _ (by decide)), if_neg (key _ (by decide)), if_neg (key _ (by decide)), if_neg (key _ (by decide)), if_neg (key _ (by decide)), if_neg (key _ (by decide))]
theorem date_ne (c : CalD) (d : UInt8) (hd : (partC d || d == 44) = false) (h45 : d ≠ 45) : ∀ x ∈ dateL c, x ≠ d := by
  intro x hx
  unfold dateL at hx
  simp only [List.mem_append, List.mem_cons] at hx
  rcases hx with hx | rfl | hx | rfl | hx
  · exact fieldC_ne _ _ d hd x hx
  · exact fun e => h45 e.symm
  · exact fieldC_ne _ _ d hd x hx
  · exact fun e => h45 e.symm
  · exact fieldC_ne _ _ d hd x hx
theorem clk_ne (c : CalD) (d : UInt8) (hd : (partC d || d == 44) = false) (h58 : d ≠ 58) : ∀ x ∈ clkL c, x ≠ d := by
  intro x hx
  unfold clkL at hx
  simp only [List.mem_append, List.mem_cons] at hx
  rcases hx with hx | rfl | hx | rfl | hx
  · exact fieldC_ne _ _ d hd x hx
  · exact fun e => h58 e.symm
  · exact fieldC_ne _ _ d hd x hx
  · exact fun e => h58 e.symm
  · exact fieldC_ne _ _ d hd x hx
theorem clk_count (c : CalD) : ((clkL c).filter fun x => x == 58).length = 2 := by
  have h0 : ∀ (l : List PartD) (f : Nat), (fieldL l f).filter (fun x => x == 58) = [] := fun l f => by
    rw [List.filter_eq_nil_iff]
    intro x hx h
    rw [beq_iff_eq] at h
    exact fieldC_ne l f 58 (by decide) x hx h
  unfold clkL
  simp [List.filter_append, h0]
theorem fill_back (c : CalD) (h : mayCal c = true) : fillP c.days (splitC 45 (dateL c)) (splitC 58 (clkL c)) = some c := by
  have hm := h
  unfold mayCal at hm
  simp only [Bool.and_eq_true] at hm
  obtain ⟨h0, ⟨⟨⟨⟨⟨h1, h2⟩, h3⟩, h4⟩, h5⟩, h6⟩⟩ := hm
  unfold dateL clkL
  rw [split_hit 45 _ _ (fieldC_ne _ _ 45 (by decide)), split_hit 45 _ _ (fieldC_ne _ _ 45 (by decide)), split_one 45 _ (fieldC_ne _ _ 45 (by decide)),
    split_hit 58 _ _ (fieldC_ne _ _ 58 (by decide)), split_hit 58 _ _ (fieldC_ne _ _ 58 (by decide)), split_one 58 _ (fieldC_ne _ _ 58 (by decide))]
  unfold fillP
  simp only [field_back _ _ h1, field_back _ _ h2, field_back _ _ h3, field_back _ _ h4, field_back _ _ h5, field_back _ _ h6]
  rw [if_pos h]
theorem parse_back (c : CalD) (h : mayCal c = true) : parseP (calL c) = some c := by
  have hm := h
  unfold mayCal at hm
  simp only [Bool.and_eq_true] at hm
  obtain ⟨h0, ⟨⟨⟨⟨⟨h1, h2⟩, h3⟩, h4⟩, h5⟩, h6⟩⟩ := hm
  have hlen : (calL c).length ≤ 400 := by
    have a1 := field_len _ _ h1
    have a2 := field_len _ _ h2
    have a3 := field_len _ _ h3
    have a4 := field_len _ _ h4
    have a5 := field_len _ _ h5
    have a6 := field_len _ _ h6
    have a0 := daysL_len _ h0
    have b0 : (if c.days.isEmpty then [] else joinL [44] (c.days.map dayName) ++ [32]).length ≤ 29 := by
      split
      · simp
      · rw [List.length_append]; simp; omega
    rw [cal_parts, List.length_append]
    unfold dateL clkL
    simp only [List.length_append, List.length_cons]
    simp only [if_true, if_neg (show ¬ (1 : Nat) = 0 by decide), if_neg (show ¬ (2 : Nat) = 0 by decide), if_neg (show ¬ (3 : Nat) = 0 by decide), if_neg (show ¬ (4 : Nat) = 0 by decide), if_neg (show ¬ (5 : Nat) = 0 by decide)] at a1 a2 a3 a4 a5 a6
    omega
  have h58 : (58 : UInt8) ∈ clkL c := by unfold clkL; simp
  have h45 : (45 : UInt8) ∈ dateL c := by unfold dateL; simp
  have hn : namedL (calL c) = calL c := named_clk _ (by rw [cal_parts]; simp [h58])
  have hsp : splitC 32 (dateL c ++ 32 :: clkL c) = [dateL c, clkL c] := by
    rw [split_hit 32 _ _ (date_ne c 32 (by decide) (by decide)), split_one 32 _ (clk_ne c 32 (by decide) (by decide))]
  have hhd : headLet (dateL c) = false := by
    obtain ⟨b, r, e, hb⟩ := field_ne _ _ h1
    unfold dateL
    rw [e]
    exact hb
  have hc : clockL (clkL c) = clkL c := by
    unfold clockL
    rw [clk_count, if_neg (by decide)]
  have t1 : takeP (has1 45) [dateL c, clkL c] = (some (dateL c), [clkL c]) := by
    show (if has1 45 (dateL c) = true then _ else _) = _
    rw [(has1_mem 45 _).2 h45]; rfl
  have t2 : takeP (has1 58) [clkL c] = (some (clkL c), []) := by
    show (if has1 58 (clkL c) = true then _ else _) = _
    rw [(has1_mem 58 _).2 h58]; rfl
  have hf := fill_back c h
  unfold parseP
  rw [if_neg (by omega)]
  unfold parseL
  rw [hn, cal_parts]
  by_cases hd : c.days = []
  · have e : splitC 32 ((if c.days.isEmpty then [] else joinL [44] (c.days.map dayName) ++ [32]) ++ (dateL c ++ 32 :: clkL c)) = [dateL c, clkL c] := by
      rw [hd]; exact hsp
    have t0 : takeP headLet [dateL c, clkL c] = (none, [dateL c, clkL c]) := by
      show (if headLet (dateL c) = true then _ else _) = _
      rw [hhd]; rfl
    simp only [e, t0, t1, t2, hc]
    rw [hd] at hf
    exact hf
  · have hie : c.days.isEmpty = false := by
      cases hx : c.days with
      | nil => exact absurd hx hd
      | cons _ _ => rfl
    have e : splitC 32 ((if c.days.isEmpty then [] else joinL [44] (c.days.map dayName) ++ [32]) ++ (dateL c ++ 32 :: clkL c)) = [joinL [44] (c.days.map dayName), dateL c, clkL c] := by
      rw [hie]
      simp only [Bool.false_eq_true, if_false, List.append_assoc]
      show splitC 32 (_ ++ 32 :: (dateL c ++ 32 :: clkL c)) = _
      rw [split_hit 32 _ _ (namesC _ h0 32 (by decide)), hsp]
    have t0 : takeP headLet [joinL [44] (c.days.map dayName), dateL c, clkL c] = (some (joinL [44] (c.days.map dayName)), [dateL c, clkL c]) := by
      show (if headLet (joinL [44] (c.days.map dayName)) = true then _ else _) = _
      rw [names_head _ hd h0]; rfl
    simp only [e, t0, t1, t2, hc, days_back _ hd h0]
    exact hf
end Sp

end Go.Proofs.YtpkpoglmmjaoeaaGreatDoor
