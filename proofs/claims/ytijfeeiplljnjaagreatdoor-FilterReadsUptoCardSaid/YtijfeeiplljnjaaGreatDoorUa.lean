/-
  The words of a command: how a text is parted into them, and how they are put together; plain laws, no program in sight.
-/
import Derived.Test.YtijfeeiplljnjaaGreatDoorSp2
namespace Go.Proofs.YtijfeeiplljnjaaGreatDoor
namespace Sp
def badC (c : UInt8) : Bool := (decide (c.toNat < 32) && !decide (c = 9)) || decide (c = 127)
def blankC (c : UInt8) : Bool := decide (c = 32) || decide (c = 9)
/-- what stands behind a backslash: the byte, how many bytes it takes -/
def escS : List UInt8 → Option (UInt8 × Nat)
  | [] => none
  | c :: r =>
    if c = 92 ∨ c = 34 ∨ c = 39 then some (c, 1)
    else if c = 110 then some (10, 1)
    else if c = 116 then some (9, 1)
    else if c = 115 then some (32, 1)
    else if c = 120 then (if (twoL r).2 = true ∧ (twoL r).1 ≠ 0 then some ((twoL r).1, 3) else none)
    else none
/-- what is wrong where a word too many begins -/
def wrongE (c : UInt8) (r : List UInt8) : Int := if c = 92 ∧ escS r = none then 13 else 2
/-- a text is gone over from the left: how many bytes are passed by, the word that is begun, the quote that is open, the words there are -/
def M : Nat → Option (List UInt8) → UInt8 → List (List UInt8) → List UInt8 → Except Int (List (List UInt8))
  | _, cur, q, out, [] => if q = 0 then .ok (out ++ cur.toList) else .error 13
  | k + 1, cur, q, out, _ :: r => M k cur q out r
  | 0, cur, q, out, c :: r =>
    if badC c = true then .error 1
    else if blankC c = true ∧ q = 0 then M 0 none 0 (out ++ cur.toList) r
    else if cur = none ∧ out.length = 32 then .error (wrongE c r)
    else if c = 92 then (match escS r with
      | none => .error 13
      | some (b, n) => M n (some (cur.getD [] ++ [b])) q out r)
    else if q = 0 ∧ (c = 39 ∨ c = 34) then M 0 (some (cur.getD [])) c out r
    else if q ≠ 0 ∧ c = q then M 0 (some (cur.getD [])) 0 out r
    else M 0 (some (cur.getD [] ++ [c])) q out r
def splitW (l : List UInt8) : Except Int (List (List UInt8)) := M 0 none 0 [] l

theorem M_skip : ∀ (k : Nat) (cur : Option (List UInt8)) (q : UInt8) (out : List (List UInt8)) (l : List UInt8), M k cur q out l = M 0 cur q out (l.drop k)
  | 0, _, _, _, _ => rfl
  | k + 1, cur, q, out, [] => by cases cur <;> simp [M]
  | k + 1, cur, q, out, _ :: r => by rw [M, List.drop_succ_cons]; exact M_skip k cur q out r
theorem M_end (cur : Option (List UInt8)) (out : List (List UInt8)) : M 0 cur 0 out [] = .ok (out ++ cur.toList) := by simp [M]
theorem M_open (cur : Option (List UInt8)) (q : UInt8) (out : List (List UInt8)) (hq : q ≠ 0) : M 0 cur q out [] = .error 13 := by simp [M, hq]
theorem M_cons (cur : Option (List UInt8)) (q : UInt8) (out : List (List UInt8)) (c : UInt8) (r : List UInt8) : M 0 cur q out (c :: r) =
    if badC c = true then .error 1
    else if blankC c = true ∧ q = 0 then M 0 none 0 (out ++ cur.toList) r
    else if cur = none ∧ out.length = 32 then .error (wrongE c r)
    else if c = 92 then (match escS r with
      | none => .error 13
      | some (b, n) => M n (some (cur.getD [] ++ [b])) q out r)
    else if q = 0 ∧ (c = 39 ∨ c = 34) then M 0 (some (cur.getD [])) c out r
    else if q ≠ 0 ∧ c = q then M 0 (some (cur.getD [])) 0 out r
    else M 0 (some (cur.getD [] ++ [c])) q out r := by rw [M]
/-- is there room for a word more, or is one begun? -/
def Room (cur : Option (List UInt8)) (out : List (List UInt8)) : Prop := ¬ (cur = none ∧ out.length = 32)
theorem M_bad (cur : Option (List UInt8)) (q : UInt8) (out : List (List UInt8)) (c : UInt8) (r : List UInt8) (h : badC c = true) : M 0 cur q out (c :: r) = .error 1 := by
  rw [M_cons, if_pos h]
theorem blank_not_bad (c : UInt8) (h : blankC c = true) : badC c = false := by
  unfold blankC at h
  simp only [Bool.or_eq_true, decide_eq_true_eq] at h
  rcases h with rfl | rfl <;> decide
theorem M_blank (cur : Option (List UInt8)) (out : List (List UInt8)) (c : UInt8) (r : List UInt8) (h : blankC c = true) : M 0 cur 0 out (c :: r) = M 0 none 0 (out ++ cur.toList) r := by
  rw [M_cons, if_neg (by simp [blank_not_bad c h]), if_pos ⟨h, rfl⟩]
theorem M_over (out : List (List UInt8)) (c : UInt8) (r : List UInt8) (hb : badC c = false) (h : blankC c = false) (ho : out.length = 32) : M 0 none 0 out (c :: r) = .error (wrongE c r) := by
  rw [M_cons, if_neg (by simp [hb]), if_neg (by simp [h]), if_pos ⟨rfl, ho⟩]
theorem M_esc (cur : Option (List UInt8)) (q : UInt8) (out : List (List UInt8)) (r : List UInt8) (hr : Room cur out) (b : UInt8) (n : Nat) (h : escS r = some (b, n)) : M 0 cur q out (92 :: r) = M 0 (some (cur.getD [] ++ [b])) q out (r.drop n) := by
  rw [M_cons, if_neg (by decide), if_neg (by intro e; exact absurd e.1 (by decide)), if_neg hr, if_pos rfl, h]
  exact M_skip _ _ _ _ _
theorem M_esc_none (cur : Option (List UInt8)) (q : UInt8) (out : List (List UInt8)) (r : List UInt8) (hr : Room cur out) (h : escS r = none) : M 0 cur q out (92 :: r) = .error 13 := by
  rw [M_cons, if_neg (by decide), if_neg (by intro e; exact absurd e.1 (by decide)), if_neg hr, if_pos rfl, h]
theorem M_quote (cur : Option (List UInt8)) (out : List (List UInt8)) (c : UInt8) (r : List UInt8) (hr : Room cur out) (h : c = 39 ∨ c = 34) : M 0 cur 0 out (c :: r) = M 0 (some (cur.getD [])) c out r := by
  rw [M_cons, if_neg (by rcases h with rfl | rfl <;> decide), if_neg (by rcases h with rfl | rfl <;> decide), if_neg hr, if_neg (by rcases h with rfl | rfl <;> decide), if_pos ⟨rfl, h⟩]
theorem M_close (cur : Option (List UInt8)) (q : UInt8) (out : List (List UInt8)) (r : List UInt8) (hr : Room cur out) (h : q = 39 ∨ q = 34) : M 0 cur q out (q :: r) = M 0 (some (cur.getD [])) 0 out r := by
  have h0 : q ≠ 0 := by rcases h with rfl | rfl <;> decide
  rw [M_cons, if_neg (by rcases h with rfl | rfl <;> decide), if_neg (by intro e; exact h0 e.2), if_neg hr, if_neg (by rcases h with rfl | rfl <;> decide), if_neg (by intro e; exact h0 e.1), if_pos ⟨h0, rfl⟩]
theorem M_byte (cur : Option (List UInt8)) (q : UInt8) (out : List (List UInt8)) (c : UInt8) (r : List UInt8) (hr : Room cur out) (hb : badC c = false) (h9 : c ≠ 92) (h0 : q = 0 → blankC c = false ∧ c ≠ 39 ∧ c ≠ 34) (hq : q ≠ 0 → c ≠ q) :
    M 0 cur q out (c :: r) = M 0 (some (cur.getD [] ++ [c])) q out r := by
  rw [M_cons, if_neg (by simp [hb]), if_neg (by intro e; rw [(h0 e.2).1] at e; cases e.1), if_neg hr, if_neg h9, if_neg (by intro e; rcases e.2 with e1 | e1; exact (h0 e.1).2.1 e1; exact (h0 e.1).2.2 e1), if_neg (by intro e; exact hq e.1 e.2)]

/-- does a word stand as it is? -/
def plainC (c : UInt8) : Bool := decide (32 < c.toNat) && decide (c.toNat < 127) && !decide (c = 39) && !decide (c = 34) && !decide (c = 92)
def plainW (w : List UInt8) : Bool := !w.isEmpty && !decide (w.head? = some 45) && w.all plainC
/-- a byte between quotes -/
def quoteC (c : UInt8) : List UInt8 := if c = 34 ∨ c = 92 then [92, c] else if 32 ≤ c.toNat ∧ c.toNat < 127 then [c] else byteL c
def quoteW (w : List UInt8) : List UInt8 := 34 :: (w.flatMap quoteC ++ [34])
def wordW (w : List UInt8) : List UInt8 := if plainW w then w else quoteW w
def joinS : List (List UInt8) → List UInt8
  | [] => []
  | [w] => wordW w
  | w :: x :: r => wordW w ++ 32 :: joinS (x :: r)
def hasZero (w : List UInt8) : Bool := w.any (fun c => decide (c = 0))
def joinC (ws : List (List UInt8)) : List UInt8 := if 32 < ws.length then [] else if ws.any hasZero then [] else joinS ws

theorem two_digits : ∀ c : UInt8, twoL [hexD (c.toNat / 16), hexD (c.toNat % 16)] = (c, true) := by
  have h : ∀ n : Fin 256, twoL [hexD ((UInt8.ofNat n.val).toNat / 16), hexD ((UInt8.ofNat n.val).toNat % 16)] = (UInt8.ofNat n.val, true) := by decide +kernel
  intro c
  have := h ⟨c.toNat, c.toNat_lt⟩
  simpa using this
theorem two_more (a b : UInt8) (r : List UInt8) : twoL (a :: b :: r) = twoL [a, b] := rfl
theorem M_quoteC (w : List UInt8) (out : List (List UInt8)) (c : UInt8) (r : List UInt8) (h0 : c ≠ 0) : M 0 (some w) 34 out (quoteC c ++ r) = M 0 (some (w ++ [c])) 34 out r := by
  have hr : Room (some w) out := fun h => by cases h.1
  unfold quoteC
  split
  · rename_i h
    rw [List.cons_append, M_esc (some w) 34 out _ hr c 1 (by
      rw [List.cons_append, escS, if_pos (by rcases h with rfl | rfl <;> simp)])]
    rfl
  · rename_i h
    have h34 : c ≠ 34 := fun e => h (.inl e)
    have h92 : c ≠ 92 := fun e => h (.inr e)
    split
    · rename_i h2
      have hb : badC c = false := by
        unfold badC
        have : c ≠ 127 := fun e => by rw [e] at h2; exact absurd h2.2 (by decide)
        simp [this]; omega
      rw [List.cons_append, M_byte (some w) 34 out c _ hr hb h92 (by intro e; cases e) (fun _ => h34)]
      rfl
    · unfold byteL
      rw [List.cons_append, M_esc (some w) 34 out _ hr c 3 (by
        simp only [List.cons_append, List.nil_append]
        rw [escS, if_neg (by decide), if_neg (by decide), if_neg (by decide), if_neg (by decide), if_pos rfl, two_more, two_digits, if_pos ⟨rfl, h0⟩])]
      rfl
theorem M_quotes : ∀ (l w : List UInt8) (out : List (List UInt8)) (r : List UInt8), (∀ c ∈ l, c ≠ 0) → M 0 (some w) 34 out (l.flatMap quoteC ++ r) = M 0 (some (w ++ l)) 34 out r
  | [], w, out, r, _ => by simp
  | c :: t, w, out, r, h => by
    rw [List.flatMap_cons, List.append_assoc, M_quoteC w out c _ (h c (List.mem_cons_self ..)), M_quotes t _ out r (fun x hx => h x (List.mem_cons_of_mem _ hx))]
    simp
theorem plainC_parts {c : UInt8} (h : plainC c = true) : badC c = false ∧ blankC c = false ∧ c ≠ 39 ∧ c ≠ 34 ∧ c ≠ 92 := by
  unfold plainC at h
  simp only [Bool.and_eq_true, decide_eq_true_eq, Bool.not_eq_true', decide_eq_false_iff_not] at h
  obtain ⟨⟨⟨⟨h1, h2⟩, h3⟩, h4⟩, h5⟩ := h
  refine ⟨?_, ?_, h3, h4, h5⟩
  · unfold badC
    have : c ≠ 127 := fun e => by rw [e] at h2; exact absurd h2 (by decide)
    simp [this]; omega
  · unfold blankC
    have h32 : c ≠ 32 := fun e => by rw [e] at h1; exact absurd h1 (by decide)
    have h9 : c ≠ 9 := fun e => by rw [e] at h1; exact absurd h1 (by decide)
    simp [h32, h9]
theorem M_plain : ∀ (l w : List UInt8) (out : List (List UInt8)) (r : List UInt8), l.all plainC = true → M 0 (some w) 0 out (l ++ r) = M 0 (some (w ++ l)) 0 out r
  | [], w, out, r, _ => by simp
  | c :: t, w, out, r, h => by
    rw [List.all_cons, Bool.and_eq_true] at h
    obtain ⟨hb, hk, h39, h34, h92⟩ := plainC_parts h.1
    rw [List.cons_append, M_byte (some w) 0 out c _ (fun e => by cases e.1) hb h92 (fun _ => ⟨hk, h39, h34⟩) (fun e => absurd rfl e), M_plain t _ out r h.2]
    simp
theorem M_word (w : List UInt8) (out : List (List UInt8)) (r : List UInt8) (ho : out.length < 32) (h : hasZero w = false) : M 0 none 0 out (wordW w ++ r) = M 0 (some w) 0 out r := by
  have hr : Room none out := fun e => by omega
  unfold wordW
  split
  · rename_i hp
    unfold plainW at hp
    simp only [Bool.and_eq_true, Bool.not_eq_true'] at hp
    obtain ⟨⟨h1, _⟩, h3⟩ := hp
    match w, h1, h3 with
    | c :: t, _, h3 =>
      rw [List.all_cons, Bool.and_eq_true] at h3
      obtain ⟨hb, hk, h39, h34, h92⟩ := plainC_parts h3.1
      rw [List.cons_append, M_byte none 0 out c _ hr hb h92 (fun _ => ⟨hk, h39, h34⟩) (fun e => absurd rfl e), M_plain t _ out r h3.2]
      rfl
  · unfold quoteW
    rw [List.cons_append, M_quote none out 34 _ hr (.inr rfl), List.append_assoc]
    show M 0 (some []) 34 out _ = _
    rw [M_quotes w [] out _ (fun c hc e => by
      have := List.any_eq_false.1 h c hc
      rw [e] at this; exact this (by decide))]
    rw [List.nil_append]
    exact M_close (some w) 34 out r (fun e => by cases e.1) (.inr rfl)
theorem M_joinS : ∀ (ws : List (List UInt8)) (out : List (List UInt8)), out.length + ws.length ≤ 32 → ws.any hasZero = false → M 0 none 0 out (joinS ws) = .ok (out ++ ws)
  | [], out, _, _ => by rw [joinS, M_end]; rfl
  | [w], out, hl, h => by
    simp only [List.length_singleton] at hl
    rw [List.any_cons, List.any_nil, Bool.or_false] at h
    have e := M_word w out [] (by omega) h
    rw [List.append_nil] at e
    rw [joinS, e, M_end]; rfl
  | w :: x :: r, out, hl, h => by
    rw [List.any_cons, Bool.or_eq_false_iff] at h
    simp only [List.length_cons] at hl
    rw [joinS, M_word w out _ (by omega) h.1, M_blank _ _ _ _ (by decide), M_joinS (x :: r) _ (by simp; omega) h.2]
    simp
/-- words that are put together are parted again into them -/
theorem split_join (ws : List (List UInt8)) (hl : ws.length ≤ 32) (h : ws.any hasZero = false) : splitW (joinC ws) = .ok ws := by
  unfold joinC splitW
  rw [if_neg (by omega), h, if_neg (by decide), M_joinS ws [] (by simpa using hl) h]
  rfl
/-- no more words than there is room for -/
theorem M_few : ∀ (l : List UInt8) (k : Nat) (cur : Option (List UInt8)) (q : UInt8) (out ws : List (List UInt8)), out.length + cur.toList.length ≤ 32 → M k cur q out l = .ok ws → ws.length ≤ 32
  | [], k, cur, q, out, ws, h, e => by
    cases k <;> simp only [M] at e <;> split at e
    all_goals first | (cases e; done) | (injection e with e; rw [← e]; simpa using h)
  | c :: r, k + 1, cur, q, out, ws, h, e => by rw [M] at e; exact M_few r k cur q out ws h e
  | c :: r, 0, cur, q, out, ws, h, e => by
    rw [M_cons] at e
    have hs : ∀ x : List UInt8, ¬ (cur = none ∧ out.length = 32) → out.length + (some x).toList.length ≤ 32 := by
      intro x hn
      cases cur with
      | none =>
        have : out.length ≠ 32 := fun e => hn ⟨rfl, e⟩
        simp at h ⊢; omega
      | some y => simpa using h
    split at e
    · cases e
    · split at e
      · exact M_few r 0 none 0 _ ws (by simpa using h) e
      · split at e
        · cases e
        · rename_i hn
          split at e
          · split at e
            · cases e
            · exact M_few r _ _ q out ws (hs _ hn) e
          · split at e
            · exact M_few r 0 _ c out ws (hs _ hn) e
            · split at e
              · exact M_few r 0 _ 0 out ws (hs _ hn) e
              · exact M_few r 0 _ q out ws (hs _ hn) e
/-- each word is no longer than the text -/
theorem M_short : ∀ (l : List UInt8) (k : Nat) (cur : Option (List UInt8)) (q : UInt8) (out ws : List (List UInt8)) (m : Nat), (∀ w ∈ out, w.length ≤ m) → (∀ w, cur = some w → w.length + l.length ≤ m) → l.length ≤ m → M k cur q out l = .ok ws → ∀ w ∈ ws, w.length ≤ m
  | [], k, cur, q, out, ws, m, h, hc, _, e => by
    have e2 : ws = out ++ cur.toList := by
      cases k <;> simp only [M] at e <;> split at e
      all_goals first | (cases e; done) | (injection e with e; exact e.symm)
    intro w hw
    rw [e2, List.mem_append] at hw
    rcases hw with hw | hw
    · exact h w hw
    · cases hcur : cur with
      | none => rw [hcur] at hw; cases hw
      | some x => rw [hcur] at hw; simp at hw; rw [hw]; have := hc x hcur; simpa using this
  | c :: r, k + 1, cur, q, out, ws, m, h, hc, hl, e => by
    rw [M] at e
    simp only [List.length_cons] at hc hl
    exact M_short r k cur q out ws m h (fun w hw => by have := hc w hw; omega) (by omega) e
  | c :: r, 0, cur, q, out, ws, m, h, hc, hl, e => by
    rw [M_cons] at e
    simp only [List.length_cons] at hc hl
    have h1 : ∀ b : UInt8, ∀ w, some (cur.getD [] ++ [b]) = some w → w.length + r.length ≤ m := by
      intro b w hw
      injection hw with hw
      rw [← hw]
      cases hcur : cur with
      | none => simp; omega
      | some x => have := hc x hcur; simp; omega
    have h2 : ∀ w, some (cur.getD []) = some w → w.length + r.length ≤ m := by
      intro w hw
      injection hw with hw
      rw [← hw]
      cases hcur : cur with
      | none => simp; omega
      | some x => have := hc x hcur; simp; omega
    have h3 : ∀ w ∈ out ++ cur.toList, w.length ≤ m := by
      intro w hw
      rw [List.mem_append] at hw
      rcases hw with hw | hw
      · exact h w hw
      · cases hcur : cur with
        | none => rw [hcur] at hw; cases hw
        | some x => rw [hcur] at hw; simp at hw; rw [hw]; have := hc x hcur; omega
    split at e
    · cases e
    · split at e
      · exact M_short r 0 none 0 _ ws m h3 (fun w hw => by cases hw) (by omega) e
      · split at e
        · cases e
        · split at e
          · split at e
            · cases e
            · exact M_short r _ _ q out ws m h (h1 _) (by omega) e
          · split at e
            · exact M_short r 0 _ c out ws m h h2 (by omega) e
            · split at e
              · exact M_short r 0 _ 0 out ws m h h2 (by omega) e
              · exact M_short r 0 _ q out ws m h (h1 _) (by omega) e
end Sp

end Go.Proofs.YtijfeeiplljnjaaGreatDoor
