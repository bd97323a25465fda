/-
  What a value of nested lists says, and its text, in plain Lean: no two of one type have one text.
-/
import Derived.Lib.ItoaNum
namespace Go.Proofs.YtkgkipohalekmaaDoor
open Go
/-- one cell: a number, a truth value, a text, a list of n elements, whose cells stand one behind the other -/
inductive Ce where
  | i (n : Int)
  | b (x : Bool)
  | s (t : ByteArray)
  | l (n : Nat) (cs : List Ce)
/-- its type -/
inductive Ty where
  | i
  | b
  | s
  | l (nb : Nat) (e : List Ty)
def tokI (n : Int) : List UInt8 := Lib.itoa n ++ [32]
def tokB (x : Bool) : List UInt8 := tokI (if x then 1 else 0)
def tokS (t : ByteArray) : List UInt8 := Lib.itoa (t.size : Int) ++ (58 :: (t.data.toList ++ [32]))
mutual
def Ce.txt : Ce → List UInt8
  | .i n => tokI n
  | .b x => tokB x
  | .s t => tokS t
  | .l n cs => tokI n ++ Ce.txts cs
def Ce.txts : List Ce → List UInt8
  | [] => []
  | c :: r => c.txt ++ Ce.txts r
end
mutual
def Ce.Ok : Ce → Ty → Prop
  | .i n, .i => -9223372036854775808 ≤ n ∧ n ≤ 9223372036854775807
  | .b _, .b => True
  | .s t, .s => t.size ≤ 9223372036854775807
  | .l n cs, .l nb e => (n ≤ 140737488351232 ∧ n * nb ≤ 140737488351232) ∧ Ce.Oks cs (List.replicate n e).flatten
  | .i _, .b => False
  | .i _, .s => False
  | .i _, .l _ _ => False
  | .b _, .i => False
  | .b _, .s => False
  | .b _, .l _ _ => False
  | .s _, .i => False
  | .s _, .b => False
  | .s _, .l _ _ => False
  | .l _ _, .i => False
  | .l _ _, .b => False
  | .l _ _, .s => False
def Ce.Oks : List Ce → List Ty → Prop
  | [], [] => True
  | c :: r, t :: q => c.Ok t ∧ Ce.Oks r q
  | [], _ :: _ => False
  | _ :: _, [] => False
end
theorem Ce.txts_append : ∀ (a z : List Ce), Ce.txts (a ++ z) = Ce.txts a ++ Ce.txts z
  | [], z => by rw [List.nil_append, Ce.txts, List.nil_append]
  | c :: r, z => by rw [List.cons_append, Ce.txts, Ce.txts_append r z, Ce.txts, List.append_assoc]
theorem Ce.oks_length : ∀ (a : List Ce) (q : List Ty), Ce.Oks a q → a.length = q.length
  | [], [], _ => rfl
  | c :: r, t :: q, h => by
    unfold Ce.Oks at h
    rw [List.length_cons, List.length_cons, Ce.oks_length r q h.2]
  | [], _ :: _, h => by unfold Ce.Oks at h; exact h.elim
  | _ :: _, [], h => by unfold Ce.Oks at h; exact h.elim
theorem Ce.oks_append : ∀ (a : List Ce) (q : List Ty) {z : List Ce} {p : List Ty}, Ce.Oks a q → Ce.Oks z p → Ce.Oks (a ++ z) (q ++ p)
  | [], [], _, _, _, h => h
  | c :: r, t :: q, z, p, h, h2 => by
    unfold Ce.Oks at h
    show Ce.Oks (c :: (r ++ z)) (t :: (q ++ p))
    unfold Ce.Oks
    exact ⟨h.1, Ce.oks_append r q h.2 h2⟩
  | [], _ :: _, _, _, h, _ => by unfold Ce.Oks at h; exact h.elim
  | _ :: _, [], _, _, h, _ => by unfold Ce.Oks at h; exact h.elim
theorem Ce.oks_split : ∀ (a : List Ce) (q p : List Ty), Ce.Oks a (q ++ p) → Ce.Oks (a.take q.length) q ∧ Ce.Oks (a.drop q.length) p
  | a, [], p, h => by
    refine ⟨?_, by simpa using h⟩
    simp [Ce.Oks]
  | [], t :: q, p, h => by
    rw [List.cons_append] at h
    unfold Ce.Oks at h
    exact h.elim
  | c :: r, t :: q, p, h => by
    rw [List.cons_append] at h
    unfold Ce.Oks at h
    obtain ⟨h1, h2⟩ := Ce.oks_split r q p h.2
    simp only [List.length_cons, List.take_succ_cons, List.drop_succ_cons]
    refine ⟨?_, h2⟩
    unfold Ce.Oks
    exact ⟨h.1, h1⟩
/-- numbers' texts -/
theorem dig_lt (d : Nat) (h : d < 10) : (UInt8.ofNat (48 + d)).toNat = 48 + d := by
  rw [UInt8.toNat_ofNat']
  omega
def valD (l : List UInt8) : Nat := l.foldl (fun a c => a * 10 + (c.toNat - 48)) 0
theorem dec_rec (u : Nat) (h : ¬ u < 10) : Lib.decDigits u = Lib.decDigits (u / 10) ++ [UInt8.ofNat (48 + u % 10)] := by
  rw [Lib.decDigits, dif_neg h]
theorem dec_all (u : Nat) : ∀ c ∈ Lib.decDigits u, 48 ≤ c.toNat ∧ c.toNat ≤ 57 := by
  induction u using Nat.strongRecOn with
  | _ u ih =>
    by_cases h : u < 10
    · rw [Lib.decDigits_one h]
      intro c hc
      rw [List.mem_singleton] at hc
      rw [hc, dig_lt u h]
      omega
    · rw [dec_rec u h]
      intro c hc
      rw [List.mem_append, List.mem_singleton] at hc
      rcases hc with hc | hc
      · exact ih (u / 10) (by omega) c hc
      · rw [hc, dig_lt _ (by omega)]
        omega
theorem dec_val (u : Nat) : valD (Lib.decDigits u) = u := by
  induction u using Nat.strongRecOn with
  | _ u ih =>
    by_cases h : u < 10
    · rw [Lib.decDigits_one h]
      show 0 * 10 + ((UInt8.ofNat (48 + u)).toNat - 48) = u
      rw [dig_lt u h]
      omega
    · rw [dec_rec u h]
      have := ih (u / 10) (by omega)
      unfold valD at this ⊢
      rw [List.foldl_append, this]
      show u / 10 * 10 + ((UInt8.ofNat (48 + u % 10)).toNat - 48) = u
      rw [dig_lt _ (by omega)]
      omega
theorem itoa_all (n : Int) : ∀ c ∈ Lib.itoa n, c.toNat = 45 ∨ (48 ≤ c.toNat ∧ c.toNat ≤ 57) := by
  unfold Lib.itoa
  intro c hc
  split at hc
  · rw [List.mem_cons] at hc
    rcases hc with hc | hc
    · rw [hc]; exact .inl rfl
    · exact .inr (dec_all _ c hc)
  · exact .inr (dec_all _ c hc)
theorem itoa_inj {n m : Int} (h : Lib.itoa n = Lib.itoa m) : n = m := by
  have hd : ∀ u (c : UInt8) r, Lib.decDigits u = c :: r → c.toNat ≠ 45 := fun u c r e => by
    have := dec_all u c (by rw [e]; exact List.mem_cons_self)
    omega
  unfold Lib.itoa at h
  split at h <;> split at h
  · injection h with _ h
    have h1 := congrArg valD h
    rw [dec_val, dec_val] at h1
    omega
  · exact absurd rfl (hd _ _ _ h.symm)
  · exact absurd rfl (hd _ _ _ h)
  · have h1 := congrArg valD h
    rw [dec_val, dec_val] at h1
    omega
theorem cut_inj (x : UInt8) : ∀ (a b u v : List UInt8), x ∉ a → x ∉ b → a ++ x :: u = b ++ x :: v → a = b ∧ u = v
  | [], [], _, _, _, _, h => by
    injection h with _ h
    exact ⟨rfl, h⟩
  | c :: r, [], _, _, ha, _, h => by
    injection h with h _
    exact absurd (by rw [h]; exact List.mem_cons_self) ha
  | [], c :: r, _, _, _, hb, h => by
    injection h with h _
    exact absurd (by rw [h]; exact List.mem_cons_self) hb
  | c :: r, d :: q, u, v, ha, hb, h => by
    injection h with h1 h2
    obtain ⟨e1, e2⟩ := cut_inj x r q u v (fun h => ha (List.mem_cons_of_mem _ h)) (fun h => hb (List.mem_cons_of_mem _ h)) h2
    exact ⟨by rw [h1, e1], e2⟩
theorem itoa_no (n : Int) (x : UInt8) (h : x.toNat ≠ 45) (h2 : x.toNat < 48 ∨ 57 < x.toNat) : x ∉ Lib.itoa n := fun hm => by
  have := itoa_all n x hm
  omega
theorem tokI_inj {n m : Int} {u v : List UInt8} (h : tokI n ++ u = tokI m ++ v) : n = m ∧ u = v := by
  unfold tokI at h
  rw [List.append_assoc, List.append_assoc] at h
  obtain ⟨e1, e2⟩ := cut_inj 32 _ _ _ _ (itoa_no n 32 (by decide) (by decide)) (itoa_no m 32 (by decide) (by decide)) h
  exact ⟨itoa_inj e1, e2⟩
theorem tokB_inj {n m : Bool} {u v : List UInt8} (h : tokB n ++ u = tokB m ++ v) : n = m ∧ u = v := by
  obtain ⟨e1, e2⟩ := tokI_inj h
  refine ⟨?_, e2⟩
  cases n <;> cases m
  · rfl
  · cases e1
  · cases e1
  · rfl
theorem tokS_inj {n m : ByteArray} {u v : List UInt8} (h : tokS n ++ u = tokS m ++ v) : n = m ∧ u = v := by
  unfold tokS at h
  rw [List.append_assoc, List.append_assoc] at h
  obtain ⟨e1, e2⟩ := cut_inj 58 _ _ _ _ (itoa_no _ 58 (by decide) (by decide)) (itoa_no _ 58 (by decide) (by decide)) h
  have hs : n.size = m.size := by
    have := itoa_inj e1
    omega
  have e2 : n.data.toList ++ ([32] ++ u) = m.data.toList ++ ([32] ++ v) := by rw [← List.append_assoc, ← List.append_assoc]; exact e2
  have hl : n.data.toList.length = m.data.toList.length := by
    rw [Array.length_toList, Array.length_toList]
    exact hs
  obtain ⟨e3, e4⟩ := List.append_inj e2 hl
  refine ⟨ByteArray.ext (Array.toList_inj.1 e3), ?_⟩
  injection e4
mutual
theorem Ce.inj : ∀ (c c' : Ce) (t : Ty) (u v : List UInt8), c.Ok t → c'.Ok t → c.txt ++ u = c'.txt ++ v → c = c' ∧ u = v
  | .i n, .i m, .i, u, v, _, _, h => by
    obtain ⟨e1, e2⟩ := tokI_inj (show tokI n ++ u = tokI m ++ v from h)
    exact ⟨by rw [e1], e2⟩
  | .b n, .b m, .b, u, v, _, _, h => by
    obtain ⟨e1, e2⟩ := tokB_inj (show tokB n ++ u = tokB m ++ v from h)
    exact ⟨by rw [e1], e2⟩
  | .s n, .s m, .s, u, v, _, _, h => by
    obtain ⟨e1, e2⟩ := tokS_inj (show tokS n ++ u = tokS m ++ v from h)
    exact ⟨by rw [e1], e2⟩
  | .l n cs, .l m ds, .l nb e, u, v, h1, h2, h => by
    unfold Ce.Ok at h1 h2
    simp only [Ce.txt, List.append_assoc] at h
    obtain ⟨e1, e2⟩ := tokI_inj h
    have e3 : n = m := by omega
    subst e3
    obtain ⟨e4, e5⟩ := Ce.injs cs ds _ u v h1.2 h2.2 e2
    exact ⟨by rw [e4], e5⟩
  | .i _, .b _, .i, _, _, _, h, _ => by unfold Ce.Ok at h; exact h.elim
  | .i _, .s _, .i, _, _, _, h, _ => by unfold Ce.Ok at h; exact h.elim
  | .i _, .l _ _, .i, _, _, _, h, _ => by unfold Ce.Ok at h; exact h.elim
  | .b _, .i _, .b, _, _, _, h, _ => by unfold Ce.Ok at h; exact h.elim
  | .b _, .s _, .b, _, _, _, h, _ => by unfold Ce.Ok at h; exact h.elim
  | .b _, .l _ _, .b, _, _, _, h, _ => by unfold Ce.Ok at h; exact h.elim
  | .s _, .i _, .s, _, _, _, h, _ => by unfold Ce.Ok at h; exact h.elim
  | .s _, .b _, .s, _, _, _, h, _ => by unfold Ce.Ok at h; exact h.elim
  | .s _, .l _ _, .s, _, _, _, h, _ => by unfold Ce.Ok at h; exact h.elim
  | .l _ _, .i _, .l _ _, _, _, _, h, _ => by unfold Ce.Ok at h; exact h.elim
  | .l _ _, .b _, .l _ _, _, _, _, h, _ => by unfold Ce.Ok at h; exact h.elim
  | .l _ _, .s _, .l _ _, _, _, _, h, _ => by unfold Ce.Ok at h; exact h.elim
  | .i _, _, .b, _, _, h, _, _ => by unfold Ce.Ok at h; exact h.elim
  | .i _, _, .s, _, _, h, _, _ => by unfold Ce.Ok at h; exact h.elim
  | .i _, _, .l _ _, _, _, h, _, _ => by unfold Ce.Ok at h; exact h.elim
  | .b _, _, .i, _, _, h, _, _ => by unfold Ce.Ok at h; exact h.elim
  | .b _, _, .s, _, _, h, _, _ => by unfold Ce.Ok at h; exact h.elim
  | .b _, _, .l _ _, _, _, h, _, _ => by unfold Ce.Ok at h; exact h.elim
  | .s _, _, .i, _, _, h, _, _ => by unfold Ce.Ok at h; exact h.elim
  | .s _, _, .b, _, _, h, _, _ => by unfold Ce.Ok at h; exact h.elim
  | .s _, _, .l _ _, _, _, h, _, _ => by unfold Ce.Ok at h; exact h.elim
  | .l _ _, _, .i, _, _, h, _, _ => by unfold Ce.Ok at h; exact h.elim
  | .l _ _, _, .b, _, _, h, _, _ => by unfold Ce.Ok at h; exact h.elim
  | .l _ _, _, .s, _, _, h, _, _ => by unfold Ce.Ok at h; exact h.elim
theorem Ce.injs : ∀ (l l' : List Ce) (q : List Ty) (u v : List UInt8), Ce.Oks l q → Ce.Oks l' q → Ce.txts l ++ u = Ce.txts l' ++ v → l = l' ∧ u = v
  | [], [], [], u, v, _, _, h => ⟨rfl, by simpa [Ce.txts] using h⟩
  | c :: r, c' :: r', t :: q, u, v, h1, h2, h => by
    unfold Ce.Oks at h1 h2
    simp only [Ce.txts, List.append_assoc] at h
    obtain ⟨e1, e2⟩ := Ce.inj c c' t _ _ h1.1 h2.1 h
    obtain ⟨e3, e4⟩ := Ce.injs r r' q u v h1.2 h2.2 e2
    exact ⟨by rw [e1, e3], e4⟩
  | [], _ :: _, [], _, _, _, h, _ => by unfold Ce.Oks at h; exact h.elim
  | [], _, _ :: _, _, _, h, _, _ => by unfold Ce.Oks at h; exact h.elim
  | _ :: _, _, [], _, _, h, _, _ => by unfold Ce.Oks at h; exact h.elim
  | _ :: _, [], _ :: _, _, _, _, h, _ => by unfold Ce.Oks at h; exact h.elim
end
theorem Ce.txts_inj {l l' : List Ce} {q : List Ty} (h1 : Ce.Oks l q) (h2 : Ce.Oks l' q) (h : Ce.txts l = Ce.txts l') : l = l' :=
  (Ce.injs l l' q [] [] h1 h2 (by rw [h])).1

end Go.Proofs.YtkgkipohalekmaaDoor
