/-
  Of any text, the filter that it says: the reference's text, number, escape, Split, word, ParseFilter, and the law's walk.
-/
import Derived.Test.YtijfeeiplljnjaaGreatDoorMem
import Derived.Deep.Upon
import Derived.Maps.AppendAt
import Derived.ArgAppend
import Derived.Test.YtijfeeiplljnjaaGreatDoorUq
import Derived.Test.YtijfeeiplljnjaaGreatDoorRd
import Derived.Deep.RegionHeld3
import Derived.Laws.OwnMore
import Derived.Test.YtijfeeiplljnjaaGreatDoorUf
import Derived.Test.YtijfeeiplljnjaaGreatDoorRb
import Derived.Test.YtijfeeiplljnjaaGreatDoorUi
import Derived.Deep.DeepCutAuto
import Derived.Deep.Cut
import Derived.BigRegion
import Derived.Laws.BytesArg
import Derived.Test.YtijfeeiplljnjaaGreatDoorUt
import Derived.Test.YtijfeeiplljnjaaGreatDoorRc
import Derived.Test.YtijfeeiplljnjaaGreatDoorUu
import Derived.Test.YtijfeeiplljnjaaGreatDoorUw
import Derived.Test.YtijfeeiplljnjaaGreatDoorUx
namespace Go.Proofs.YtijfeeiplljnjaaGreatDoor
section
open Go.RowKit

section
variable {P : Program} (w : World)
theorem run_append_rd (t ty : TypeId) (base : Nat) (e : TypeId) (i : TypeInfo) (z : Value) (size bytes : Nat) (ht : P.underlying t = some (.slice e)) (hi : P.info? e = some i) (hz : i.zero = some z)
    (hsize : i.size = size) (hby : i.bytes = bytes) (hzs : z.cells.size = size) (hsz : 0 < size)
    (v : Value) (n : Nat) (xs : List Value) (hown : w.ownsRow base e size v n xs)
    (A : Option Addr) (m c B : Nat) (news : List Value) (hr : Rd w B size A m news) (h1 : ∀ u ∈ news, u.oneCell' = true)
    (h63 : n + m ≤ maxLen) (hbytes : (n + m) * bytes ≤ 140737488355328) (hbase : base ≤ w.heap.size) :
    ∃ v' w', (Builtin.append_ #[t, t] ty #[v, .slice A m c]).run P w = .ok v' w' ∧ w'.ownsRow base e size v' (n + m) (xs ++ news) ∧ w.grownBy w' v.ownBlock := by
  rcases Nat.eq_zero_or_pos m with h0 | h0
  · subst h0
    have hn : news = [] := List.eq_nil_of_length_eq_zero (by simpa using hr.1)
    subst hn
    cases A with
    | none =>
      rw [List.append_nil]
      rcases hown with ⟨hl, ⟨rfl, rfl⟩ | ⟨g, cap, cur, rfl, hb, hg, hc, h2, h3, h4⟩⟩
      · exact ⟨_, w, run_append_nothing w t t ty e i ht hi none 0 0 (Nat.le_refl _) _ (Src.ofNil w ht c), ⟨hl, .inl ⟨rfl, rfl⟩⟩, World.grownBy.refl _ _⟩
      · exact ⟨_, w, run_append_nothing w t t ty e i ht hi (some ⟨g, 0, none⟩) n cap hc _ (Src.ofNil w ht c), ⟨hl, .inr ⟨g, cap, cur, rfl, hb, hg, hc, h2, h3, h4⟩⟩, World.grownBy.refl _ _⟩
    | some a =>
      obtain ⟨v', w', hrun, r1, r2, _⟩ := run_append_own (P := P) w base t ty e i z size bytes ht hi hz hsize hby hzs hsz v n xs hown a 0 c [] (by simp) (by intro j u hu; simp at hu) h1 h63 hbytes hbase
      exact ⟨v', w', hrun, r1, r2⟩
  · obtain ⟨a, rfl, _, hc⟩ := hr.2 h0
    obtain ⟨v', w', hrun, r1, r2, _⟩ := run_append_own (P := P) w base t ty e i z size bytes ht hi hz hsize hby hzs hsz v n xs hown a m c news hr.1 hc h1 h63 hbytes hbase
    exact ⟨v', w', hrun, r1, r2⟩

theorem wp_append_rd {o : Oper} {a : Act} {K : Act → World → Prop} {Q : Exit → Act → World → Prop} (s x : Operand) (t : TypeId)
    (ho : o.op = .call { callee := .builtin .append, args := #[s, x], argTypes := #[t, t] })
    (base : Nat) (e : TypeId) (i : TypeInfo) (z : Value) (size bytes : Nat) (ht : P.underlying t = some (.slice e)) (hi : P.info? e = some i) (hz : i.zero = some z)
    (hsize : i.size = size) (hby : i.bytes = bytes) (hzs : z.cells.size = size) (hsz : 0 < size)
    (v : Value) (n : Nat) (xs : List Value) (hs : a.eval s = v) (hown : w.ownsRow base e size v n xs)
    (A : Option Addr) (m c B : Nat) (news : List Value) (hx : a.eval x = .slice A m c) (hr : Rd w B size A m news) (h1 : ∀ u ∈ news, u.oneCell' = true)
    (h63 : n + m ≤ maxLen) (hbytes : (n + m) * bytes ≤ 140737488355328) (hbase : base ≤ w.heap.size)
    (h : ∀ v' w', w'.ownsRow base e size v' (n + m) (xs ++ news) → w.grownBy w' v.ownBlock → K (a.put o.dst v') w') : o.wp P a w K Q := by
  obtain ⟨v', w', hrun, h2, h3⟩ := run_append_rd (P := P) w t o.type base e i z size bytes ht hi hz hsize hby hzs hsz v n xs hown A m c B news hr h1 h63 hbytes hbase
  unfold Oper.wp execOp
  simp only [ho, resolve, invoke, builtin, Sem.run_bind, Sem.run_pure, Result.andThen_ok, List.map_toArray, List.map_cons, List.map_nil, hs, hx, hrun]
  exact h v' w' h2 h3

theorem wpList_append_rd {ops : Array Oper} {rest : List Oper} {o : Oper} {a : Act} {Q : Exit → Act → World → Prop} (hgd : o.guard = none) (s x : Operand) (t : TypeId)
    (ho : o.op = .call { callee := .builtin .append, args := #[s, x], argTypes := #[t, t] })
    (base : Nat) (e : TypeId) (i : TypeInfo) (z : Value) (size bytes : Nat) (ht : P.underlying t = some (.slice e)) (hi : P.info? e = some i) (hz : i.zero = some z)
    (hsize : i.size = size) (hby : i.bytes = bytes) (hzs : z.cells.size = size) (hsz : 0 < size)
    (v : Value) (n : Nat) (xs : List Value) (hs : a.eval s = v) (hown : w.ownsRow base e size v n xs)
    (A : Option Addr) (m c B : Nat) (news : List Value) (hx : a.eval x = .slice A m c) (hr : Rd w B size A m news) (h1 : ∀ u ∈ news, u.oneCell' = true)
    (h63 : n + m ≤ maxLen) (hbytes : (n + m) * bytes ≤ 140737488355328) (hbase : base ≤ w.heap.size)
    (h : ∀ v' w', w'.ownsRow base e size v' (n + m) (xs ++ news) → w.grownBy w' v.ownBlock → wpList P ops Q rest (a.put o.dst v') w') : wpList P ops Q (o :: rest) a w :=
  wpList_plain hgd fun _ hK => wp_append_rd w s x t ho base e i z size bytes ht hi hz hsize hby hzs hsz v n xs hs hown A m c B news hx hr h1 h63 hbytes hbase fun v' w' h2 h3 => hK _ _ (h v' w' h2 h3)

theorem step_append_rd {ops : Array Oper} {o : Oper} {a : Act} {K : Act → World → Prop} {Q : Exit → Act → World → Prop} {E : Prop} (hgd : o.guard = none) (s x : Operand) (t : TypeId)
    (ho : o.op = .call { callee := .builtin .append, args := #[s, x], argTypes := #[t, t] })
    (base : Nat) (e : TypeId) (i : TypeInfo) (z : Value) (size bytes : Nat) (ht : P.underlying t = some (.slice e)) (hi : P.info? e = some i) (hz : i.zero = some z)
    (hsize : i.size = size) (hby : i.bytes = bytes) (hzs : z.cells.size = size) (hsz : 0 < size)
    (v : Value) (n : Nat) (xs : List Value) (hs : a.eval s = v) (hown : w.ownsRow base e size v n xs)
    (A : Option Addr) (m c B : Nat) (news : List Value) (hx : a.eval x = .slice A m c) (hr : Rd w B size A m news) (h1 : ∀ u ∈ news, u.oneCell' = true)
    (h63 : n + m ≤ maxLen) (hbytes : (n + m) * bytes ≤ 140737488355328) (hbase : base ≤ w.heap.size)
    (h : ∀ v' w', w'.ownsRow base e size v' (n + m) (xs ++ news) → w.grownBy w' v.ownBlock → K (a.put o.dst v') w') :
    if Region.wanted o (yielded ops a.tmps) = true then Oper.wp P o a w K Q else E := by
  have hw : Region.wanted o (yielded ops a.tmps) = true := by simp [Region.wanted, hgd]
  rw [if_pos hw]
  exact wp_append_rd w s x t ho base e i z size bytes ht hi hz hsize hby hzs hsz v n xs hs hown A m c B news hx hr h1 h63 hbytes hbase h
end
/-- what is owned is readable -/
theorem Rd.own {w : World} {base : Nat} {e : TypeId} {size n : Nat} {A : Option Addr} {k c : Nat} {xs : List Value} (h : w.ownsRow base e size (.slice A k c) n xs) : Rd w w.heap.size size A n xs ∧ k = n := by
  rcases h with ⟨hl, ⟨h1, rfl⟩ | ⟨g, cap, cur, h1, hb, hg, hc, h2, h3, h4⟩⟩
  · injection h1 with h1 h2 h3
    exact ⟨⟨hl, fun h => absurd h (by omega)⟩, h2⟩
  · injection h1 with h1 h5 h6
    subst h1
    refine ⟨⟨hl, fun _ => ⟨_, rfl, (Array.getElem?_eq_some_iff.1 hg).1, fun j u hu => ?_⟩⟩, h5⟩
    have hj : j < n * size := by have := (List.getElem?_eq_some_iff.1 hu).1; omega
    rw [← h4, List.getElem?_take_of_lt hj, Array.getElem?_toList] at hu
    by_cases h0 : j = 0
    · subst h0; simpa [Addr.add, World.cell?, hg] using hu
    · simpa [Addr.add, World.cell?, hg, h0] using hu
theorem own_slice {w : World} {base : Nat} {e : TypeId} {size n : Nat} {v : Value} {xs : List Value} (h : w.ownsRow base e size v n xs) : ∃ A c, v = .slice A n c := by
  rcases h.2 with ⟨rfl, rfl⟩ | ⟨g, cap, cur, rfl, _⟩
  · exact ⟨_, _, rfl⟩
  · exact ⟨_, _, rfl⟩
end

section
open Go.RowKit

section
variable {P : Program} (w : World)
theorem run_grow (base : Nat) (t ty e : TypeId) (i : TypeInfo) (z : Value) (size bytes : Nat) (ht : P.underlying t = some (.slice e)) (hi : P.info? e = some i) (hz : i.zero = some z)
    (hsize : i.size = size) (hby : i.bytes = bytes) (hzs : z.cells.size = size) (hsz : 0 < size)
    (A0 : Option Addr) (n c0 B0 : Nat) (olds : List Value) (hA : A0 = none → c0 = 0) (hr0 : Rd w B0 size A0 n olds)
    (B : Nat) (A : Option Addr) (m c : Nat) (news : List Value) (hr : Rd w B size A m news) (hm : 0 < m) (h1 : ∀ u ∈ news, u.oneCell' = true) (hfull : c0 < n + m)
    (h63 : n + m ≤ maxLen) (hbytes : (n + m) * bytes ≤ 140737488355328) (hbase : base ≤ w.heap.size) :
    ∃ v' w', (Builtin.append_ #[t, t] ty #[.slice A0 n c0, .slice A m c]).run P w = .ok v' w' ∧ w'.ownsRow base e size v' (n + m) (olds ++ news) ∧ w.grownBy w' none := by
  obtain ⟨ad, rfl, _, hc⟩ := hr.here hm
  have low : ∀ v' w', World.ownsRow w' w.heap.size e size v' (n + m) (olds ++ news) → World.ownsRow w' base e size v' (n + m) (olds ++ news) := by
    rintro v' w' ⟨h2, h3 | ⟨g, cap, cur, h4, h5, h6⟩⟩
    · exact ⟨h2, .inl h3⟩
    · exact ⟨h2, .inr ⟨g, cap, cur, h4, by omega, h6⟩⟩
  cases A0 with
  | some b =>
    have holds : ∀ j u, olds[j]? = some u → w.cell? (b.add j) = some u := by
      intro j u hu
      rcases Nat.eq_zero_or_pos n with h0 | h0
      · subst h0
        have hn : olds = [] := List.eq_nil_of_length_eq_zero (by simpa using hr0.1)
        subst hn
        simp at hu
      · obtain ⟨ad', h, _, hc⟩ := hr0.2 h0
        injection h with h
        subst h
        exact hc j u hu
    obtain ⟨v', w', hrun, r1, r2⟩ := run_append_arg_grows (P := P) w t ty e i z size bytes ht hi hz hsize hby hzs hsz b n c0 olds hr0.1 holds ad m c news hr.1 hc hfull h63 hbytes
    exact ⟨v', w', hrun, low _ _ r1, r2⟩
  | none =>
    obtain rfl := hA rfl
    have hn0 : n = 0 := by
      rcases Nat.eq_zero_or_pos n with h0 | h0
      · exact h0
      · obtain ⟨ad, h, _⟩ := hr0.2 h0
        cases h
    subst hn0
    obtain rfl : olds = [] := List.eq_nil_of_length_eq_zero (by simpa using hr0.1)
    obtain ⟨v', w', hrun, r1, r2, _⟩ := run_append_own (P := P) w w.heap.size t ty e i z size bytes ht hi hz hsize hby hzs hsz (.slice none 0 0) 0 [] (World.ownsRow_nil w _ e size) ad m c news hr.1 hc h1 h63 hbytes (Nat.le_refl _)
    exact ⟨v', w', hrun, low _ _ r1, r2⟩

theorem wp_grow {o : Oper} {a : Act} {K : Act → World → Prop} {Q : Exit → Act → World → Prop} (s x : Operand) (t : TypeId)
    (ho : o.op = .call { callee := .builtin .append, args := #[s, x], argTypes := #[t, t] })
    (base : Nat) (e : TypeId) (i : TypeInfo) (z : Value) (size bytes : Nat) (ht : P.underlying t = some (.slice e)) (hi : P.info? e = some i) (hz : i.zero = some z)
    (hsize : i.size = size) (hby : i.bytes = bytes) (hzs : z.cells.size = size) (hsz : 0 < size)
    (A0 : Option Addr) (n c0 B0 : Nat) (olds : List Value) (hs : a.eval s = .slice A0 n c0) (hA : A0 = none → c0 = 0) (hr0 : Rd w B0 size A0 n olds)
    (B : Nat) (A : Option Addr) (m c : Nat) (news : List Value) (hx : a.eval x = .slice A m c) (hr : Rd w B size A m news) (hm : 0 < m) (h1 : ∀ u ∈ news, u.oneCell' = true) (hfull : c0 < n + m)
    (h63 : n + m ≤ maxLen) (hbytes : (n + m) * bytes ≤ 140737488355328) (hbase : base ≤ w.heap.size)
    (h : ∀ v' w', w'.ownsRow base e size v' (n + m) (olds ++ news) → w.grownBy w' none → K (a.put o.dst v') w') : o.wp P a w K Q := by
  obtain ⟨v', w', hrun, h2, h3⟩ := run_grow (P := P) w base t o.type e i z size bytes ht hi hz hsize hby hzs hsz A0 n c0 B0 olds hA hr0 B A m c news hr hm h1 hfull h63 hbytes hbase
  unfold Oper.wp execOp
  simp only [ho, resolve, invoke, builtin, Sem.run_bind, Sem.run_pure, Result.andThen_ok, List.map_toArray, List.map_cons, List.map_nil, hs, hx, hrun]
  exact h v' w' h2 h3

theorem wpList_grow {ops : Array Oper} {rest : List Oper} {o : Oper} {a : Act} {Q : Exit → Act → World → Prop} (hgd : o.guard = none) (s x : Operand) (t : TypeId)
    (ho : o.op = .call { callee := .builtin .append, args := #[s, x], argTypes := #[t, t] })
    (base : Nat) (e : TypeId) (i : TypeInfo) (z : Value) (size bytes : Nat) (ht : P.underlying t = some (.slice e)) (hi : P.info? e = some i) (hz : i.zero = some z)
    (hsize : i.size = size) (hby : i.bytes = bytes) (hzs : z.cells.size = size) (hsz : 0 < size)
    (A0 : Option Addr) (n c0 B0 : Nat) (olds : List Value) (hs : a.eval s = .slice A0 n c0) (hA : A0 = none → c0 = 0) (hr0 : Rd w B0 size A0 n olds)
    (B : Nat) (A : Option Addr) (m c : Nat) (news : List Value) (hx : a.eval x = .slice A m c) (hr : Rd w B size A m news) (hm : 0 < m) (h1 : ∀ u ∈ news, u.oneCell' = true) (hfull : c0 < n + m)
    (h63 : n + m ≤ maxLen) (hbytes : (n + m) * bytes ≤ 140737488355328) (hbase : base ≤ w.heap.size)
    (h : ∀ v' w', w'.ownsRow base e size v' (n + m) (olds ++ news) → w.grownBy w' none → wpList P ops Q rest (a.put o.dst v') w') : wpList P ops Q (o :: rest) a w :=
  wpList_plain hgd fun _ hK => wp_grow w s x t ho base e i z size bytes ht hi hz hsize hby hzs hsz A0 n c0 B0 olds hs hA hr0 B A m c news hx hr hm h1 hfull h63 hbytes hbase fun v' w' h2 h3 => hK _ _ (h v' w' h2 h3)

theorem step_grow {ops : Array Oper} {o : Oper} {a : Act} {K : Act → World → Prop} {Q : Exit → Act → World → Prop} {E : Prop} (hgd : o.guard = none) (s x : Operand) (t : TypeId)
    (ho : o.op = .call { callee := .builtin .append, args := #[s, x], argTypes := #[t, t] })
    (base : Nat) (e : TypeId) (i : TypeInfo) (z : Value) (size bytes : Nat) (ht : P.underlying t = some (.slice e)) (hi : P.info? e = some i) (hz : i.zero = some z)
    (hsize : i.size = size) (hby : i.bytes = bytes) (hzs : z.cells.size = size) (hsz : 0 < size)
    (A0 : Option Addr) (n c0 B0 : Nat) (olds : List Value) (hs : a.eval s = .slice A0 n c0) (hA : A0 = none → c0 = 0) (hr0 : Rd w B0 size A0 n olds)
    (B : Nat) (A : Option Addr) (m c : Nat) (news : List Value) (hx : a.eval x = .slice A m c) (hr : Rd w B size A m news) (hm : 0 < m) (h1 : ∀ u ∈ news, u.oneCell' = true) (hfull : c0 < n + m)
    (h63 : n + m ≤ maxLen) (hbytes : (n + m) * bytes ≤ 140737488355328) (hbase : base ≤ w.heap.size)
    (h : ∀ v' w', w'.ownsRow base e size v' (n + m) (olds ++ news) → w.grownBy w' none → K (a.put o.dst v') w') :
    if Region.wanted o (yielded ops a.tmps) = true then Oper.wp P o a w K Q else E := by
  have hw : Region.wanted o (yielded ops a.tmps) = true := by simp [Region.wanted, hgd]
  rw [if_pos hw]
  exact wp_grow w s x t ho base e i z size bytes ht hi hz hsize hby hzs hsz A0 n c0 B0 olds hs hA hr0 B A m c news hx hr hm h1 hfull h63 hbytes hbase h
end
end

section
open Go.RowKit

namespace Sp
theorem putB_go (l : List ByteArray) (x : ByteArray) (k : Nat) (hk : k < l.length) (h : putB l x = l.take k ++ putB (l.drop k) x) (hl : ltB l[k] x = true) : putB l x = l.take (k + 1) ++ putB (l.drop (k + 1)) x := by
  rw [h, List.drop_eq_getElem_cons hk, putB, if_pos hl, show l.take (k + 1) = l.take k ++ [l[k]] from List.take_succ_eq_append_getElem hk, List.append_assoc]; rfl
theorem putB_here (l : List ByteArray) (x : ByteArray) (k : Nat) (hk : k < l.length) (h : putB l x = l.take k ++ putB (l.drop k) x) (hl : ltB l[k] x = false) (he : l[k] = x) : putB l x = l := by
  rw [h, List.drop_eq_getElem_cons hk, putB, if_neg (by rw [hl]; decide), if_pos he, ← List.drop_eq_getElem_cons hk, List.take_append_drop]
theorem putB_new (l : List ByteArray) (x : ByteArray) (k : Nat) (h : putB l x = l.take k ++ putB (l.drop k) x) (hl : ∀ hk : k < l.length, ltB l[k] x = false ∧ l[k] ≠ x) : putB l x = l.take k ++ x :: l.drop k := by
  rw [h]
  by_cases hk : k < l.length
  · rw [List.drop_eq_getElem_cons hk, putB, if_neg (by rw [(hl hk).1]; decide), if_neg (hl hk).2]
  · rw [List.drop_eq_nil_of_le (by omega)]; rfl
theorem putI_go (l : List Int) (x : Int) (k : Nat) (hk : k < l.length) (h : putI l x = l.take k ++ putI (l.drop k) x) (hl : l[k] < x) : putI l x = l.take (k + 1) ++ putI (l.drop (k + 1)) x := by
  rw [h, List.drop_eq_getElem_cons hk, putI, if_pos hl, show l.take (k + 1) = l.take k ++ [l[k]] from List.take_succ_eq_append_getElem hk, List.append_assoc]; rfl
theorem putI_here (l : List Int) (x : Int) (k : Nat) (hk : k < l.length) (h : putI l x = l.take k ++ putI (l.drop k) x) (hl : ¬ l[k] < x) (he : l[k] = x) : putI l x = l := by
  rw [h, List.drop_eq_getElem_cons hk, putI, if_neg hl, if_pos he, ← List.drop_eq_getElem_cons hk, List.take_append_drop]
theorem putI_new (l : List Int) (x : Int) (k : Nat) (h : putI l x = l.take k ++ putI (l.drop k) x) (hl : ∀ hk : k < l.length, ¬ l[k] < x ∧ l[k] ≠ x) : putI l x = l.take k ++ x :: l.drop k := by
  rw [h]
  by_cases hk : k < l.length
  · rw [List.drop_eq_getElem_cons hk, putI, if_neg (hl hk).1, if_neg (hl hk).2]
  · rw [List.drop_eq_nil_of_le (by omega)]; rfl
end Sp

theorem own_mono33 {w : World} {b b' : Nat} {e : TypeId} {size n : Nat} {v : Value} {xs : List Value} (h : w.ownsRow b e size v n xs) (hb : b' ≤ b) : w.ownsRow b' e size v n xs := by
  refine ⟨h.1, ?_⟩
  rcases h.2 with hn | ⟨g, cap, cur, h1, h2, h3⟩
  · exact .inl hn
  · exact .inr ⟨g, cap, cur, h1, Nat.le_trans hb h2, h3⟩
theorem since_grown33 {W0 W W' : World} {row : Option Nat} (h : Below W0.heap.size W0 W) (hg : W.grownBy W' row) (hr : ∀ k, row = some k → W0.heap.size ≤ k) : Below W0.heap.size W0 W' := h.grown hg h.size hr
theorem own_fresh33 (X : World) (cs : Array Value) (e : TypeId) (n size : Nat) (h : cs.size = n * size) (hn : n ≤ maxLen) : (X.alloc (.cells cs e)).ownsRow X.heap.size e size (.slice (some ⟨X.heap.size, 0, none⟩) n n) n cs.toList :=
  ⟨by rw [Array.length_toList, h], .inr ⟨X.heap.size, n, cs, rfl, Nat.le_refl _, Array.getElem?_push_size, Nat.le_refl _, hn, h, by rw [← h]; exact List.take_of_length_le (by simp)⟩⟩
/-- one thing laid anew, with others behind it -/
theorem step_put33 {P : Program} {ops : Array Oper} {o : Oper} {a : Act} {K : Act → World → Prop} {Q : Exit → Act → World → Prop} {E : Prop} (W0 X : World) (hS : Below W0.heap.size W0 X) (hgd : o.guard = none) (s x : Operand) (t : TypeId)
    (ho : o.op = .call { callee := .builtin .append, args := #[s, x], argTypes := #[t, t] })
    (e : TypeId) (i : TypeInfo) (z : Value) (size bytes : Nat) (ht : P.underlying t = some (.slice e)) (hi : P.info? e = some i) (hz : i.zero = some z)
    (hsize : i.size = size) (hby : i.bytes = bytes) (hzs : z.cells.size = size) (hsz : 0 < size)
    (cs : Array Value) (hcs : cs.size = size) (hs : a.eval s = .slice (some ⟨X.heap.size, 0, none⟩) 1 1)
    (B : Nat) (A : Option Addr) (m c : Nat) (news : List Value) (hx : a.eval x = .slice A m c) (hr : Rd X B size A m news) (hB : B ≤ X.heap.size) (h1 : ∀ u ∈ news, u.oneCell' = true)
    (h63 : 1 + m ≤ maxLen) (hbytes : (1 + m) * bytes ≤ 140737488355328)
    (h : ∀ A' c' w', Rd w' w'.heap.size size A' (1 + m) (cs.toList ++ news) → Below W0.heap.size W0 w' → K (a.put o.dst (.slice A' (1 + m) c')) w') :
    if Region.wanted o (yielded ops a.tmps) = true then Oper.wp P o a (X.alloc (.cells cs e)) K Q else E := by
  have hown := own_mono33 (own_fresh33 X cs e 1 size (by omega) (by unfold maxLen; omega)) hS.size
  refine step_app (X.alloc (.cells cs e)) hgd s x t ho W0.heap.size e i z size bytes ht hi hz hsize hby hzs hsz _ 1 cs.toList hs hown B A m c news hx (hr.alloc hB _) h1 h63 hbytes (Nat.le_trans hS.size (by simp)) ?_
  intro v' w' h2 h3 _
  obtain ⟨A', c', rfl⟩ := own_slice h2
  exact h A' c' w' (Rd.of_own h2) (since_grown33 (since_alloc hS _) h3 (fun k hk => (hown.lt k hk).1))
theorem Rd.take33 {w : World} {B n : Nat} {A : Option Addr} {xs : List Value} (h : Rd w B 1 A n xs) (k : Nat) (hk : k ≤ n) : Rd w B 1 A k (xs.take k) := by
  refine ⟨by rw [List.length_take, h.1]; omega, fun h0 => ?_⟩
  obtain ⟨ad, rfl, h1, h2⟩ := h.2 (by omega)
  refine ⟨ad, rfl, h1, fun j u hu => h2 j u ?_⟩
  rw [List.getElem?_take] at hu
  split at hu
  · exact hu
  · cases hu
theorem Rd.drop33 {w : World} {B n g : Nat} {xs : List Value} (h : Rd w B 1 (some ⟨g, 0, none⟩) n xs) (k : Nat) : Rd w B 1 (some ⟨g, k, none⟩) (n - k) (xs.drop k) := by
  refine ⟨by rw [List.length_drop, h.1]; omega, fun h0 => ?_⟩
  obtain ⟨ad', e, h1, h2⟩ := h.2 (by omega)
  injection e with e
  subst e
  refine ⟨_, rfl, h1, fun j u hu => ?_⟩
  rw [List.getElem?_drop] at hu
  have := h2 (k + j) u hu
  rw [Addr.add_lit] at this ⊢
  rwa [Nat.zero_add] at this
/-- what putting into a row of texts leaves -/
def RPutsR (B : Nat) (ys : List ByteArray) (w : World) (e : Ending) (w' : World) : Prop := ∃ v', e = .returned v' ∧ OwnS B v' ys w' ∧ Below w.heap.size w w'
def RPutiR (B : Nat) (ys : List Int) (w : World) (e : Ending) (w' : World) : Prop := ∃ v', e = .returned v' ∧ OwnI B v' ys w' ∧ Below w.heap.size w w'
theorem OwnS.room {B : Nat} {A : Option Addr} {n c : Nat} {xs : List ByteArray} {w : World} (h : OwnS B (.slice A n c) xs w) : (A = none ∧ c = 0 ∧ xs.length = 0) ∨ ∃ g, A = some ⟨g, 0, none⟩ ∧ xs.length ≤ c ∧ c ≤ 9223372036854775807 := by
  rcases h.2 with ⟨h0, h1⟩ | ⟨g, cap, cur, h1, _, _, h2, h3, _⟩
  · injection h0 with h2 h3 h4
    exact .inl ⟨h2, h4, h1⟩
  · injection h1 with h4 h5 h6
    subst h6
    exact .inr ⟨g, h4, h2, by unfold maxLen at h3; omega⟩
theorem OwnI.room {B : Nat} {A : Option Addr} {n c : Nat} {xs : List Int} {w : World} (h : OwnI B (.slice A n c) xs w) : (A = none ∧ c = 0 ∧ xs.length = 0) ∨ ∃ g, A = some ⟨g, 0, none⟩ ∧ xs.length ≤ c ∧ c ≤ 9223372036854775807 := by
  rcases h.2 with ⟨h0, h1⟩ | ⟨g, cap, cur, h1, _, _, h2, h3, _⟩
  · injection h0 with h2 h3 h4
    exact .inl ⟨h2, h4, h1⟩
  · injection h1 with h4 h5 h6
    subst h6
    exact .inr ⟨g, h4, h2, by unfold maxLen at h3; omega⟩
theorem str_one (l : List ByteArray) : ∀ u ∈ l.map Value.string, u.oneCell' = true := by intro u hu; obtain ⟨y, _, rfl⟩ := List.mem_map.1 hu; rfl
theorem int_one (l : List Int) : ∀ u ∈ l.map (Value.int .i64), u.oneCell' = true := by intro u hu; obtain ⟨y, _, rfl⟩ := List.mem_map.1 hu; rfl
theorem int33_info : (Tryz.prog.info? 3).map (fun i => (i.zero, i.size, i.bytes)) = some (some (.int .i64 0), 1, 8) := by kernel_rfl
theorem str_same {a b : ByteArray} (h : (a.toList == b.toList) = true) : a = b := by
  apply WideShapes.bytes_inj
  rw [← Sp.bytes_list, ← Sp.bytes_list]
  simpa using h
theorem str_other {a b : ByteArray} (h : (a.toList == b.toList) = false) : a ≠ b := fun e => by
  subst e
  simp at h
theorem owns_join {B : Nat} {v : Value} {w : World} (l : List ByteArray) (x : ByteArray) (k : Nat) (hk : k ≤ l.length) (h : w.ownsRow B 9 1 v (k + (1 + (l.length - k))) ((l.take k).map Value.string ++ (x :: l.drop k).map Value.string)) : OwnS B v (l.take k ++ x :: l.drop k) w := by
  unfold OwnS
  rw [List.map_append, show (l.take k ++ x :: l.drop k).length = k + (1 + (l.length - k)) by rw [List.length_append, List.length_cons, List.length_take, List.length_drop]; omega]
  exact h
theorem owni_join {B : Nat} {v : Value} {w : World} (l : List Int) (x : Int) (k : Nat) (hk : k ≤ l.length) (h : w.ownsRow B 3 1 v (k + (1 + (l.length - k))) ((l.take k).map (Value.int .i64) ++ (x :: l.drop k).map (Value.int .i64))) : OwnI B v (l.take k ++ x :: l.drop k) w := by
  unfold OwnI
  rw [List.map_append, show (l.take k ++ x :: l.drop k).length = k + (1 + (l.length - k)) by rw [List.length_append, List.length_cons, List.length_take, List.length_drop]; omega]
  exact h

set_option maxRecDepth 100000 in
set_option maxHeartbeats 8000000 in
theorem rtext_any (B : Nat) (l : List ByteArray) (v : Value) (x : ByteArray) (w : World) (h : OwnS B v l w) (hB : B ≤ w.heap.size) (hn : l.length ≤ 1000) :
    Calls Tryz.prog 45 #[v, .string x] w (RPutsR B (Sp.putB l x) w) := by
  obtain ⟨i0, hi, hz0, hz1, hz2⟩ := info_parts str_info
  have HI := Lib.hid hi
  have HIZ := Lib.hid hz0
  have HIS := Lib.hid hz1
  have HIB := Lib.hid hz2
  obtain ⟨A, c, rfl⟩ := h.form
  have hvw := h.room
  have HRD : Hid (Rd w w.heap.size 1 A l.length (l.map Value.string)) := Lib.hid (Rd.of_own h)
  have HOWN := Lib.hid h
  have HB := Lib.hid hB
  have HP0 : Hid (Sp.putB l x = l.take 0 ++ Sp.putB (l.drop 0) x) := Lib.hid rfl
  have HXO : Hid (∀ g, A = some ⟨g, 0, none⟩ → ∀ k (hk : k < l.length), w.cell? ⟨g, k, none⟩ = some (.string l[k])) := Lib.hid (fun g hg k hk => by
    obtain ⟨ad, e, _, hc⟩ := HRD.out.2 (by omega)
    rw [hg] at e
    injection e with e
    subst e
    have := hc k (.string l[k]) (by rw [List.getElem?_map, List.getElem?_eq_getElem hk]; rfl)
    rw [Addr.add_lit] at this
    simpa using this)
  have HLEN : Hid (∃ N, N = l.length) := Lib.hid ⟨_, rfl⟩
  clear h hi hz0 hz1 hz2
  go_enter Tryz.func45, Tryz.ntmps45
  go_wp2_with fail
  go_loopw [5] (fun kv wr => ∃ k : Nat, k ≤ l.length ∧ kv = .int .i64 k ∧ w = wr ∧ Hid (Sp.putB l x = l.take k ++ Sp.putB (l.drop k) x)) (fun kv _ => l.length - (intOf kv).toNat)
  case atStart => exact ⟨0, Nat.zero_le _, rfl, rfl, HP0⟩
  case round =>
    obtain ⟨k, hk, rfl, rfl, HP⟩ := hrel
    have x1 : (0 : Int) ≤ (k : Int) := by omega
    by_cases hlt : k < l.length
    · have x2 : (k : Int) < (l.length : Int) := by omega
      have hvg : ∃ g, A = some ⟨g, 0, none⟩ ∧ l.length ≤ c ∧ c ≤ 9223372036854775807 := hvw.resolve_left (fun e => by omega)
      clear hvw
      obtain ⟨g, rfl, hnc, hcm⟩ := hvg
      have c0 := HXO.out g rfl k hlt
      have HGO := Lib.hid (Sp.putB_go l x k hlt HP.out)
      have HHE := Lib.hid (Sp.putB_here l x k hlt HP.out)
      have HNE := Lib.hid (fun hl => Sp.putB_new l x k HP.out hl)
      have HEQ : Hid (∃ y, y = l[k]) := Lib.hid ⟨_, rfl⟩
      generalize hy : l[k] = y at *
      have HY := Lib.hid hy
      clear hy HEQ
      rcases Bool.eq_false_or_eq_true (Op.bytesLess y.toList x.toList) with hlt2 | hlt2
      · have HG2 := Lib.hid (HGO.out hlt2)
        clear HHE HNE HGO
        go_wp2
        go_roundw
        case rel => exact ⟨k + 1, by omega, by go_num, by first | rfl | trivial, HG2⟩
        case measure => simp [intOf]; omega
      · have HH2 := Lib.hid (HHE.out hlt2)
        clear HGO HHE
        rcases Bool.eq_false_or_eq_true (y.toList == x.toList) with he2 | he2
        · have HH3 := Lib.hid (HH2.out (str_same he2))
          clear HNE HH2
          go_wp2
          go_ret
          exact ⟨_, rfl, by rw [HH3.out]; exact HOWN.out, Below.refl _ _⟩
        · have HN := Lib.hid (HNE.out (fun _ => ⟨by rw [HY.out]; exact hlt2, by rw [HY.out]; exact (str_other he2)⟩))
          clear HH2 HNE
          go_upto_region 6 with fail
          have hq : Below w.heap.size w w.drew := (Below.refl _ _).drew
          have HPRE : Hid (∀ V, Below w.heap.size w V → Rd V w.heap.size 1 (some ⟨g, 0, none⟩) k ((l.take k).map Value.string)) := Lib.hid (fun V hV => by
            have := (HRD.out.below hV).take33 k hk
            rwa [← List.map_take] at this)
          have HSUF : Hid (∀ V, Below w.heap.size w V → Rd V w.heap.size 1 (if c = k then some ⟨g, 0, none⟩ else some ⟨g, k, none⟩) (l.length - k) ((l.drop k).map Value.string)) := Lib.hid (fun V hV => by
            split
            · rw [List.drop_eq_nil_of_le (by omega), show l.length - k = 0 from by omega]; exact Rd.empty
            · have := (HRD.out.below hV).drop33 k
              rwa [← List.map_drop] at this)
          have HNONE : Hid ((some ⟨g, 0, none⟩ : Option Addr) = none → k = 0) := Lib.hid (fun e => by cases e)
          have z2 : (k : Int) ≤ (l.length : Int) := by omega
          have z3 : (k : Int) ≤ (c : Int) := by omega
          go_region_held3 (fun V => Below w.heap.size w V) (first | assumption | exact since_alloc (by assumption) _) (first | (refine step_put33 w w.drew hq rfl _ _ 23 rfl 9 i0 (.string ⟨#[]⟩) 1 16 Tryz.underlying23 HI.out HIZ.out HIS.out HIB.out rfl (by decide) #[.string x] rfl rfl w.heap.size _ _ _ _ rfl (HSUF.out _ hq) (Nat.le_refl _) (str_one _) (by unfold maxLen; omega) (by omega) ?_; intro A5 c5 w5 hr5' q5; have hr5 : Rd w5 w5.heap.size 1 A5 (1 + (l.length - k)) ((x :: l.drop k).map Value.string) := hr5'; clear hr5') | (refine step_grow _ rfl _ _ 23 rfl w.heap.size 9 i0 (.string ⟨#[]⟩) 1 16 Tryz.underlying23 HI.out HIZ.out HIS.out HIB.out rfl (by decide) _ _ _ w.heap.size _ rfl HNONE.out (HPRE.out _ q5) w5.heap.size A5 _ c5 _ rfl hr5 (by omega) (str_one _) (by omega) (by unfold maxLen; omega) (by omega) (Below.size q5) ?_; intro v6 w6 hown6' hgr6; have q6 := since_grown33 q5 hgr6 (by intro k hk; cases hk); have hown6 := own_mono33 hown6' HB.out; clear hown6' hgr6))
          all_goals
            go_wp2
            all_goals
              go_ret
              exact ⟨_, rfl, by rw [HN.out]; exact owns_join l x k hk hown6, q6⟩
    · have x2 : ¬ (k : Int) < (l.length : Int) := by omega
      have HN := Lib.hid (Sp.putB_new l x k HP.out (fun h => absurd h hlt))
      rcases hvw with ⟨rfl, rfl, h0⟩ | ⟨g, rfl, hnc, hcm⟩
      · obtain rfl : l = [] := List.eq_nil_of_length_eq_zero h0
        obtain rfl : k = 0 := by simpa using hk
        have HN : Hid (Sp.putB [] x = [x]) := Lib.hid rfl
        go_upto_region 6 with fail
        have hq : Below w.heap.size w w.drew := (Below.refl _ _).drew
        go_region_held3 (fun V => Below w.heap.size w V) (first | assumption | exact since_alloc (by assumption) _) (first | (refine step_put33 w w.drew hq rfl _ _ 23 rfl 9 i0 (.string ⟨#[]⟩) 1 16 Tryz.underlying23 HI.out HIZ.out HIS.out HIB.out rfl (by decide) #[.string x] rfl rfl w.heap.size none 0 _ [] rfl Rd.empty (Nat.le_refl _) (by intro u hu; cases hu) (by decide) (by decide) ?_; intro A5 c5 w5 hr5' q5; have hr5 : Rd w5 w5.heap.size 1 A5 1 [.string x] := hr5'; clear hr5') | (refine step_grow _ rfl _ _ 23 rfl w.heap.size 9 i0 (.string ⟨#[]⟩) 1 16 Tryz.underlying23 HI.out HIZ.out HIS.out HIB.out rfl (by decide) none 0 0 w.heap.size [] rfl (fun _ => rfl) Rd.empty w5.heap.size A5 _ c5 _ rfl hr5 (by omega) (str_one [x]) (by omega) (by decide) (by decide) (Below.size q5) ?_; intro v6 w6 hown6' hgr6; have q6 := since_grown33 q5 hgr6 (by intro k hk; cases hk); have hown6 := own_mono33 hown6' HB.out; clear hown6' hgr6))
        all_goals
          go_wp2
          go_ret
          exact ⟨_, rfl, by rw [HN.out]; exact hown6, q6⟩
      · go_upto_region 6 with fail
        have hq : Below w.heap.size w w.drew := (Below.refl _ _).drew
        have HPRE : Hid (∀ V, Below w.heap.size w V → Rd V w.heap.size 1 (some ⟨g, 0, none⟩) k ((l.take k).map Value.string)) := Lib.hid (fun V hV => by
          have := (HRD.out.below hV).take33 k hk
          rwa [← List.map_take] at this)
        have HSUF : Hid (∀ V, Below w.heap.size w V → Rd V w.heap.size 1 (if c = k then some ⟨g, 0, none⟩ else some ⟨g, k, none⟩) (l.length - k) ((l.drop k).map Value.string)) := Lib.hid (fun V hV => by
          split
          · rw [List.drop_eq_nil_of_le (by omega), show l.length - k = 0 from by omega]; exact Rd.empty
          · have := (HRD.out.below hV).drop33 k
            rwa [← List.map_drop] at this)
        have HNONE : Hid ((some ⟨g, 0, none⟩ : Option Addr) = none → k = 0) := Lib.hid (fun e => by cases e)
        have z2 : (k : Int) ≤ (l.length : Int) := by omega
        have z3 : (k : Int) ≤ (c : Int) := by omega
        go_region_held3 (fun V => Below w.heap.size w V) (first | assumption | exact since_alloc (by assumption) _) (first | (refine step_put33 w w.drew hq rfl _ _ 23 rfl 9 i0 (.string ⟨#[]⟩) 1 16 Tryz.underlying23 HI.out HIZ.out HIS.out HIB.out rfl (by decide) #[.string x] rfl rfl w.heap.size _ _ _ _ rfl (HSUF.out _ hq) (Nat.le_refl _) (str_one _) (by unfold maxLen; omega) (by omega) ?_; intro A5 c5 w5 hr5' q5; have hr5 : Rd w5 w5.heap.size 1 A5 (1 + (l.length - k)) ((x :: l.drop k).map Value.string) := hr5'; clear hr5') | (refine step_grow _ rfl _ _ 23 rfl w.heap.size 9 i0 (.string ⟨#[]⟩) 1 16 Tryz.underlying23 HI.out HIZ.out HIS.out HIB.out rfl (by decide) _ _ _ w.heap.size _ rfl HNONE.out (HPRE.out _ q5) w5.heap.size A5 _ c5 _ rfl hr5 (by omega) (str_one _) (by omega) (by unfold maxLen; omega) (by omega) (Below.size q5) ?_; intro v6 w6 hown6' hgr6; have q6 := since_grown33 q5 hgr6 (by intro k hk; cases hk); have hown6 := own_mono33 hown6' HB.out; clear hown6' hgr6))
        all_goals
          go_wp2
          all_goals
            go_ret
            exact ⟨_, rfl, by rw [HN.out]; exact owns_join l x k hk hown6, q6⟩

set_option maxRecDepth 100000 in
set_option maxHeartbeats 8000000 in
theorem rnumber33_any (B : Nat) (l : List Int) (v : Value) (x : Int) (w : World) (h : OwnI B v l w) (hB : B ≤ w.heap.size) (hn : l.length ≤ 1000) :
    Calls Tryz.prog 47 #[v, .int .i64 x] w (RPutiR B (Sp.putI l x) w) := by
  obtain ⟨i0, hi, hz0, hz1, hz2⟩ := info_parts int33_info
  have HI := Lib.hid hi
  have HIZ := Lib.hid hz0
  have HIS := Lib.hid hz1
  have HIB := Lib.hid hz2
  obtain ⟨A, c, rfl⟩ := h.form
  have hvw := h.room
  have HRD : Hid (Rd w w.heap.size 1 A l.length (l.map (Value.int .i64))) := Lib.hid (Rd.of_own h)
  have HOWN := Lib.hid h
  have HB := Lib.hid hB
  have HP0 : Hid (Sp.putI l x = l.take 0 ++ Sp.putI (l.drop 0) x) := Lib.hid rfl
  have HXO : Hid (∀ g, A = some ⟨g, 0, none⟩ → ∀ k (hk : k < l.length), w.cell? ⟨g, k, none⟩ = some (.int .i64 l[k])) := Lib.hid (fun g hg k hk => by
    obtain ⟨ad, e, _, hc⟩ := HRD.out.2 (by omega)
    rw [hg] at e
    injection e with e
    subst e
    have := hc k (.int .i64 l[k]) (by rw [List.getElem?_map, List.getElem?_eq_getElem hk]; rfl)
    rw [Addr.add_lit] at this
    simpa using this)
  have HLEN : Hid (∃ N, N = l.length) := Lib.hid ⟨_, rfl⟩
  clear h hi hz0 hz1 hz2
  go_enter Tryz.func47, Tryz.ntmps47
  go_wp2_with fail
  go_loopw [5] (fun kv wr => ∃ k : Nat, k ≤ l.length ∧ kv = .int .i64 k ∧ w = wr ∧ Hid (Sp.putI l x = l.take k ++ Sp.putI (l.drop k) x)) (fun kv _ => l.length - (intOf kv).toNat)
  case atStart => exact ⟨0, Nat.zero_le _, rfl, rfl, HP0⟩
  case round =>
    obtain ⟨k, hk, rfl, rfl, HP⟩ := hrel
    have x1 : (0 : Int) ≤ (k : Int) := by omega
    by_cases hlt : k < l.length
    · have x2 : (k : Int) < (l.length : Int) := by omega
      have hvg : ∃ g, A = some ⟨g, 0, none⟩ ∧ l.length ≤ c ∧ c ≤ 9223372036854775807 := hvw.resolve_left (fun e => by omega)
      clear hvw
      obtain ⟨g, rfl, hnc, hcm⟩ := hvg
      have c0 := HXO.out g rfl k hlt
      have HGO := Lib.hid (Sp.putI_go l x k hlt HP.out)
      have HHE := Lib.hid (Sp.putI_here l x k hlt HP.out)
      have HNE := Lib.hid (fun hl => Sp.putI_new l x k HP.out hl)
      have HEQ : Hid (∃ y, y = l[k]) := Lib.hid ⟨_, rfl⟩
      generalize hy : l[k] = y at *
      have HY := Lib.hid hy
      clear hy HEQ
      rcases Decidable.em (y < x) with hlt2 | hlt2
      · have HG2 := Lib.hid (HGO.out hlt2)
        clear HHE HNE HGO
        go_wp2
        go_roundw
        case rel => exact ⟨k + 1, by omega, by go_num, by first | rfl | trivial, HG2⟩
        case measure => simp [intOf]; omega
      · have HH2 := Lib.hid (HHE.out hlt2)
        clear HGO HHE
        rcases Bool.eq_false_or_eq_true (y == x) with he2 | he2
        · have HH3 := Lib.hid (HH2.out (by simpa using he2))
          clear HNE HH2
          go_wp2
          go_ret
          exact ⟨_, rfl, by rw [HH3.out]; exact HOWN.out, Below.refl _ _⟩
        · have HN := Lib.hid (HNE.out (fun _ => ⟨by rw [HY.out]; exact hlt2, by rw [HY.out]; exact (by simpa using he2)⟩))
          clear HH2 HNE
          go_upto_region 6 with fail
          have hq : Below w.heap.size w w.drew := (Below.refl _ _).drew
          have HPRE : Hid (∀ V, Below w.heap.size w V → Rd V w.heap.size 1 (some ⟨g, 0, none⟩) k ((l.take k).map (Value.int .i64))) := Lib.hid (fun V hV => by
            have := (HRD.out.below hV).take33 k hk
            rwa [← List.map_take] at this)
          have HSUF : Hid (∀ V, Below w.heap.size w V → Rd V w.heap.size 1 (if c = k then some ⟨g, 0, none⟩ else some ⟨g, k, none⟩) (l.length - k) ((l.drop k).map (Value.int .i64))) := Lib.hid (fun V hV => by
            split
            · rw [List.drop_eq_nil_of_le (by omega), show l.length - k = 0 from by omega]; exact Rd.empty
            · have := (HRD.out.below hV).drop33 k
              rwa [← List.map_drop] at this)
          have HNONE : Hid ((some ⟨g, 0, none⟩ : Option Addr) = none → k = 0) := Lib.hid (fun e => by cases e)
          have z2 : (k : Int) ≤ (l.length : Int) := by omega
          have z3 : (k : Int) ≤ (c : Int) := by omega
          go_region_held3 (fun V => Below w.heap.size w V) (first | assumption | exact since_alloc (by assumption) _) (first | (refine step_put33 w w.drew hq rfl _ _ 24 rfl 3 i0 (.int .i64 0) 1 8 Tryz.underlying24 HI.out HIZ.out HIS.out HIB.out rfl (by decide) #[.int .i64 x] rfl rfl w.heap.size _ _ _ _ rfl (HSUF.out _ hq) (Nat.le_refl _) (int_one _) (by unfold maxLen; omega) (by omega) ?_; intro A5 c5 w5 hr5' q5; have hr5 : Rd w5 w5.heap.size 1 A5 (1 + (l.length - k)) ((x :: l.drop k).map (Value.int .i64)) := hr5'; clear hr5') | (refine step_grow _ rfl _ _ 24 rfl w.heap.size 3 i0 (.int .i64 0) 1 8 Tryz.underlying24 HI.out HIZ.out HIS.out HIB.out rfl (by decide) _ _ _ w.heap.size _ rfl HNONE.out (HPRE.out _ q5) w5.heap.size A5 _ c5 _ rfl hr5 (by omega) (int_one _) (by omega) (by unfold maxLen; omega) (by omega) (Below.size q5) ?_; intro v6 w6 hown6' hgr6; have q6 := since_grown33 q5 hgr6 (by intro k hk; cases hk); have hown6 := own_mono33 hown6' HB.out; clear hown6' hgr6))
          all_goals
            go_wp2
            all_goals
              go_ret
              exact ⟨_, rfl, by rw [HN.out]; exact owni_join l x k hk hown6, q6⟩
    · have x2 : ¬ (k : Int) < (l.length : Int) := by omega
      have HN := Lib.hid (Sp.putI_new l x k HP.out (fun h => absurd h hlt))
      rcases hvw with ⟨rfl, rfl, h0⟩ | ⟨g, rfl, hnc, hcm⟩
      · obtain rfl : l = [] := List.eq_nil_of_length_eq_zero h0
        obtain rfl : k = 0 := by simpa using hk
        have HN : Hid (Sp.putI [] x = [x]) := Lib.hid rfl
        go_upto_region 6 with fail
        have hq : Below w.heap.size w w.drew := (Below.refl _ _).drew
        go_region_held3 (fun V => Below w.heap.size w V) (first | assumption | exact since_alloc (by assumption) _) (first | (refine step_put33 w w.drew hq rfl _ _ 24 rfl 3 i0 (.int .i64 0) 1 8 Tryz.underlying24 HI.out HIZ.out HIS.out HIB.out rfl (by decide) #[.int .i64 x] rfl rfl w.heap.size none 0 _ [] rfl Rd.empty (Nat.le_refl _) (by intro u hu; cases hu) (by decide) (by decide) ?_; intro A5 c5 w5 hr5' q5; have hr5 : Rd w5 w5.heap.size 1 A5 1 [.int .i64 x] := hr5'; clear hr5') | (refine step_grow _ rfl _ _ 24 rfl w.heap.size 3 i0 (.int .i64 0) 1 8 Tryz.underlying24 HI.out HIZ.out HIS.out HIB.out rfl (by decide) none 0 0 w.heap.size [] rfl (fun _ => rfl) Rd.empty w5.heap.size A5 _ c5 _ rfl hr5 (by omega) (int_one [x]) (by omega) (by decide) (by decide) (Below.size q5) ?_; intro v6 w6 hown6' hgr6; have q6 := since_grown33 q5 hgr6 (by intro k hk; cases hk); have hown6 := own_mono33 hown6' HB.out; clear hown6' hgr6))
        all_goals
          go_wp2
          go_ret
          exact ⟨_, rfl, by rw [HN.out]; exact hown6, q6⟩
      · go_upto_region 6 with fail
        have hq : Below w.heap.size w w.drew := (Below.refl _ _).drew
        have HPRE : Hid (∀ V, Below w.heap.size w V → Rd V w.heap.size 1 (some ⟨g, 0, none⟩) k ((l.take k).map (Value.int .i64))) := Lib.hid (fun V hV => by
          have := (HRD.out.below hV).take33 k hk
          rwa [← List.map_take] at this)
        have HSUF : Hid (∀ V, Below w.heap.size w V → Rd V w.heap.size 1 (if c = k then some ⟨g, 0, none⟩ else some ⟨g, k, none⟩) (l.length - k) ((l.drop k).map (Value.int .i64))) := Lib.hid (fun V hV => by
          split
          · rw [List.drop_eq_nil_of_le (by omega), show l.length - k = 0 from by omega]; exact Rd.empty
          · have := (HRD.out.below hV).drop33 k
            rwa [← List.map_drop] at this)
        have HNONE : Hid ((some ⟨g, 0, none⟩ : Option Addr) = none → k = 0) := Lib.hid (fun e => by cases e)
        have z2 : (k : Int) ≤ (l.length : Int) := by omega
        have z3 : (k : Int) ≤ (c : Int) := by omega
        go_region_held3 (fun V => Below w.heap.size w V) (first | assumption | exact since_alloc (by assumption) _) (first | (refine step_put33 w w.drew hq rfl _ _ 24 rfl 3 i0 (.int .i64 0) 1 8 Tryz.underlying24 HI.out HIZ.out HIS.out HIB.out rfl (by decide) #[.int .i64 x] rfl rfl w.heap.size _ _ _ _ rfl (HSUF.out _ hq) (Nat.le_refl _) (int_one _) (by unfold maxLen; omega) (by omega) ?_; intro A5 c5 w5 hr5' q5; have hr5 : Rd w5 w5.heap.size 1 A5 (1 + (l.length - k)) ((x :: l.drop k).map (Value.int .i64)) := hr5'; clear hr5') | (refine step_grow _ rfl _ _ 24 rfl w.heap.size 3 i0 (.int .i64 0) 1 8 Tryz.underlying24 HI.out HIZ.out HIS.out HIB.out rfl (by decide) _ _ _ w.heap.size _ rfl HNONE.out (HPRE.out _ q5) w5.heap.size A5 _ c5 _ rfl hr5 (by omega) (int_one _) (by omega) (by unfold maxLen; omega) (by omega) (Below.size q5) ?_; intro v6 w6 hown6' hgr6; have q6 := since_grown33 q5 hgr6 (by intro k hk; cases hk); have hown6 := own_mono33 hown6' HB.out; clear hown6' hgr6))
        all_goals
          go_wp2
          all_goals
            go_ret
            exact ⟨_, rfl, by rw [HN.out]; exact owni_join l x k hk hown6, q6⟩
end

section
open Go.RowKit

/-- what stands behind a backslash, as the reference hands it -/
def escN : Option (UInt8 × Nat) → Nat × Nat
  | none => (0, 0)
  | some (b, m) => (b.toNat, m)
theorem head_at (s : ByteArray) (c : UInt8) (t : List UInt8) (h : s.data.toList = c :: t) : ∃ h0 : 0 < s.size, s[0] = c ∧ t = s.data.toList.drop 1 := by
  have hz : s.data.toList.length = s.size := by simp
  have h0 : 0 < s.size := by rw [h] at hz; simp at hz; omega
  refine ⟨h0, ?_, by rw [h]; rfl⟩
  have g := List.drop_eq_getElem_cons (l := s.data.toList) (i := 0) (by omega)
  rw [List.drop_zero] at g
  have g := h.symm.trans g
  injection g with g1 g2
  rw [g1]; simp [ByteArray.getElem_eq_getElem_data]
theorem rhex_q (c : UInt8) (w : World) :
    Calls Tryz.prog 72 #[.int .u8 c.toNat] w fun e w' => e = .returned (.int .i64 (Sp.hexR c)) ∧ w' = w := by
  refine (rhex_any c w).mono ?_
  rintro e w' ⟨h1, h2⟩
  exact ⟨h1, h2.symm⟩
theorem two_nought (a b : UInt8) (h1 : Sp.isHex a = true) (h2 : Sp.isHex b = true) : Sp.twoB a b = 0 ↔ (a = 48 ∧ b = 48) := by
  have h : ∀ m n : Fin 256, Sp.isHex (UInt8.ofNat m.val) = true → Sp.isHex (UInt8.ofNat n.val) = true → (decide (Sp.twoB (UInt8.ofNat m.val) (UInt8.ofNat n.val) = 0) = (decide (UInt8.ofNat m.val = 48) && decide (UInt8.ofNat n.val = 48))) := by
    have key : ∀ m : Fin 256, Sp.isHex (UInt8.ofNat m.val) = true → ((Sp.hexV (UInt8.ofNat m.val)).toNat < 16 ∧ ((Sp.hexV (UInt8.ofNat m.val)).toNat = 0 ↔ UInt8.ofNat m.val = 48)) := by decide +kernel
    intro m n hm hn
    obtain ⟨a1, a2⟩ := key m hm
    obtain ⟨b1, b2⟩ := key n hn
    rw [Bool.eq_iff_iff, Bool.and_eq_true, decide_eq_true_eq, decide_eq_true_eq, decide_eq_true_eq, ← a2, ← b2, ← UInt8.toNat_inj]
    unfold Sp.twoB
    simp only [UInt8.toNat_ofNat', UInt8.toNat_zero]
    omega
  have := h ⟨a.toNat, a.toNat_lt⟩ ⟨b.toNat, b.toNat_lt⟩ (by simpa using h1) (by simpa using h2)
  rw [Bool.eq_iff_iff] at this
  simpa using this
theorem two_val (a b : UInt8) (m n : Nat) (h1 : (Sp.hexV a).toNat = m) (h2 : (Sp.hexV b).toNat = n) (hm : m < 16) (hn : n < 16) : (Sp.twoB a b).toNat = 16 * m + n := by
  unfold Sp.twoB
  rw [h1, h2]
  simp only [UInt8.toNat_ofNat']
  omega

set_option maxHeartbeats 2000000 in
set_option maxRecDepth 100000 in
theorem rescape_any (s : ByteArray) (x : Option (UInt8 × Nat)) (hx : Sp.escS s.data.toList = x) (hs : s.size ≤ 140737488355328) (w : World) :
    Calls Tryz.prog 42 #[.string s] w fun e w' => e = .returned (.tuple #[.int .u8 ((escN x).1 : Nat), .int .i64 ((escN x).2 : Nat)]) ∧ ∃ n, w' = w.drewN n := by
  cases hl : s.data.toList with
  | nil =>
    have h2 : (s.toList == []) = true := by rw [Sp.bytes_list, hl]; rfl
    rw [hl] at hx
    have e : x = none := hx.symm
    subst e
    clear hl hx
    go_enter Tryz.func42, Tryz.ntmps42
    go_wp2
    go_ret2
    exact ⟨rfl, 0, rfl⟩
  | cons c t =>
    obtain ⟨h1, hc, ht⟩ := head_at s c t hl
    have h2 : (s.toList == []) = false := by rw [Sp.bytes_list, hl]; rfl
    rw [hl] at hx
    clear hl
    have h3 : (0 : Int) < (s.size : Int) := by omega
    by_cases g92 : c = 92
    · have f92 : ((s[0].toNat : Int) == 92) = true := by rw [hc]; exact (byte_is c 92).trans (decide_eq_true g92)
      have e : x = some (c, 1) := by
        rw [← hx]; rw [g92]; rfl
      subst e
      have HC : Hid ((s[0]).toNat = c.toNat) := Lib.hid (by rw [hc])
      clear hx hc ht
      go_enter Tryz.func42, Tryz.ntmps42
      go_wp2
      go_ret2
      exact ⟨by rw [HC.out]; rfl, 0, rfl⟩
    · skip
      by_cases g34 : c = 34
      · have f92 : ((s[0].toNat : Int) == 92) = false := by rw [hc]; exact (byte_is c 92).trans (decide_eq_false g92)
        have f34 : ((s[0].toNat : Int) == 34) = true := by rw [hc]; exact (byte_is c 34).trans (decide_eq_true g34)
        have e : x = some (c, 1) := by
          rw [← hx]; rw [g34]; rfl
        subst e
        have HC : Hid ((s[0]).toNat = c.toNat) := Lib.hid (by rw [hc])
        clear hx hc ht
        go_enter Tryz.func42, Tryz.ntmps42
        go_wp2
        go_ret2
        exact ⟨by rw [HC.out]; rfl, 0, rfl⟩
      · skip
        by_cases g39 : c = 39
        · have f92 : ((s[0].toNat : Int) == 92) = false := by rw [hc]; exact (byte_is c 92).trans (decide_eq_false g92)
          have f34 : ((s[0].toNat : Int) == 34) = false := by rw [hc]; exact (byte_is c 34).trans (decide_eq_false g34)
          have f39 : ((s[0].toNat : Int) == 39) = true := by rw [hc]; exact (byte_is c 39).trans (decide_eq_true g39)
          have e : x = some (c, 1) := by
            rw [← hx]; rw [g39]; rfl
          subst e
          have HC : Hid ((s[0]).toNat = c.toNat) := Lib.hid (by rw [hc])
          clear hx hc ht
          go_enter Tryz.func42, Tryz.ntmps42
          go_wp2
          go_ret2
          exact ⟨by rw [HC.out]; rfl, 0, rfl⟩
        · skip
          by_cases g110 : c = 110
          · have f92 : ((s[0].toNat : Int) == 92) = false := by rw [hc]; exact (byte_is c 92).trans (decide_eq_false g92)
            have f34 : ((s[0].toNat : Int) == 34) = false := by rw [hc]; exact (byte_is c 34).trans (decide_eq_false g34)
            have f39 : ((s[0].toNat : Int) == 39) = false := by rw [hc]; exact (byte_is c 39).trans (decide_eq_false g39)
            have f110 : ((s[0].toNat : Int) == 110) = true := by rw [hc]; exact (byte_is c 110).trans (decide_eq_true g110)
            have e : x = some (10, 1) := by
              rw [← hx]; rw [g110]; rfl
            subst e
            have HC : Hid ((s[0]).toNat = c.toNat) := Lib.hid (by rw [hc])
            clear hx hc ht
            go_enter Tryz.func42, Tryz.ntmps42
            go_wp2
            go_ret2
            exact ⟨rfl, 0, rfl⟩
          · skip
            by_cases g116 : c = 116
            · have f92 : ((s[0].toNat : Int) == 92) = false := by rw [hc]; exact (byte_is c 92).trans (decide_eq_false g92)
              have f34 : ((s[0].toNat : Int) == 34) = false := by rw [hc]; exact (byte_is c 34).trans (decide_eq_false g34)
              have f39 : ((s[0].toNat : Int) == 39) = false := by rw [hc]; exact (byte_is c 39).trans (decide_eq_false g39)
              have f110 : ((s[0].toNat : Int) == 110) = false := by rw [hc]; exact (byte_is c 110).trans (decide_eq_false g110)
              have f116 : ((s[0].toNat : Int) == 116) = true := by rw [hc]; exact (byte_is c 116).trans (decide_eq_true g116)
              have e : x = some (9, 1) := by
                rw [← hx]; rw [g116]; rfl
              subst e
              have HC : Hid ((s[0]).toNat = c.toNat) := Lib.hid (by rw [hc])
              clear hx hc ht
              go_enter Tryz.func42, Tryz.ntmps42
              go_wp2
              go_ret2
              exact ⟨rfl, 0, rfl⟩
            · skip
              by_cases g115 : c = 115
              · have f92 : ((s[0].toNat : Int) == 92) = false := by rw [hc]; exact (byte_is c 92).trans (decide_eq_false g92)
                have f34 : ((s[0].toNat : Int) == 34) = false := by rw [hc]; exact (byte_is c 34).trans (decide_eq_false g34)
                have f39 : ((s[0].toNat : Int) == 39) = false := by rw [hc]; exact (byte_is c 39).trans (decide_eq_false g39)
                have f110 : ((s[0].toNat : Int) == 110) = false := by rw [hc]; exact (byte_is c 110).trans (decide_eq_false g110)
                have f116 : ((s[0].toNat : Int) == 116) = false := by rw [hc]; exact (byte_is c 116).trans (decide_eq_false g116)
                have f115 : ((s[0].toNat : Int) == 115) = true := by rw [hc]; exact (byte_is c 115).trans (decide_eq_true g115)
                have e : x = some (32, 1) := by
                  rw [← hx]; rw [g115]; rfl
                subst e
                have HC : Hid ((s[0]).toNat = c.toNat) := Lib.hid (by rw [hc])
                clear hx hc ht
                go_enter Tryz.func42, Tryz.ntmps42
                go_wp2
                go_ret2
                exact ⟨rfl, 0, rfl⟩
              · skip
                have f92 : ((s[0].toNat : Int) == 92) = false := by rw [hc]; exact (byte_is c 92).trans (decide_eq_false g92)
                have f34 : ((s[0].toNat : Int) == 34) = false := by rw [hc]; exact (byte_is c 34).trans (decide_eq_false g34)
                have f39 : ((s[0].toNat : Int) == 39) = false := by rw [hc]; exact (byte_is c 39).trans (decide_eq_false g39)
                have f110 : ((s[0].toNat : Int) == 110) = false := by rw [hc]; exact (byte_is c 110).trans (decide_eq_false g110)
                have f116 : ((s[0].toNat : Int) == 116) = false := by rw [hc]; exact (byte_is c 116).trans (decide_eq_false g116)
                have f115 : ((s[0].toNat : Int) == 115) = false := by rw [hc]; exact (byte_is c 115).trans (decide_eq_false g115)
                have HX : Hid ((if c = 120 then (if (Sp.twoL t).2 = true ∧ (Sp.twoL t).1 ≠ 0 then some ((Sp.twoL t).1, 3) else none) else none) = x) := Lib.hid (by rw [← hx, Sp.escS]; rw [if_neg (show ¬ (c = 92 ∨ c = 34 ∨ c = 39) from fun e => e.elim g92 (fun e => e.elim g34 g39)), if_neg g110, if_neg g116, if_neg g115])
                clear hx
                by_cases g120 : c = 120
                · have f120 : ((s[0].toNat : Int) == 120) = true := by rw [hc]; exact (byte_is c 120).trans (decide_eq_true g120)
                  have HX := Lib.hid (HX.out)
                  rw [if_pos g120] at HX
                  clear g92 g34 g39 g110 g116 g115 g120 hc
                  by_cases h3s : s.size < 3
                  · have y3 : ¬ (3 : Int) ≤ (s.size : Int) := by omega
                    have e : x = none := by
                      rw [← HX.out, if_neg]
                      rintro ⟨e, _⟩
                      have := Sp.two_len t e
                      have hz : t.length = s.size - 1 := by rw [ht, List.length_drop]; simp
                      omega
                    subst e
                    clear HX ht
                    go_enter Tryz.func42, Tryz.ntmps42
                    go_wp2
                    go_ret2
                    exact ⟨rfl, 0, rfl⟩
                  · have y3 : (3 : Int) ≤ (s.size : Int) := by omega
                    have y1 : 1 < s.size := by omega
                    have y2 : 2 < s.size := by omega
                    have y4 : (1 : Int) < (s.size : Int) := by omega
                    have y5 : (2 : Int) < (s.size : Int) := by omega
                    have HT : Hid (∃ r, t = s[1] :: s[2] :: r) := Lib.hid ⟨s.data.toList.drop 3, by rw [ht, drop_at s 1 y1, drop_at s 2 y2]⟩
                    have HZ : Hid ((s.extract 1 3).data.toList = [s[1], s[2]]) := Lib.hid (by
                      rw [Lib.extract_data, drop_at s 1 y1, drop_at s 2 y2]; rfl)
                    have HA := Lib.hid (fun w => rhex_q s[1] w)
                    have HB := Lib.hid (fun w => rhex_q s[2] w)
                    obtain ⟨r, hr⟩ := HT.out
                    rw [hr] at HX
                    have h2w : Sp.twoL (s[1] :: s[2] :: r) = if Sp.isHex s[1] && Sp.isHex s[2] then (Sp.twoB s[1] s[2], true) else (0, false) := rfl
                    rw [h2w] at HX
                    clear h2w hr ht HT h3s
                    cases ha : Sp.isHex s[1] with
                    | false =>
                      rw [Sp.hexR_no _ ha] at HA
                      rw [ha] at HX
                      have e : x = none := by rw [← HX.out]; rfl
                      subst e
                      clear HX ha
                      go_enter Tryz.func42, Tryz.ntmps42
                      go_wp2_with fail
                      refine (HA.out _).mono ?_
                      rintro e w' ⟨rfl, rfl⟩
                      go_wp2
                      go_ret2
                      exact ⟨rfl, 0, rfl⟩
                    | true =>
                      obtain ⟨m, hm1, hm2, hm3⟩ := Sp.hexR_yes _ ha
                      rw [hm1] at HA
                      cases hb : Sp.isHex s[2] with
                      | false =>
                        rw [Sp.hexR_no _ hb] at HB
                        rw [ha, hb] at HX
                        have e : x = none := by rw [← HX.out]; rfl
                        subst e
                        have y6 : (m : Int) < 16 := by omega
                        clear HX ha hb hm1 hm3
                        go_enter Tryz.func42, Tryz.ntmps42
                        go_wp2_with fail
                        refine (HA.out _).mono ?_
                        rintro e w' ⟨rfl, rfl⟩
                        go_wp2_with fail
                        refine (HB.out _).mono ?_
                        rintro e w' ⟨rfl, rfl⟩
                        go_wp2
                        go_ret2
                        exact ⟨rfl, 0, rfl⟩
                      | true =>
                        obtain ⟨n, hn1, hn2, hn3⟩ := Sp.hexR_yes _ hb
                        rw [hn1] at HB
                        rw [ha, hb] at HX
                        have y6 : (m : Int) < 16 := by omega
                        have y7 : (n : Int) < 16 := by omega
                        have HV : Hid ((Sp.twoB s[1] s[2]).toNat = 16 * m + n) := Lib.hid (two_val _ _ m n hm3 hn3 hm2 hn2)
                        have HN := Lib.hid (two_nought _ _ ha hb)
                        clear ha hb hm3 hn3
                        by_cases h0 : Sp.twoB s[1] s[2] = 0
                        · have f0 : ((s.extract 1 3).toList == [48, 48]) = true := by
                            rw [Sp.bytes_list, HZ.out, (HN.out.1 h0).1, (HN.out.1 h0).2]; rfl
                          have e : x = none := by rw [← HX.out, if_neg]; exact fun e => e.2 h0
                          subst e
                          clear HX h0 HN HZ HV hm1 hn1
                          go_enter Tryz.func42, Tryz.ntmps42
                          go_wp2_with fail
                          refine (HA.out _).mono ?_
                          rintro e w' ⟨rfl, rfl⟩
                          go_wp2_with fail
                          refine (HB.out _).mono ?_
                          rintro e w' ⟨rfl, rfl⟩
                          go_wp2
                          go_ret2
                          exact ⟨rfl, 0, rfl⟩
                        · have f0 : ((s.extract 1 3).toList == [48, 48]) = false := by
                            rw [Sp.bytes_list, HZ.out, beq_eq_false_iff_ne]
                            intro e
                            injection e with e1 e2
                            injection e2 with e2 _
                            exact h0 (HN.out.2 ⟨e1, e2⟩)
                          have e : x = some (Sp.twoB s[1] s[2], 3) := by rw [← HX.out]; exact if_pos ⟨rfl, h0⟩
                          subst e
                          clear HX h0 HN HZ
                          go_enter Tryz.func42, Tryz.ntmps42
                          go_wp2_with fail
                          refine (HA.out _).mono ?_
                          rintro e w' ⟨rfl, rfl⟩
                          go_wp2_with fail
                          refine (HB.out _).mono ?_
                          rintro e w' ⟨rfl, rfl⟩
                          go_wp2

                          go_quiet (first | (go_at_call 72; exact Calls.quiet_of_same (rhex_q _ _)))
                          go_wp2
                          go_ret2
                          exact ⟨by show _ = Ending.returned (.tuple #[.int .u8 (((Sp.twoB s[1] s[2]).toNat : Nat) : Int), .int .i64 3]); rw [HV.out]; congr 5, _, rfl⟩
                · have f120 : ((s[0].toNat : Int) == 120) = false := by rw [hc]; exact (byte_is c 120).trans (decide_eq_false g120)
                  have e : x = none := by rw [← HX.out, if_neg g120]
                  subst e
                  clear HX hc ht
                  go_enter Tryz.func42, Tryz.ntmps42
                  go_wp2
                  go_ret2
                  exact ⟨rfl, 0, rfl⟩

set_option maxHeartbeats 1000000 in
theorem rwrong_any (s : ByteArray) (c : UInt8) (r : List UInt8) (hl : s.data.toList = c :: r) (hs : s.size ≤ 140737488355328) (w : World) :
    Calls Tryz.prog 41 #[.string s] w fun e w' => e = .returned (.int .i64 (Sp.wrongE c r)) ∧ ∃ n, w' = w.drewN n := by
  obtain ⟨h1, hc, ht⟩ := head_at s c r hl
  have h3 : (0 : Int) < (s.size : Int) := by omega
  have h4 : (1 : Int) ≤ (s.size : Int) := by omega
  have hd : (s.extract 1 s.size).data.toList = r := by
    rw [Lib.extract_data, ht]
    exact List.take_of_length_le (by rw [List.length_drop]; simp)
  have hz : (s.extract 1 s.size).size ≤ 140737488355328 := by rw [ByteArray.size_extract]; omega
  cases hx : Sp.escS r with
  | none =>
    have HE := Lib.hid (rescape_any (s.extract 1 s.size) none (by rw [hd, hx]) hz w)
    by_cases g : c = 92
    · have f92 : ((s[0].toNat : Int) == 92) = true := by rw [hc]; exact (byte_is c 92).trans (decide_eq_true g)
      have HW : Hid (Sp.wrongE c r = 13) := Lib.hid (by rw [Sp.wrongE, if_pos ⟨g, hx⟩])
      clear hl hc ht hd hx g
      rw [HW.out]
      go_enter Tryz.func41, Tryz.ntmps41
      go_wp2_with fail
      refine HE.out.mono ?_
      rintro e w' ⟨rfl, n, rfl⟩
      go_wp2
      go_ret
      exact ⟨rfl, n, rfl⟩
    · have f92 : ((s[0].toNat : Int) == 92) = false := by rw [hc]; exact (byte_is c 92).trans (decide_eq_false g)
      have HW : Hid (Sp.wrongE c r = 2) := Lib.hid (by rw [Sp.wrongE, if_neg (fun e => g e.1)])
      clear hl hc ht hd hx g
      rw [HW.out]
      go_enter Tryz.func41, Tryz.ntmps41
      go_wp2_with fail
      refine HE.out.mono ?_
      rintro e w' ⟨rfl, n, rfl⟩
      go_wp2
      go_ret
      exact ⟨rfl, n, rfl⟩
  | some z =>
    obtain ⟨b, m⟩ := z
    have hm := Sp.esc_len r b m hx
    have HE := Lib.hid (rescape_any (s.extract 1 s.size) (some (b, m)) (by rw [hd, hx]) hz w)
    have HW : Hid (Sp.wrongE c r = 2) := Lib.hid (by rw [Sp.wrongE, if_neg (fun e => by rw [hx] at e; cases e.2)])
    have f0 : ((m : Int) == 0) = false := by simp; omega
    have HM : Hid (((escN (some (b, m))).2 : Int) = (m : Int)) := Lib.hid rfl
    rw [HM.out] at HE
    clear hm hl ht hd hx HM
    rw [HW.out]
    by_cases g : c = 92
    · have f92 : ((s[0].toNat : Int) == 92) = true := by rw [hc]; exact (byte_is c 92).trans (decide_eq_true g)
      clear hc
      go_enter Tryz.func41, Tryz.ntmps41
      go_wp2_with fail
      refine HE.out.mono ?_
      rintro e w' ⟨rfl, n, rfl⟩
      go_wp2
      go_ret
      exact ⟨rfl, n, rfl⟩
    · have f92 : ((s[0].toNat : Int) == 92) = false := by rw [hc]; exact (byte_is c 92).trans (decide_eq_false g)
      clear hc
      go_enter Tryz.func41, Tryz.ntmps41
      go_wp2_with fail
      refine HE.out.mono ?_
      rintro e w' ⟨rfl, n, rfl⟩
      go_wp2
      go_ret
      exact ⟨rfl, n, rfl⟩
end

section
open Go.RowKit

/-- what is so while the reference parts words: k bytes are gone over; the word that is begun, the quote that is open, the words ahead -/
structure SplitI (B : Nat) (s : ByteArray) (w : World) (k : Nat) (cur : Option ByteArray) (cb : Bool) (q : UInt8) (xs : List ByteArray) (N : Nat) (ov : Value) (wr : World) : Prop where
  below : Below B w wr
  own : OwnS B ov (xs ++ cur.toList) wr
  few : N = (xs ++ cur.toList).length
  small : ∀ x ∈ xs ++ cur.toList, x.size ≤ k
  isb : cb = cur.isSome
  sign : q = 0 ∨ q = 39 ∨ q = 34
  m : Sp.splitW s.data.toList = Sp.M 0 (cur.map fun x => x.data.toList) q (xs.map fun x => x.data.toList) (s.data.toList.drop k)
/-- a word is begun: it lies in the last cell -/
structure LastI (B : Nat) (w : World) (k : Nat) (cur : Option ByteArray) (xs : List ByteArray) (g n cp : Nat) (x : ByteArray) (W : World) : Prop where
  below : Below B w W
  own : W.ownsRow B 9 1 (.slice (some ⟨g, 0, none⟩) (n + 1) cp) (n + 1) ((xs ++ [x]).map Value.string)
  few : n = xs.length
  small : ∀ y ∈ xs ++ [x], y.size ≤ k
  word : x.data.toList = (cur.map fun x => x.data.toList).getD []
def LastV (B : Nat) (w : World) (k : Nat) (cur : Option ByteArray) (xs : List ByteArray) (n : Nat) (ov iv : Value) (W : World) : Prop :=
  ∃ (g cp : Nat) (x : ByteArray), ov = .slice (some ⟨g, 0, none⟩) (n + 1) cp ∧ iv = .bool true ∧ Hid (LastI B w k cur xs g n cp x W)
theorem LastI.cell {B : Nat} {w : World} {k : Nat} {cur : Option ByteArray} {xs : List ByteArray} {g n cp : Nat} {x : ByteArray} {W : World} (h : LastI B w k cur xs g n cp x W) : W.cell? ⟨g, n, none⟩ = some (.string x) := by
  obtain ⟨ad, e, _, hc⟩ := (Rd.of_own h.own).2 (by omega)
  injection e with e
  subst e
  have := hc n (.string x) (by rw [List.getElem?_map, h.few]; simp)
  rw [Addr.add_lit] at this
  simpa using this
theorem LastI.frozen {B : Nat} {w : World} {k : Nat} {cur : Option ByteArray} {xs : List ByteArray} {g n cp : Nat} {x : ByteArray} {W : World} (h : LastI B w k cur xs g n cp x W) : W.frozen? ⟨g, n, none⟩ = false := h.own.frozenAt n
theorem LastI.lt {B : Nat} {w : World} {k : Nat} {cur : Option ByteArray} {xs : List ByteArray} {g n cp : Nat} {x : ByteArray} {W : World} (h : LastI B w k cur xs g n cp x W) : g < W.heap.size := (h.own.lt g rfl).2
/-- the word is another one now -/
theorem LastI.next {B : Nat} {s : ByteArray} {w : World} {k k' : Nat} {cur : Option ByteArray} {xs : List ByteArray} {g n cp : Nat} {x : ByteArray} {W W' : World} (h : LastI B w k cur xs g n cp x W) (q : UInt8) (hq : q = 0 ∨ q = 39 ∨ q = 34) (x' : ByteArray) (hk : k ≤ k') (hx : x'.size ≤ k')
    (hb : Below B w W') (hown : W'.ownsRow B 9 1 (.slice (some ⟨g, 0, none⟩) (n + 1) cp) (n + 1) (((xs ++ [x]).map Value.string).set n (.string x')))
    (hm : Sp.splitW s.data.toList = Sp.M 0 (some x'.data.toList) q (xs.map fun x => x.data.toList) (s.data.toList.drop k')) : SplitI B s w k' (some x') true q xs (n + 1) (.slice (some ⟨g, 0, none⟩) (n + 1) cp) W' := by
  have e : ((xs ++ [x]).map Value.string).set n (.string x') = (xs ++ [x']).map Value.string := by
    rw [List.map_append, List.map_append, h.few]
    simp
  have hl : (xs ++ [x']).length = n + 1 := by rw [List.length_append, h.few]; rfl
  refine ⟨hb, ?_, ?_, ?_, rfl, hq, hm⟩
  · unfold OwnS
    rw [show (some x').toList = [x'] from rfl, hl, ← e]
    exact hown
  · rw [show (some x').toList = [x'] from rfl, hl]
  · intro y hy
    rcases List.mem_append.1 hy with hy | hy
    · have := h.small y (List.mem_append_left _ hy); omega
    · rw [show (some x').toList = [x'] from rfl, List.mem_singleton] at hy; rw [hy]; exact hx
theorem LastI.same {B : Nat} {s : ByteArray} {w : World} {k k' : Nat} {cur : Option ByteArray} {xs : List ByteArray} {g n cp : Nat} {x : ByteArray} {W : World} (h : LastI B w k cur xs g n cp x W) (q : UInt8) (hq : q = 0 ∨ q = 39 ∨ q = 34) (hk : k ≤ k')
    (hm : Sp.splitW s.data.toList = Sp.M 0 (some ((cur.map fun x => x.data.toList).getD [])) q (xs.map fun x => x.data.toList) (s.data.toList.drop k')) : SplitI B s w k' (some x) true q xs (n + 1) (.slice (some ⟨g, 0, none⟩) (n + 1) cp) W := by
  refine h.next q hq x hk (by have := h.small x (by simp); omega) h.below ?_ (by rw [h.word]; exact hm)
  have e : ((xs ++ [x]).map Value.string).set n (.string x) = (xs ++ [x]).map Value.string := by
    rw [List.map_append, h.few]
    simp
  rw [e]
  exact h.own
theorem rescape_none (s : ByteArray) (hx : Sp.escS s.data.toList = none) (hs : s.size ≤ 140737488355328) (w : World) :
    Calls Tryz.prog 42 #[.string s] w fun e w' => e = .returned (.tuple #[.int .u8 0, .int .i64 0]) ∧ ∃ n, w' = w.drewN n := rescape_any s none hx hs w
theorem rescape_some (s : ByteArray) (b : UInt8) (m : Nat) (hx : Sp.escS s.data.toList = some (b, m)) (hs : s.size ≤ 140737488355328) (w : World) :
    Calls Tryz.prog 42 #[.string s] w fun e w' => e = .returned (.tuple #[.int .u8 b.toNat, .int .i64 m]) ∧ ∃ n, w' = w.drewN n := rescape_any s (some (b, m)) hx hs w
theorem LastI.drewN {B : Nat} {w : World} {k : Nat} {cur : Option ByteArray} {xs : List ByteArray} {g n cp : Nat} {x : ByteArray} {W : World} (h : LastI B w k cur xs g n cp x W) (j : Nat) : LastI B w k cur xs g n cp x (W.drewN j) := ⟨belowQ h.below j, h.own, h.few, h.small, h.word⟩
theorem data_app33 (a b : ByteArray) : (a ++ b).data.toList = a.data.toList ++ b.data.toList := by rw [ByteArray.data_append]; simp
theorem conv_one (W : World) (g : Nat) (d : UInt8) (h : W.cell? ⟨g, 0, none⟩ = some (.int .u8 d.toNat)) : (convert 64 9 (.slice (some ⟨g, 0, none⟩) 1 1)).run Tryz.prog W = .ok (.string ⟨#[d]⟩) W := by
  have := run_convert_bytes_arg (P := Tryz.prog) W 64 5 Tryz.underlying64 Tryz.underlying5 g 0 1 1 [(d.toNat : Int)] rfl (fun i hi => by
    obtain rfl : i = 0 := by omega
    exact h) 9 Tryz.underlying9
  rw [this]
  simp [strOfNums]
theorem byte_of (q : UInt8) : ((q.toNat : Int) == 0) = decide (q = 0) := byte_is q 0
theorem byte_two (c q : UInt8) : ((c.toNat : Int) == (q.toNat : Int)) = decide (c = q) := byte_is c q
theorem ext_one (s : ByteArray) (k : Nat) (h : k < s.size) : (s.extract k (k + 1)).data.toList = [s[k]] := by
  rw [Lib.extract_data]
  have h1 : k < s.data.toList.length := by simpa using h
  rw [show k + 1 - k = 1 from by omega, List.drop_eq_getElem_cons h1]
  simp [ByteArray.getElem_eq_getElem_data]
theorem ext_to (s : ByteArray) (k : Nat) : (s.extract k s.size).data.toList = s.data.toList.drop k := by
  rw [Lib.extract_data]
  exact List.take_of_length_le (by rw [List.length_drop]; simp)
theorem blankB (c : UInt8) : Sp.blankC c = (((c.toNat : Int) == 32) || ((c.toNat : Int) == 9)) := by
  rw [show ((c.toNat : Int) == 32) = decide (c = 32) from byte_is c 32, show ((c.toNat : Int) == 9) = decide (c = 9) from byte_is c 9]; rfl
theorem badB (c : UInt8) : Sp.badC c = ((decide ((c.toNat : Int) < 32) && !((c.toNat : Int) == 9)) || ((c.toNat : Int) == 127)) := by
  rw [show ((c.toNat : Int) == 127) = decide (c = 127) from byte_is c 127, show ((c.toNat : Int) == 9) = decide (c = 9) from byte_is c 9, show decide ((c.toNat : Int) < 32) = decide (c.toNat < 32) from decide_eq_decide.2 (by omega)]; rfl

set_option maxHeartbeats 16000000 in
set_option maxRecDepth 100000 in
theorem rsplit_any (s : ByteArray) (w : World) (hs : s.size ≤ 1048576) :
    Calls Tryz.prog 13 #[.string s] w (SplitR s w) := by
  obtain ⟨i0, hi, hz0, hz1, hz2⟩ := info_parts str_info
  obtain ⟨b, hbx⟩ : ∃ b, b = w.heap.size := ⟨_, rfl⟩
  have HC : Hid (w.heap.size = b) := Lib.hid hbx.symm
  have H0 : Hid (SplitI b s w 0 none false 0 [] 0 (.slice none 0 0) w) := Lib.hid ⟨Below.refl _ _, World.ownsRow_nil _ _ _ _, rfl, (fun x hx => by cases hx), rfl, .inl rfl, rfl⟩
  clear hbx
  go_enter Tryz.func13, Tryz.ntmps13
  go_wp2_with fail
  go_loopw [4, 5, 6, 7] (fun ov iv qv kv wr => ∃ (k N cp : Nat) (A : Option Addr) (q : UInt8) (cb : Bool) (cur : Option ByteArray) (xs : List ByteArray), (k ≤ s.size ∧ N ≤ 32) ∧ ov = .slice A N cp ∧ iv = .bool cb ∧ qv = .int .u8 q.toNat ∧ kv = .int .i64 k ∧ Hid (SplitI b s w k cur cb q xs N (.slice A N cp) wr)) (fun _ _ _ kv _ => s.size - (intOf kv).toNat)
  case atStart => exact ⟨0, 0, 0, none, 0, false, none, [], ⟨Nat.zero_le _, by decide⟩, rfl, rfl, rfl, rfl, H0⟩
  case round =>
    obtain ⟨k, N, cp, A, q, cb, cur, xs, ⟨hk, hN⟩, rfl, rfl, rfl, rfl, HI⟩ := hrel
    clear H0
    have x1 : (0 : Int) ≤ (k : Int) := by omega
    by_cases hlt : k < s.size
    · have x2 : (k : Int) < (s.size : Int) := by omega
      have HD : Hid (s.data.toList.drop k = s[k] :: s.data.toList.drop (k + 1)) := Lib.hid (drop_at s k hlt)
      have HX1 : Hid ((s.extract k (k + 1)).data.toList = [s[k]]) := Lib.hid (ext_one s k hlt)
      have HBK := Lib.hid (blankB s[k])
      have HBD := Lib.hid (badB s[k])
      go_upto_region 8 with fail
      generalize s[k] = c at *
      generalize hbk : Sp.blankC c = bk at *
      generalize hbd : Sp.badC c = bd at *
      have HBK2 := Lib.hid hbk
      have HBD2 := Lib.hid hbd
      clear hbk hbd
      go_cut [9] (fun v W => v = .bool bk ∧ W = wr)
      case first =>
        have hb := HBK.out
        cases t32 : ((c.toNat : Int) == 32) with
        | true =>
          rw [t32] at hb
          obtain rfl : bk = true := hb
          go_wp2_with fail
          go_meet
          exact ⟨rfl, rfl⟩
        | false =>
          cases t9 : ((c.toNat : Int) == 9) with
          | true =>
            rw [t32, t9] at hb
            obtain rfl : bk = true := hb
            go_wp2_with fail
            go_meet
            exact ⟨rfl, rfl⟩
          | false =>
            rw [t32, t9] at hb
            obtain rfl : bk = false := hb
            go_wp2_with fail
            go_meet
            exact ⟨rfl, rfl⟩
      case rest =>
        obtain ⟨rfl, rfl⟩ := hcut
        go_upto_region 9 with fail
        go_cut [37] (fun v W => v = .bool bd ∧ W = wc)
        case first =>
          have hb := HBD.out
          by_cases t32 : (c.toNat : Int) < 32
          · cases t9 : ((c.toNat : Int) == 9) with
            | true =>
              have n9 : ((c.toNat : Int) != 9) = false := by rw [bne, t9]; rfl
              cases t127 : ((c.toNat : Int) == 127) with
              | true =>
                rw [decide_eq_true t32, t9, t127] at hb
                obtain rfl : bd = true := hb
                go_wp2_with fail
                go_meet
                exact ⟨rfl, rfl⟩
              | false =>
                rw [decide_eq_true t32, t9, t127] at hb
                obtain rfl : bd = false := hb
                go_wp2_with fail
                go_meet
                exact ⟨rfl, rfl⟩
            | false =>
              have n9 : ((c.toNat : Int) != 9) = true := by rw [bne, t9]; rfl
              rw [decide_eq_true t32, t9] at hb
              obtain rfl : bd = true := hb
              go_wp2_with fail
              go_meet
              exact ⟨rfl, rfl⟩
          · cases t127 : ((c.toNat : Int) == 127) with
            | true =>
              rw [decide_eq_false t32, t127] at hb
              obtain rfl : bd = true := hb
              go_wp2_with fail
              go_meet
              exact ⟨rfl, rfl⟩
            | false =>
              rw [decide_eq_false t32, t127] at hb
              obtain rfl : bd = false := hb
              go_wp2_with fail
              go_meet
              exact ⟨rfl, rfl⟩
        case rest =>
          obtain ⟨rfl, rfl⟩ := hcut
          clear HBK HBD
          cases bd with
          | true =>
            have HE : Hid (Sp.splitW s.data.toList = .error 1) := Lib.hid (by rw [HI.out.m, HD.out, Sp.M_bad _ _ _ _ _ HBD2.out])
            go_wp2
            go_ret2
            unfold SplitR
            rw [HC.out]
            exact ⟨HI.out.below, .inl ⟨1, by decide, HE.out, rfl⟩⟩
          | false =>
            go_upto_region 11 with fail
            obtain ⟨bq, hbq⟩ : ∃ bq, bq = (bk && decide (q = 0)) := ⟨_, rfl⟩
            have HBQ := Lib.hid hbq
            clear hbq
            go_cut [42] (fun v W => v = .bool bq ∧ W = wc)
            case first =>
              have hb := HBQ.out
              cases bk with
              | false =>
                obtain rfl : bq = false := hb
                go_wp2_with fail
                go_meet
                exact ⟨rfl, rfl⟩
              | true =>
                cases t0 : ((q.toNat : Int) == 0) with
                | true =>
                  rw [← byte_of, t0] at hb
                  obtain rfl : bq = true := hb
                  go_wp2_with fail
                  go_meet
                  exact ⟨rfl, rfl⟩
                | false =>
                  rw [← byte_of, t0] at hb
                  obtain rfl : bq = false := hb
                  go_wp2_with fail
                  go_meet
                  exact ⟨rfl, rfl⟩
            case rest =>
              obtain ⟨rfl, rfl⟩ := hcut
              cases bq with
              | true =>
                have hb := HBQ.out
                rw [eq_comm, Bool.and_eq_true, decide_eq_true_eq] at hb
                obtain ⟨rfl, rfl⟩ := hb
                have HM : Hid (SplitI b s w (k + 1) none false 0 (xs ++ cur.toList) N (.slice A N cp) wc) := Lib.hid ⟨HI.out.below, by rw [show (none : Option ByteArray).toList = [] from rfl, List.append_nil]; exact HI.out.own, by rw [show (none : Option ByteArray).toList = [] from rfl, List.append_nil]; exact HI.out.few, (fun x hx => by
                  rw [show (none : Option ByteArray).toList = [] from rfl, List.append_nil] at hx
                  have := HI.out.small x hx; omega), rfl, .inl rfl, by
                  rw [HI.out.m, HD.out, Sp.M_blank _ _ _ _ HBK2.out, List.map_append]
                  cases cur <;> rfl⟩
                clear HI HD HX1 HBK2 HBD2 HBQ
                go_wp2_with fail
                go_roundw
                case rel => exact ⟨k + 1, N, cp, A, 0, false, none, _, ⟨by omega, hN⟩, rfl, rfl, by first | rfl | go_num, by go_num, HM⟩
                case measure => simp [intOf]; omega
              | false =>
                have HBF : Hid (¬ (Sp.blankC c = true ∧ q = 0)) := Lib.hid (fun e => by
                  have hb := HBQ.out
                  rw [← HBK2.out, e.1, e.2] at hb
                  cases hb)
                clear HBQ
                go_upto_region 13 with fail
                obtain ⟨tm, htm⟩ : ∃ tm, tm = (!cb && decide (N = 32)) := ⟨_, rfl⟩
                have HTM := Lib.hid htm
                clear htm
                go_cut [49] (fun v W => v = .bool tm ∧ W = wc)
                case first =>
                  have hb := HTM.out
                  cases cb with
                  | true =>
                    obtain rfl : tm = false := hb
                    go_wp2_with fail
                    go_meet
                    exact ⟨rfl, rfl⟩
                  | false =>
                    cases t0 : ((N : Int) == 32) with
                    | true =>
                      rw [decide_eq_true (show N = 32 by have := eq_of_beq t0; omega)] at hb
                      obtain rfl : tm = true := hb
                      go_wp2_with fail
                      go_meet
                      exact ⟨rfl, rfl⟩
                    | false =>
                      rw [decide_eq_false (show ¬ N = 32 from fun e => by rw [e] at t0; cases t0)] at hb
                      obtain rfl : tm = false := hb
                      go_wp2_with fail
                      go_meet
                      exact ⟨rfl, rfl⟩
                case rest =>
                  obtain ⟨rfl, rfl⟩ := hcut
                  cases tm with
                  | true =>
                    have hb := HTM.out
                    rw [eq_comm, Bool.and_eq_true, decide_eq_true_eq, Bool.not_eq_true'] at hb
                    have hcn : cur = none := by
                      have := HI.out.isb
                      rw [hb.1] at this
                      cases cur with
                      | none => rfl
                      | some _ => cases this
                    have hx32 : (xs.map fun x => x.data.toList).length = 32 := by
                      have := HI.out.few
                      rw [hcn, show (none : Option ByteArray).toList = [] from rfl, List.append_nil] at this
                      rw [List.length_map]; omega
                    have HE : Hid (Sp.splitW s.data.toList = .error (Sp.wrongE c (s.data.toList.drop (k + 1)))) := Lib.hid (by
                      have hbl : ¬ (Sp.blankC c = true ∧ q = 0) := HBF.out
                      rw [HI.out.m, HD.out, hcn, Sp.M_cons, if_neg (by rw [HBD2.out]; decide), if_neg hbl, if_pos ⟨rfl, hx32⟩])
                    have HNE : Hid (Sp.wrongE c (s.data.toList.drop (k + 1)) ≠ 0) := Lib.hid (by unfold Sp.wrongE; split <;> decide)
                    have HWR := Lib.hid (rwrong_any (s.extract k s.size) c (s.data.toList.drop (k + 1)) (by rw [ext_to, HD.out]) (by rw [ByteArray.size_extract]; omega) wc)
                    have x3 : (k : Int) ≤ (s.size : Int) := by omega
                    have hcf : cb = false := hb.1
                    clear hb hcn hx32 HTM
                    subst hcf
                    generalize Sp.wrongE c (s.data.toList.drop (k + 1)) = e0 at *
                    have HB := Lib.hid (fun n => belowQ HI.out.below n)
                    clear HI HD HX1 HBK2 HBD2 HBF
                    go_wp2_with fail
                    refine HWR.out.mono ?_
                    rintro e w' ⟨rfl, n, rfl⟩
                    go_wp2
                    go_ret2
                    unfold SplitR
                    rw [HC.out]
                    exact ⟨HB.out n, .inl ⟨e0, HNE.out, HE.out, rfl⟩⟩
                  | false =>
                    have HRM : Hid (Sp.Room (cur.map fun x => x.data.toList) (xs.map fun x => x.data.toList)) := Lib.hid (fun e => by
                      have hb := HTM.out
                      have hcn : cur = none := by
                        cases cur with
                        | none => rfl
                        | some _ => cases e.1
                      have hf := HI.out.few
                      have hi := HI.out.isb
                      rw [hcn, show (none : Option ByteArray).toList = [] from rfl, List.append_nil] at hf
                      have e2 := e.2
                      rw [List.length_map] at e2
                      rw [hi, hcn, hf, e2] at hb
                      cases hb)
                    have hxn : xs.length ≤ 31 := by
                      have hf := HI.out.few
                      rw [List.length_append] at hf
                      rcases Nat.lt_or_ge xs.length 32 with h | h
                      · omega
                      · have : cur = none := by
                          cases cur with
                          | none => rfl
                          | some _ => simp at hf; omega
                        refine absurd ⟨by rw [this]; rfl, by rw [List.length_map]; omega⟩ HRM.out
                    clear HTM
                    obtain ⟨n, hn⟩ : ∃ n, n = xs.length := ⟨_, rfl⟩
                    have hn31 : n ≤ 31 := by omega
                    have HN := Lib.hid hn
                    clear hn hxn
                    go_upto_if 55 with fail
                    generalize hcbb : (!cb) = cbb
                    have HCB := Lib.hid hcbb
                    clear hcbb
                    go_cut [4, 5] (fun ov iv W => LastV b w k cur xs n ov iv W)
                    case first =>
                      cases cbb with
                      | true =>
                        have hcn : cur = none := by
                          have h1 := HI.out.isb
                          have h2 := HCB.out
                          rw [h1] at h2
                          cases cur with
                          | none => rfl
                          | some _ => cases h2
                        subst hcn
                        have hNn : N = n := by have h1 := HI.out.few; have h2 := HN.out; rw [show (none : Option ByteArray).toList = [] from rfl, List.append_nil] at h1; omega
                        subst hNn
                        have hown := HI.out.own
                        unfold OwnS at hown
                        rw [← HI.out.few, show (none : Option ByteArray).toList = [] from rfl, List.append_nil] at hown
                        have HO := Lib.hid hown
                        have HSM := Lib.hid (HI.out.small)
                        have HB := Lib.hid (HI.out.below)
                        have hsz : b ≤ wc.heap.size := by have := HI.out.below.size; rw [HC.out] at this; exact this
                        clear hown HI HCB
                        go_wp2_with (at_builtin; refine wpList_append_own _ rfl _ _ 23 rfl b 9 i0 (.string ⟨#[]⟩) 1 16 Tryz.underlying23 hi hz0 hz1 hz2 rfl (by decide) _ _ _ rfl (World.ownsRow.alloc HO.out _) ⟨wc.heap.size, 0, none⟩ 1 1 [.string ⟨#[]⟩] rfl rfl (cell_one_new _ _ _) (by simp [Value.oneCell']) (by simp only [maxLen]; omega) (by omega) (by simp; omega) ?_)
                        intro v9 w9 hown9 hgrow9 _
                        have HB9 := Lib.hid ((HB.out.alloc hsz (.cells #[.string ⟨#[]⟩] 9)).grown hgrow9 (by simp; omega) (fun k hk => ((World.ownsRow.alloc HO.out (.cells #[.string ⟨#[]⟩] 9)).lt k hk).1))
                        have HO9 := Lib.hid hown9
                        obtain ⟨g9, cp9, rfl⟩ : ∃ g cp, v9 = .slice (some ⟨g, 0, none⟩) (N + 1) cp := by
                          rcases hown9.2 with ⟨_, h⟩ | ⟨g, cp, cur, h, _⟩
                          · omega
                          · exact ⟨g, cp, h⟩
                        clear hown9 hgrow9
                        go_wp2_with fail
                        go_meet
                        exact ⟨g9, cp9, ⟨#[]⟩, rfl, rfl, Lib.hid ⟨HB9.out, by rw [List.map_append]; exact HO9.out, HN.out, (fun y hy => by
                          rcases List.mem_append.1 hy with hy | hy
                          · exact HSM.out y (List.mem_append_left _ hy)
                          · rw [List.mem_singleton] at hy; rw [hy]; exact Nat.zero_le _), rfl⟩⟩
                      | false =>
                        obtain ⟨x, hcx⟩ : ∃ x, cur = some x := by
                          have h1 := HI.out.isb
                          have h2 := HCB.out
                          rw [h1] at h2
                          cases cur with
                          | none => cases h2
                          | some x => exact ⟨x, rfl⟩
                        subst hcx
                        have hNn : N = n + 1 := by have h1 := HI.out.few; have h2 := HN.out; rw [List.length_append] at h1; rw [h1, h2]; rfl
                        subst hNn
                        have hown := HI.out.own
                        unfold OwnS at hown
                        rw [← HI.out.few] at hown
                        obtain ⟨g9, hA⟩ : ∃ g, A = some ⟨g, 0, none⟩ := by
                          rcases hown.2 with ⟨_, h⟩ | ⟨g, cp, cur, h, _⟩
                          · omega
                          · injection h with h _ _; exact ⟨g, h⟩
                        subst hA
                        have hcbt : cb = true := HI.out.isb
                        subst hcbt
                        have HO := Lib.hid hown
                        clear hown
                        go_wp2_with fail
                        go_meet
                        exact ⟨g9, cp, x, rfl, rfl, Lib.hid ⟨HI.out.below, HO.out, HN.out, HI.out.small, rfl⟩⟩
                    case rest =>
                      obtain ⟨g, cp9, x, rfl, rfl, HL⟩ := hcut
                      have HSG := Lib.hid HI.out.sign
                      have HM := Lib.hid HI.out.m
                      clear HI HCB
                      have c0 := HL.out.cell
                      have z0 := HL.out.frozen
                      have hgl := HL.out.lt
                      have hxs : x.size ≤ k := HL.out.small x (by simp)
                      have y1 : (0 : Int) ≤ (n : Int) := by omega
                      have y2 : (n : Int) < ((n + 1 : Nat) : Int) := by omega
                      have y3 : IntKind.i64.wrap (((n + 1 : Nat) : Int) - 1) = (n : Int) := by rw [IntKind.wrap_i64]; omega
                      clear hN
                      go_upto_region 20 with fail
                      have z1 : (0 : Int) ≤ (k : Int) + 1 := by omega
                      have z2 : (k : Int) + 1 ≤ (s.size : Int) := by omega
                      have z3 : (k : Int) ≤ (k : Int) + 1 := by omega
                      have x3 : (k : Int) ≤ (s.size : Int) := by omega
                      by_cases g92 : c = 92
                      · have e92 : ((c.toNat : Int) == 92) = true := (byte_is c 92).trans (decide_eq_true g92)
                        cases hx : Sp.escS (s.data.toList.drop (k + 1)) with
                        | none =>
                          have HE : Hid (Sp.splitW s.data.toList = .error 13) := Lib.hid (by
                            rw [HM.out, HD.out, g92, Sp.M_cons, if_neg (by decide), if_neg (fun e => absurd e.1 (by decide)), if_neg HRM.out, if_pos rfl, hx])
                          have HX := Lib.hid (rescape_none (s.extract (k + 1) s.size) (by rw [ext_to, hx]) (by rw [ByteArray.size_extract]; omega) wc)
                          have HB := Lib.hid (fun n => belowQ HL.out.below n)
                          clear hx g92 HM HD HL c0 z0 HBF HBK2 HBD2 HX1 HRM
                          go_wp2_with fail
                          refine HX.out.mono ?_
                          rintro e w' ⟨rfl, n', rfl⟩
                          go_wp2
                          go_ret2
                          unfold SplitR
                          rw [HC.out]
                          exact ⟨HB.out n', .inl ⟨13, by decide, HE.out, rfl⟩⟩
                        | some y =>
                          obtain ⟨d, m⟩ := y
                          have hm := Sp.esc_len _ d m hx
                          have hm2 : m ≤ s.size - (k + 1) := by have := hm.2; rw [List.length_drop] at this; simpa using this
                          have f0 : ((m : Int) == 0) = false := by simp; omega
                          have HE : Hid (Sp.splitW s.data.toList = Sp.M 0 (some ((cur.map fun x => x.data.toList).getD [] ++ [d])) q (xs.map fun x => x.data.toList) (s.data.toList.drop (k + m + 1))) := Lib.hid (by
                            rw [HM.out, HD.out, g92, Sp.M_esc _ _ _ _ HRM.out d m hx, List.drop_drop]
                            congr 2; omega)
                          have HX := Lib.hid (rescape_some (s.extract (k + 1) s.size) d m (by rw [ext_to, hx]) (by rw [ByteArray.size_extract]; omega) wc)
                          clear hx g92 hm HM HD HBF HBK2 HBD2 HX1 HRM c0 z0 hgl
                          go_wp2_with fail
                          refine HX.out.mono ?_
                          rintro e w4' ⟨rfl, n', rfl⟩
                          have HL4 := Lib.hid (HL.out.drewN n')
                          clear HL HX
                          generalize wc.drewN n' = w4 at *
                          have c0 := HL4.out.cell
                          have z0 := HL4.out.frozen
                          have hgl := HL4.out.lt
                          have c1 : (w4.alloc (.cells #[.int .u8 d.toNat] 5)).cell? ⟨g, n, none⟩ = some (.string x) := (World.cell?_alloc_lt w4 _ _ hgl).trans c0
                          have z4 : (w4.alloc (.cells #[.int .u8 d.toNat] 5)).frozen? ⟨g, n, none⟩ = false := ((Below.refl w4.heap.size w4).alloc (Nat.le_refl _) (.cells #[.int .u8 d.toNat] 5)).frozen (p := ⟨g, n, none⟩) hgl |>.trans z0
                          have k1 := conv_one (w4.alloc (.cells #[.int .u8 d.toNat] 5)) w4.heap.size d (by rw [Lib.cell_of_heap Array.getElem?_push_size]; rfl)
                          have k2 := conv_one (w4.alloc (.cells #[.int .u8 d.toNat] 5)).drew w4.heap.size d (by show (w4.alloc _).cell? _ = _; rw [Lib.cell_of_heap Array.getElem?_push_size]; rfl)
                          have HST : Hid (∀ x' : ByteArray, Below b w (((w4.setCell ⟨g, n, none⟩ (.string x')).alloc (.cells #[.int .u8 d.toNat] 5)).drew) ∧ (((w4.setCell ⟨g, n, none⟩ (.string x')).alloc (.cells #[.int .u8 d.toNat] 5)).drew).ownsRow b 9 1 (.slice (some ⟨g, 0, none⟩) (n + 1) cp9) (n + 1) (((xs ++ [x]).map Value.string).set n (.string x'))) := Lib.hid (fun x' => ⟨((HL4.out.below.setCell (p := ⟨g, n, none⟩) (HL4.out.own.lt g rfl).1 _).alloc (by have := HL4.out.below.size; rw [HC.out] at this; simpa using this) _).drew, ((HL4.out.own.stored n (.string x')).1.alloc _)⟩)
                          have HI : Hid (SplitI b s w (k + m + 1) (some (x ++ ⟨#[d]⟩)) true q xs (n + 1) (.slice (some ⟨g, 0, none⟩) (n + 1) cp9) (((w4.setCell ⟨g, n, none⟩ (.string (x ++ ⟨#[d]⟩))).alloc (.cells #[.int .u8 d.toNat] 5)).drew)) := Lib.hid (HL4.out.next q HSG.out (x ++ ⟨#[d]⟩) (by omega) (by rw [ByteArray.size_append]; have : (⟨#[d]⟩ : ByteArray).size = 1 := rfl; omega) (HST.out _).1 (HST.out _).2 (by
                            rw [data_app33, HL4.out.word]; exact HE.out))
                          clear HL4 HST HE HN
                          go_wp2
                          go_region
                          clear c0 z0 c1 z4 k1 k2 hgl
                          go_wp2_with fail
                          go_roundw
                          case rel => exact ⟨k + m + 1, n + 1, cp9, some ⟨g, 0, none⟩, q, true, _, _, ⟨by omega, by omega⟩, rfl, rfl, rfl, by go_num, HI⟩
                          case measure => simp [intOf]; omega
                      · have e92 : ((c.toNat : Int) == 92) = false := (byte_is c 92).trans (decide_eq_false g92)
                        have HSTORE : Hid (∀ x' : ByteArray, Below b w (wc.setCell ⟨g, n, none⟩ (.string x')) ∧ (wc.setCell ⟨g, n, none⟩ (.string x')).ownsRow b 9 1 (.slice (some ⟨g, 0, none⟩) (n + 1) cp9) (n + 1) (((xs ++ [x]).map Value.string).set n (.string x'))) := Lib.hid (fun x' => ⟨HL.out.below.setCell (p := ⟨g, n, none⟩) (HL.out.own.lt g rfl).1 _, (HL.out.own.stored n _).1⟩)
                        rcases Decidable.em (q = 0) with hq | hq
                        · have q0 : ((q.toNat : Int) == 0) = true := (byte_of q).trans (decide_eq_true hq)
                          have q1 : ((q.toNat : Int) != 0) = false := by rw [bne, q0]; rfl
                          by_cases hc : c = 39 ∨ c = 34
                          · have HE : Hid (Sp.splitW s.data.toList = Sp.M 0 (some ((cur.map fun x => x.data.toList).getD [])) c (xs.map fun x => x.data.toList) (s.data.toList.drop (k + 1))) := Lib.hid (by
                              rw [HM.out, HD.out, hq, Sp.M_quote _ _ _ _ HRM.out hc])
                            have HI := Lib.hid (HL.out.same c (hc.elim (fun e => .inr (.inl e)) (fun e => .inr (.inr e))) (Nat.le_succ k) HE.out)
                            have hc2 : ((c.toNat : Int) == 39) = true ∨ (((c.toNat : Int) == 39) = false ∧ ((c.toNat : Int) == 34) = true) := by
                              by_cases h39 : c = 39
                              · exact .inl ((byte_is c 39).trans (decide_eq_true h39))
                              · exact .inr ⟨(byte_is c 39).trans (decide_eq_false h39), (byte_is c 34).trans (decide_eq_true (hc.resolve_left h39))⟩
                            clear hc hq HE HM HD HBF HBK2 HBD2 HX1 HRM HL c0 z0 hgl g92 HSTORE HN
                            rcases hc2 with t1 | ⟨t1, t2⟩
                            all_goals
                              go_wp2_with fail
                              go_roundw
                              case rel => exact ⟨k + 1, n + 1, cp9, some ⟨g, 0, none⟩, c, true, _, _, ⟨by omega, by omega⟩, rfl, rfl, rfl, by go_num, HI⟩
                              case measure => simp [intOf]; omega
                          · have HE : Hid (Sp.splitW s.data.toList = Sp.M 0 (some ((cur.map fun x => x.data.toList).getD [] ++ [c])) q (xs.map fun x => x.data.toList) (s.data.toList.drop (k + 1))) := Lib.hid (by
                              rw [HM.out, HD.out, Sp.M_byte _ _ _ _ _ HRM.out HBD2.out g92 (fun h => ⟨by
                                have := HBF.out
                                cases hb : Sp.blankC c with
                                | false => rfl
                                | true => exact absurd ⟨hb, h⟩ this, fun e => hc (.inl e), fun e => hc (.inr e)⟩) (fun h => absurd hq h)])
                            have t1 : ((c.toNat : Int) == 39) = false := (byte_is c 39).trans (decide_eq_false (fun e => hc (.inl e)))
                            have t2 : ((c.toNat : Int) == 34) = false := (byte_is c 34).trans (decide_eq_false (fun e => hc (.inr e)))
                            clear hc hq HM HD HBF HBK2 HBD2 HRM g92 hgl
                            have hx' : (x ++ s.extract k (k + 1)).size ≤ k + 1 := by
                              rw [ByteArray.size_append, ByteArray.size_extract]; omega
                            have HI : Hid (∀ W, Below b w W → W.ownsRow b 9 1 (.slice (some ⟨g, 0, none⟩) (n + 1) cp9) (n + 1) (((xs ++ [x]).map Value.string).set n (.string (x ++ s.extract k (k + 1)))) → SplitI b s w (k + 1) (some (x ++ s.extract k (k + 1))) true q xs (n + 1) (.slice (some ⟨g, 0, none⟩) (n + 1) cp9) W) := Lib.hid (fun W h1 h2 => HL.out.next q HSG.out _ (Nat.le_succ k) hx' h1 h2 (by
                              rw [data_app33, HL.out.word, HX1.out]; exact HE.out))
                            have hsz : (s.extract k (k + 1)).size ≤ 1048576 := by rw [ByteArray.size_extract]; omega
                            clear HE HL HX1 HN hx'
                            go_wp2_with fail
                            go_region
                            go_wp2_with fail
                            go_roundw
                            case rel => exact ⟨k + 1, n + 1, cp9, some ⟨g, 0, none⟩, q, true, _, _, ⟨by omega, by omega⟩, rfl, rfl, rfl, by go_num, Lib.hid (HI.out _ (by first | exact (HSTORE.out _).1 | exact (HSTORE.out _).1.drew) (HSTORE.out _).2)⟩
                            case measure => simp [intOf]; omega
                        · have q0 : ((q.toNat : Int) == 0) = false := (byte_of q).trans (decide_eq_false hq)
                          have q1 : ((q.toNat : Int) != 0) = true := by rw [bne, q0]; rfl
                          by_cases hc : c = q
                          · have HE : Hid (Sp.splitW s.data.toList = Sp.M 0 (some ((cur.map fun x => x.data.toList).getD [])) 0 (xs.map fun x => x.data.toList) (s.data.toList.drop (k + 1))) := Lib.hid (by
                              rw [HM.out, HD.out, hc, Sp.M_close _ _ _ _ HRM.out (HSG.out.resolve_left hq)])
                            have HI := Lib.hid (HL.out.same 0 (.inl rfl) (Nat.le_succ k) HE.out)
                            have t1 : ((c.toNat : Int) == (q.toNat : Int)) = true := (byte_two c q).trans (decide_eq_true hc)
                            clear hc hq HE HM HD HBF HBK2 HBD2 HX1 HRM HL c0 z0 hgl g92 HSTORE HN
                            go_wp2_with fail
                            go_roundw
                            case rel => exact ⟨k + 1, n + 1, cp9, some ⟨g, 0, none⟩, 0, true, _, _, ⟨by omega, by omega⟩, rfl, rfl, rfl, by go_num, HI⟩
                            case measure => simp [intOf]; omega
                          · have HE : Hid (Sp.splitW s.data.toList = Sp.M 0 (some ((cur.map fun x => x.data.toList).getD [] ++ [c])) q (xs.map fun x => x.data.toList) (s.data.toList.drop (k + 1))) := Lib.hid (by
                              rw [HM.out, HD.out, Sp.M_byte _ _ _ _ _ HRM.out HBD2.out g92 (fun h => absurd h hq) (fun _ => hc)])
                            have t1 : ((c.toNat : Int) == (q.toNat : Int)) = false := (byte_two c q).trans (decide_eq_false hc)
                            clear hc hq HM HD HBF HBK2 HBD2 HRM g92 hgl
                            have hx' : (x ++ s.extract k (k + 1)).size ≤ k + 1 := by
                              rw [ByteArray.size_append, ByteArray.size_extract]; omega
                            have HI : Hid (∀ W, Below b w W → W.ownsRow b 9 1 (.slice (some ⟨g, 0, none⟩) (n + 1) cp9) (n + 1) (((xs ++ [x]).map Value.string).set n (.string (x ++ s.extract k (k + 1)))) → SplitI b s w (k + 1) (some (x ++ s.extract k (k + 1))) true q xs (n + 1) (.slice (some ⟨g, 0, none⟩) (n + 1) cp9) W) := Lib.hid (fun W h1 h2 => HL.out.next q HSG.out _ (Nat.le_succ k) hx' h1 h2 (by
                              rw [data_app33, HL.out.word, HX1.out]; exact HE.out))
                            have hsz : (s.extract k (k + 1)).size ≤ 1048576 := by rw [ByteArray.size_extract]; omega
                            clear HE HL HX1 HN hx'
                            go_wp2_with fail
                            go_region
                            go_wp2_with fail
                            go_roundw
                            case rel => exact ⟨k + 1, n + 1, cp9, some ⟨g, 0, none⟩, q, true, _, _, ⟨by omega, by omega⟩, rfl, rfl, rfl, by go_num, Lib.hid (HI.out _ (by first | exact (HSTORE.out _).1 | exact (HSTORE.out _).1.drew) (HSTORE.out _).2)⟩
                            case measure => simp [intOf]; omega
    · have x2 : ¬ (k : Int) < (s.size : Int) := by omega
      have HD : Hid (s.data.toList.drop k = []) := Lib.hid (drop_end s k (by omega))
      have HA : Hid (A = A) := Lib.hid rfl
      rcases Decidable.em (q = 0) with hq | hq
      · have q1 : ((q.toNat : Int) != 0) = false := by rw [bne, byte_of, decide_eq_true hq]; rfl
        have HE : Hid (Sp.splitW s.data.toList = .ok ((xs ++ cur.toList).map fun x => x.data.toList)) := Lib.hid (by
          rw [HI.out.m, HD.out, hq, Sp.M_end, List.map_append]
          cases cur <;> rfl)
        clear hq
        go_wp2_with fail
        go_ret2
        unfold SplitR
        rw [HC.out]
        exact ⟨HI.out.below, .inr ⟨_, xs ++ cur.toList, HE.out, by rw [← HI.out.few]; exact hN, fun x hx => Nat.le_trans (HI.out.small x hx) hk, HI.out.own, rfl⟩⟩
      · have q1 : ((q.toNat : Int) != 0) = true := by rw [bne, byte_of, decide_eq_false hq]; rfl
        have HE : Hid (Sp.splitW s.data.toList = .error 13) := Lib.hid (by
          rw [HI.out.m, HD.out, Sp.M_open _ _ _ hq])
        clear hq
        go_wp2_with fail
        go_ret2
        unfold SplitR
        rw [HC.out]
        exact ⟨HI.out.below, .inl ⟨13, by decide, HE.out, rfl⟩⟩
end

section
open Go.RowKit Go.Shelf

/-- a filter that is being read, in one block, and what was there, in another one; its lists lie behind both -/
structure RWp (bf bs B : Nat) (uv kv : Value) (st : Sp.PS) (w : World) : Prop where
  ord : bf < bs ∧ bs < B ∧ B ≤ w.heap.size
  hb : ∃ T, w.heap[bf]? = some (.cells #[uv, kv, .int .i64 st.f.since, .int .i64 st.f.till, .string st.f.word] T (0, 0))
  hs : ∃ T, w.heap[bs]? = some (.cells #[.bool st.h0, .bool st.h1, .bool st.h2] T (0, 0))
  us : OwnS B uv st.f.units w
  ks : OwnI B kv st.f.kinds w
def RWm (bf bs B : Nat) (st : Sp.PS) (w : World) : Prop := ∃ uv kv, RWp bf bs B uv kv st w
theorem RWp.below {bf bs B : Nat} {uv kv : Value} {st : Sp.PS} {w w' : World} (h : RWp bf bs B uv kv st w) (hb : Below w.heap.size w w') : RWp bf bs B uv kv st w' := by
  obtain ⟨T1, h1⟩ := h.hb
  obtain ⟨T2, h2⟩ := h.hs
  have o := h.ord
  have hz := hb.size
  exact ⟨⟨o.1, o.2.1, by omega⟩, ⟨T1, (hb.block bf (by omega)).trans h1⟩, ⟨T2, (hb.block bs (by omega)).trans h2⟩, h.us.below hb (Nat.le_refl _), h.ks.below hb (Nat.le_refl _)⟩
theorem RWm.below {bf bs B : Nat} {st : Sp.PS} {w w' : World} (h : RWm bf bs B st w) (hb : Below w.heap.size w w') : RWm bf bs B st w' := by
  obtain ⟨uv, kv, h⟩ := h
  exact ⟨uv, kv, h.below hb⟩
theorem OwnS.set33 {B : Nat} {v u : Value} {xs : List ByteArray} {w : World} {b i : Nat} (h : OwnS B v xs w) (hb : b < B) : OwnS B v xs (w.setCell ⟨b, i, none⟩ u) := ownsRow_setCell_below h (a := ⟨b, i, none⟩) hb u
theorem OwnI.set33 {B : Nat} {v u : Value} {xs : List Int} {w : World} {b i : Nat} (h : OwnI B v xs w) (hb : b < B) : OwnI B v xs (w.setCell ⟨b, i, none⟩ u) := ownsRow_setCell_below h (a := ⟨b, i, none⟩) hb u
/-- a field of the filter is another one now -/
theorem RWp.field {bf bs B : Nat} {uv kv uv' kv' : Value} {st st' : Sp.PS} {w : World} (h : RWp bf bs B uv kv st w) (i : Nat) (x : Value) (hu : OwnS B uv' st'.f.units w) (hk : OwnI B kv' st'.f.kinds w) (h0 : st'.h0 = st.h0) (h1 : st'.h1 = st.h1) (h2 : st'.h2 = st.h2)
    (hc : (#[uv, kv, .int .i64 st.f.since, .int .i64 st.f.till, .string st.f.word] : Array Value).setIfInBounds i x = #[uv', kv', .int .i64 st'.f.since, .int .i64 st'.f.till, .string st'.f.word]) : RWp bf bs B uv' kv' st' (w.setCell ⟨bf, i, none⟩ x) := by
  obtain ⟨T1, g1⟩ := h.hb
  obtain ⟨T2, g2⟩ := h.hs
  have o := h.ord
  refine ⟨⟨o.1, o.2.1, by simpa using o.2.2⟩, ⟨T1, ?_⟩, ⟨T2, ?_⟩, hu.set33 (by omega), hk.set33 (by omega)⟩
  · rw [← hc]
    simp [World.setCell, Array.getElem?_modify, g1]
  · rw [Below.heap_setCell _ _ _ _ (by show bs ≠ bf; omega), g2, h0, h1, h2]
/-- one more was there -/
theorem RWp.seen {bf bs B : Nat} {uv kv : Value} {st st' : Sp.PS} {w : World} (h : RWp bf bs B uv kv st w) (i : Nat) (hf : st'.f = st.f)
    (hc : (#[.bool st.h0, .bool st.h1, .bool st.h2] : Array Value).setIfInBounds i (.bool true) = #[.bool st'.h0, .bool st'.h1, .bool st'.h2]) : RWp bf bs B uv kv st' (w.setCell ⟨bs, i, none⟩ (.bool true)) := by
  obtain ⟨T1, g1⟩ := h.hb
  obtain ⟨T2, g2⟩ := h.hs
  have o := h.ord
  refine ⟨⟨o.1, o.2.1, by simpa using o.2.2⟩, ⟨T1, ?_⟩, ⟨T2, ?_⟩, by rw [hf]; exact h.us.set33 (by omega), by rw [hf]; exact h.ks.set33 (by omega)⟩
  · rw [Below.heap_setCell _ _ _ _ (by show bf ≠ bs; omega), g1, hf]
  · rw [← hc]
    simp [World.setCell, Array.getElem?_modify, g2]
theorem RWp.cell {bf bs B : Nat} {uv kv : Value} {st : Sp.PS} {w : World} (h : RWp bf bs B uv kv st w) (j : Nat) (x : Value) (hx : (#[uv, kv, .int .i64 st.f.since, .int .i64 st.f.till, .string st.f.word] : Array Value)[j]? = some x) : w.cell? ⟨bf, j, none⟩ = some x ∧ w.frozen? ⟨bf, j, none⟩ = false := by
  obtain ⟨T1, g1⟩ := h.hb
  exact ⟨(Lib.cell_of_heap g1 j).trans hx, Lib.frozen_of_heap g1 j⟩
theorem RWp.was {bf bs B : Nat} {uv kv : Value} {st : Sp.PS} {w : World} (h : RWp bf bs B uv kv st w) (j : Nat) (x : Value) (hx : (#[.bool st.h0, .bool st.h1, .bool st.h2] : Array Value)[j]? = some x) : w.cell? ⟨bs, j, none⟩ = some x ∧ w.frozen? ⟨bs, j, none⟩ = false := by
  obtain ⟨T1, g1⟩ := h.hs
  exact ⟨(Lib.cell_of_heap g1 j).trans hx, Lib.frozen_of_heap g1 j⟩
/-- what reading a word leaves -/
def RStep (bf bs B : Nat) (o : Except Int Sp.PS) (w : World) (e : Ending) (w' : World) : Prop := Below bf w w' ∧ match o with
  | .error x => e = .returned (.int .i64 x)
  | .ok s => e = .returned (.int .i64 0) ∧ RWm bf bs B s w'

namespace Sp
def lit3 : Nat → ByteArray
  | 0 => ⟨#[115, 105, 110, 99, 101]⟩
  | 1 => ⟨#[117, 110, 116, 105, 108]⟩
  | _ => ⟨#[119, 111, 114, 100]⟩
def whK (K : ByteArray) : Nat → Int
  | 0 => -1
  | k + 1 => if (lit3 k).data.toList = K.data.toList then (k : Int) else whK K k
theorem whK_next (K : ByteArray) (k : Nat) : whK K (k + 1) = if (lit3 k).toList == K.toList then (k : Int) else whK K k := by
  rw [whK, bytes_list, bytes_list]
  by_cases h : (lit3 k).data.toList = K.data.toList
  · rw [if_pos h, if_pos (by simpa using h)]
  · rw [if_neg h, if_neg (by simpa using h)]
def lit7 : Nat → ByteArray
  | 0 => ⟨#[]⟩
  | 1 => ⟨#[115, 97, 105, 100]⟩
  | 2 => ⟨#[115, 116, 97, 116, 101]⟩
  | 3 => ⟨#[106, 111, 98]⟩
  | 4 => ⟨#[99, 111, 110, 110]⟩
  | 5 => ⟨#[116, 105, 109, 101, 114]⟩
  | _ => ⟨#[97, 115, 107]⟩
theorem kind_hit (V : ByteArray) (k : Nat) (h0 : 0 < k) (h7 : k < 7) (h : ((lit7 k).toList == V.toList) = true) : kindP V.data.toList = some (k : Int) := by
  have e : V = lit7 k := (str_same h).symm
  subst e
  have hk : k = 1 ∨ k = 2 ∨ k = 3 ∨ k = 4 ∨ k = 5 ∨ k = 6 := by omega
  rcases hk with rfl | rfl | rfl | rfl | rfl | rfl <;> rfl
theorem kind_miss (V : ByteArray) (h : ∀ j, 0 < j → j < 7 → ((lit7 j).toList == V.toList) = false) : kindP V.data.toList = none := by
  have ne : ∀ j, 0 < j → j < 7 → ¬ V.data.toList = (lit7 j).data.toList := fun j h0 h7 e => by
    have := h j h0 h7
    rw [bytes_list, bytes_list, e] at this
    simp at this
  unfold kindP
  have n1 : ¬ V.data.toList = [115, 97, 105, 100] := ne 1 (by decide) (by decide)
  have n2 : ¬ V.data.toList = [115, 116, 97, 116, 101] := ne 2 (by decide) (by decide)
  have n3 : ¬ V.data.toList = [106, 111, 98] := ne 3 (by decide) (by decide)
  have n4 : ¬ V.data.toList = [99, 111, 110, 110] := ne 4 (by decide) (by decide)
  have n5 : ¬ V.data.toList = [116, 105, 109, 101, 114] := ne 5 (by decide) (by decide)
  have n6 : ¬ V.data.toList = [97, 115, 107] := ne 6 (by decide) (by decide)
  rw [if_neg n1, if_neg n2, if_neg n3, if_neg n4, if_neg n5, if_neg n6]
theorem timeP_num (l : List UInt8) : (timeB (numR 10 l) = true → timeP l = some (numR 10 l)) ∧ (timeB (numR 10 l) = false → timeP l = none) := by
  unfold numR
  cases hn : numS l with
  | none =>
    have : timeP l = none := by unfold timeP; rw [hn]
    constructor
    · intro h
      split at h <;> cases h
    · intro _; exact this
  | some m =>
    have hl : l.length ≤ 10 := (num_some l m hn).2.1
    rw [if_pos hl]
    exact ⟨fun h => timeP_yes hn h, fun h => timeP_no hn h⟩
end Sp
theorem rkinds33_any (w : World) : Calls Tryz.prog 46 #[] w fun e w' => e = .returned (.slice (some ⟨w.heap.size, 0, none⟩) 7 7) ∧ w.alloc (.cells #[.string ⟨#[]⟩, .string ⟨#[115, 97, 105, 100]⟩, .string ⟨#[115, 116, 97, 116, 101]⟩, .string ⟨#[106, 111, 98]⟩, .string ⟨#[99, 111, 110, 110]⟩, .string ⟨#[116, 105, 109, 101, 114]⟩, .string ⟨#[97, 115, 107]⟩] 9) = w' := by
  go_enter Tryz.func46, Tryz.ntmps46
  go_wp2
  go_ret
  exact ⟨by simp, by simp⟩

set_option maxHeartbeats 16000000 in
set_option maxRecDepth 100000 in
theorem rword_any (bf bs B : Nat) (st : Sp.PS) (x : ByteArray) (w : World) (h : RWm bf bs B st w) (hm : Sp.MayF st.f) (hx : x.size ≤ 1048576) :
    Calls Tryz.prog 14 #[.pointer (some ⟨bf, 0, none⟩), .pointer (some ⟨bs, 0, none⟩), .string x] w (RStep bf bs B (Sp.wordP st x.data.toList) w) := by
  obtain ⟨K, hK⟩ : ∃ K, K = Sp.toB (Sp.cutC 61 x.data.toList).1 := ⟨_, rfl⟩
  obtain ⟨V, hV⟩ : ∃ V, V = Sp.toB (Sp.cutC 61 x.data.toList).2.1 := ⟨_, rfl⟩
  obtain ⟨has, hhas⟩ : ∃ b, b = (Sp.cutC 61 x.data.toList).2.2 := ⟨_, rfl⟩
  obtain ⟨o, ho⟩ : ∃ o, o = Sp.wordP st x.data.toList := ⟨_, rfl⟩
  have HO : Hid (o = Sp.stepP st K.data.toList V.data.toList has) := Lib.hid (by rw [ho, Sp.wordP, hK, hV, hhas, Sp.toB_list, Sp.toB_list])
  have HC : Hid (Calls Tryz.prog 43 #[.string x, .int .u8 61] w fun e w' => e = .returned (.tuple #[.string K, .string V, .bool has]) ∧ Below w.heap.size w w') := Lib.hid (by
    have := cut_any' x 61 w (by omega)
    rw [hK, hV, hhas]
    exact this)
  have hVs : V.size ≤ 1048576 := by
    have h1 := cutC_short 61 x.data.toList
    rw [hV, toB_size]
    have h2 : x.data.toList.length = x.size := by simp
    omega
  rw [← ho]
  have HR := Lib.hid (fun W (hW : Below w.heap.size w W) => h.below hW)
  have HBF : Hid (bf ≤ w.heap.size ∧ bf < bs) := Lib.hid (by obtain ⟨uv, kv, h⟩ := h; have := h.ord; omega)
  have HM := Lib.hid hm
  clear h hm hK hV hhas ho hx
  go_enter Tryz.func14, Tryz.ntmps14
  go_wp2_with fail
  refine HC.out.mono ?_
  rintro e w1 ⟨rfl, hb1⟩
  have HB1 := Lib.hid hb1
  clear hb1 HC
  cases has with
  | false =>
    have HE : Hid (o = .error 11) := Lib.hid (by rw [HO.out]; rfl)
    go_wp2
    go_ret
    rw [HE.out]
    exact ⟨HB1.out.mono HBF.out.1, rfl⟩
  | true =>
    have HB2 : Hid (Below w.heap.size w (w1.alloc (.cells #[.string ⟨#[115, 105, 110, 99, 101]⟩, .string ⟨#[117, 110, 116, 105, 108]⟩, .string ⟨#[119, 111, 114, 100]⟩] 9))) := Lib.hid (HB1.out.alloc HB1.out.size _)
    have HCL : Hid (∀ k, k < 3 → (w1.alloc (.cells #[.string ⟨#[115, 105, 110, 99, 101]⟩, .string ⟨#[117, 110, 116, 105, 108]⟩, .string ⟨#[119, 111, 114, 100]⟩] 9)).cell? ⟨w1.heap.size, k, none⟩ = some (.string (Sp.lit3 k))) := Lib.hid (fun k hk => by
      rw [Lib.cell_of_heap (w := w1.alloc (.cells #[.string ⟨#[115, 105, 110, 99, 101]⟩, .string ⟨#[117, 110, 116, 105, 108]⟩, .string ⟨#[119, 111, 114, 100]⟩] 9)) (Array.getElem?_push_size (xs := w1.heap)) k]
      have hc : k = 0 ∨ k = 1 ∨ k = 2 := by omega
      rcases hc with rfl | rfl | rfl <;> rfl)
    go_wp2_with fail
    generalize w1.alloc (.cells #[.string ⟨#[115, 105, 110, 99, 101]⟩, .string ⟨#[117, 110, 116, 105, 108]⟩, .string ⟨#[119, 111, 114, 100]⟩] 9) = w2 at *
    go_loopw [10, 27] (fun wv iv wr => ∃ (k : Nat) (wh : Int), k ≤ 3 ∧ iv = .int .i64 k ∧ wv = .int .i64 wh ∧ w2 = wr ∧ Hid (wh = Sp.whK K k)) (fun _ iv _ => 3 - (intOf iv).toNat)
    case atStart => exact ⟨0, -1, Nat.zero_le _, rfl, rfl, rfl, Lib.hid rfl⟩
    case round =>
      obtain ⟨k, wh, hk, rfl, rfl, rfl, HW⟩ := hrel
      have x1 : (0 : Int) ≤ (k : Int) := by omega
      by_cases hlt : k < 3
      · have x2 : (k : Int) < 3 := by omega
        have c0 := HCL.out k hlt
        have HN : Hid (Sp.whK K (k + 1) = if (Sp.lit3 k).toList == K.toList then (k : Int) else Sp.whK K k) := Lib.hid (Sp.whK_next K k)
        generalize Sp.lit3 k = y at *
        cases t : (y.toList == K.toList) with
        | true =>
          rw [t] at HN
          go_wp2
          go_roundw
          case rel => exact ⟨k + 1, k, by omega, by go_num, rfl, by first | rfl | trivial, Lib.hid HN.out.symm⟩
          case measure => simp [intOf]; omega
        | false =>
          rw [t] at HN
          go_wp2
          go_roundw
          case rel => exact ⟨k + 1, wh, by omega, by go_num, rfl, by first | rfl | trivial, Lib.hid (HW.out.trans HN.out.symm)⟩
          case measure => simp [intOf]; omega
      · have x2 : ¬ (k : Int) < 3 := by omega
        obtain rfl : k = 3 := by omega
        clear HCL x1 hk hlt
        by_cases gU : K.data.toList = Sp.kUnit
        · have tU : (K.toList == [117, 110, 105, 116]) = true := by rw [toL_is, gU]; decide
          obtain rfl : wh = -1 := by
            have e : K = ⟨#[117, 110, 105, 116]⟩ := WideShapes.bytes_inj gU
            rw [HW.out, e]; rfl
          have HE : Hid (o = Sp.stepU st V.data.toList) := Lib.hid (by rw [HO.out, Sp.stepP, if_neg (by decide), if_pos gU])
          clear gU HW HO
          by_cases h45 : V.data.toList = [45]
          · have t45 : (V.toList == [45]) = true := by rw [toL_is]; exact decide_eq_true h45
            have HE : Hid (o = if 16 < (Sp.putB st.f.units ⟨#[]⟩).length then .error 2 else .ok ⟨⟨Sp.putB st.f.units ⟨#[]⟩, st.f.kinds, st.f.since, st.f.till, st.f.word⟩, st.h0, st.h1, st.h2⟩) := Lib.hid (by
              have hx : backW (Sp.toB V.data.toList) = ⟨#[]⟩ := by rw [h45]; unfold Sp.toB; rw [backW, if_pos (by rw [Sp.bytes_list]; rfl)]
              rw [HE.out, Sp.stepU, if_pos (.inl h45), hx])
            clear h45
            obtain ⟨uv, kv, hrw⟩ := HR.out w2 HB2.out
            obtain ⟨UA, uc, rfl⟩ := hrw.us.form
            obtain ⟨c0, z0⟩ := hrw.cell 0 _ rfl
            have HT := Lib.hid (rtext_any B st.f.units _ ⟨#[]⟩ w2 hrw.us hrw.ord.2.2 (by have := HM.out.few; omega))
            have HRW := Lib.hid hrw
            clear hrw
            generalize Sp.putB st.f.units ⟨#[]⟩ = ys at *
            go_wp2_with fail
            refine HT.out.mono ?_
            rintro e w4 ⟨v', rfl, ho4, hb4⟩
            have HRW4 := Lib.hid (HRW.out.below hb4)
            have HB4 := Lib.hid (HB2.out.trans (hb4.mono HB2.out.size))
            obtain ⟨A', c', rfl⟩ := ho4.form
            obtain ⟨d0, y0⟩ := HRW4.out.cell 0 _ rfl
            have HO4 := Lib.hid ho4
            clear c0 z0 hb4 ho4 HRW
            by_cases h16 : 16 < ys.length
            · have t16 : (16 : Int) < (ys.length : Int) := by omega
              have HE2 := Lib.hid (HE.out.trans (if_pos h16))
              clear h16
              go_wp2
              go_ret
              rw [HE2.out]
              exact ⟨HB4.out.mono HBF.out.1, rfl⟩
            · have t16 : ¬ (16 : Int) < (ys.length : Int) := by omega
              have HE2 := Lib.hid (HE.out.trans (if_neg h16))
              have HF := Lib.hid (HRW4.out.field (st' := ⟨⟨ys, st.f.kinds, st.f.since, st.f.till, st.f.word⟩, st.h0, st.h1, st.h2⟩) 0 _ HO4.out HRW4.out.ks rfl rfl rfl rfl)
              have HBW := Lib.hid ((HB4.out.mono HBF.out.1).setCell (p := ⟨bf, 0, none⟩) (Nat.le_refl _) (.slice A' ys.length c'))
              clear h16
              go_wp2
              go_ret
              rw [HE2.out]
              exact ⟨HBW.out, rfl, _, _, HF.out⟩
          · have t45 : (V.toList == [45]) = false := by rw [toL_is]; exact decide_eq_false h45
            have HMY := Lib.hid (rmayL_any V w2)
            cases hmay : Sp.mayL V.data.toList with
            | false =>
              rw [hmay] at HMY
              have HE : Hid (o = .error 12) := Lib.hid (by rw [HE.out, Sp.stepU, if_neg (by rintro (e | e); exact h45 e; rw [hmay] at e; cases e)])
              clear h45 hmay
              go_wp2_with fail
              refine HMY.out.mono ?_
              rintro e w3 ⟨rfl, hb3⟩
              have HB3 := Lib.hid (HB2.out.trans (hb3.mono HB2.out.size))
              clear hb3
              go_wp2
              go_ret
              rw [HE.out]
              exact ⟨HB3.out.mono HBF.out.1, rfl⟩
            | true =>
              rw [hmay] at HMY
              have HE : Hid (o = if 16 < (Sp.putB st.f.units V).length then .error 2 else .ok ⟨⟨Sp.putB st.f.units V, st.f.kinds, st.f.since, st.f.till, st.f.word⟩, st.h0, st.h1, st.h2⟩) := Lib.hid (by
                have hx : backW (Sp.toB V.data.toList) = V := by
                  rw [Sp.toB_of, backW, if_neg]
                  rw [t45]; decide
                rw [HE.out, Sp.stepU, if_pos (.inr hmay), hx])
              clear h45 hmay
              go_wp2_with fail
              refine HMY.out.mono ?_
              rintro e w3 ⟨rfl, hb3⟩
              have HB3 := Lib.hid (HB2.out.trans (hb3.mono HB2.out.size))
              clear hb3
              obtain ⟨uv, kv, hrw⟩ := HR.out w3 HB3.out
              obtain ⟨UA, uc, rfl⟩ := hrw.us.form
              obtain ⟨c0, z0⟩ := hrw.cell 0 _ rfl
              have HT := Lib.hid (rtext_any B st.f.units _ V w3 hrw.us hrw.ord.2.2 (by have := HM.out.few; omega))
              have HRW := Lib.hid hrw
              clear hrw
              generalize Sp.putB st.f.units V = ys at *
              go_wp2_with fail
              refine HT.out.mono ?_
              rintro e w4 ⟨v', rfl, ho4, hb4⟩
              have HRW4 := Lib.hid (HRW.out.below hb4)
              have HB4 := Lib.hid (HB3.out.trans (hb4.mono HB3.out.size))
              obtain ⟨A', c', rfl⟩ := ho4.form
              obtain ⟨d0, y0⟩ := HRW4.out.cell 0 _ rfl
              have HO4 := Lib.hid ho4
              clear c0 z0 hb4 ho4 HRW
              by_cases h16 : 16 < ys.length
              · have t16 : (16 : Int) < (ys.length : Int) := by omega
                have HE2 := Lib.hid (HE.out.trans (if_pos h16))
                clear h16
                go_wp2
                go_ret
                rw [HE2.out]
                exact ⟨HB4.out.mono HBF.out.1, rfl⟩
              · have t16 : ¬ (16 : Int) < (ys.length : Int) := by omega
                have HE2 := Lib.hid (HE.out.trans (if_neg h16))
                have HF := Lib.hid (HRW4.out.field (st' := ⟨⟨ys, st.f.kinds, st.f.since, st.f.till, st.f.word⟩, st.h0, st.h1, st.h2⟩) 0 _ HO4.out HRW4.out.ks rfl rfl rfl rfl)
                have HBW := Lib.hid ((HB4.out.mono HBF.out.1).setCell (p := ⟨bf, 0, none⟩) (Nat.le_refl _) (.slice A' ys.length c'))
                clear h16
                go_wp2
                go_ret
                rw [HE2.out]
                exact ⟨HBW.out, rfl, _, _, HF.out⟩
        by_cases gK : K.data.toList = Sp.kKind
        · have tU : (K.toList == [117, 110, 105, 116]) = false := by rw [toL_is, gK]; decide
          have tK : (K.toList == [107, 105, 110, 100]) = true := by rw [toL_is, gK]; decide
          obtain rfl : wh = -1 := by
            have e : K = ⟨#[107, 105, 110, 100]⟩ := WideShapes.bytes_inj gK
            rw [HW.out, e]; rfl
          have HE : Hid (o = Sp.stepK st V.data.toList) := Lib.hid (by rw [HO.out, Sp.stepP, if_neg (by decide), if_neg gU, if_pos gK])
          clear gU gK HW HO
          have HKI := Lib.hid (rkinds33_any w2)
          have HB3 : Hid (Below w.heap.size w (w2.alloc (.cells #[.string ⟨#[]⟩, .string ⟨#[115, 97, 105, 100]⟩, .string ⟨#[115, 116, 97, 116, 101]⟩, .string ⟨#[106, 111, 98]⟩, .string ⟨#[99, 111, 110, 110]⟩, .string ⟨#[116, 105, 109, 101, 114]⟩, .string ⟨#[97, 115, 107]⟩] 9))) := Lib.hid (HB2.out.alloc HB2.out.size _)
          have HCL : Hid (∀ k, k < 7 → (w2.alloc (.cells #[.string ⟨#[]⟩, .string ⟨#[115, 97, 105, 100]⟩, .string ⟨#[115, 116, 97, 116, 101]⟩, .string ⟨#[106, 111, 98]⟩, .string ⟨#[99, 111, 110, 110]⟩, .string ⟨#[116, 105, 109, 101, 114]⟩, .string ⟨#[97, 115, 107]⟩] 9)).cell? ⟨w2.heap.size, k, none⟩ = some (.string (Sp.lit7 k))) := Lib.hid (fun k hk => by
            rw [Lib.cell_of_heap (w := w2.alloc (.cells #[.string ⟨#[]⟩, .string ⟨#[115, 97, 105, 100]⟩, .string ⟨#[115, 116, 97, 116, 101]⟩, .string ⟨#[106, 111, 98]⟩, .string ⟨#[99, 111, 110, 110]⟩, .string ⟨#[116, 105, 109, 101, 114]⟩, .string ⟨#[97, 115, 107]⟩] 9)) (Array.getElem?_push_size (xs := w2.heap)) k]
            have hc : k = 0 ∨ k = 1 ∨ k = 2 ∨ k = 3 ∨ k = 4 ∨ k = 5 ∨ k = 6 := by omega
            rcases hc with rfl | rfl | rfl | rfl | rfl | rfl | rfl <;> rfl)
          generalize w2.alloc (.cells #[.string ⟨#[]⟩, .string ⟨#[115, 97, 105, 100]⟩, .string ⟨#[115, 116, 97, 116, 101]⟩, .string ⟨#[106, 111, 98]⟩, .string ⟨#[99, 111, 110, 110]⟩, .string ⟨#[116, 105, 109, 101, 114]⟩, .string ⟨#[97, 115, 107]⟩] 9) = w3 at *
          go_wp2_with fail
          refine HKI.out.mono ?_
          rintro e w3 ⟨rfl, rfl⟩
          go_wp2_with fail
          go_loopw [101] (fun iv wr => ∃ k : Nat, k ≤ 7 ∧ iv = .int .i64 k ∧ w3 = wr ∧ Hid (∀ j, 0 < j → j < k → ((Sp.lit7 j).toList == V.toList) = false)) (fun iv _ => 7 - (intOf iv).toNat)
          case atStart => exact ⟨0, Nat.zero_le _, rfl, rfl, Lib.hid (fun j h0 h1 => absurd h1 (by omega))⟩
          case round =>
            obtain ⟨k, hk, rfl, rfl, HNO⟩ := hrel
            have x1 : (0 : Int) ≤ (k : Int) := by omega
            by_cases hlt : k < 7
            · have x3 : (k : Int) < 7 := by omega
              have c0 := HCL.out k hlt
              by_cases hk0 : k = 0
              · subst hk0
                go_wp2
                go_roundw
                case rel => exact ⟨1, by omega, by go_num, by first | rfl | trivial, Lib.hid (fun j h0 h1 => absurd h1 (by omega))⟩
                case measure => simp [intOf]
              · have x4 : (0 : Int) < (k : Int) := by omega
                have HHIT := Lib.hid (Sp.kind_hit V k (by omega) hlt)
                have HNO2 : Hid (((Sp.lit7 k).toList == V.toList) = false → ∀ j, 0 < j → j < k + 1 → ((Sp.lit7 j).toList == V.toList) = false) := Lib.hid (fun h j h0 h1 => by
                  rcases Nat.lt_or_ge j k with h2 | h2
                  · exact HNO.out j h0 h2
                  · rw [show j = k from by omega]; exact h)
                generalize Sp.lit7 k = y at *
                cases t : (y.toList == V.toList) with
                | false =>
                  have HN := Lib.hid (HNO2.out t)
                  clear HNO2 HHIT HNO
                  go_wp2
                  go_roundw
                  case rel => exact ⟨k + 1, by omega, by go_num, by first | rfl | trivial, HN⟩
                  case measure => simp [intOf]; omega
                | true =>
                  have HE2 : Hid (o = .ok ⟨⟨st.f.units, Sp.putI st.f.kinds k, st.f.since, st.f.till, st.f.word⟩, st.h0, st.h1, st.h2⟩) := Lib.hid (by rw [HE.out, Sp.stepK, HHIT.out t])
                  obtain ⟨uv, kv, hrw⟩ := HR.out w3 HB3.out
                  obtain ⟨KA, kc, rfl⟩ := hrw.ks.form
                  obtain ⟨c1, z1⟩ := hrw.cell 1 _ rfl
                  have HT := Lib.hid (rnumber33_any B st.f.kinds _ (k : Int) w3 hrw.ks hrw.ord.2.2 (by have := Sp.kindI_few _ HM.out.rk HM.out.ks; omega))
                  have HRW := Lib.hid hrw
                  clear hrw HNO2 HHIT HNO HE
                  generalize Sp.putI st.f.kinds (k : Int) = ys at *
                  go_wp2_with fail
                  refine HT.out.mono ?_
                  rintro e w4 ⟨v', rfl, ho4, hb4⟩
                  have HRW4 := Lib.hid (HRW.out.below hb4)
                  have HB4 := Lib.hid (HB3.out.trans (hb4.mono HB3.out.size))
                  obtain ⟨d1, y1⟩ := HRW4.out.cell 1 _ rfl
                  have HO4 := Lib.hid ho4
                  obtain ⟨A', c', rfl⟩ := ho4.form
                  have HF := Lib.hid (HRW4.out.field (st' := ⟨⟨st.f.units, ys, st.f.since, st.f.till, st.f.word⟩, st.h0, st.h1, st.h2⟩) 1 _ HRW4.out.us HO4.out rfl rfl rfl rfl)
                  have HBW := Lib.hid ((HB4.out.mono HBF.out.1).setCell (p := ⟨bf, 1, none⟩) (Nat.le_refl _) (.slice A' ys.length c'))
                  clear c1 z1 hb4 ho4 HRW c0
                  go_wp2
                  go_ret
                  rw [HE2.out]
                  exact ⟨HBW.out, rfl, _, _, HF.out⟩
            · have x3 : ¬ (k : Int) < 7 := by omega
              have HE2 : Hid (o = .error 12) := Lib.hid (by rw [HE.out, Sp.stepK, Sp.kind_miss V (fun j h0 h1 => HNO.out j h0 (by omega))])
              go_wp2
              go_ret
              rw [HE2.out]
              exact ⟨HB3.out.mono HBF.out.1, rfl⟩
        have tU : (K.toList == [117, 110, 105, 116]) = false := by rw [toL_is]; exact decide_eq_false gU
        have tK : (K.toList == [107, 105, 110, 100]) = false := by rw [toL_is]; exact decide_eq_false gK
        by_cases gS : K.data.toList = Sp.kSince
        · obtain rfl : wh = 0 := by
            have e : K = ⟨#[115, 105, 110, 99, 101]⟩ := WideShapes.bytes_inj gS
            rw [HW.out, e]; rfl
          have HE : Hid (o = Sp.stepS st V.data.toList) := Lib.hid (by rw [HO.out, Sp.stepP, if_neg (by decide), if_neg gU, if_neg gK, if_pos gS])
          clear gU gK gS HW HO
          obtain ⟨uv, kv, hrw⟩ := HR.out w2 HB2.out
          obtain ⟨s0, z0⟩ := hrw.was 0 _ rfl
          have HRW := Lib.hid hrw
          clear hrw
          cases hh : st.h0 with
          | true =>
            have HE2 : Hid (o = .error 7) := Lib.hid (by rw [HE.out, Sp.stepS, if_pos hh])
            rw [hh] at s0
            clear hh
            go_wp2
            go_ret
            rw [HE2.out]
            exact ⟨HB2.out.mono HBF.out.1, rfl⟩
          | false =>
            have HE := Lib.hid HE.out
            rw [Sp.stepS, if_neg (by rw [hh]; decide)] at HE
            rw [hh] at s0
            have HNU := Lib.hid (rnumber_any V 10 w2 (by decide) (by decide) (by omega))
            have HTP := Lib.hid (Sp.timeP_num V.data.toList)
            obtain ⟨d2, y2⟩ := HRW.out.cell 2 _ rfl
            clear hh
            generalize Sp.numR 10 V.data.toList = n at *
            have HTI := Lib.hid (fun w => rtime_any n w)
            cases ht : timeB n with
            | false =>
              rw [ht] at HTI
              have HE2 : Hid (o = .error 12) := Lib.hid (by rw [HE.out, HTP.out.2 ht])
              clear ht HTP HE
              go_wp2_with fail
              refine HNU.out.mono ?_
              rintro e w' ⟨rfl, rfl⟩
              go_wp2_with fail
              refine (HTI.out _).mono ?_
              rintro e w' ⟨rfl, rfl⟩
              go_wp2
              go_ret
              rw [HE2.out]
              exact ⟨HB2.out.mono HBF.out.1, rfl⟩
            | true =>
              rw [ht] at HTI
              have HE2 : Hid (o = .ok ⟨⟨st.f.units, st.f.kinds, n, st.f.till, st.f.word⟩, true, st.h1, st.h2⟩) := Lib.hid (by rw [HE.out, HTP.out.1 ht])
              have HF := Lib.hid (HRW.out.field (st' := ⟨⟨st.f.units, st.f.kinds, n, st.f.till, st.f.word⟩, st.h0, st.h1, st.h2⟩) 2 (.int .i64 n) HRW.out.us HRW.out.ks rfl rfl rfl rfl)
              have HF2 := Lib.hid (HF.out.seen (st' := ⟨⟨st.f.units, st.f.kinds, n, st.f.till, st.f.word⟩, true, st.h1, st.h2⟩) 0 rfl rfl)
              have HBW := Lib.hid (((HB2.out.mono HBF.out.1).setCell (p := ⟨bf, 2, none⟩) (Nat.le_refl _) (.int .i64 n)).setCell (p := ⟨bs, 0, none⟩) (Nat.le_of_lt HBF.out.2) (.bool true))
              obtain ⟨s1, z1⟩ := HF.out.was 0 _ rfl
              clear ht HTP HE
              go_wp2_with fail
              refine HNU.out.mono ?_
              rintro e w' ⟨rfl, rfl⟩
              go_wp2_with fail
              refine (HTI.out _).mono ?_
              rintro e w' ⟨rfl, rfl⟩
              go_wp2
              go_ret
              rw [HE2.out]
              exact ⟨HBW.out, rfl, _, _, HF2.out⟩
        by_cases gT : K.data.toList = Sp.kUntil
        · obtain rfl : wh = 1 := by
            have e : K = ⟨#[117, 110, 116, 105, 108]⟩ := WideShapes.bytes_inj gT
            rw [HW.out, e]; rfl
          have HE : Hid (o = Sp.stepT st V.data.toList) := Lib.hid (by rw [HO.out, Sp.stepP, if_neg (by decide), if_neg gU, if_neg gK, if_neg gS, if_pos gT])
          clear gU gK gS gT HW HO
          obtain ⟨uv, kv, hrw⟩ := HR.out w2 HB2.out
          obtain ⟨s0, z0⟩ := hrw.was 1 _ rfl
          have HRW := Lib.hid hrw
          clear hrw
          cases hh : st.h1 with
          | true =>
            have HE2 : Hid (o = .error 7) := Lib.hid (by rw [HE.out, Sp.stepT, if_pos hh])
            rw [hh] at s0
            clear hh
            go_wp2
            go_ret
            rw [HE2.out]
            exact ⟨HB2.out.mono HBF.out.1, rfl⟩
          | false =>
            have HE := Lib.hid HE.out
            rw [Sp.stepT, if_neg (by rw [hh]; decide)] at HE
            rw [hh] at s0
            have HNU := Lib.hid (rnumber_any V 10 w2 (by decide) (by decide) (by omega))
            have HTP := Lib.hid (Sp.timeP_num V.data.toList)
            obtain ⟨d2, y2⟩ := HRW.out.cell 3 _ rfl
            clear hh
            generalize Sp.numR 10 V.data.toList = n at *
            have HTI := Lib.hid (fun w => rtime_any n w)
            cases ht : timeB n with
            | false =>
              rw [ht] at HTI
              have HE2 : Hid (o = .error 12) := Lib.hid (by rw [HE.out, HTP.out.2 ht])
              clear ht HTP HE
              go_wp2_with fail
              refine HNU.out.mono ?_
              rintro e w' ⟨rfl, rfl⟩
              go_wp2_with fail
              refine (HTI.out _).mono ?_
              rintro e w' ⟨rfl, rfl⟩
              go_wp2
              go_ret
              rw [HE2.out]
              exact ⟨HB2.out.mono HBF.out.1, rfl⟩
            | true =>
              rw [ht] at HTI
              have HE2 : Hid (o = .ok ⟨⟨st.f.units, st.f.kinds, st.f.since, n, st.f.word⟩, st.h0, true, st.h2⟩) := Lib.hid (by rw [HE.out, HTP.out.1 ht])
              have HF := Lib.hid (HRW.out.field (st' := ⟨⟨st.f.units, st.f.kinds, st.f.since, n, st.f.word⟩, st.h0, st.h1, st.h2⟩) 3 (.int .i64 n) HRW.out.us HRW.out.ks rfl rfl rfl rfl)
              have HF2 := Lib.hid (HF.out.seen (st' := ⟨⟨st.f.units, st.f.kinds, st.f.since, n, st.f.word⟩, st.h0, true, st.h2⟩) 1 rfl rfl)
              have HBW := Lib.hid (((HB2.out.mono HBF.out.1).setCell (p := ⟨bf, 3, none⟩) (Nat.le_refl _) (.int .i64 n)).setCell (p := ⟨bs, 1, none⟩) (Nat.le_of_lt HBF.out.2) (.bool true))
              obtain ⟨s1, z1⟩ := HF.out.was 1 _ rfl
              clear ht HTP HE
              go_wp2_with fail
              refine HNU.out.mono ?_
              rintro e w' ⟨rfl, rfl⟩
              go_wp2_with fail
              refine (HTI.out _).mono ?_
              rintro e w' ⟨rfl, rfl⟩
              go_wp2
              go_ret
              rw [HE2.out]
              exact ⟨HBW.out, rfl, _, _, HF2.out⟩
        by_cases gW : K.data.toList = Sp.kWord
        · obtain rfl : wh = 2 := by
            have e : K = ⟨#[119, 111, 114, 100]⟩ := WideShapes.bytes_inj gW
            rw [HW.out, e]; rfl
          have HE : Hid (o = Sp.stepW st V.data.toList) := Lib.hid (by rw [HO.out, Sp.stepP, if_neg (by decide), if_neg gU, if_neg gK, if_neg gS, if_neg gT, if_pos gW])
          clear gU gK gS gT gW HW HO
          obtain ⟨uv, kv, hrw⟩ := HR.out w2 HB2.out
          obtain ⟨s0, z0⟩ := hrw.was 2 _ rfl
          have HRW := Lib.hid hrw
          clear hrw
          cases hh : st.h2 with
          | true =>
            have HE2 : Hid (o = .error 7) := Lib.hid (by rw [HE.out, Sp.stepW, if_pos hh])
            rw [hh] at s0
            clear hh
            go_wp2
            go_ret
            rw [HE2.out]
            exact ⟨HB2.out.mono HBF.out.1, rfl⟩
          | false =>
            have HE := Lib.hid HE.out
            rw [Sp.stepW, if_neg (by rw [hh]; decide)] at HE
            rw [hh] at s0
            obtain ⟨d4, y4⟩ := HRW.out.cell 4 _ rfl
            clear hh
            by_cases hv : V.data.toList = []
            · have t0 : (V.toList == []) = true := by rw [toL_is]; exact decide_eq_true hv
              have HE2 : Hid (o = .error 12) := Lib.hid (by rw [HE.out, if_pos (.inl hv)])
              clear hv HE
              go_wp2
              go_ret
              rw [HE2.out]
              exact ⟨HB2.out.mono HBF.out.1, rfl⟩
            · have t0 : (V.toList == []) = false := by rw [toL_is]; exact decide_eq_false hv
              have HPL := Lib.hid (rplainm_any V 100 w2 (by omega))
              have hwb : Sp.wordB (Sp.toB V.data.toList) = (cleanL V.data.toList && decide (V.size ≤ 100)) := by rw [Sp.toB_of]; rfl
              generalize (cleanL V.data.toList && decide (V.size ≤ 100)) = pb at *
              cases pb with
              | false =>
                have HE2 : Hid (o = .error 12) := Lib.hid (by rw [HE.out, if_pos (.inr hwb)])
                clear hv HE hwb
                go_wp2_with fail
                refine HPL.out.mono ?_
                rintro e w' ⟨rfl, rfl⟩
                go_wp2
                go_ret
                rw [HE2.out]
                exact ⟨HB2.out.mono HBF.out.1, rfl⟩
              | true =>
                have HE2 : Hid (o = .ok ⟨⟨st.f.units, st.f.kinds, st.f.since, st.f.till, V⟩, st.h0, st.h1, true⟩) := Lib.hid (by
                  rw [HE.out, if_neg, Sp.toB_of]
                  rintro (e | e)
                  · exact hv e
                  · rw [hwb] at e; cases e)
                have HF := Lib.hid (HRW.out.field (st' := ⟨⟨st.f.units, st.f.kinds, st.f.since, st.f.till, V⟩, st.h0, st.h1, st.h2⟩) 4 (.string V) HRW.out.us HRW.out.ks rfl rfl rfl rfl)
                have HF2 := Lib.hid (HF.out.seen (st' := ⟨⟨st.f.units, st.f.kinds, st.f.since, st.f.till, V⟩, st.h0, st.h1, true⟩) 2 rfl rfl)
                have HBW := Lib.hid (((HB2.out.mono HBF.out.1).setCell (p := ⟨bf, 4, none⟩) (Nat.le_refl _) (.string V)).setCell (p := ⟨bs, 2, none⟩) (Nat.le_of_lt HBF.out.2) (.bool true))
                obtain ⟨s1, z1⟩ := HF.out.was 2 _ rfl
                clear hv HE hwb
                go_wp2_with fail
                refine HPL.out.mono ?_
                rintro e w' ⟨rfl, rfl⟩
                go_wp2
                go_ret
                rw [HE2.out]
                exact ⟨HBW.out, rfl, _, _, HF2.out⟩
        · obtain rfl : wh = -1 := by
            rw [HW.out, Sp.whK, if_neg (fun e => gW e.symm), Sp.whK, if_neg (fun e => gT e.symm), Sp.whK, if_neg (fun e => gS e.symm), Sp.whK]
          have HE : Hid (o = .error 11) := Lib.hid (by rw [HO.out, Sp.stepP, if_neg (by decide), if_neg gU, if_neg gK, if_neg gS, if_neg gT, if_neg gW])
          clear gU gK gS gT gW HW HO
          go_wp2
          go_ret
          rw [HE.out]
          exact ⟨HB2.out.mono HBF.out.1, rfl⟩
end

section
open Go.RowKit Go.Shelf

theorem rparse_res {tmps : Array Value} {W : World} {b : Nat} {x0 x1 x2 x3 x4 : Value} {k : Int} (hc : RB W b x0 x1 x2 x3 x4) (h2 : tmps.getD 2 undef = .pointer (some ⟨b, 0, none⟩)) (h3 : tmps.getD 3 undef = .int .i64 k) :
    (results Tryz.f6 tmps).run Tryz.prog W = .ok (.tuple #[.agg #[x0, x1, x2, x3, x4], .int .i64 k]) W := by
  rw [results_cell_tmp (p := 2) (u := 3) (ty := 26) rfl, h2, h3]
  have c0 := hc.c0
  have c1 := hc.c1
  have c2 := hc.c2
  have c3 := hc.c3
  have c4 := hc.c4
  simp [go_sem, c0, c1, c2, c3, c4]
theorem RWp.new (w : World) (T1 T2 : TypeId) : RWp w.heap.size (w.heap.size + 1) (w.heap.size + 2) (.slice none 0 0) (.slice none 0 0) ⟨Sp.firstF, false, false, false⟩ ((w.alloc (.cells #[.slice none 0 0, .slice none 0 0, .int .i64 0, .int .i64 6311433599, .string ⟨#[]⟩] T1)).alloc (.cells #[.bool false, .bool false, .bool false] T2)) := by
  have e1 : ((w.alloc (.cells #[.slice none 0 0, .slice none 0 0, .int .i64 0, .int .i64 6311433599, .string ⟨#[]⟩] T1)).alloc (.cells #[.bool false, .bool false, .bool false] T2)).heap[w.heap.size + 1]? = some (.cells #[.bool false, .bool false, .bool false] T2 (0, 0)) := by
    have := Array.getElem?_push_size (xs := (w.alloc (.cells #[.slice none 0 0, .slice none 0 0, .int .i64 0, .int .i64 6311433599, .string ⟨#[]⟩] T1)).heap) (x := Obj.cells #[.bool false, .bool false, .bool false] T2 (0, 0))
    rw [show (w.alloc (.cells #[.slice none 0 0, .slice none 0 0, .int .i64 0, .int .i64 6311433599, .string ⟨#[]⟩] T1)).heap.size = w.heap.size + 1 by simp] at this
    exact this
  refine ⟨⟨by omega, by omega, by simp⟩, ⟨T1, ?_⟩, ⟨T2, e1⟩, World.ownsRow_nil _ _ _ _, World.ownsRow_nil _ _ _ _⟩
  exact (Lib.alloc_old (w.alloc (.cells #[.slice none 0 0, .slice none 0 0, .int .i64 0, .int .i64 6311433599, .string ⟨#[]⟩] T1)) _ w.heap.size (by simp)).trans Array.getElem?_push_size
theorem rwm_good {bf bs B : Nat} {st : Sp.PS} {w : World} (h : RWm bf bs B st w) (hm : Sp.MayF st.f) : ∃ UA uc KA kc, RWp bf bs B (.slice UA st.f.units.length uc) (.slice KA st.f.kinds.length kc) st w ∧ FGood st.f UA KA w.heap.size w := by
  obtain ⟨uv, kv, h⟩ := h
  obtain ⟨UA, uc, rfl⟩ := h.us.form
  obtain ⟨KA, kc, rfl⟩ := h.ks.form
  refine ⟨UA, uc, KA, kc, h, ⟨Rd.of_own h.us, Rd.of_own h.ks, by have := hm.few; omega, by have := Sp.kindI_few _ hm.rk hm.ks; omega, fun u hu => ?_, ?_⟩⟩
  · have := unit_small u (List.all_eq_true.1 hm.us u hu)
    omega
  · have hw := hm.w
    unfold Sp.wordB at hw
    rw [Bool.and_eq_true] at hw
    have := of_decide_eq_true hw.2
    omega
set_option maxHeartbeats 16000000 in
set_option maxRecDepth 100000 in
theorem rparse_any (s : ByteArray) (w : World) (hs : s.size ≤ 1048576) :
    Calls Tryz.prog 6 #[.string s] w (ParseR s w) := by
  have hr0 := RB.new w (.slice none 0 0) (.slice none 0 0) (.int .i64 0) (.int .i64 0) (.string ⟨#[]⟩) 26
  have HSP := Lib.hid (rsplit_any s (w.alloc (.cells #[.slice none 0 0, .slice none 0 0, .int .i64 0, .int .i64 0, .string ⟨#[]⟩] 26)) (by omega))
  have hw1 : Below w.heap.size w (w.alloc (.cells #[.slice none 0 0, .slice none 0 0, .int .i64 0, .int .i64 0, .string ⟨#[]⟩] 26)) := (Below.refl _ _).alloc (Nat.le_refl _) _
  have hz1 : w.heap.size < (w.alloc (.cells #[.slice none 0 0, .slice none 0 0, .int .i64 0, .int .i64 0, .string ⟨#[]⟩] 26)).heap.size := by simp
  have HR0 := Lib.hid hr0
  have HW1 := Lib.hid hw1
  have HZ1 := Lib.hid hz1
  clear hr0 hw1 hz1
  generalize hwa : w.alloc (.cells #[.slice none 0 0, .slice none 0 0, .int .i64 0, .int .i64 0, .string ⟨#[]⟩] 26) = wa at *
  have HWA := Lib.hid hwa
  clear hwa
  go_enter Tryz.func6, Tryz.ntmps6
  go_wp2_with fail
  rw [HWA.out]
  refine HSP.out.mono ?_
  rintro e w2 ⟨hb2, hcase⟩
  have HB2 := Lib.hid (HW1.out.trans (hb2.mono HW1.out.size))
  have HR2 := Lib.hid (HR0.out.on HZ1.out hb2)
  have HZ2 : Hid (w.heap.size < w2.heap.size) := Lib.hid (Nat.lt_of_lt_of_le HZ1.out hb2.size)
  clear hb2
  rcases hcase with ⟨e0, hne, hsp, rfl⟩ | ⟨v, xs, hsp, hx32, hxs, hown, rfl⟩
  · have HP : Hid (Sp.parseF s.data.toList = .error e0) := Lib.hid (by rw [Sp.parseF, hsp])
    have hne0 : (e0 == 0) = false := by simpa using hne
    obtain ⟨r0, r1, r2, r3, r4, z0, z1, z2, z3, z4⟩ := HR2.out
    have HF := Lib.hid (HR2.out.put (.slice none 0 0) (.slice none 0 0) (.int .i64 0) (.int .i64 0) (.string ⟨#[]⟩))
    have HBF := Lib.hid (below_put5 HB2.out (Nat.le_refl _) (.slice none 0 0) (.slice none 0 0) (.int .i64 0) (.int .i64 0) (.string ⟨#[]⟩))
    clear hne hsp
    go_wp2
    refine bodyPost_ret (v := .tuple #[.agg #[.slice none 0 0, .slice none 0 0, .int .i64 0, .int .i64 0, .string ⟨#[]⟩], .int .i64 e0]) (rparse_res HF.out rfl rfl) rfl ?_
    refine ⟨HBF.out, ?_⟩
    rw [HP.out]
    rfl
  · have HP : Hid (Sp.parseF s.data.toList = match Sp.wordsP ⟨Sp.firstF, false, false, false⟩ (xs.map fun x => x.data.toList) with | .error e => .error e | .ok s => .ok s.f) := Lib.hid (by rw [Sp.parseF, hsp]; rfl)
    obtain ⟨A, cp, rfl⟩ := hown.form
    have HO := Lib.hid hown
    have HX := Lib.hid hxs
    have HF3 : Hid (∀ T1 T2, RWm w2.heap.size (w2.heap.size + 1) (w2.heap.size + 2) ⟨Sp.firstF, false, false, false⟩ ((w2.alloc (.cells #[.slice none 0 0, .slice none 0 0, .int .i64 0, .int .i64 6311433599, .string ⟨#[]⟩] T1)).alloc (.cells #[.bool false, .bool false, .bool false] T2)) ∧ Below w2.heap.size w2 ((w2.alloc (.cells #[.slice none 0 0, .slice none 0 0, .int .i64 0, .int .i64 6311433599, .string ⟨#[]⟩] T1)).alloc (.cells #[.bool false, .bool false, .bool false] T2))) := Lib.hid (fun T1 T2 => ⟨⟨_, _, RWp.new w2 T1 T2⟩, ((Below.refl _ _).alloc (Nat.le_refl _) _).alloc (by simp) _⟩)
    clear hsp hown hxs
    have HXO : Hid (0 < xs.length → ∃ g c, A = some ⟨g, 0, none⟩ ∧ c = cp ∧ g < w2.heap.size ∧ ∀ (j : Nat) (x : ByteArray), xs[j]? = some x → w2.cell? ⟨g, j, none⟩ = some (.string x)) := Lib.hid (fun h0 => by
      obtain ⟨g, c, hv, ⟨_, hg⟩, _, hc⟩ := HO.out.cells h0
      injection hv with hA _ hcc
      exact ⟨g, c, hA, hcc.symm, hg, hc⟩)
    go_wp2_with fail
    obtain ⟨hf3, hb3⟩ := HF3.out 26 44
    have HF4 := Lib.hid hf3
    have HB3 := Lib.hid hb3
    clear HF3 hf3 hb3
    generalize (w2.alloc (.cells #[.slice none 0 0, .slice none 0 0, .int .i64 0, .int .i64 6311433599, .string ⟨#[]⟩] 26)).alloc (.cells #[.bool false, .bool false, .bool false] 44) = w3 at *
    go_loopw [23] (fun iv wr => ∃ (k : Nat) (st : Sp.PS), k ≤ xs.length ∧ iv = .int .i64 k ∧ Hid (RWm w2.heap.size (w2.heap.size + 1) (w2.heap.size + 2) st wr) ∧ Hid (Sp.MayF st.f) ∧ Hid (Below w2.heap.size w2 wr) ∧ Hid (Sp.wordsP ⟨Sp.firstF, false, false, false⟩ (xs.map fun x => x.data.toList) = Sp.wordsP st ((xs.drop k).map fun x => x.data.toList))) (fun iv _ => xs.length - (intOf iv).toNat)
    case atStart => exact ⟨0, ⟨Sp.firstF, false, false, false⟩, Nat.zero_le _, rfl, HF4, Lib.hid Sp.first_may, HB3, Lib.hid rfl⟩
    case round =>
      clear HF4 HB3
      obtain ⟨k, st, hk, rfl, HF, HM, HB, HW⟩ := hrel
      have HRR := Lib.hid (HR2.out.on HZ2.out HB.out)
      have HBB := Lib.hid (HB2.out.trans (HB.out.mono (Nat.le_of_lt HZ2.out)))
      by_cases hlt : k < xs.length
      · obtain ⟨g, c, hA, hcc, hg, hc⟩ := HXO.out (by omega)
        subst hA
        subst hcc
        have c0 : wr.cell? ⟨g, k, none⟩ = some (.string xs[k]) := (HB.out.cell (p := ⟨g, k, none⟩) hg).trans (hc k _ (List.getElem?_eq_getElem hlt))
        have hxs := HX.out xs[k] (List.getElem_mem hlt)
        have HD : Hid (xs.drop k = xs[k] :: xs.drop (k + 1)) := Lib.hid (List.drop_eq_getElem_cons hlt)
        clear hc
        generalize xs[k] = x at *
        have HWD := Lib.hid (rword_any w2.heap.size (w2.heap.size + 1) (w2.heap.size + 2) st x wr HF.out HM.out (by omega))
        have x1 : (0 : Int) ≤ (k : Int) := by omega
        have x2 : (k : Int) < (xs.length : Int) := by omega
        cases hwp : Sp.wordP st x.data.toList with
        | error e0 =>
          have hne0 : (e0 == 0) = false := by simpa using Sp.stepP_ne _ _ _ _ _ hwp
          have HPE : Hid (Sp.parseF s.data.toList = .error e0) := Lib.hid (by rw [HP.out, HW.out, HD.out, List.map_cons, Sp.wordsP, hwp])
          rw [hwp] at HWD
          clear hwp
          go_wp2_with fail
          refine HWD.out.mono ?_
          rintro e w5 ⟨hb5, rfl⟩
          obtain ⟨r0, r1, r2, r3, r4, z0, z1, z2, z3, z4⟩ := HRR.out.on HZ2.out hb5
          have HFF := Lib.hid ((HRR.out.on HZ2.out hb5).put (.slice none 0 0) (.slice none 0 0) (.int .i64 0) (.int .i64 0) (.string ⟨#[]⟩))
          have HBF := Lib.hid (below_put5 (HBB.out.trans (hb5.mono (Nat.le_of_lt HZ2.out))) (Nat.le_refl _) (.slice none 0 0) (.slice none 0 0) (.int .i64 0) (.int .i64 0) (.string ⟨#[]⟩))
          clear hb5 c0
          go_wp2
          refine bodyPost_ret (v := .tuple #[.agg #[.slice none 0 0, .slice none 0 0, .int .i64 0, .int .i64 0, .string ⟨#[]⟩], .int .i64 e0]) (rparse_res HFF.out rfl rfl) rfl ?_
          refine ⟨HBF.out, ?_⟩
          rw [HPE.out]
          rfl
        | ok st2 =>
          have HM2 : Hid (Sp.MayF st2.f) := Lib.hid (Sp.stepP_may st st2 _ _ _ HM.out hwp)
          have HW2 : Hid (Sp.wordsP ⟨Sp.firstF, false, false, false⟩ (xs.map fun x => x.data.toList) = Sp.wordsP st2 ((xs.drop (k + 1)).map fun x => x.data.toList)) := Lib.hid (by rw [HW.out, HD.out, List.map_cons, Sp.wordsP, hwp])
          rw [hwp] at HWD
          clear hwp
          go_wp2_with fail
          refine HWD.out.mono ?_
          rintro e w5 ⟨hb5, rfl, hf5⟩
          have HB5 := Lib.hid (HB.out.trans hb5)
          have HF5 := Lib.hid hf5
          clear hb5 hf5 c0
          go_wp2
          go_roundw
          case rel => exact ⟨k + 1, st2, by omega, by go_num, HF5, HM2, HB5, HW2⟩
          case measure => simp [intOf]; omega
      · have x2 : ¬ (k : Int) < (xs.length : Int) := by omega
        have HPO : Hid (Sp.parseF s.data.toList = .ok st.f) := Lib.hid (by rw [HP.out, HW.out, List.drop_eq_nil_of_le (by omega), List.map_nil, Sp.wordsP])
        obtain ⟨UA, uc, KA, kc, hrw, hgood⟩ := rwm_good HF.out HM.out
        have d0 := (hrw.cell 0 _ rfl).1
        have d1 := (hrw.cell 1 _ rfl).1
        have d2 := (hrw.cell 2 _ rfl).1
        have d3 := (hrw.cell 3 _ rfl).1
        have d4 := (hrw.cell 4 _ rfl).1
        obtain ⟨r0, r1, r2, r3, r4, z0, z1, z2, z3, z4⟩ := HRR.out
        have HFF := Lib.hid (HRR.out.put (.slice UA st.f.units.length uc) (.slice KA st.f.kinds.length kc) (.int .i64 st.f.since) (.int .i64 st.f.till) (.string st.f.word))
        have HBF := Lib.hid (below_put5 HBB.out (Nat.le_refl _) (.slice UA st.f.units.length uc) (.slice KA st.f.kinds.length kc) (.int .i64 st.f.since) (.int .i64 st.f.till) (.string st.f.word))
        have HGD := Lib.hid hgood
        have HFM := Lib.hid (⟨hrw.us, hrw.ks⟩ : OwnS (w2.heap.size + 2) (.slice UA st.f.units.length uc) st.f.units wr ∧ OwnI (w2.heap.size + 2) (.slice KA st.f.kinds.length kc) st.f.kinds wr)
        clear hrw hgood
        go_wp2
        refine bodyPost_ret (v := .tuple #[.agg #[.slice UA st.f.units.length uc, .slice KA st.f.kinds.length kc, .int .i64 st.f.since, .int .i64 st.f.till, .string st.f.word], .int .i64 0]) (rparse_res HFF.out rfl rfl) rfl ?_
        refine ⟨HBF.out, ?_⟩
        rw [HPO.out]
        refine ⟨UA, uc, KA, kc, rfl, ?_⟩
        exact fgood_put (B := w2.heap.size + 2) HFM.out.1 HFM.out.2 HGD.out (by have := HZ2.out; omega) _ _ _ _ _
end

section
open Go.RowKit Go.Shelf

theorem FGood.zero (w : World) : FGood Sp.zeroF none none w.heap.size w := ⟨Rd.empty, Rd.empty, by decide, by decide, (fun u hu => by cases hu), by decide⟩
set_option maxHeartbeats 16000000 in
set_option maxRecDepth 100000 in
theorem filterreads_any (s : ByteArray) (w : World) (hs : s.size ≤ 1048576) (E : Env w) :
    Calls Tryz.prog 3 #[.string s] w fun e w' => e = .returned (.bool true) ∧ Below w.heap.size w w' := by
  have HSH := Lib.hid (shown_any w E)
  have HA := Lib.hid (fun W (hW : Below w.heap.size w W) => fparse_any s W hs (E.on hW))
  have HB := Lib.hid (fun W => rparse_any s W hs)
  go_enter Tryz.func3, Tryz.ntmps3
  go_wp2_with fail
  refine HSH.out.mono ?_
  rintro e w1 ⟨rfl, hb1⟩
  have HB1 := Lib.hid hb1
  clear hb1 HSH E
  go_wp2_with fail
  refine (HA.out w1 HB1.out).mono ?_
  rintro e w2 ⟨hb2, hc2⟩
  have HB2 := Lib.hid (HB1.out.trans (hb2.mono HB1.out.size))
  clear hb2 HA
  cases hp : Sp.parseF s.data.toList with
  | error x =>
    rw [hp] at hc2
    replace hc2 : e = .returned (.tuple #[.agg #[.slice none 0 0, .slice none 0 0, .int .i64 0, .int .i64 0, .string ⟨#[]⟩], .int .i64 x]) := hc2
    subst hc2
    have HX : Hid (RB (w2.alloc (.cells #[.slice none 0 0, .slice none 0 0, .int .i64 0, .int .i64 0, .string ⟨#[]⟩] 26)) w2.heap.size (.slice none 0 0) (.slice none 0 0) (.int .i64 0) (.int .i64 0) (.string ⟨#[]⟩)) := Lib.hid (RB.new _ _ _ _ _ _ _)
    have HB3 : Hid (Below w.heap.size w (w2.alloc (.cells #[.slice none 0 0, .slice none 0 0, .int .i64 0, .int .i64 0, .string ⟨#[]⟩] 26))) := Lib.hid (HB2.out.alloc HB2.out.size _)
    have HZ : Hid (w2.heap.size < (w2.alloc (.cells #[.slice none 0 0, .slice none 0 0, .int .i64 0, .int .i64 0, .string ⟨#[]⟩] 26)).heap.size) := Lib.hid (by simp)
    have HP := Lib.hid hp
    clear hp
    go_wp2_with fail
    generalize w2.alloc (.cells #[.slice none 0 0, .slice none 0 0, .int .i64 0, .int .i64 0, .string ⟨#[]⟩] 26) = w3 at *
    refine (HB.out w3).mono ?_
    rintro e w4 ⟨hb4, hc4⟩
    rw [HP.out] at hc4
    replace hc4 : e = .returned (.tuple #[.agg #[.slice none 0 0, .slice none 0 0, .int .i64 0, .int .i64 0, .string ⟨#[]⟩], .int .i64 x]) := hc4
    subst hc4
    have HX4 := Lib.hid (HX.out.on HZ.out hb4)
    have HB4 := Lib.hid (HB3.out.trans (hb4.mono HB3.out.size))
    have HZ4 := Lib.hid (Nat.lt_of_lt_of_le HZ.out hb4.size)
    clear hb4 HX HZ HB
    have HY : Hid (RB (w4.alloc (.cells #[.slice none 0 0, .slice none 0 0, .int .i64 0, .int .i64 0, .string ⟨#[]⟩] 26)) w4.heap.size (.slice none 0 0) (.slice none 0 0) (.int .i64 0) (.int .i64 0) (.string ⟨#[]⟩)) := Lib.hid (RB.new _ _ _ _ _ _ _)
    have hb5 : Below w4.heap.size w4 (w4.alloc (.cells #[.slice none 0 0, .slice none 0 0, .int .i64 0, .int .i64 0, .string ⟨#[]⟩] 26)) := (Below.refl _ _).alloc (Nat.le_refl _) _
    have HB5 := Lib.hid (HB4.out.alloc HB4.out.size (.cells #[.slice none 0 0, .slice none 0 0, .int .i64 0, .int .i64 0, .string ⟨#[]⟩] 26))
    have HX5 := Lib.hid (HX4.out.on HZ4.out hb5)
    have HSF := Lib.hid (rsamef_any Sp.zeroF none none none none 0 0 0 0 (w4.alloc (.cells #[.slice none 0 0, .slice none 0 0, .int .i64 0, .int .i64 0, .string ⟨#[]⟩] 26)) (FGood.zero _) (FGood.zero _))
    unfold filtV filtC at HSF
    obtain ⟨c0, c1, c2, c3, c4, _⟩ := HX5.out
    obtain ⟨d0, d1, d2, d3, d4, _⟩ := HY.out
    have t0 : ((x : Int) == x) = true := by simp
    clear hb5 HX4 HZ4
    go_wp2_with fail
    refine HSF.out.mono ?_
    rintro e w6 ⟨rfl, hb6⟩
    have HB6 := Lib.hid (HB5.out.trans (hb6.mono HB5.out.size))
    clear hb6
    go_wp2
    go_ret
    exact ⟨rfl, HB6.out⟩
  | ok f =>
    rw [hp] at hc2
    obtain ⟨UA, uc, KA, kc, he, hg2⟩ := hc2
    replace he : e = .returned (.tuple #[.agg #[.slice UA f.units.length uc, .slice KA f.kinds.length kc, .int .i64 f.since, .int .i64 f.till, .string f.word], .int .i64 0]) := he
    subst he
    have HX : Hid (RB (w2.alloc (.cells #[.slice UA f.units.length uc, .slice KA f.kinds.length kc, .int .i64 f.since, .int .i64 f.till, .string f.word] 26)) w2.heap.size (.slice UA f.units.length uc) (.slice KA f.kinds.length kc) (.int .i64 f.since) (.int .i64 f.till) (.string f.word)) := Lib.hid (RB.new _ _ _ _ _ _ _)
    have HB3 : Hid (Below w.heap.size w (w2.alloc (.cells #[.slice UA f.units.length uc, .slice KA f.kinds.length kc, .int .i64 f.since, .int .i64 f.till, .string f.word] 26))) := Lib.hid (HB2.out.alloc HB2.out.size _)
    have HZ : Hid (w2.heap.size < (w2.alloc (.cells #[.slice UA f.units.length uc, .slice KA f.kinds.length kc, .int .i64 f.since, .int .i64 f.till, .string f.word] 26)).heap.size) := Lib.hid (by simp)
    have HG : Hid (FGood f UA KA (w2.alloc (.cells #[.slice UA f.units.length uc, .slice KA f.kinds.length kc, .int .i64 f.since, .int .i64 f.till, .string f.word] 26)).heap.size (w2.alloc (.cells #[.slice UA f.units.length uc, .slice KA f.kinds.length kc, .int .i64 f.since, .int .i64 f.till, .string f.word] 26))) := Lib.hid ((hg2.on ((Below.refl _ _).alloc (Nat.le_refl _) _)).more (by simp))
    have HP := Lib.hid hp
    clear hp hg2
    go_wp2_with fail
    generalize w2.alloc (.cells #[.slice UA f.units.length uc, .slice KA f.kinds.length kc, .int .i64 f.since, .int .i64 f.till, .string f.word] 26) = w3 at *
    refine (HB.out w3).mono ?_
    rintro e w4 ⟨hb4, hc4⟩
    rw [HP.out] at hc4
    obtain ⟨UA2, uc2, KA2, kc2, he, hg4⟩ := hc4
    replace he : e = .returned (.tuple #[.agg #[.slice UA2 f.units.length uc2, .slice KA2 f.kinds.length kc2, .int .i64 f.since, .int .i64 f.till, .string f.word], .int .i64 0]) := he
    subst he
    have HX4 := Lib.hid (HX.out.on HZ.out hb4)
    have HB4 := Lib.hid (HB3.out.trans (hb4.mono HB3.out.size))
    have HZ4 := Lib.hid (Nat.lt_of_lt_of_le HZ.out hb4.size)
    have HG4 : Hid (FGood f UA KA w4.heap.size w4 ∧ FGood f UA2 KA2 w4.heap.size w4) := Lib.hid ⟨(HG.out.on hb4).more hb4.size, hg4⟩
    clear hb4 hg4 HX HZ HB HG
    have HY : Hid (RB (w4.alloc (.cells #[.slice UA2 f.units.length uc2, .slice KA2 f.kinds.length kc2, .int .i64 f.since, .int .i64 f.till, .string f.word] 26)) w4.heap.size (.slice UA2 f.units.length uc2) (.slice KA2 f.kinds.length kc2) (.int .i64 f.since) (.int .i64 f.till) (.string f.word)) := Lib.hid (RB.new _ _ _ _ _ _ _)
    have hb5 : Below w4.heap.size w4 (w4.alloc (.cells #[.slice UA2 f.units.length uc2, .slice KA2 f.kinds.length kc2, .int .i64 f.since, .int .i64 f.till, .string f.word] 26)) := (Below.refl _ _).alloc (Nat.le_refl _) _
    have HB5 := Lib.hid (HB4.out.alloc HB4.out.size (.cells #[.slice UA2 f.units.length uc2, .slice KA2 f.kinds.length kc2, .int .i64 f.since, .int .i64 f.till, .string f.word] 26))
    have HX5 := Lib.hid (HX4.out.on HZ4.out hb5)
    have HSF := Lib.hid (rsamef_any f UA KA UA2 KA2 uc kc uc2 kc2 (w4.alloc (.cells #[.slice UA2 f.units.length uc2, .slice KA2 f.kinds.length kc2, .int .i64 f.since, .int .i64 f.till, .string f.word] 26)) ((HG4.out.1.on hb5).more hb5.size) ((HG4.out.2.on hb5).more hb5.size))
    unfold filtV filtC at HSF
    obtain ⟨c0, c1, c2, c3, c4, _⟩ := HX5.out
    obtain ⟨d0, d1, d2, d3, d4, _⟩ := HY.out
    have t0 : ((0 : Int) == 0) = true := by simp
    clear hb5 HX4 HZ4
    go_wp2_with fail
    refine HSF.out.mono ?_
    rintro e w6 ⟨rfl, hb6⟩
    have HB6 := Lib.hid (HB5.out.trans (hb6.mono HB5.out.size))
    clear hb6
    go_wp2
    go_ret
    exact ⟨rfl, HB6.out⟩
end

end Go.Proofs.YtijfeeiplljnjaaGreatDoor
