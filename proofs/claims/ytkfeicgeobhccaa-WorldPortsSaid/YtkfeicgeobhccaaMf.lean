/-
  Appending to a slice that has no room: the old cells and the new ones lie in a new row.
-/
import Derived.Test.YtkfeicgeobhccaaMem
import Derived.ArgAppend
namespace Go.Proofs.Ytkfeicgeobhccaa
open Go.RowKit

section
variable {P : Program} (w : World)
theorem run_grow (base : Nat) (t ty e : TypeId) (i : TypeInfo) (z : Value) (size bytes : Nat) (ht : P.underlying t = some (.slice e)) (hi : P.info? e = some i) (hz : i.zero = some z)
    (hsize : i.size = size) (hby : i.bytes = bytes) (hzs : z.cells.size = size) (hsz : 0 < size)
    (A0 : Option Addr) (n c0 B0 : Nat) (olds : List Value) (hA : A0 = none → c0 = 0) (hr0 : Rd w B0 size A0 n olds)
    (B : Nat) (A : Option Addr) (m c : Nat) (news : List Value) (hr : Rd w B size A m news) (hm : 0 < m) (h1 : ∀ u ∈ news, u.oneCell' = true) (hfull : c0 < n + m)
    (h63 : n + m ≤ maxLen) (hbytes : (n + m) * bytes ≤ 140737488355328) (hbase : base ≤ w.heap.size) :
    ∃ v' w', (Builtin.append_ #[t, t] ty #[.slice A0 n c0, .slice A m c]).run P w = .ok v' w' ∧ w'.ownsRow base e size v' (n + m) (olds ++ news) ∧ w.grownBy w' none := by
  obtain ⟨ad, rfl, _, hc⟩ := hr.here hm
  have low : ∀ v' w', World.ownsRow w' w.heap.size e size v' (n + m) (olds ++ news) → World.ownsRow w' base e size v' (n + m) (olds ++ news) := by
    rintro v' w' ⟨h2, h3 | ⟨g, cap, cur, h4, h5, h6⟩⟩
    · exact ⟨h2, .inl h3⟩
    · exact ⟨h2, .inr ⟨g, cap, cur, h4, by omega, h6⟩⟩
  cases A0 with
  | some b =>
    have holds : ∀ j u, olds[j]? = some u → w.cell? (b.add j) = some u := by
      intro j u hu
      rcases Nat.eq_zero_or_pos n with h0 | h0
      · subst h0
        have hn : olds = [] := List.eq_nil_of_length_eq_zero (by simpa using hr0.1)
        subst hn
        simp at hu
      · obtain ⟨ad', h, _, hc⟩ := hr0.2 h0
        injection h with h
        subst h
        exact hc j u hu
    obtain ⟨v', w', hrun, r1, r2⟩ := run_append_arg_grows (P := P) w t ty e i z size bytes ht hi hz hsize hby hzs hsz b n c0 olds hr0.1 holds ad m c news hr.1 hc hfull h63 hbytes
    exact ⟨v', w', hrun, low _ _ r1, r2⟩
  | none =>
    obtain rfl := hA rfl
    have hn0 : n = 0 := by
      rcases Nat.eq_zero_or_pos n with h0 | h0
      · exact h0
      · obtain ⟨ad, h, _⟩ := hr0.2 h0
        cases h
    subst hn0
    obtain rfl : olds = [] := List.eq_nil_of_length_eq_zero (by simpa using hr0.1)
    obtain ⟨v', w', hrun, r1, r2, _⟩ := run_append_own (P := P) w w.heap.size t ty e i z size bytes ht hi hz hsize hby hzs hsz (.slice none 0 0) 0 [] (World.ownsRow_nil w _ e size) ad m c news hr.1 hc h1 h63 hbytes (Nat.le_refl _)
    exact ⟨v', w', hrun, low _ _ r1, r2⟩

theorem wp_grow {o : Oper} {a : Act} {K : Act → World → Prop} {Q : Exit → Act → World → Prop} (s x : Operand) (t : TypeId)
    (ho : o.op = .call { callee := .builtin .append, args := #[s, x], argTypes := #[t, t] })
    (base : Nat) (e : TypeId) (i : TypeInfo) (z : Value) (size bytes : Nat) (ht : P.underlying t = some (.slice e)) (hi : P.info? e = some i) (hz : i.zero = some z)
    (hsize : i.size = size) (hby : i.bytes = bytes) (hzs : z.cells.size = size) (hsz : 0 < size)
    (A0 : Option Addr) (n c0 B0 : Nat) (olds : List Value) (hs : a.eval s = .slice A0 n c0) (hA : A0 = none → c0 = 0) (hr0 : Rd w B0 size A0 n olds)
    (B : Nat) (A : Option Addr) (m c : Nat) (news : List Value) (hx : a.eval x = .slice A m c) (hr : Rd w B size A m news) (hm : 0 < m) (h1 : ∀ u ∈ news, u.oneCell' = true) (hfull : c0 < n + m)
    (h63 : n + m ≤ maxLen) (hbytes : (n + m) * bytes ≤ 140737488355328) (hbase : base ≤ w.heap.size)
    (h : ∀ v' w', w'.ownsRow base e size v' (n + m) (olds ++ news) → w.grownBy w' none → K (a.put o.dst v') w') : o.wp P a w K Q := by
  obtain ⟨v', w', hrun, h2, h3⟩ := run_grow (P := P) w base t o.type e i z size bytes ht hi hz hsize hby hzs hsz A0 n c0 B0 olds hA hr0 B A m c news hr hm h1 hfull h63 hbytes hbase
  unfold Oper.wp execOp
  simp only [ho, resolve, invoke, builtin, Sem.run_bind, Sem.run_pure, Result.andThen_ok, List.map_toArray, List.map_cons, List.map_nil, hs, hx, hrun]
  exact h v' w' h2 h3

theorem wpList_grow {ops : Array Oper} {rest : List Oper} {o : Oper} {a : Act} {Q : Exit → Act → World → Prop} (hgd : o.guard = none) (s x : Operand) (t : TypeId)
    (ho : o.op = .call { callee := .builtin .append, args := #[s, x], argTypes := #[t, t] })
    (base : Nat) (e : TypeId) (i : TypeInfo) (z : Value) (size bytes : Nat) (ht : P.underlying t = some (.slice e)) (hi : P.info? e = some i) (hz : i.zero = some z)
    (hsize : i.size = size) (hby : i.bytes = bytes) (hzs : z.cells.size = size) (hsz : 0 < size)
    (A0 : Option Addr) (n c0 B0 : Nat) (olds : List Value) (hs : a.eval s = .slice A0 n c0) (hA : A0 = none → c0 = 0) (hr0 : Rd w B0 size A0 n olds)
    (B : Nat) (A : Option Addr) (m c : Nat) (news : List Value) (hx : a.eval x = .slice A m c) (hr : Rd w B size A m news) (hm : 0 < m) (h1 : ∀ u ∈ news, u.oneCell' = true) (hfull : c0 < n + m)
    (h63 : n + m ≤ maxLen) (hbytes : (n + m) * bytes ≤ 140737488355328) (hbase : base ≤ w.heap.size)
    (h : ∀ v' w', w'.ownsRow base e size v' (n + m) (olds ++ news) → w.grownBy w' none → wpList P ops Q rest (a.put o.dst v') w') : wpList P ops Q (o :: rest) a w :=
  wpList_plain hgd fun _ hK => wp_grow w s x t ho base e i z size bytes ht hi hz hsize hby hzs hsz A0 n c0 B0 olds hs hA hr0 B A m c news hx hr hm h1 hfull h63 hbytes hbase fun v' w' h2 h3 => hK _ _ (h v' w' h2 h3)

theorem step_grow {ops : Array Oper} {o : Oper} {a : Act} {K : Act → World → Prop} {Q : Exit → Act → World → Prop} {E : Prop} (hgd : o.guard = none) (s x : Operand) (t : TypeId)
    (ho : o.op = .call { callee := .builtin .append, args := #[s, x], argTypes := #[t, t] })
    (base : Nat) (e : TypeId) (i : TypeInfo) (z : Value) (size bytes : Nat) (ht : P.underlying t = some (.slice e)) (hi : P.info? e = some i) (hz : i.zero = some z)
    (hsize : i.size = size) (hby : i.bytes = bytes) (hzs : z.cells.size = size) (hsz : 0 < size)
    (A0 : Option Addr) (n c0 B0 : Nat) (olds : List Value) (hs : a.eval s = .slice A0 n c0) (hA : A0 = none → c0 = 0) (hr0 : Rd w B0 size A0 n olds)
    (B : Nat) (A : Option Addr) (m c : Nat) (news : List Value) (hx : a.eval x = .slice A m c) (hr : Rd w B size A m news) (hm : 0 < m) (h1 : ∀ u ∈ news, u.oneCell' = true) (hfull : c0 < n + m)
    (h63 : n + m ≤ maxLen) (hbytes : (n + m) * bytes ≤ 140737488355328) (hbase : base ≤ w.heap.size)
    (h : ∀ v' w', w'.ownsRow base e size v' (n + m) (olds ++ news) → w.grownBy w' none → K (a.put o.dst v') w') :
    if Region.wanted o (yielded ops a.tmps) = true then Oper.wp P o a w K Q else E := by
  have hw : Region.wanted o (yielded ops a.tmps) = true := by simp [Region.wanted, hgd]
  rw [if_pos hw]
  exact wp_grow w s x t ho base e i z size bytes ht hi hz hsize hby hzs hsz A0 n c0 B0 olds hs hA hr0 B A m c news hx hr hm h1 hfull h63 hbytes hbase h
end

end Go.Proofs.Ytkfeicgeobhccaa
