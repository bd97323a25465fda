/-
  What is found and done, in one form; and what is kept of them.
-/
import Derived.Test.YtkfeicgeobhccaaWv
import Derived.Deep.MidRow
namespace Go.Proofs.Ytkfeicgeobhccaa
open Go.RowKit Go.ChangeShapes Go.WideShapes Go.Deep Go.Joins

/-- cells that lie from an address on -/
def Box (w : World) (b : Nat) (vs : List Value) : Prop := ∀ j u, vs[j]? = some u → w.cell? ⟨b, j, none⟩ = some u
theorem Box.below {w w' : World} {b B : Nat} {vs : List Value} (h : Box w b vs) (hb : Below B w w') (hB : b < B) : Box w' b vs := fun j u hu => (hb.cell (p := ⟨b, j, none⟩) hB).trans (h j u hu)
theorem Box.new (w : World) (vs : Array Value) (t : TypeId) : Box (w.alloc (.cells vs t)) w.heap.size vs.toList := by
  intro j u hu
  rw [Array.getElem?_toList] at hu
  simpa using hu
theorem since_more {W0 W W' : World} (h : Below W0.heap.size W0 W) (hb : Below W.heap.size W W') : Below W0.heap.size W0 W' := h.trans (hb.mono h.size)
theorem step_load_arr {P : Program} {ops : Array Oper} {o : Oper} {a : Act} {w : World} {K : Act → World → Prop} {Q : Exit → Act → World → Prop} {E : Prop} (hw : Region.wanted o (yielded ops a.tmps) = true) (ty : TypeId) (x : Operand) (ho : o.op = .load ty x)
    (b : Nat) (hx : a.eval x = .pointer (some ⟨b, 0, none⟩)) (cs : Array Value) (d : TypeDesc) (hc : Box w b cs.toList)
    (hu : P.underlying ty = some d) (hd : d.isRow = true) (hi : (P.info? ty).map (·.size) = some cs.size)
    (h : K (a.put o.dst (.agg cs)) w) : if Region.wanted o (yielded ops a.tmps) = true then Oper.wp P o a w K Q else E := by
  rw [if_pos hw]
  exact wp_load_mid ty x ho b 0 hx cs.toList d (fun j v hv => by rw [Nat.zero_add]; exact hc j v hv) hu hd (by rw [hi]; simp) (by simpa using h)
/-- what is found, or nothing -/
def foundOr (l : List ActD) (u : ByteArray) (part num att : Int) : ActD := (findAct l u part num att).getD zeroAct
theorem find_uni (aA : Option Addr) (an ac : Nat) (cA : Option Addr) (cn cc : Nat) (kA : Option Addr) (kn kc : Nat) (l : List ActD) (u : ByteArray) (part num att : Int) (w : World) (B : Nat) (h : ActsIn w B aA an l) (hB : B ≤ w.heap.size) :
    Calls Try.prog 13 #[.agg #[.slice aA an ac, .slice cA cn cc, .slice kA kn kc], .string u, .int .i64 part, .int .i64 num, .int .i64 att] w fun e w' => ∃ (A' : Option Addr) (c' : Nat), e = .returned (findE { foundOr l u part num att with sA := A', sc := c' } (findAct l u part num att).isSome) ∧ Rd w' w'.heap.size 2 A' (foundOr l u part num att).sn (sayCells (foundOr l u part num att).says) ∧ Below w.heap.size w w' := by
  refine (find_any aA an ac cA cn cc kA kn kc l u part num att w B h hB).mono ?_
  rintro e w' ⟨hb, hp⟩
  unfold foundOr
  cases hf : findAct l u part num att with
  | none =>
    rw [hf] at hp
    exact ⟨none, 0, hp, Rd.empty, hb⟩
  | some x =>
    rw [hf] at hp
    obtain ⟨A', c', he, hown⟩ := hp
    exact ⟨A', c', he, Rd.of_own hown, hb⟩
theorem rfind_uni (aA : Option Addr) (an ac : Nat) (cA : Option Addr) (cn cc : Nat) (kA : Option Addr) (kn kc : Nat) (l : List ActD) (u : ByteArray) (part num att : Int) (w : World) (B : Nat) (h : Rd w B 9 aA an (actCells l)) (hB : B ≤ w.heap.size) (hn : an ≤ 140737488355328) :
    Calls Try.prog 14 #[.agg #[.slice aA an ac, .slice cA cn cc, .slice kA kn kc], .string u, .int .i64 part, .int .i64 num, .int .i64 att] w fun e w' => e = .returned (findE (foundOr l u part num att) (findAct l u part num att).isSome) ∧ Below w.heap.size w w' := by
  refine (rfind_any aA an ac cA cn cc kA kn kc l u part num att w B h hB hn).mono ?_
  rintro e w' ⟨⟨best, f, rfl, hf⟩, hb⟩
  refine ⟨?_, hb⟩
  unfold foundOr
  by_cases hbs : best < 9
  · rw [hf.found.1 hbs]; simp [hbs]
  · obtain ⟨h1, rfl⟩ := hf.found.2 hbs
    rw [h1]; simp [hbs]
theorem does_uni (aA : Option Addr) (an ac : Nat) (cA : Option Addr) (cn cc : Nat) (kA : Option Addr) (kn kc : Nat) (l : List ActD) (nm : ByteArray) (ty : Int) (u1 u2 u3 u4 u5 u6 u8 u9 u10 u11 u12 u13 u14 u15 u16 u17 u18 u19 u20 u21 u22 u23 u24 u25 u26 u27 u28 u29 u30 u31 u32 u33 u34 : Value) (part num att : Int) (w : World) (B : Nat) (h : ActsIn w B aA an l) (hB : B ≤ w.heap.size) :
    Calls Try.prog 16 #[.agg #[.slice aA an ac, .slice cA cn cc, .slice kA kn kc], .agg #[.string nm, u1, u2, u3, u4, u5, u6, .int .i64 ty, u8, u9, u10, u11, u12, u13, u14, u15, u16, u17, u18, u19, u20, u21, u22, u23, u24, u25, u26, u27, u28, u29, u30, u31, u32, u33, u34], .int .i64 part, .int .i64 num, .int .i64 att] w fun e w' => ∃ (A' : Option Addr) (c' : Nat), e = .returned (actV { doesOf (findAct l nm part num att) nm ty part num att with sA := A', sc := c' }) ∧ Rd w' w'.heap.size 2 A' (doesOf (findAct l nm part num att) nm ty part num att).sn (sayCells (doesOf (findAct l nm part num att) nm ty part num att).says) ∧ Below w.heap.size w w' := by
  refine (does_any aA an ac cA cn cc kA kn kc l nm ty u1 u2 u3 u4 u5 u6 u8 u9 u10 u11 u12 u13 u14 u15 u16 u17 u18 u19 u20 u21 u22 u23 u24 u25 u26 u27 u28 u29 u30 u31 u32 u33 u34 part num att w B h hB).mono ?_
  rintro e w' ⟨hb, hp⟩
  cases hf : findAct l nm part num att with
  | none =>
    rw [hf] at hp
    exact ⟨none, 0, hp, Rd.empty, hb⟩
  | some x =>
    rw [hf] at hp
    obtain ⟨A', c', he, hown⟩ := hp
    exact ⟨A', c', he, Rd.of_own hown, hb⟩
theorem found_mem {l : List ActD} {u : ByteArray} {part num att : Int} {x : ActD} (h : findAct l u part num att = some x) : x ∈ l := by
  unfold findAct firstOf at h
  split at h
  · cases h; exact List.mem_of_find?_eq_some ‹_›
  · split at h
    · cases h; exact List.mem_of_find?_eq_some ‹_›
    · split at h
      · cases h; exact List.mem_of_find?_eq_some ‹_›
      · exact List.mem_of_find?_eq_some h
theorem WorldGood.acts {w : World} {D : WorldD} (h : WorldGood w D) (hs : D.an ≤ 300) : ActsIn w w.heap.size D.aA D.an D.acts := by
  have hr := reach_le
  refine ⟨h.ra, by omega, fun a ha => ⟨(h.ga a ha).1, ?_⟩⟩
  have := (h.ga a ha).2.1
  omega
theorem found_row {w : World} {D : WorldD} (h : WorldGood w D) (u : ByteArray) (part num att : Int) : Rd w w.heap.size 2 (foundOr D.acts u part num att).sA (foundOr D.acts u part num att).sn (sayCells (foundOr D.acts u part num att).says) ∧ (foundOr D.acts u part num att).sn ≤ 140737488355328 := by
  unfold foundOr
  cases hf : findAct D.acts u part num att with
  | none => exact ⟨Rd.empty, Nat.zero_le _⟩
  | some x => exact ⟨(h.ga x (found_mem hf)).1.1, (h.ga x (found_mem hf)).1.2.1⟩
theorem does_row {w : World} {D : WorldD} (h : WorldGood w D) (u : ByteArray) (ty part num att : Int) : Rd w w.heap.size 2 (doesOf (findAct D.acts u part num att) u ty part num att).sA (doesOf (findAct D.acts u part num att) u ty part num att).sn (sayCells (doesOf (findAct D.acts u part num att) u ty part num att).says) ∧ (doesOf (findAct D.acts u part num att) u ty part num att).sn ≤ 140737488355328 := by
  cases hf : findAct D.acts u part num att with
  | none => exact ⟨Rd.empty, Nat.zero_le _⟩
  | some x => exact ⟨(h.ga x (found_mem hf)).1.1, (h.ga x (found_mem hf)).1.2.1⟩
/-- two acts alike but for where their texts lie -/
theorem sameact2_any (a : ActD) (tA : Option Addr) (tc B : Nat) (w : World) (h1 : Rd w B 2 tA a.sn (sayCells a.says)) (h2 : Rd w B 2 a.sA a.sn (sayCells a.says)) (hB : B ≤ w.heap.size) (hn : a.sn ≤ 140737488355328) :
    Calls Try.prog 15 #[actV { a with sA := tA, sc := tc }, actV a] w fun e w' => e = .returned (.bool true) ∧ Below w.heap.size w w' :=
  sameact_any { a with sA := tA, sc := tc } a.sA a.sc B w h1 h2 hB hn

end Go.Proofs.Ytkfeicgeobhccaa
