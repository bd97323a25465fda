/-
  The calls' stable sort, of a row of any number; who calls, by the code and by the reference.
-/
import Derived.Test.YtkfeicgeobhccaaSg
import Derived.Test.YtkfeicgeobhccaaSk
import Derived.Test.YtkfeicgeobhccaaWt
namespace Go.Proofs.Ytkfeicgeobhccaa
open Go.RowKit Go.Sort

theorem stable_row (base g cap : Nat) (L : List (Int × Int × Int)) (w : World) (n : Nat) (h : w.ownsRow base 54 3 (.slice (some ⟨g, 0, none⟩) n cap) n (callCells L)) (hn : n < 1152921504606846976) :
    Calls Try.prog 47 #[.slice (some ⟨g, 0, none⟩) n cap, .int .i64 n, .func (.func 39) #[] #[]] w fun e w' => e = .returned (.tuple #[]) ∧ ∃ m os, w' = sortWorldK encC 3 w g 0 m (Mg.isort L).toArray os := by
  have hL : L.length = n := by have := h.1; rw [callCells_len] at this; omega
  rcases h.2 with ⟨h0, _⟩ | ⟨g2, cap2, cur, he, hbase, hb, h1, h2, h3, h4⟩
  · exact absurd h0 (by simp)
  · simp only [Value.slice.injEq, Option.some.injEq, Addr.mk.injEq, and_true, true_and] at he
    obtain ⟨rfl, rfl⟩ := he
    have hh := holds_of_row hb hL.symm h4
    have h0 := stable_any 3 rfl w g 0 cap n L.toArray hh (Array.getElem?_eq_some_iff.1 hb).1 (by simp [hL]) hn L hL 0 #[]
    rw [sortWorldK_start _ _ _ _ _ _ hh] at h0
    exact h0

set_option maxRecDepth 100000 in
set_option maxHeartbeats 4000000 in
theorem sort_any (base : Nat) (v : Value) (n : Nat) (L : List (Int × Int × Int)) (w : World) (h : w.ownsRow base 54 3 v n (callCells L)) (hn : n < 1152921504606846976) :
    Calls Try.prog 38 #[v, .func (.func 39) #[] #[]] w fun e w' => e = .returned (.tuple #[]) ∧ w'.ownsRow base 54 3 v n (callCells (Mg.isort L)) ∧ w.grownBy w' v.ownBlock := by
  have hL : L.length = n := by have := h.1; rw [callCells_len] at this; omega
  rcases h.2 with ⟨rfl, rfl⟩ | ⟨g, cap, cur, rfl, hbase, hb, h1, h2, h3, h4⟩
  · have hl0 : L = [] := List.eq_nil_of_length_eq_zero hL
    subst hl0
    have hrow : ∀ w : World, w.ownsRow base 54 3 (.slice none 0 0) 0 (callCells (Mg.isort [])) := fun w => ⟨by simp [callCells_len, Mg.isort_len], .inl ⟨rfl, rfl⟩⟩
    have HR := Lib.hid hrow
    have HC := Lib.hid (fun w => stable_nil w)
    clear h hrow hL hn
    go_enter Try.func38, Try.ntmps38
    go_wp2_with fail
    refine (HC.out _).mono ?_
    rintro e w2 ⟨rfl, rfl⟩
    go_wp2
    go_end0
    exact ⟨rfl, HR.out _, World.grownBy.refl _ _⟩
  · have HC := Lib.hid (stable_row base g cap L w n h hn)
    have HO := Lib.hid (fun m os => own_sortedK (m := m) (os := os) ((Mg.isort_len L).trans hL) hbase hb h1 h2 h3)
    have HG := Lib.hid (fun m os => grown_sortedK (w := w) (g := g) (n := m) (os := os) (Mg.isort L).toArray)
    generalize Mg.isort L = S at *
    clear h h3 h4 hb hL
    go_enter Try.func38, Try.ntmps38
    go_wp2_with fail
    refine HC.out.mono ?_
    rintro e w2 ⟨rfl, m, os, rfl⟩
    have HOW := Lib.hid (HO.out m os)
    have HGW := Lib.hid (HG.out m os)
    generalize sortWorldK encC 3 w g 0 m S.toArray os = W2 at *
    go_wp2
    go_end0
    exact ⟨rfl, HOW.out, HGW.out⟩
theorem sorts_any (L : List (Int × Int × Int)) (h : L.length < 1152921504606846976) : SortsTo L (Mg.isort L) := fun base v w hw => sort_any base v L.length L w hw h

theorem callsF_le (ps : List Int) (l : List (Int × Int × Int)) : (callsF ps l).length ≤ l.length := List.length_filter_le _ _
/-- who calls, by the code -/
theorem calls_row (aA : Option Addr) (an ac : Nat) (cA : Option Addr) (cn cc : Nat) (kA : Option Addr) (kn kc : Nat) (l : List (Int × Int × Int)) (pA : Option Addr) (pn pc : Nat) (ps : List Int) (w : World) (B : Nat) (h : Rd w B 3 cA cn (callCells l)) (hp : Rd w B 1 pA pn (ps.map (Value.int .i64))) (hB : B ≤ w.heap.size) (hn : cn ≤ 1099511627776) (hpn : pn ≤ 140737488355328) :
    Calls Try.prog 19 #[.agg #[.slice aA an ac, .slice cA cn cc, .slice kA kn kc], .slice pA pn pc] w fun e w' => ∃ (A' : Option Addr) (c' : Nat), e = .returned (.slice A' (callsF ps l).length c') ∧ Rd w' w'.heap.size 3 A' (callsF ps l).length (callCells (Mg.isort (callsF ps l))) ∧ Below w.heap.size w w' := by
  have hl : l.length = cn := by have h1 := h.1; rw [callCells_len] at h1; omega
  have hlen := callsF_le ps l
  refine (calls_any aA an ac cA cn cc kA kn kc l pA pn pc ps (Mg.isort (callsF ps l)) w B h hp hB hn hpn (sorts_any _ (by omega))).mono ?_
  rintro e w' ⟨A', c', rfl, hown, hb⟩
  exact ⟨A', c', rfl, Rd.of_own hown, hb⟩
/-- who calls, by the reference -/
theorem rcalls_row (aA : Option Addr) (an ac : Nat) (cA : Option Addr) (cn cc : Nat) (kA : Option Addr) (kn kc : Nat) (l : List (Int × Int × Int)) (pA : Option Addr) (pn pc : Nat) (ps : List Int) (w : World) (B : Nat) (h : Rd w B 3 cA cn (callCells l)) (hp : Rd w B 1 pA pn (ps.map (Value.int .i64))) (hB : B ≤ w.heap.size) (hn : cn ≤ 1099511627776) (hpn : pn ≤ 140737488355328) :
    Calls Try.prog 20 #[.agg #[.slice aA an ac, .slice cA cn cc, .slice kA kn kc], .slice pA pn pc] w fun e w' => ∃ (A' : Option Addr) (c' : Nat), e = .returned (.slice A' (callsF ps l).length c') ∧ Rd w' w'.heap.size 3 A' (callsF ps l).length (callCells (Mg.isort (callsF ps l))) ∧ Below w.heap.size w w' := by
  refine (rcalls_any aA an ac cA cn cc kA kn kc l pA pn pc ps w B h hp hB hn hpn).mono ?_
  rintro e w' ⟨A', n', c', rfl, rfl, hown, hb⟩
  exact ⟨A', c', rfl, Rd.of_own hown, hb⟩

end Go.Proofs.Ytkfeicgeobhccaa
