/-
  The rows' stable sort, of a row of any number.
-/
import Derived.Test.YtkgogenmhiclcaaGreatDoorKj
namespace Go.Proofs.YtkgogenmhiclcaaGreatDoor
open Go.RowKit Go.Sort

set_option maxRecDepth 100000 in
set_option maxHeartbeats 4000000 in
theorem stable_nil (w : World) : Calls Tryz.prog 38 #[.slice none 0 0, .int .i64 0, .func (.func 24) #[] #[]] w fun e w' => e = .returned (.tuple #[]) ∧ w' = w := by
  have hins : ∀ w, Calls Tryz.prog 55 #[.slice none 0 0, .int .i64 0, .int .i64 0, .func (.func 24) #[] #[]] w fun e w' => e = .returned (.tuple #[]) ∧ w' = w := by
    intro w
    go_enter Tryz.func55, Tryz.ntmps55
    go_wp2_with fail
    go_loopw [8] (fun a wr => a = .int .i64 1 ∧ wr = w) (fun _ _ => 0)
    case atStart => exact ⟨rfl, rfl⟩
    case round =>
      obtain ⟨rfl, rfl⟩ := hrel
      go_wp2
      go_end0
      exact ⟨rfl, rfl⟩
  have HC := Lib.hid hins
  clear hins
  go_enter Tryz.func38, Tryz.ntmps38
  go_wp2_with fail
  go_loopw [7, 8] (fun a b wr => a = .int .i64 0 ∧ b = .int .i64 20 ∧ w = wr) (fun _ _ _ => 0)
  case atStart => exact ⟨rfl, rfl, rfl⟩
  case round =>
    obtain ⟨rfl, rfl, rfl⟩ := hrel
    go_wp2_with fail
    refine (HC.out _).mono ?_
    rintro e w2 ⟨rfl, rfl⟩
    go_wp2_with fail
    go_loopw [6] (fun a wr => a = .int .i64 20 ∧ wr = w2) (fun _ _ => 0)
    case atStart => exact ⟨rfl, rfl⟩
    case round =>
      obtain ⟨rfl, rfl⟩ := hrel
      go_wp2
      go_end0
      exact ⟨rfl, rfl⟩

theorem stable_row (base g cap : Nat) (L : List (RC)) (w : World) (n : Nat) (h : w.ownsRow base 37 5 (.slice (some ⟨g, 0, none⟩) n cap) n (rcCells L)) (hn : n < 1152921504606846976) :
    Calls Tryz.prog 38 #[.slice (some ⟨g, 0, none⟩) n cap, .int .i64 n, .func (.func 24) #[] #[]] w fun e w' => e = .returned (.tuple #[]) ∧ ∃ m os, w' = sortWorldK encC 5 w g 0 m (Mg.isort L).toArray os := by
  have hL : L.length = n := by have := h.1; rw [rcCells_len] at this; omega
  rcases h.2 with ⟨h0, _⟩ | ⟨g2, cap2, cur, he, hbase, hb, h1, h2, h3, h4⟩
  · exact absurd h0 (by simp)
  · simp only [Value.slice.injEq, Option.some.injEq, Addr.mk.injEq, and_true, true_and] at he
    obtain ⟨rfl, rfl⟩ := he
    have hh := holds_of_row hb hL.symm h4
    have h0 := stable_any 5 rfl w g 0 cap n L.toArray hh (Array.getElem?_eq_some_iff.1 hb).1 (by simp [hL]) hn L hL 0 #[]
    rw [sortWorldK_start _ _ _ _ _ _ hh] at h0
    exact h0

set_option maxRecDepth 100000 in
set_option maxHeartbeats 4000000 in
theorem sort_any (base : Nat) (v : Value) (n : Nat) (L : List (RC)) (w : World) (h : w.ownsRow base 37 5 v n (rcCells L)) (hn : n < 1152921504606846976) :
    Calls Tryz.prog 23 #[v, .func (.func 24) #[] #[]] w fun e w' => e = .returned (.tuple #[]) ∧ w'.ownsRow base 37 5 v n (rcCells (Mg.isort L)) ∧ w.grownBy w' v.ownBlock := by
  have hL : L.length = n := by have := h.1; rw [rcCells_len] at this; omega
  rcases h.2 with ⟨rfl, rfl⟩ | ⟨g, cap, cur, rfl, hbase, hb, h1, h2, h3, h4⟩
  · have hl0 : L = [] := List.eq_nil_of_length_eq_zero hL
    subst hl0
    have hrow : ∀ w : World, w.ownsRow base 37 5 (.slice none 0 0) 0 (rcCells (Mg.isort [])) := fun w => ⟨by simp [rcCells_len, Mg.isort_len], .inl ⟨rfl, rfl⟩⟩
    have HR := Lib.hid hrow
    have HC := Lib.hid (fun w => stable_nil w)
    clear h hrow hL hn
    go_enter Tryz.func23, Tryz.ntmps23
    go_wp2_with fail
    refine (HC.out _).mono ?_
    rintro e w2 ⟨rfl, rfl⟩
    go_wp2
    go_end0
    exact ⟨rfl, HR.out _, World.grownBy.refl _ _⟩
  · have HC := Lib.hid (stable_row base g cap L w n h hn)
    have HO := Lib.hid (fun m os => own_sortedK (m := m) (os := os) ((Mg.isort_len L).trans hL) hbase hb h1 h2 h3)
    have HG := Lib.hid (fun m os => grown_sortedK (w := w) (g := g) (n := m) (os := os) (Mg.isort L).toArray)
    generalize Mg.isort L = S at *
    clear h h3 h4 hb hL
    go_enter Tryz.func23, Tryz.ntmps23
    go_wp2_with fail
    refine HC.out.mono ?_
    rintro e w2 ⟨rfl, m, os, rfl⟩
    have HOW := Lib.hid (HO.out m os)
    have HGW := Lib.hid (HG.out m os)
    generalize sortWorldK encC 5 w g 0 m S.toArray os = W2 at *
    go_wp2
    go_end0
    exact ⟨rfl, HOW.out, HGW.out⟩

end Go.Proofs.YtkgogenmhiclcaaGreatDoor
