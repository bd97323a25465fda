/-
  The walk of what a command of a unit does.
-/
import Derived.Test.YtkfeicgeobhccaaWh
namespace Go.Proofs.Ytkfeicgeobhccaa
open Go.RowKit

/-- what a command does of which nothing is told -/
def untold (nm : ByteArray) (ty part num att : Int) : ActD := ⟨nm, part, num, att, if part = 2 ∧ ty ≠ 2 then 1099511627776 else 0, 0, 0, 0, none, 0, 0, []⟩
def DoesPost (o : Option ActD) (nm : ByteArray) (ty part num att : Int) (w : World) (e : Ending) (w' : World) : Prop :=
  Below w.heap.size w w' ∧ match o with
    | none => e = .returned (actV (untold nm ty part num att))
    | some x => ∃ A' c', e = .returned (actV { x with sA := A', sc := c' }) ∧ w'.ownsRow w.heap.size 66 2 (.slice A' x.sn c') x.sn (sayCells x.says)

set_option maxRecDepth 100000 in
set_option maxHeartbeats 8000000 in
theorem does_any (aA : Option Addr) (an ac : Nat) (cA : Option Addr) (cn cc : Nat) (kA : Option Addr) (kn kc : Nat) (l : List ActD) (nm : ByteArray) (ty : Int) (u1 u2 u3 u4 u5 u6 u8 u9 u10 u11 u12 u13 u14 u15 u16 u17 u18 u19 u20 u21 u22 u23 u24 u25 u26 u27 u28 u29 u30 u31 u32 u33 u34 : Value) (part num att : Int) (w : World) (B : Nat) (h : ActsIn w B aA an l) (hB : B ≤ w.heap.size) :
    Calls Try.prog 16 #[.agg #[.slice aA an ac, .slice cA cn cc, .slice kA kn kc], .agg #[.string nm, u1, u2, u3, u4, u5, u6, .int .i64 ty, u8, u9, u10, u11, u12, u13, u14, u15, u16, u17, u18, u19, u20, u21, u22, u23, u24, u25, u26, u27, u28, u29, u30, u31, u32, u33, u34], .int .i64 part, .int .i64 num, .int .i64 att] w fun e w' => DoesPost (findAct l nm part num att) nm ty part num att w e w' := by
  go_enter Try.func16, Try.ntmps16
  go_wp2_with fail
  have hW : Below w.heap.size w (((w.alloc (.cells #[.slice aA an ac, .slice cA cn cc, .slice kA kn kc] 26)).alloc (.cells #[.string nm, u1, u2, u3, u4, u5, u6, .int .i64 ty, u8, u9, u10, u11, u12, u13, u14, u15, u16, u17, u18, u19, u20, u21, u22, u23, u24, u25, u26, u27, u28, u29, u30, u31, u32, u33, u34] 35)).alloc (.cells #[.string ⟨#[]⟩, .int .i64 0, .int .i64 0, .int .i64 0, .int .i64 0, .int .i64 0, .int .i64 0, .int .i64 0, .slice none 0 0] 38)) := (((Below.refl w.heap.size w).alloc (Nat.le_refl _) (.cells #[.slice aA an ac, .slice cA cn cc, .slice kA kn kc] 26)).alloc (by simp) (.cells #[.string nm, u1, u2, u3, u4, u5, u6, .int .i64 ty, u8, u9, u10, u11, u12, u13, u14, u15, u16, u17, u18, u19, u20, u21, u22, u23, u24, u25, u26, u27, u28, u29, u30, u31, u32, u33, u34] 35)).alloc (by simp <;> omega) (.cells #[.string ⟨#[]⟩, .int .i64 0, .int .i64 0, .int .i64 0, .int .i64 0, .int .i64 0, .int .i64 0, .int .i64 0, .slice none 0 0] 38)
  have hin := h.below (hW.mono hB)
  refine (find_any aA an ac cA cn cc kA kn kc l nm part num att (((w.alloc (.cells #[.slice aA an ac, .slice cA cn cc, .slice kA kn kc] 26)).alloc (.cells #[.string nm, u1, u2, u3, u4, u5, u6, .int .i64 ty, u8, u9, u10, u11, u12, u13, u14, u15, u16, u17, u18, u19, u20, u21, u22, u23, u24, u25, u26, u27, u28, u29, u30, u31, u32, u33, u34] 35)).alloc (.cells #[.string ⟨#[]⟩, .int .i64 0, .int .i64 0, .int .i64 0, .int .i64 0, .int .i64 0, .int .i64 0, .int .i64 0, .slice none 0 0] 38)) B hin (by simp <;> omega)).mono ?_
  rintro e w4 ⟨hb4, hp⟩
  have hs4 : w.heap.size + 3 ≤ w4.heap.size := by have := hb4.size; simp at this; omega
  have hbw := hW.trans (hb4.mono hW.size)
  have d0 : ∀ o, (w4.alloc o).cell? ⟨w.heap.size + 1 + 1, 0, none⟩ = some (.string ⟨#[]⟩) := fun o => (World.cell?_alloc_lt w4 o ⟨w.heap.size + 1 + 1, 0, none⟩ (by simp <;> omega)).trans ((hb4.cell (p := ⟨w.heap.size + 1 + 1, 0, none⟩) (by simp)).trans (by go_simp))
  have e0 : ∀ o o2, ((w4.alloc o).alloc o2).cell? ⟨w.heap.size + 1 + 1, 0, none⟩ = some (.string ⟨#[]⟩) := fun o o2 => (World.cell?_alloc_lt (w4.alloc o) o2 ⟨w.heap.size + 1 + 1, 0, none⟩ (by simp <;> omega)).trans (d0 o)
  have f0 : ∀ o, (w4.alloc o).frozen? ⟨w.heap.size + 1 + 1, 0, none⟩ = false := fun o => (((Below.refl w4.heap.size w4).alloc (Nat.le_refl _) o).frozen (p := ⟨w.heap.size + 1 + 1, 0, none⟩) (by simp <;> omega)).trans ((hb4.frozen (p := ⟨w.heap.size + 1 + 1, 0, none⟩) (by simp)).trans (by go_simp))
  have g0 : ∀ o o2, ((w4.alloc o).alloc o2).frozen? ⟨w.heap.size + 1 + 1, 0, none⟩ = false := fun o o2 => (((Below.refl (w4.alloc o).heap.size (w4.alloc o)).alloc (Nat.le_refl _) o2).frozen (p := ⟨w.heap.size + 1 + 1, 0, none⟩) (by simp <;> omega)).trans (f0 o)
  have d1 : ∀ o, (w4.alloc o).cell? ⟨w.heap.size + 1 + 1, 1, none⟩ = some (.int .i64 0) := fun o => (World.cell?_alloc_lt w4 o ⟨w.heap.size + 1 + 1, 1, none⟩ (by simp <;> omega)).trans ((hb4.cell (p := ⟨w.heap.size + 1 + 1, 1, none⟩) (by simp)).trans (by go_simp))
  have e1 : ∀ o o2, ((w4.alloc o).alloc o2).cell? ⟨w.heap.size + 1 + 1, 1, none⟩ = some (.int .i64 0) := fun o o2 => (World.cell?_alloc_lt (w4.alloc o) o2 ⟨w.heap.size + 1 + 1, 1, none⟩ (by simp <;> omega)).trans (d1 o)
  have f1 : ∀ o, (w4.alloc o).frozen? ⟨w.heap.size + 1 + 1, 1, none⟩ = false := fun o => (((Below.refl w4.heap.size w4).alloc (Nat.le_refl _) o).frozen (p := ⟨w.heap.size + 1 + 1, 1, none⟩) (by simp <;> omega)).trans ((hb4.frozen (p := ⟨w.heap.size + 1 + 1, 1, none⟩) (by simp)).trans (by go_simp))
  have g1 : ∀ o o2, ((w4.alloc o).alloc o2).frozen? ⟨w.heap.size + 1 + 1, 1, none⟩ = false := fun o o2 => (((Below.refl (w4.alloc o).heap.size (w4.alloc o)).alloc (Nat.le_refl _) o2).frozen (p := ⟨w.heap.size + 1 + 1, 1, none⟩) (by simp <;> omega)).trans (f1 o)
  have d2 : ∀ o, (w4.alloc o).cell? ⟨w.heap.size + 1 + 1, 2, none⟩ = some (.int .i64 0) := fun o => (World.cell?_alloc_lt w4 o ⟨w.heap.size + 1 + 1, 2, none⟩ (by simp <;> omega)).trans ((hb4.cell (p := ⟨w.heap.size + 1 + 1, 2, none⟩) (by simp)).trans (by go_simp))
  have e2 : ∀ o o2, ((w4.alloc o).alloc o2).cell? ⟨w.heap.size + 1 + 1, 2, none⟩ = some (.int .i64 0) := fun o o2 => (World.cell?_alloc_lt (w4.alloc o) o2 ⟨w.heap.size + 1 + 1, 2, none⟩ (by simp <;> omega)).trans (d2 o)
  have f2 : ∀ o, (w4.alloc o).frozen? ⟨w.heap.size + 1 + 1, 2, none⟩ = false := fun o => (((Below.refl w4.heap.size w4).alloc (Nat.le_refl _) o).frozen (p := ⟨w.heap.size + 1 + 1, 2, none⟩) (by simp <;> omega)).trans ((hb4.frozen (p := ⟨w.heap.size + 1 + 1, 2, none⟩) (by simp)).trans (by go_simp))
  have g2 : ∀ o o2, ((w4.alloc o).alloc o2).frozen? ⟨w.heap.size + 1 + 1, 2, none⟩ = false := fun o o2 => (((Below.refl (w4.alloc o).heap.size (w4.alloc o)).alloc (Nat.le_refl _) o2).frozen (p := ⟨w.heap.size + 1 + 1, 2, none⟩) (by simp <;> omega)).trans (f2 o)
  have d3 : ∀ o, (w4.alloc o).cell? ⟨w.heap.size + 1 + 1, 3, none⟩ = some (.int .i64 0) := fun o => (World.cell?_alloc_lt w4 o ⟨w.heap.size + 1 + 1, 3, none⟩ (by simp <;> omega)).trans ((hb4.cell (p := ⟨w.heap.size + 1 + 1, 3, none⟩) (by simp)).trans (by go_simp))
  have e3 : ∀ o o2, ((w4.alloc o).alloc o2).cell? ⟨w.heap.size + 1 + 1, 3, none⟩ = some (.int .i64 0) := fun o o2 => (World.cell?_alloc_lt (w4.alloc o) o2 ⟨w.heap.size + 1 + 1, 3, none⟩ (by simp <;> omega)).trans (d3 o)
  have f3 : ∀ o, (w4.alloc o).frozen? ⟨w.heap.size + 1 + 1, 3, none⟩ = false := fun o => (((Below.refl w4.heap.size w4).alloc (Nat.le_refl _) o).frozen (p := ⟨w.heap.size + 1 + 1, 3, none⟩) (by simp <;> omega)).trans ((hb4.frozen (p := ⟨w.heap.size + 1 + 1, 3, none⟩) (by simp)).trans (by go_simp))
  have g3 : ∀ o o2, ((w4.alloc o).alloc o2).frozen? ⟨w.heap.size + 1 + 1, 3, none⟩ = false := fun o o2 => (((Below.refl (w4.alloc o).heap.size (w4.alloc o)).alloc (Nat.le_refl _) o2).frozen (p := ⟨w.heap.size + 1 + 1, 3, none⟩) (by simp <;> omega)).trans (f3 o)
  have d4 : ∀ o, (w4.alloc o).cell? ⟨w.heap.size + 1 + 1, 4, none⟩ = some (.int .i64 0) := fun o => (World.cell?_alloc_lt w4 o ⟨w.heap.size + 1 + 1, 4, none⟩ (by simp <;> omega)).trans ((hb4.cell (p := ⟨w.heap.size + 1 + 1, 4, none⟩) (by simp)).trans (by go_simp))
  have e4 : ∀ o o2, ((w4.alloc o).alloc o2).cell? ⟨w.heap.size + 1 + 1, 4, none⟩ = some (.int .i64 0) := fun o o2 => (World.cell?_alloc_lt (w4.alloc o) o2 ⟨w.heap.size + 1 + 1, 4, none⟩ (by simp <;> omega)).trans (d4 o)
  have f4 : ∀ o, (w4.alloc o).frozen? ⟨w.heap.size + 1 + 1, 4, none⟩ = false := fun o => (((Below.refl w4.heap.size w4).alloc (Nat.le_refl _) o).frozen (p := ⟨w.heap.size + 1 + 1, 4, none⟩) (by simp <;> omega)).trans ((hb4.frozen (p := ⟨w.heap.size + 1 + 1, 4, none⟩) (by simp)).trans (by go_simp))
  have g4 : ∀ o o2, ((w4.alloc o).alloc o2).frozen? ⟨w.heap.size + 1 + 1, 4, none⟩ = false := fun o o2 => (((Below.refl (w4.alloc o).heap.size (w4.alloc o)).alloc (Nat.le_refl _) o2).frozen (p := ⟨w.heap.size + 1 + 1, 4, none⟩) (by simp <;> omega)).trans (f4 o)
  have d5 : ∀ o, (w4.alloc o).cell? ⟨w.heap.size + 1 + 1, 5, none⟩ = some (.int .i64 0) := fun o => (World.cell?_alloc_lt w4 o ⟨w.heap.size + 1 + 1, 5, none⟩ (by simp <;> omega)).trans ((hb4.cell (p := ⟨w.heap.size + 1 + 1, 5, none⟩) (by simp)).trans (by go_simp))
  have e5 : ∀ o o2, ((w4.alloc o).alloc o2).cell? ⟨w.heap.size + 1 + 1, 5, none⟩ = some (.int .i64 0) := fun o o2 => (World.cell?_alloc_lt (w4.alloc o) o2 ⟨w.heap.size + 1 + 1, 5, none⟩ (by simp <;> omega)).trans (d5 o)
  have f5 : ∀ o, (w4.alloc o).frozen? ⟨w.heap.size + 1 + 1, 5, none⟩ = false := fun o => (((Below.refl w4.heap.size w4).alloc (Nat.le_refl _) o).frozen (p := ⟨w.heap.size + 1 + 1, 5, none⟩) (by simp <;> omega)).trans ((hb4.frozen (p := ⟨w.heap.size + 1 + 1, 5, none⟩) (by simp)).trans (by go_simp))
  have g5 : ∀ o o2, ((w4.alloc o).alloc o2).frozen? ⟨w.heap.size + 1 + 1, 5, none⟩ = false := fun o o2 => (((Below.refl (w4.alloc o).heap.size (w4.alloc o)).alloc (Nat.le_refl _) o2).frozen (p := ⟨w.heap.size + 1 + 1, 5, none⟩) (by simp <;> omega)).trans (f5 o)
  have d6 : ∀ o, (w4.alloc o).cell? ⟨w.heap.size + 1 + 1, 6, none⟩ = some (.int .i64 0) := fun o => (World.cell?_alloc_lt w4 o ⟨w.heap.size + 1 + 1, 6, none⟩ (by simp <;> omega)).trans ((hb4.cell (p := ⟨w.heap.size + 1 + 1, 6, none⟩) (by simp)).trans (by go_simp))
  have e6 : ∀ o o2, ((w4.alloc o).alloc o2).cell? ⟨w.heap.size + 1 + 1, 6, none⟩ = some (.int .i64 0) := fun o o2 => (World.cell?_alloc_lt (w4.alloc o) o2 ⟨w.heap.size + 1 + 1, 6, none⟩ (by simp <;> omega)).trans (d6 o)
  have f6 : ∀ o, (w4.alloc o).frozen? ⟨w.heap.size + 1 + 1, 6, none⟩ = false := fun o => (((Below.refl w4.heap.size w4).alloc (Nat.le_refl _) o).frozen (p := ⟨w.heap.size + 1 + 1, 6, none⟩) (by simp <;> omega)).trans ((hb4.frozen (p := ⟨w.heap.size + 1 + 1, 6, none⟩) (by simp)).trans (by go_simp))
  have g6 : ∀ o o2, ((w4.alloc o).alloc o2).frozen? ⟨w.heap.size + 1 + 1, 6, none⟩ = false := fun o o2 => (((Below.refl (w4.alloc o).heap.size (w4.alloc o)).alloc (Nat.le_refl _) o2).frozen (p := ⟨w.heap.size + 1 + 1, 6, none⟩) (by simp <;> omega)).trans (f6 o)
  have d7 : ∀ o, (w4.alloc o).cell? ⟨w.heap.size + 1 + 1, 7, none⟩ = some (.int .i64 0) := fun o => (World.cell?_alloc_lt w4 o ⟨w.heap.size + 1 + 1, 7, none⟩ (by simp <;> omega)).trans ((hb4.cell (p := ⟨w.heap.size + 1 + 1, 7, none⟩) (by simp)).trans (by go_simp))
  have e7 : ∀ o o2, ((w4.alloc o).alloc o2).cell? ⟨w.heap.size + 1 + 1, 7, none⟩ = some (.int .i64 0) := fun o o2 => (World.cell?_alloc_lt (w4.alloc o) o2 ⟨w.heap.size + 1 + 1, 7, none⟩ (by simp <;> omega)).trans (d7 o)
  have f7 : ∀ o, (w4.alloc o).frozen? ⟨w.heap.size + 1 + 1, 7, none⟩ = false := fun o => (((Below.refl w4.heap.size w4).alloc (Nat.le_refl _) o).frozen (p := ⟨w.heap.size + 1 + 1, 7, none⟩) (by simp <;> omega)).trans ((hb4.frozen (p := ⟨w.heap.size + 1 + 1, 7, none⟩) (by simp)).trans (by go_simp))
  have g7 : ∀ o o2, ((w4.alloc o).alloc o2).frozen? ⟨w.heap.size + 1 + 1, 7, none⟩ = false := fun o o2 => (((Below.refl (w4.alloc o).heap.size (w4.alloc o)).alloc (Nat.le_refl _) o2).frozen (p := ⟨w.heap.size + 1 + 1, 7, none⟩) (by simp <;> omega)).trans (f7 o)
  have d8 : ∀ o, (w4.alloc o).cell? ⟨w.heap.size + 1 + 1, 8, none⟩ = some (.slice none 0 0) := fun o => (World.cell?_alloc_lt w4 o ⟨w.heap.size + 1 + 1, 8, none⟩ (by simp <;> omega)).trans ((hb4.cell (p := ⟨w.heap.size + 1 + 1, 8, none⟩) (by simp)).trans (by go_simp))
  have e8 : ∀ o o2, ((w4.alloc o).alloc o2).cell? ⟨w.heap.size + 1 + 1, 8, none⟩ = some (.slice none 0 0) := fun o o2 => (World.cell?_alloc_lt (w4.alloc o) o2 ⟨w.heap.size + 1 + 1, 8, none⟩ (by simp <;> omega)).trans (d8 o)
  have f8 : ∀ o, (w4.alloc o).frozen? ⟨w.heap.size + 1 + 1, 8, none⟩ = false := fun o => (((Below.refl w4.heap.size w4).alloc (Nat.le_refl _) o).frozen (p := ⟨w.heap.size + 1 + 1, 8, none⟩) (by simp <;> omega)).trans ((hb4.frozen (p := ⟨w.heap.size + 1 + 1, 8, none⟩) (by simp)).trans (by go_simp))
  have g8 : ∀ o o2, ((w4.alloc o).alloc o2).frozen? ⟨w.heap.size + 1 + 1, 8, none⟩ = false := fun o o2 => (((Below.refl (w4.alloc o).heap.size (w4.alloc o)).alloc (Nat.le_refl _) o2).frozen (p := ⟨w.heap.size + 1 + 1, 8, none⟩) (by simp <;> omega)).trans (f8 o)
  have n0 : ∀ o, (w4.alloc o).cell? ⟨w.heap.size + 1, 0, none⟩ = some (.string nm) := fun o => (World.cell?_alloc_lt w4 o ⟨w.heap.size + 1, 0, none⟩ (by simp <;> omega)).trans ((hb4.cell (p := ⟨w.heap.size + 1, 0, none⟩) (by simp <;> omega)).trans (by go_simp))
  have n7 : ∀ o o2, ((w4.alloc o).alloc o2).cell? ⟨w.heap.size + 1, 7, none⟩ = some (.int .i64 ty) := fun o o2 => (World.cell?_alloc_lt (w4.alloc o) o2 ⟨w.heap.size + 1, 7, none⟩ (by simp <;> omega)).trans ((World.cell?_alloc_lt w4 o ⟨w.heap.size + 1, 7, none⟩ (by simp <;> omega)).trans ((hb4.cell (p := ⟨w.heap.size + 1, 7, none⟩) (by simp <;> omega)).trans (by go_simp)))
  cases hf : findAct l nm part num att with
  | some x =>
    rw [hf] at hp
    obtain ⟨A', c', rfl, hown⟩ := hp
    obtain ⟨un, pa, nu, at_, la, co, re, di, sA, sn, sc, sy⟩ := x
    dsimp only at hown
    have HOWN := Lib.hid hown
    have HF := Lib.hid hf
    clear hown hf hb4 hin hW h
    simp only [findE, actV, actC]
    go_wp2_with fail
    refine bodyPost_ret (v := .agg #[.string un, .int .i64 pa, .int .i64 nu, .int .i64 at_, .int .i64 la, .int .i64 co, .int .i64 re, .int .i64 di, .slice A' sn c']) (by simp [results, Try.results16, go_sem, d0, d1, d2, d3, d4, d5, d6, d7, d8]) rfl ?_
    rw [HF.out]
    exact ⟨(Below.setCell (Below.setCell (Below.setCell (Below.setCell (Below.setCell (Below.setCell (Below.setCell (Below.setCell (Below.setCell (hbw.alloc hbw.size _) (by simp <;> omega) _) (by simp <;> omega) _) (by simp <;> omega) _) (by simp <;> omega) _) (by simp <;> omega) _) (by simp <;> omega) _) (by simp <;> omega) _) (by simp <;> omega) _) (by simp <;> omega) _), A', c', rfl, own_mono (ownsRow_setCell_below (ownsRow_setCell_below (ownsRow_setCell_below (ownsRow_setCell_below (ownsRow_setCell_below (ownsRow_setCell_below (ownsRow_setCell_below (ownsRow_setCell_below (ownsRow_setCell_below (World.ownsRow.alloc HOWN.out _) (by simp <;> omega) _) (by simp <;> omega) _) (by simp <;> omega) _) (by simp <;> omega) _) (by simp <;> omega) _) (by simp <;> omega) _) (by simp <;> omega) _) (by simp <;> omega) _) (by simp <;> omega) _) (by simp <;> omega)⟩
  | none =>
    rw [hf] at hp
    dsimp only at hp
    subst hp
    have HF := Lib.hid hf
    clear hf hb4 hin hW h
    simp only [findE, actV, actC, zeroAct]
    by_cases h2 : part = 2
    · have h2b : (part == 2) = true := by simpa using h2
      by_cases ht : ty = 2
      · have htb : (ty != 2) = false := by simpa using ht
        have HU : Hid (untold nm ty part num att = ⟨nm, part, num, att, 0, 0, 0, 0, none, 0, 0, []⟩) := Lib.hid (by unfold untold; rw [if_neg (by simp [ht])])
        clear h2 ht
        go_wp2_with fail
        refine bodyPost_ret (v := .agg #[.string nm, .int .i64 part, .int .i64 num, .int .i64 att, .int .i64 0, .int .i64 0, .int .i64 0, .int .i64 0, .slice none 0 0]) (by simp [results, Try.results16, go_sem, e0, e1, e2, e3, e4, e5, e6, e7, e8]) rfl ?_
        rw [HF.out]
        exact ⟨(Below.setCell (Below.setCell (Below.setCell (Below.setCell (Below.setCell (Below.setCell (Below.setCell (Below.setCell (Below.setCell ((hbw.alloc hbw.size _).alloc (by have := hbw.size; simp <;> omega) _) (by simp <;> omega) _) (by simp <;> omega) _) (by simp <;> omega) _) (by simp <;> omega) _) (by simp <;> omega) _) (by simp <;> omega) _) (by simp <;> omega) _) (by simp <;> omega) _) (by simp <;> omega) _), by rw [HU.out]; rfl⟩
      · have htb : (ty != 2) = true := by simpa using ht
        have HU : Hid (untold nm ty part num att = ⟨nm, part, num, att, 1099511627776, 0, 0, 0, none, 0, 0, []⟩) := Lib.hid (by unfold untold; rw [if_pos ⟨h2, ht⟩])
        clear h2 ht
        go_wp2_with fail
        refine bodyPost_ret (v := .agg #[.string nm, .int .i64 part, .int .i64 num, .int .i64 att, .int .i64 1099511627776, .int .i64 0, .int .i64 0, .int .i64 0, .slice none 0 0]) (by simp [results, Try.results16, go_sem, e0, e1, e2, e3, e4, e5, e6, e7, e8]) rfl ?_
        rw [HF.out]
        exact ⟨(Below.setCell (Below.setCell (Below.setCell (Below.setCell (Below.setCell (Below.setCell (Below.setCell (Below.setCell (Below.setCell ((hbw.alloc hbw.size _).alloc (by have := hbw.size; simp <;> omega) _) (by simp <;> omega) _) (by simp <;> omega) _) (by simp <;> omega) _) (by simp <;> omega) _) (by simp <;> omega) _) (by simp <;> omega) _) (by simp <;> omega) _) (by simp <;> omega) _) (by simp <;> omega) _), by rw [HU.out]; rfl⟩
    · have h2b : (part == 2) = false := by simpa using h2
      have HU : Hid (untold nm ty part num att = ⟨nm, part, num, att, 0, 0, 0, 0, none, 0, 0, []⟩) := Lib.hid (by unfold untold; rw [if_neg (by simp [h2])])
      clear h2
      go_wp2_with fail
      refine bodyPost_ret (v := .agg #[.string nm, .int .i64 part, .int .i64 num, .int .i64 att, .int .i64 0, .int .i64 0, .int .i64 0, .int .i64 0, .slice none 0 0]) (by simp [results, Try.results16, go_sem, e0, e1, e2, e3, e4, e5, e6, e7, e8]) rfl ?_
      rw [HF.out]
      exact ⟨(Below.setCell (Below.setCell (Below.setCell (Below.setCell (Below.setCell (Below.setCell (Below.setCell (Below.setCell (Below.setCell ((hbw.alloc hbw.size _).alloc (by have := hbw.size; simp <;> omega) _) (by simp <;> omega) _) (by simp <;> omega) _) (by simp <;> omega) _) (by simp <;> omega) _) (by simp <;> omega) _) (by simp <;> omega) _) (by simp <;> omega) _) (by simp <;> omega) _) (by simp <;> omega) _), by rw [HU.out]; rfl⟩

end Go.Proofs.Ytkfeicgeobhccaa
