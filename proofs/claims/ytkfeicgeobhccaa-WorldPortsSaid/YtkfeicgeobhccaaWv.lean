/-
  The reference's walk of what a command of a unit does.
-/
import Derived.Test.YtkfeicgeobhccaaWu
namespace Go.Proofs.Ytkfeicgeobhccaa
open Go.RowKit

/-- what is told, or what is done untold -/
def doesOf (o : Option ActD) (nm : ByteArray) (ty part num att : Int) : ActD := match o with
  | some x => x
  | none => untold nm ty part num att

set_option maxRecDepth 100000 in
set_option maxHeartbeats 8000000 in
theorem rdoes_any (aA : Option Addr) (an ac : Nat) (cA : Option Addr) (cn cc : Nat) (kA : Option Addr) (kn kc : Nat) (l : List ActD) (nm : ByteArray) (ty : Int) (u1 u2 u3 u4 u5 u6 u8 u9 u10 u11 u12 u13 u14 u15 u16 u17 u18 u19 u20 u21 u22 u23 u24 u25 u26 u27 u28 u29 u30 u31 u32 u33 u34 : Value) (part num att : Int) (w : World) (B : Nat) (h : Rd w B 9 aA an (actCells l)) (hB : B ≤ w.heap.size) (hn : an ≤ 140737488355328) :
    Calls Try.prog 17 #[.agg #[.slice aA an ac, .slice cA cn cc, .slice kA kn kc], .agg #[.string nm, u1, u2, u3, u4, u5, u6, .int .i64 ty, u8, u9, u10, u11, u12, u13, u14, u15, u16, u17, u18, u19, u20, u21, u22, u23, u24, u25, u26, u27, u28, u29, u30, u31, u32, u33, u34], .int .i64 part, .int .i64 num, .int .i64 att] w fun e w' => e = .returned (actV (doesOf (findAct l nm part num att) nm ty part num att)) ∧ Below w.heap.size w w' := by
  go_enter Try.func17, Try.ntmps17
  go_wp2_with fail
  have hW : Below w.heap.size w (((w.alloc (.cells #[.slice aA an ac, .slice cA cn cc, .slice kA kn kc] 26)).alloc (.cells #[.string nm, u1, u2, u3, u4, u5, u6, .int .i64 ty, u8, u9, u10, u11, u12, u13, u14, u15, u16, u17, u18, u19, u20, u21, u22, u23, u24, u25, u26, u27, u28, u29, u30, u31, u32, u33, u34] 35)).alloc (.cells #[.string ⟨#[]⟩, .int .i64 0, .int .i64 0, .int .i64 0, .int .i64 0, .int .i64 0, .int .i64 0, .int .i64 0, .slice none 0 0] 38)) := (((Below.refl w.heap.size w).alloc (Nat.le_refl _) (.cells #[.slice aA an ac, .slice cA cn cc, .slice kA kn kc] 26)).alloc (by simp) (.cells #[.string nm, u1, u2, u3, u4, u5, u6, .int .i64 ty, u8, u9, u10, u11, u12, u13, u14, u15, u16, u17, u18, u19, u20, u21, u22, u23, u24, u25, u26, u27, u28, u29, u30, u31, u32, u33, u34] 35)).alloc (by simp <;> omega) (.cells #[.string ⟨#[]⟩, .int .i64 0, .int .i64 0, .int .i64 0, .int .i64 0, .int .i64 0, .int .i64 0, .int .i64 0, .slice none 0 0] 38)
  have hin := h.below (hW.mono hB)
  refine (rfind_any aA an ac cA cn cc kA kn kc l nm part num att (((w.alloc (.cells #[.slice aA an ac, .slice cA cn cc, .slice kA kn kc] 26)).alloc (.cells #[.string nm, u1, u2, u3, u4, u5, u6, .int .i64 ty, u8, u9, u10, u11, u12, u13, u14, u15, u16, u17, u18, u19, u20, u21, u22, u23, u24, u25, u26, u27, u28, u29, u30, u31, u32, u33, u34] 35)).alloc (.cells #[.string ⟨#[]⟩, .int .i64 0, .int .i64 0, .int .i64 0, .int .i64 0, .int .i64 0, .int .i64 0, .int .i64 0, .slice none 0 0] 38)) B hin (by simp <;> omega) hn).mono ?_
  rintro e w4 ⟨⟨best, f, rfl, hfa⟩, hb4⟩
  have hs4 : w.heap.size + 3 ≤ w4.heap.size := by have := hb4.size; simp at this; omega
  have hbw := hW.trans (hb4.mono hW.size)
  have d0 : ∀ o, (w4.alloc o).cell? ⟨w.heap.size + 1 + 1, 0, none⟩ = some (.string ⟨#[]⟩) := fun o => (World.cell?_alloc_lt w4 o ⟨w.heap.size + 1 + 1, 0, none⟩ (by simp <;> omega)).trans ((hb4.cell (p := ⟨w.heap.size + 1 + 1, 0, none⟩) (by simp)).trans (by go_simp))
  have f0 : ∀ o, (w4.alloc o).frozen? ⟨w.heap.size + 1 + 1, 0, none⟩ = false := fun o => (((Below.refl w4.heap.size w4).alloc (Nat.le_refl _) o).frozen (p := ⟨w.heap.size + 1 + 1, 0, none⟩) (by simp <;> omega)).trans ((hb4.frozen (p := ⟨w.heap.size + 1 + 1, 0, none⟩) (by simp)).trans (by go_simp))
  have d1 : ∀ o, (w4.alloc o).cell? ⟨w.heap.size + 1 + 1, 1, none⟩ = some (.int .i64 0) := fun o => (World.cell?_alloc_lt w4 o ⟨w.heap.size + 1 + 1, 1, none⟩ (by simp <;> omega)).trans ((hb4.cell (p := ⟨w.heap.size + 1 + 1, 1, none⟩) (by simp)).trans (by go_simp))
  have f1 : ∀ o, (w4.alloc o).frozen? ⟨w.heap.size + 1 + 1, 1, none⟩ = false := fun o => (((Below.refl w4.heap.size w4).alloc (Nat.le_refl _) o).frozen (p := ⟨w.heap.size + 1 + 1, 1, none⟩) (by simp <;> omega)).trans ((hb4.frozen (p := ⟨w.heap.size + 1 + 1, 1, none⟩) (by simp)).trans (by go_simp))
  have d2 : ∀ o, (w4.alloc o).cell? ⟨w.heap.size + 1 + 1, 2, none⟩ = some (.int .i64 0) := fun o => (World.cell?_alloc_lt w4 o ⟨w.heap.size + 1 + 1, 2, none⟩ (by simp <;> omega)).trans ((hb4.cell (p := ⟨w.heap.size + 1 + 1, 2, none⟩) (by simp)).trans (by go_simp))
  have f2 : ∀ o, (w4.alloc o).frozen? ⟨w.heap.size + 1 + 1, 2, none⟩ = false := fun o => (((Below.refl w4.heap.size w4).alloc (Nat.le_refl _) o).frozen (p := ⟨w.heap.size + 1 + 1, 2, none⟩) (by simp <;> omega)).trans ((hb4.frozen (p := ⟨w.heap.size + 1 + 1, 2, none⟩) (by simp)).trans (by go_simp))
  have d3 : ∀ o, (w4.alloc o).cell? ⟨w.heap.size + 1 + 1, 3, none⟩ = some (.int .i64 0) := fun o => (World.cell?_alloc_lt w4 o ⟨w.heap.size + 1 + 1, 3, none⟩ (by simp <;> omega)).trans ((hb4.cell (p := ⟨w.heap.size + 1 + 1, 3, none⟩) (by simp)).trans (by go_simp))
  have f3 : ∀ o, (w4.alloc o).frozen? ⟨w.heap.size + 1 + 1, 3, none⟩ = false := fun o => (((Below.refl w4.heap.size w4).alloc (Nat.le_refl _) o).frozen (p := ⟨w.heap.size + 1 + 1, 3, none⟩) (by simp <;> omega)).trans ((hb4.frozen (p := ⟨w.heap.size + 1 + 1, 3, none⟩) (by simp)).trans (by go_simp))
  have d4 : ∀ o, (w4.alloc o).cell? ⟨w.heap.size + 1 + 1, 4, none⟩ = some (.int .i64 0) := fun o => (World.cell?_alloc_lt w4 o ⟨w.heap.size + 1 + 1, 4, none⟩ (by simp <;> omega)).trans ((hb4.cell (p := ⟨w.heap.size + 1 + 1, 4, none⟩) (by simp)).trans (by go_simp))
  have f4 : ∀ o, (w4.alloc o).frozen? ⟨w.heap.size + 1 + 1, 4, none⟩ = false := fun o => (((Below.refl w4.heap.size w4).alloc (Nat.le_refl _) o).frozen (p := ⟨w.heap.size + 1 + 1, 4, none⟩) (by simp <;> omega)).trans ((hb4.frozen (p := ⟨w.heap.size + 1 + 1, 4, none⟩) (by simp)).trans (by go_simp))
  have d5 : ∀ o, (w4.alloc o).cell? ⟨w.heap.size + 1 + 1, 5, none⟩ = some (.int .i64 0) := fun o => (World.cell?_alloc_lt w4 o ⟨w.heap.size + 1 + 1, 5, none⟩ (by simp <;> omega)).trans ((hb4.cell (p := ⟨w.heap.size + 1 + 1, 5, none⟩) (by simp)).trans (by go_simp))
  have f5 : ∀ o, (w4.alloc o).frozen? ⟨w.heap.size + 1 + 1, 5, none⟩ = false := fun o => (((Below.refl w4.heap.size w4).alloc (Nat.le_refl _) o).frozen (p := ⟨w.heap.size + 1 + 1, 5, none⟩) (by simp <;> omega)).trans ((hb4.frozen (p := ⟨w.heap.size + 1 + 1, 5, none⟩) (by simp)).trans (by go_simp))
  have d6 : ∀ o, (w4.alloc o).cell? ⟨w.heap.size + 1 + 1, 6, none⟩ = some (.int .i64 0) := fun o => (World.cell?_alloc_lt w4 o ⟨w.heap.size + 1 + 1, 6, none⟩ (by simp <;> omega)).trans ((hb4.cell (p := ⟨w.heap.size + 1 + 1, 6, none⟩) (by simp)).trans (by go_simp))
  have f6 : ∀ o, (w4.alloc o).frozen? ⟨w.heap.size + 1 + 1, 6, none⟩ = false := fun o => (((Below.refl w4.heap.size w4).alloc (Nat.le_refl _) o).frozen (p := ⟨w.heap.size + 1 + 1, 6, none⟩) (by simp <;> omega)).trans ((hb4.frozen (p := ⟨w.heap.size + 1 + 1, 6, none⟩) (by simp)).trans (by go_simp))
  have d7 : ∀ o, (w4.alloc o).cell? ⟨w.heap.size + 1 + 1, 7, none⟩ = some (.int .i64 0) := fun o => (World.cell?_alloc_lt w4 o ⟨w.heap.size + 1 + 1, 7, none⟩ (by simp <;> omega)).trans ((hb4.cell (p := ⟨w.heap.size + 1 + 1, 7, none⟩) (by simp)).trans (by go_simp))
  have f7 : ∀ o, (w4.alloc o).frozen? ⟨w.heap.size + 1 + 1, 7, none⟩ = false := fun o => (((Below.refl w4.heap.size w4).alloc (Nat.le_refl _) o).frozen (p := ⟨w.heap.size + 1 + 1, 7, none⟩) (by simp <;> omega)).trans ((hb4.frozen (p := ⟨w.heap.size + 1 + 1, 7, none⟩) (by simp)).trans (by go_simp))
  have d8 : ∀ o, (w4.alloc o).cell? ⟨w.heap.size + 1 + 1, 8, none⟩ = some (.slice none 0 0) := fun o => (World.cell?_alloc_lt w4 o ⟨w.heap.size + 1 + 1, 8, none⟩ (by simp <;> omega)).trans ((hb4.cell (p := ⟨w.heap.size + 1 + 1, 8, none⟩) (by simp)).trans (by go_simp))
  have f8 : ∀ o, (w4.alloc o).frozen? ⟨w.heap.size + 1 + 1, 8, none⟩ = false := fun o => (((Below.refl w4.heap.size w4).alloc (Nat.le_refl _) o).frozen (p := ⟨w.heap.size + 1 + 1, 8, none⟩) (by simp <;> omega)).trans ((hb4.frozen (p := ⟨w.heap.size + 1 + 1, 8, none⟩) (by simp)).trans (by go_simp))
  have n0 : ∀ o, (w4.alloc o).cell? ⟨w.heap.size + 1, 0, none⟩ = some (.string nm) := fun o => (World.cell?_alloc_lt w4 o ⟨w.heap.size + 1, 0, none⟩ (by simp <;> omega)).trans ((hb4.cell (p := ⟨w.heap.size + 1, 0, none⟩) (by simp <;> omega)).trans (by go_simp))
  have n7 : ∀ o, (w4.alloc o).cell? ⟨w.heap.size + 1, 7, none⟩ = some (.int .i64 ty) := fun o => (World.cell?_alloc_lt w4 o ⟨w.heap.size + 1, 7, none⟩ (by simp <;> omega)).trans ((hb4.cell (p := ⟨w.heap.size + 1, 7, none⟩) (by simp <;> omega)).trans (by go_simp))
  clear hb4 hin hW h
  by_cases hbs : best < 9
  · have HF := Lib.hid (hfa.found.1 hbs)
    have hd : decide (best < 9) = true := by simp [hbs]
    obtain ⟨un, pa, nu, at_, la, co, re, di, sA, sn, sc, sy⟩ := f
    clear hfa hbs
    simp only [findE, actV, actC]
    rw [hd]
    clear hd
    go_wp2_with fail
    refine bodyPost_ret (v := .agg #[.string un, .int .i64 pa, .int .i64 nu, .int .i64 at_, .int .i64 la, .int .i64 co, .int .i64 re, .int .i64 di, .slice sA sn sc]) (by simp [results, Try.results17, go_sem, d0, d1, d2, d3, d4, d5, d6, d7, d8]) rfl ?_
    rw [HF.out]
    exact ⟨rfl, (Below.setCell (Below.setCell (Below.setCell (Below.setCell (Below.setCell (Below.setCell (Below.setCell (Below.setCell (Below.setCell (hbw.alloc hbw.size _) (by simp <;> omega) _) (by simp <;> omega) _) (by simp <;> omega) _) (by simp <;> omega) _) (by simp <;> omega) _) (by simp <;> omega) _) (by simp <;> omega) _) (by simp <;> omega) _) (by simp <;> omega) _)⟩
  · obtain ⟨hf, rfl⟩ := hfa.found.2 hbs
    have HF := Lib.hid hf
    have hd : decide (best < 9) = false := by simp; omega
    clear hfa hbs hf
    simp only [findE, actV, actC, zeroAct]
    rw [hd]
    clear hd
    by_cases h2 : part = 2
    · have h2b : (part == 2) = true := by simpa using h2
      by_cases ht : ty = 2
      · have htb : (ty != 2) = false := by simpa using ht
        have HU : Hid (untold nm ty part num att = ⟨nm, part, num, att, 0, 0, 0, 0, none, 0, 0, []⟩) := Lib.hid (by unfold untold; rw [if_neg (by simp [ht])])
        clear h2 ht
        go_wp2_with fail
        refine bodyPost_ret (v := .agg #[.string nm, .int .i64 part, .int .i64 num, .int .i64 att, .int .i64 0, .int .i64 0, .int .i64 0, .int .i64 0, .slice none 0 0]) (by simp [results, Try.results17, go_sem, d0, d1, d2, d3, d4, d5, d6, d7, d8]) rfl ?_
        rw [HF.out]
        exact ⟨by show _ = Ending.returned (actV (untold nm ty part num att)); rw [HU.out]; rfl, (Below.setCell (Below.setCell (Below.setCell (Below.setCell (Below.setCell (Below.setCell (Below.setCell (Below.setCell (Below.setCell (hbw.alloc hbw.size _) (by simp <;> omega) _) (by simp <;> omega) _) (by simp <;> omega) _) (by simp <;> omega) _) (by simp <;> omega) _) (by simp <;> omega) _) (by simp <;> omega) _) (by simp <;> omega) _) (by simp <;> omega) _)⟩
      · have htb : (ty != 2) = true := by simpa using ht
        have HU : Hid (untold nm ty part num att = ⟨nm, part, num, att, 1099511627776, 0, 0, 0, none, 0, 0, []⟩) := Lib.hid (by unfold untold; rw [if_pos ⟨h2, ht⟩])
        clear h2 ht
        go_wp2_with fail
        refine bodyPost_ret (v := .agg #[.string nm, .int .i64 part, .int .i64 num, .int .i64 att, .int .i64 1099511627776, .int .i64 0, .int .i64 0, .int .i64 0, .slice none 0 0]) (by simp [results, Try.results17, go_sem, d0, d1, d2, d3, d4, d5, d6, d7, d8]) rfl ?_
        rw [HF.out]
        exact ⟨by show _ = Ending.returned (actV (untold nm ty part num att)); rw [HU.out]; rfl, (Below.setCell (Below.setCell (Below.setCell (Below.setCell (Below.setCell (Below.setCell (Below.setCell (Below.setCell (Below.setCell (hbw.alloc hbw.size _) (by simp <;> omega) _) (by simp <;> omega) _) (by simp <;> omega) _) (by simp <;> omega) _) (by simp <;> omega) _) (by simp <;> omega) _) (by simp <;> omega) _) (by simp <;> omega) _) (by simp <;> omega) _)⟩
    · have h2b : (part == 2) = false := by simpa using h2
      have HU : Hid (untold nm ty part num att = ⟨nm, part, num, att, 0, 0, 0, 0, none, 0, 0, []⟩) := Lib.hid (by unfold untold; rw [if_neg (by simp [h2])])
      clear h2
      go_wp2_with fail
      refine bodyPost_ret (v := .agg #[.string nm, .int .i64 part, .int .i64 num, .int .i64 att, .int .i64 0, .int .i64 0, .int .i64 0, .int .i64 0, .slice none 0 0]) (by simp [results, Try.results17, go_sem, d0, d1, d2, d3, d4, d5, d6, d7, d8]) rfl ?_
      rw [HF.out]
      exact ⟨by show _ = Ending.returned (actV (untold nm ty part num att)); rw [HU.out]; rfl, (Below.setCell (Below.setCell (Below.setCell (Below.setCell (Below.setCell (Below.setCell (Below.setCell (Below.setCell (Below.setCell (hbw.alloc hbw.size _) (by simp <;> omega) _) (by simp <;> omega) _) (by simp <;> omega) _) (by simp <;> omega) _) (by simp <;> omega) _) (by simp <;> omega) _) (by simp <;> omega) _) (by simp <;> omega) _) (by simp <;> omega) _)⟩

end Go.Proofs.Ytkfeicgeobhccaa
