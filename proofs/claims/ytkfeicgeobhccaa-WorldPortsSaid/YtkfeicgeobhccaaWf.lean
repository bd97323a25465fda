/-
  The walks that copy an act.
-/
import Derived.Test.YtkfeicgeobhccaaWe
import Derived.Lib.SliceRun
namespace Go.Proofs.Ytkfeicgeobhccaa
open Go.RowKit

theorem said_info : (Try.prog.info? 66).map (fun i => (i.zero, i.size, i.bytes)) = some (some (.agg #[.int .i64 0, .string ⟨#[]⟩]), 2, 24) := by kernel_rfl
theorem info_parts {o : Option TypeInfo} {z : Option Value} {s b : Nat} (h : o.map (fun i => (i.zero, i.size, i.bytes)) = some (z, s, b)) : ∃ i, o = some i ∧ i.zero = z ∧ i.size = s ∧ i.bytes = b := by
  cases o with
  | none => simp at h
  | some i => simp at h; exact ⟨i, rfl, h.1, h.2.1, h.2.2⟩
theorem sayCells_one (l : List (Int × ByteArray)) : ∀ u ∈ sayCells l, u.oneCell' = true := by
  intro u hu
  obtain ⟨p, _, hp⟩ := List.mem_flatMap.1 hu
  simp at hp
  rcases hp with rfl | rfl <;> rfl
theorem own_slice {w : World} {base : Nat} {e : TypeId} {size n : Nat} {v : Value} {xs : List Value} (h : w.ownsRow base e size v n xs) : ∃ A c, v = .slice A n c := by
  rcases h.2 with ⟨rfl, h0⟩ | ⟨g, cap, cur, rfl, _⟩
  · exact ⟨none, 0, by rw [h0]⟩
  · exact ⟨_, _, rfl⟩

set_option maxRecDepth 100000 in
set_option maxRecDepth 100000 in
set_option maxRecDepth 100000 in
set_option maxRecDepth 100000 in
set_option maxRecDepth 100000 in
set_option maxHeartbeats 1000000 in
theorem clone_any (A : Option Addr) (n c B : Nat) (l : List (Int × ByteArray)) (w : World) (h : Rd w B 2 A n (sayCells l)) (hB : B ≤ w.heap.size) (hn : n ≤ 5864062014805) :
    Calls Try.prog 45 #[.slice A n c] w fun e w' => ∃ (A' : Option Addr) (c' : Nat), e = .returned (.slice A' n c') ∧ w'.ownsRow w.heap.size 66 2 (.slice A' n c') n (sayCells l) ∧ Below w.heap.size w w' := by
  obtain ⟨i0, hi, hz0, hz1, hz2⟩ := info_parts said_info
  have q24 : ∀ (w : World) (a : Option Addr) (n c n' c' : Nat), (binOp .eql 36 (.slice a n c) (.slice none n' c')).run Try.prog w = .ok (.bool a.isNone) w := fun w a n c n' c' => Lib.run_eql_slice_nil w _ _ a n c n' c' Try.underlying36
  rcases A with _ | ad
  · have hn0 : n = 0 := by
      rcases Nat.eq_zero_or_pos n with h0 | h0
      · exact h0
      · obtain ⟨ad, e, _⟩ := h.here h0
        cases e
    subst hn0
    go_enter Try.func45, Try.ntmps45
    go_wp2
    go_ret
    exact ⟨none, 0, rfl, ⟨h.1, .inl ⟨rfl, rfl⟩⟩, Below.refl _ _⟩
  · have hown := World.ownsRow_lit (base := w.heap.size) (e := 66) (size := 2) w #[] 0 (Nat.le_refl _) (by decide) rfl
    have hr2 := h.alloc hB (.cells #[] 66)
    go_enter Try.func45, Try.ntmps45
    go_wp2_with (at_builtin; refine wpList_app _ rfl _ _ 36 rfl w.heap.size 66 i0 (.agg #[.int .i64 0, .string ⟨#[]⟩]) 2 24 Try.underlying36 hi hz0 hz1 hz2 rfl (by decide) _ 0 [] rfl hown B (some ad) n c (sayCells l) rfl hr2 (sayCells_one l) (by unfold maxLen; omega) (by omega) (by simp) ?_)
    intro v' w2 hown2 hgr hx
    clear hx
    have hb2 : Below w.heap.size w w2 := ((Below.refl w.heap.size w).alloc (Nat.le_refl _) _).grown hgr (by simp) (fun k hk => by simp [Value.ownBlock] at hk; omega)
    have hown3 : w2.ownsRow w.heap.size 66 2 v' n (sayCells l) := by simpa using hown2
    obtain ⟨A', c', rfl⟩ := own_slice hown3
    clear hown2 hgr hown hr2
    go_wp2
    go_ret
    exact ⟨A', c', rfl, hown3, hb2⟩

set_option maxRecDepth 100000 in
set_option maxHeartbeats 2000000 in
theorem copied_any (a : ActD) (w : World) (B : Nat) (h : ActIn w B a) (hB : B ≤ w.heap.size) (hn : a.sn ≤ 5864062014805) :
    Calls Try.prog 36 #[actV a] w fun e w' => ∃ (A' : Option Addr) (c' : Nat), e = .returned (actV { a with sA := A', sc := c' }) ∧ w'.ownsRow (w.heap.size + 2) 66 2 (.slice A' a.sn c') a.sn (sayCells a.says) ∧ Below w.heap.size w w' := by
  obtain ⟨un, pa, nu, at_, la, co, re, di, sA, sn, sc, sy⟩ := a
  obtain ⟨hr, hsn, hun, hsy⟩ := h
  dsimp only at hr hsn hun hsy hn
  have HSY := Lib.hid hsy
  have HR := Lib.hid hr
  clear hsy hr
  show Calls Try.prog 36 #[.agg #[.string un, .int .i64 pa, .int .i64 nu, .int .i64 at_, .int .i64 la, .int .i64 co, .int .i64 re, .int .i64 di, .slice sA sn sc]] w _
  go_enter Try.func36, Try.ntmps36
  go_wp2_with fail
  refine (clone_any sA sn sc B sy _ ((HR.out.alloc hB _).alloc (by simp; omega) _) (by simp; omega) hn).mono ?_
  rintro e w3 ⟨A', c', rfl, hown3, hb3⟩
  have b0 : w3.cell? ⟨w.heap.size, 0, none⟩ = some (.string un) := (hb3.cell (p := ⟨w.heap.size, 0, none⟩) (by simp; omega)).trans (by go_simp)
  have b1 : w3.cell? ⟨w.heap.size, 1, none⟩ = some (.int .i64 pa) := (hb3.cell (p := ⟨w.heap.size, 1, none⟩) (by simp; omega)).trans (by go_simp)
  have b2 : w3.cell? ⟨w.heap.size, 2, none⟩ = some (.int .i64 nu) := (hb3.cell (p := ⟨w.heap.size, 2, none⟩) (by simp; omega)).trans (by go_simp)
  have b3 : w3.cell? ⟨w.heap.size, 3, none⟩ = some (.int .i64 at_) := (hb3.cell (p := ⟨w.heap.size, 3, none⟩) (by simp; omega)).trans (by go_simp)
  have b4 : w3.cell? ⟨w.heap.size, 4, none⟩ = some (.int .i64 la) := (hb3.cell (p := ⟨w.heap.size, 4, none⟩) (by simp; omega)).trans (by go_simp)
  have b5 : w3.cell? ⟨w.heap.size, 5, none⟩ = some (.int .i64 co) := (hb3.cell (p := ⟨w.heap.size, 5, none⟩) (by simp; omega)).trans (by go_simp)
  have b6 : w3.cell? ⟨w.heap.size, 6, none⟩ = some (.int .i64 re) := (hb3.cell (p := ⟨w.heap.size, 6, none⟩) (by simp; omega)).trans (by go_simp)
  have b7 : w3.cell? ⟨w.heap.size, 7, none⟩ = some (.int .i64 di) := (hb3.cell (p := ⟨w.heap.size, 7, none⟩) (by simp; omega)).trans (by go_simp)
  have b8 : w3.cell? ⟨w.heap.size, 8, none⟩ = some (.slice sA sn sc) := (hb3.cell (p := ⟨w.heap.size, 8, none⟩) (by simp; omega)).trans (by go_simp)
  have d0 : w3.cell? ⟨w.heap.size + 1, 0, none⟩ = some (.string ⟨#[]⟩) := (hb3.cell (p := ⟨w.heap.size + 1, 0, none⟩) (by simp)).trans (by go_simp)
  have f0 : w3.frozen? ⟨w.heap.size + 1, 0, none⟩ = false := (hb3.frozen (p := ⟨w.heap.size + 1, 0, none⟩) (by simp)).trans (by go_simp)
  have d1 : w3.cell? ⟨w.heap.size + 1, 1, none⟩ = some (.int .i64 0) := (hb3.cell (p := ⟨w.heap.size + 1, 1, none⟩) (by simp)).trans (by go_simp)
  have f1 : w3.frozen? ⟨w.heap.size + 1, 1, none⟩ = false := (hb3.frozen (p := ⟨w.heap.size + 1, 1, none⟩) (by simp)).trans (by go_simp)
  have d2 : w3.cell? ⟨w.heap.size + 1, 2, none⟩ = some (.int .i64 0) := (hb3.cell (p := ⟨w.heap.size + 1, 2, none⟩) (by simp)).trans (by go_simp)
  have f2 : w3.frozen? ⟨w.heap.size + 1, 2, none⟩ = false := (hb3.frozen (p := ⟨w.heap.size + 1, 2, none⟩) (by simp)).trans (by go_simp)
  have d3 : w3.cell? ⟨w.heap.size + 1, 3, none⟩ = some (.int .i64 0) := (hb3.cell (p := ⟨w.heap.size + 1, 3, none⟩) (by simp)).trans (by go_simp)
  have f3 : w3.frozen? ⟨w.heap.size + 1, 3, none⟩ = false := (hb3.frozen (p := ⟨w.heap.size + 1, 3, none⟩) (by simp)).trans (by go_simp)
  have d4 : w3.cell? ⟨w.heap.size + 1, 4, none⟩ = some (.int .i64 0) := (hb3.cell (p := ⟨w.heap.size + 1, 4, none⟩) (by simp)).trans (by go_simp)
  have f4 : w3.frozen? ⟨w.heap.size + 1, 4, none⟩ = false := (hb3.frozen (p := ⟨w.heap.size + 1, 4, none⟩) (by simp)).trans (by go_simp)
  have d5 : w3.cell? ⟨w.heap.size + 1, 5, none⟩ = some (.int .i64 0) := (hb3.cell (p := ⟨w.heap.size + 1, 5, none⟩) (by simp)).trans (by go_simp)
  have f5 : w3.frozen? ⟨w.heap.size + 1, 5, none⟩ = false := (hb3.frozen (p := ⟨w.heap.size + 1, 5, none⟩) (by simp)).trans (by go_simp)
  have d6 : w3.cell? ⟨w.heap.size + 1, 6, none⟩ = some (.int .i64 0) := (hb3.cell (p := ⟨w.heap.size + 1, 6, none⟩) (by simp)).trans (by go_simp)
  have f6 : w3.frozen? ⟨w.heap.size + 1, 6, none⟩ = false := (hb3.frozen (p := ⟨w.heap.size + 1, 6, none⟩) (by simp)).trans (by go_simp)
  have d7 : w3.cell? ⟨w.heap.size + 1, 7, none⟩ = some (.int .i64 0) := (hb3.cell (p := ⟨w.heap.size + 1, 7, none⟩) (by simp)).trans (by go_simp)
  have f7 : w3.frozen? ⟨w.heap.size + 1, 7, none⟩ = false := (hb3.frozen (p := ⟨w.heap.size + 1, 7, none⟩) (by simp)).trans (by go_simp)
  have d8 : w3.cell? ⟨w.heap.size + 1, 8, none⟩ = some (.slice none 0 0) := (hb3.cell (p := ⟨w.heap.size + 1, 8, none⟩) (by simp)).trans (by go_simp)
  have f8 : w3.frozen? ⟨w.heap.size + 1, 8, none⟩ = false := (hb3.frozen (p := ⟨w.heap.size + 1, 8, none⟩) (by simp)).trans (by go_simp)
  have fb : w3.frozen? ⟨w.heap.size, 8, none⟩ = false := (hb3.frozen (p := ⟨w.heap.size, 8, none⟩) (by simp; omega)).trans (by go_simp)
  have hbb := (((Below.refl w.heap.size w).alloc (Nat.le_refl _) (.cells #[.string un, .int .i64 pa, .int .i64 nu, .int .i64 at_, .int .i64 la, .int .i64 co, .int .i64 re, .int .i64 di, .slice sA sn sc] 38)).alloc (by simp) (.cells #[.string ⟨#[]⟩, .int .i64 0, .int .i64 0, .int .i64 0, .int .i64 0, .int .i64 0, .int .i64 0, .int .i64 0, .slice none 0 0] 38)).trans (hb3.mono (by simp; omega))
  have HSZ : w.heap.size + 2 ≤ w3.heap.size := by have := hb3.size; simp at this; omega
  clear hb3
  have hs3 : w.heap.size + 2 ≤ w3.heap.size := HSZ
  clear HSZ
  have HOWN : Hid (w3.ownsRow (w.heap.size + 2) 66 2 (.slice A' sn c') sn (sayCells sy)) := Lib.hid (by simpa using hown3)
  clear hown3
  go_wp2_with fail
  refine bodyPost_ret (v := .agg #[.string un, .int .i64 pa, .int .i64 nu, .int .i64 at_, .int .i64 la, .int .i64 co, .int .i64 re, .int .i64 di, .slice A' sn c']) (by simp [results, Try.results36, go_sem, *]) rfl ⟨A', c', rfl, ?_, ?_⟩
  · exact (ownsRow_setCell_below (ownsRow_setCell_below (ownsRow_setCell_below (ownsRow_setCell_below (ownsRow_setCell_below (ownsRow_setCell_below (ownsRow_setCell_below (ownsRow_setCell_below (ownsRow_setCell_below (ownsRow_setCell_below HOWN.out (by simp) _) (by simp) _) (by simp) _) (by simp) _) (by simp) _) (by simp) _) (by simp) _) (by simp) _) (by simp) _) (by simp) _)
  · exact (Below.setCell (Below.setCell (Below.setCell (Below.setCell (Below.setCell (Below.setCell (Below.setCell (Below.setCell (Below.setCell (Below.setCell hbb (by simp) _) (by simp) _) (by simp) _) (by simp) _) (by simp) _) (by simp) _) (by simp) _) (by simp) _) (by simp) _) (by simp) _)

end Go.Proofs.Ytkfeicgeobhccaa
