/-
  The reference's walk that finds what a command does.
-/
import Derived.Test.YtkfeicgeobhccaaWt
namespace Go.Proofs.Ytkfeicgeobhccaa
open Go.RowKit

theorem first_app (l : List ActD) (a : ActD) (u : ByteArray) (part p q : Int) : firstOf (l ++ [a]) u part p q = match firstOf l u part p q with | some x => some x | none => if ofB a u part p q = true then some a else none := by
  unfold firstOf
  rw [List.find?_append]
  cases h : List.find? (fun x => ofB x u part p q) l with
  | some x => rfl
  | none =>
    cases h2 : ofB a u part p q with
    | true => simp [h2]
    | false => simp [h2]
/-- where the reference's loop stands -/
def FAt (l : List ActD) (u : ByteArray) (part num att : Int) (best : Int) (f : ActD) : Prop :=
  (best = 0 ∧ firstOf l u part num att = some f) ∨
  (best = 1 ∧ firstOf l u part num att = none ∧ firstOf l u part (-1) att = some f) ∨
  (best = 2 ∧ firstOf l u part num att = none ∧ firstOf l u part (-1) att = none ∧ firstOf l u part num 0 = some f) ∨
  (best = 3 ∧ firstOf l u part num att = none ∧ firstOf l u part (-1) att = none ∧ firstOf l u part num 0 = none ∧ firstOf l u part (-1) 0 = some f) ∨
  (best = 9 ∧ firstOf l u part num att = none ∧ firstOf l u part (-1) att = none ∧ firstOf l u part num 0 = none ∧ firstOf l u part (-1) 0 = none ∧ f = zeroAct)
theorem FAt.start (u : ByteArray) (part num att : Int) : FAt [] u part num att 9 zeroAct := .inr (.inr (.inr (.inr ⟨rfl, rfl, rfl, rfl, rfl, rfl⟩)))
theorem FAt.best {l : List ActD} {u : ByteArray} {part num att best : Int} {f : ActD} (h : FAt l u part num att best f) : 0 ≤ best ∧ best ≤ 9 := by
  rcases h with ⟨h, _⟩ | ⟨h, _⟩ | ⟨h, _⟩ | ⟨h, _⟩ | ⟨h, _⟩ <;> omega
theorem FAt.found {l : List ActD} {u : ByteArray} {part num att best : Int} {f : ActD} (h : FAt l u part num att best f) : (best < 9 → findAct l u part num att = some f) ∧ (¬ best < 9 → findAct l u part num att = none ∧ f = zeroAct) := by
  unfold findAct
  rcases h with ⟨rfl, h0⟩ | ⟨rfl, h0, h1⟩ | ⟨rfl, h0, h1, h2⟩ | ⟨rfl, h0, h1, h2, h3⟩ | ⟨rfl, h0, h1, h2, h3, h4⟩
  · exact ⟨fun _ => by rw [h0], fun h => absurd h (by decide)⟩
  · exact ⟨fun _ => by rw [h0, h1], fun h => absurd h (by decide)⟩
  · exact ⟨fun _ => by rw [h0, h1, h2], fun h => absurd h (by decide)⟩
  · exact ⟨fun _ => by rw [h0, h1, h2, h3], fun h => absurd h (by decide)⟩
  · exact ⟨fun h => absurd h (by decide), fun _ => ⟨by rw [h0, h1, h2, h3], h4⟩⟩
/-- an act more that is no better: it stays -/
theorem FAt.stay {l : List ActD} {u : ByteArray} {part num att best : Int} {f a : ActD} (h : FAt l u part num att best f)
    (h0 : ofB a u part num att = true → best ≤ 0) (h1 : ofB a u part (-1) att = true → best ≤ 1) (h2 : ofB a u part num 0 = true → best ≤ 2) (h3 : ofB a u part (-1) 0 = true → best ≤ 3) : FAt (l ++ [a]) u part num att best f := by
  have hn : ∀ {b : Bool} {c : Int}, (b = true → best ≤ c) → c < best → b = false := fun {b} {c} hb hc => by
    cases b with
    | false => rfl
    | true => have := hb rfl; omega
  unfold FAt at h ⊢
  simp only [first_app]
  rcases h with ⟨rfl, e0⟩ | ⟨rfl, e0, e1⟩ | ⟨rfl, e0, e1, e2⟩ | ⟨rfl, e0, e1, e2, e3⟩ | ⟨rfl, e0, e1, e2, e3, e4⟩
  · exact .inl ⟨rfl, by rw [e0]⟩
  · exact .inr (.inl ⟨rfl, by rw [e0, hn h0 (by decide)]; rfl, by rw [e1]⟩)
  · exact .inr (.inr (.inl ⟨rfl, by rw [e0, hn h0 (by decide)]; rfl, by rw [e1, hn h1 (by decide)]; rfl, by rw [e2]⟩))
  · exact .inr (.inr (.inr (.inl ⟨rfl, by rw [e0, hn h0 (by decide)]; rfl, by rw [e1, hn h1 (by decide)]; rfl, by rw [e2, hn h2 (by decide)]; rfl, by rw [e3]⟩)))
  · exact .inr (.inr (.inr (.inr ⟨rfl, by rw [e0, hn h0 (by decide)]; rfl, by rw [e1, hn h1 (by decide)]; rfl, by rw [e2, hn h2 (by decide)]; rfl, by rw [e3, hn h3 (by decide)]; rfl, e4⟩)))
/-- one that is better: it is the one -/
theorem FAt.take {l : List ActD} {u : ByteArray} {part num att best : Int} {f a : ActD} (h : FAt l u part num att best f) (c : Int) (hc : c < best)
    (h0 : c = 0 ∧ ofB a u part num att = true ∨ c = 1 ∧ ofB a u part num att = false ∧ ofB a u part (-1) att = true ∨ c = 2 ∧ ofB a u part num att = false ∧ ofB a u part (-1) att = false ∧ ofB a u part num 0 = true ∨
      c = 3 ∧ ofB a u part num att = false ∧ ofB a u part (-1) att = false ∧ ofB a u part num 0 = false ∧ ofB a u part (-1) 0 = true) : FAt (l ++ [a]) u part num att c a := by
  unfold FAt at h ⊢
  simp only [first_app]
  rcases h0 with ⟨rfl, a0⟩ | ⟨rfl, a0, a1⟩ | ⟨rfl, a0, a1, a2⟩ | ⟨rfl, a0, a1, a2, a3⟩
  · refine .inl ⟨rfl, ?_⟩
    rcases h with ⟨rfl, e0⟩ | ⟨rfl, e0, e1⟩ | ⟨rfl, e0, e1, e2⟩ | ⟨rfl, e0, e1, e2, e3⟩ | ⟨rfl, e0, e1, e2, e3, e4⟩
    · exact absurd hc (by decide)
    all_goals (rw [e0, a0]; rfl)
  · refine .inr (.inl ⟨rfl, ?_⟩)
    rcases h with ⟨rfl, e0⟩ | ⟨rfl, e0, e1⟩ | ⟨rfl, e0, e1, e2⟩ | ⟨rfl, e0, e1, e2, e3⟩ | ⟨rfl, e0, e1, e2, e3, e4⟩
    · exact absurd hc (by decide)
    · exact absurd hc (by decide)
    all_goals exact ⟨by rw [e0, a0]; rfl, by rw [e1, a1]; rfl⟩
  · refine .inr (.inr (.inl ⟨rfl, ?_⟩))
    rcases h with ⟨rfl, e0⟩ | ⟨rfl, e0, e1⟩ | ⟨rfl, e0, e1, e2⟩ | ⟨rfl, e0, e1, e2, e3⟩ | ⟨rfl, e0, e1, e2, e3, e4⟩
    · exact absurd hc (by decide)
    · exact absurd hc (by decide)
    · exact absurd hc (by decide)
    all_goals exact ⟨by rw [e0, a0]; rfl, by rw [e1, a1]; rfl, by rw [e2, a2]; rfl⟩
  · refine .inr (.inr (.inr (.inl ⟨rfl, ?_⟩)))
    rcases h with ⟨rfl, e0⟩ | ⟨rfl, e0, e1⟩ | ⟨rfl, e0, e1, e2⟩ | ⟨rfl, e0, e1, e2, e3⟩ | ⟨rfl, e0, e1, e2, e3, e4⟩
    · exact absurd hc (by decide)
    · exact absurd hc (by decide)
    · exact absurd hc (by decide)
    · exact absurd hc (by decide)
    · exact ⟨by rw [e0, a0]; rfl, by rw [e1, a1]; rfl, by rw [e2, a2]; rfl, by rw [e3, a3]; rfl⟩
/-- nine cells that may be written -/
def Free9 (w : World) (b : Nat) : Prop := ∀ j, j < 9 → w.frozen? ⟨b, j, none⟩ = false
set_option maxHeartbeats 4000000 in
theorem act_set (W : World) (b : Nat) (f : ActD) (un : ByteArray) (pa nu at_ la co re di : Int) (sA : Option Addr) (sn sc : Nat) (sy : List (Int × ByteArray)) (hf : ActAt W ⟨b, 0, none⟩ f) (hfr : Free9 W b) :
    ActAt (((((((((W.setCell ⟨b, 0, none⟩ (.string un)).setCell ⟨b, 1, none⟩ (.int .i64 pa)).setCell ⟨b, 2, none⟩ (.int .i64 nu)).setCell ⟨b, 3, none⟩ (.int .i64 at_)).setCell ⟨b, 4, none⟩ (.int .i64 la)).setCell ⟨b, 5, none⟩ (.int .i64 co)).setCell ⟨b, 6, none⟩ (.int .i64 re)).setCell ⟨b, 7, none⟩ (.int .i64 di)).setCell ⟨b, 8, none⟩ (.slice sA sn sc)).drew ⟨b, 0, none⟩ ⟨un, pa, nu, at_, la, co, re, di, sA, sn, sc, sy⟩ ∧ Free9 (((((((((W.setCell ⟨b, 0, none⟩ (.string un)).setCell ⟨b, 1, none⟩ (.int .i64 pa)).setCell ⟨b, 2, none⟩ (.int .i64 nu)).setCell ⟨b, 3, none⟩ (.int .i64 at_)).setCell ⟨b, 4, none⟩ (.int .i64 la)).setCell ⟨b, 5, none⟩ (.int .i64 co)).setCell ⟨b, 6, none⟩ (.int .i64 re)).setCell ⟨b, 7, none⟩ (.int .i64 di)).setCell ⟨b, 8, none⟩ (.slice sA sn sc)).drew b := by
  obtain ⟨g0, g1, g2, g3, g4, g5, g6, g7, g8⟩ := hf
  simp only [Nat.zero_add] at g1 g2 g3 g4 g5 g6 g7 g8
  refine ⟨⟨by go_simp, by go_simp, by go_simp, by go_simp, by go_simp, by go_simp, by go_simp, by go_simp, by go_simp⟩, fun j hj => ?_⟩
  have h := hfr j hj
  go_simp
set_option maxRecDepth 100000 in
set_option maxHeartbeats 16000000 in
theorem rfind_any (aA : Option Addr) (an ac : Nat) (cA : Option Addr) (cn cc : Nat) (kA : Option Addr) (kn kc : Nat) (l : List ActD) (u : ByteArray) (part num att : Int) (w : World) (B : Nat) (h : Rd w B 9 aA an (actCells l)) (hB : B ≤ w.heap.size) (hn : an ≤ 140737488355328) :
    Calls Try.prog 14 #[.agg #[.slice aA an ac, .slice cA cn cc, .slice kA kn kc], .string u, .int .i64 part, .int .i64 num, .int .i64 att] w fun e w' => (∃ (best : Int) (f : ActD), e = .returned (findE f (decide (best < 9))) ∧ FAt l u part num att best f) ∧ Below w.heap.size w w' := by
  have hl : l.length = an := by have h1 := h.1; rw [actCells_len] at h1; omega
  have HL := Lib.hid hl
  have HRD := Lib.hid h
  clear hl h
  have hbW := ((Below.refl w.heap.size w).alloc (Nat.le_refl _) (.cells #[.slice aA an ac, .slice cA cn cc, .slice kA kn kc] 26)).alloc (by simp) (.cells #[.string ⟨#[]⟩, .int .i64 0, .int .i64 0, .int .i64 0, .int .i64 0, .int .i64 0, .int .i64 0, .int .i64 0, .slice none 0 0] 38)
  go_enter Try.func14, Try.ntmps14
  go_wp2_with fail
  go_loopw [12, 21] (fun bv iv wr => ∃ (k : Nat) (best : Int) (f : ActD), k ≤ an ∧ bv = .int .i64 best ∧ iv = .int .i64 k ∧ Below (w.heap.size + 2) ((w.alloc (.cells #[.slice aA an ac, .slice cA cn cc, .slice kA kn kc] 26)).alloc (.cells #[.string ⟨#[]⟩, .int .i64 0, .int .i64 0, .int .i64 0, .int .i64 0, .int .i64 0, .int .i64 0, .int .i64 0, .slice none 0 0] 38)) wr ∧ w.heap.size + 3 ≤ wr.heap.size ∧ ActAt wr ⟨w.heap.size + 1 + 1, 0, none⟩ f ∧ Hid (Free9 wr (w.heap.size + 1 + 1)) ∧ Hid (FAt (l.take k) u part num att best f)) (fun _ iv _ => an - (intOf iv).toNat)
  case atStart =>
    refine ⟨0, 9, zeroAct, Nat.zero_le _, rfl, rfl, ?_, ?_, ?_, ?_, Lib.hid (FAt.start _ _ _ _)⟩
    · exact (Below.refl _ _).alloc (by simp) _
    · simp
    · exact ⟨by go_simp; rfl, by go_simp; rfl, by go_simp; rfl, by go_simp; rfl, by go_simp; rfl, by go_simp; rfl, by go_simp; rfl, by go_simp; rfl, by go_simp; exact ⟨rfl, rfl, rfl⟩⟩
    · exact Lib.hid (fun j hj => by go_simp)
  case round =>
    obtain ⟨k, best, f, hk, rfl, rfl, hb, hz, hf, HFR, HFA⟩ := hrel
    have hbw : Below w.heap.size w wr := hbW.trans (hb.mono (by omega))
    have hbest := HFA.out.best
    have q0 : wr.cell? ⟨w.heap.size, 0, none⟩ = some (.slice aA an ac) := (hb.cell (p := ⟨w.heap.size, 0, none⟩) (by simp)).trans (by go_simp)
    have HF := Lib.hid hf
    clear hf
    by_cases hlt : k < an
    · skip
      obtain ⟨ad, rfl, hadB, hkl, h0, h1, h2, h3, h4, h5, h6, h7, h8⟩ := acts_here (HRD.out.below (hbw.mono hB)) k hlt
      have HT : Hid (l.take (k + 1) = l.take k ++ [l[k]]) := Lib.hid (List.take_succ_eq_append_getElem hkl)
      generalize l[k] = x at *
      obtain ⟨un, pa, nu, at_, la, co, re, di, sA, sn, sc, sy⟩ := x
      dsimp only at h0 h1 h2 h3 h4 h5 h6 h7 h8
      have x1 : (0 : Int) ≤ (k : Int) := by omega
      have x2 : (k : Int) < (an : Int) := by omega
      have hbA := hb.alloc (by omega) (.cells #[.string un, .int .i64 pa, .int .i64 nu, .int .i64 at_, .int .i64 la, .int .i64 co, .int .i64 re, .int .i64 di, .slice sA sn sc] 38)
      have hf2 : ActAt (wr.alloc (.cells #[.string un, .int .i64 pa, .int .i64 nu, .int .i64 at_, .int .i64 la, .int .i64 co, .int .i64 re, .int .i64 di, .slice sA sn sc] 38)) ⟨w.heap.size + 1 + 1, 0, none⟩ f := HF.out.below ((Below.refl wr.heap.size wr).alloc (Nat.le_refl _) _) (by show w.heap.size + 1 + 1 < _; omega)
      have hfr2 : Free9 (wr.alloc (.cells #[.string un, .int .i64 pa, .int .i64 nu, .int .i64 at_, .int .i64 la, .int .i64 co, .int .i64 re, .int .i64 di, .slice sA sn sc] 38)) (w.heap.size + 1 + 1) := fun j hj => (((Below.refl wr.heap.size wr).alloc (Nat.le_refl _) (.cells #[.string un, .int .i64 pa, .int .i64 nu, .int .i64 at_, .int .i64 la, .int .i64 co, .int .i64 re, .int .i64 di, .slice sA sn sc] 38)).frozen (p := ⟨w.heap.size + 1 + 1, j, none⟩) (by show w.heap.size + 1 + 1 < _; omega)).trans (HFR.out j hj)
      have HF2 := Lib.hid hf2
      have HFR2 := Lib.hid hfr2
      clear hf2 hfr2
      cases e0 : (un.toList == u.toList) with
      | false =>
        have HN : Hid (FAt (l.take (k + 1)) u part num att best f) := Lib.hid (by rw [HT.out]; exact HFA.out.stay (fun h => by unfold ofB at h; dsimp only at h; rw [e0] at h; simp at h) (fun h => by unfold ofB at h; dsimp only at h; rw [e0] at h; simp at h) (fun h => by unfold ofB at h; dsimp only at h; rw [e0] at h; simp at h) (fun h => by unfold ofB at h; dsimp only at h; rw [e0] at h; simp at h))
        go_wp2
        go_roundw
        case rel => exact ⟨k + 1, best, f, by omega, rfl, by go_num, hbA, by simp; omega, HF2.out, HFR2, HN⟩
        case measure => first | (simp [intOf]; done) | (simp [intOf]; omega)
      | true =>
        cases e1 : (pa == part) with
        | false =>
          have HN : Hid (FAt (l.take (k + 1)) u part num att best f) := Lib.hid (by rw [HT.out]; exact HFA.out.stay (fun h => by unfold ofB at h; dsimp only at h; rw [e1] at h; simp at h) (fun h => by unfold ofB at h; dsimp only at h; rw [e1] at h; simp at h) (fun h => by unfold ofB at h; dsimp only at h; rw [e1] at h; simp at h) (fun h => by unfold ofB at h; dsimp only at h; rw [e1] at h; simp at h))
          go_wp2
          go_roundw
          case rel => exact ⟨k + 1, best, f, by omega, rfl, by go_num, hbA, by simp; omega, HF2.out, HFR2, HN⟩
          case measure => first | (simp [intOf]; done) | (simp [intOf]; omega)
        | true =>
          cases e2 : (nu == num) with
          | false =>
            cases e4 : (nu == -1) with
            | false =>
              have k0 : ofB ⟨un, pa, nu, at_, la, co, re, di, sA, sn, sc, sy⟩ u part num att = false := by unfold ofB; dsimp only; rw [e2]; simp
              have k1 : ofB ⟨un, pa, nu, at_, la, co, re, di, sA, sn, sc, sy⟩ u part (-1) att = false := by unfold ofB; dsimp only; rw [e4]; simp
              have k2 : ofB ⟨un, pa, nu, at_, la, co, re, di, sA, sn, sc, sy⟩ u part num 0 = false := by unfold ofB; dsimp only; rw [e2]; simp
              have k3 : ofB ⟨un, pa, nu, at_, la, co, re, di, sA, sn, sc, sy⟩ u part (-1) 0 = false := by unfold ofB; dsimp only; rw [e4]; simp
              have HN : Hid (FAt (l.take (k + 1)) u part num att best f) := Lib.hid (by rw [HT.out]; exact HFA.out.stay (fun h => by rw [k0] at h; cases h) (fun h => by rw [k1] at h; cases h) (fun h => by rw [k2] at h; cases h) (fun h => by rw [k3] at h; cases h))
              clear k0 k1 k2 k3
              have nb : ¬ 9 < best := by omega
              go_wp2
              go_roundw
              case rel => exact ⟨k + 1, best, f, by omega, rfl, by go_num, hbA, by simp; omega, HF2.out, HFR2, HN⟩
              case measure => first | (simp [intOf]; done) | (simp [intOf]; omega)
            | true =>
              cases e3 : (at_ == att) with
              | false =>
                cases e5 : (at_ == 0) with
                | false =>
                  have k0 : ofB ⟨un, pa, nu, at_, la, co, re, di, sA, sn, sc, sy⟩ u part num att = false := by unfold ofB; dsimp only; rw [e2]; simp
                  have k1 : ofB ⟨un, pa, nu, at_, la, co, re, di, sA, sn, sc, sy⟩ u part (-1) att = false := by unfold ofB; dsimp only; rw [e3]; simp
                  have k2 : ofB ⟨un, pa, nu, at_, la, co, re, di, sA, sn, sc, sy⟩ u part num 0 = false := by unfold ofB; dsimp only; rw [e2]; simp
                  have k3 : ofB ⟨un, pa, nu, at_, la, co, re, di, sA, sn, sc, sy⟩ u part (-1) 0 = false := by unfold ofB; dsimp only; rw [e5]; simp
                  have HN : Hid (FAt (l.take (k + 1)) u part num att best f) := Lib.hid (by rw [HT.out]; exact HFA.out.stay (fun h => by rw [k0] at h; cases h) (fun h => by rw [k1] at h; cases h) (fun h => by rw [k2] at h; cases h) (fun h => by rw [k3] at h; cases h))
                  clear k0 k1 k2 k3
                  have nb : ¬ 9 < best := by omega
                  go_wp2
                  go_roundw
                  case rel => exact ⟨k + 1, best, f, by omega, rfl, by go_num, hbA, by simp; omega, HF2.out, HFR2, HN⟩
                  case measure => first | (simp [intOf]; done) | (simp [intOf]; omega)
                | true =>
                  have k0 : ofB ⟨un, pa, nu, at_, la, co, re, di, sA, sn, sc, sy⟩ u part num att = false := by unfold ofB; dsimp only; rw [e2]; simp
                  have k1 : ofB ⟨un, pa, nu, at_, la, co, re, di, sA, sn, sc, sy⟩ u part (-1) att = false := by unfold ofB; dsimp only; rw [e3]; simp
                  have k2 : ofB ⟨un, pa, nu, at_, la, co, re, di, sA, sn, sc, sy⟩ u part num 0 = false := by unfold ofB; dsimp only; rw [e2]; simp
                  have k3 : ofB ⟨un, pa, nu, at_, la, co, re, di, sA, sn, sc, sy⟩ u part (-1) 0 = true := by unfold ofB; dsimp only; rw [e0, e1, e4, e5]; rfl
                  by_cases nb : 3 < best
                  · skip
                    have HN : Hid (FAt (l.take (k + 1)) u part num att 3 ⟨un, pa, nu, at_, la, co, re, di, sA, sn, sc, sy⟩) := Lib.hid (by rw [HT.out]; exact HFA.out.take 3 nb (.inr (.inr (.inr ⟨rfl, k0, k1, k2, k3⟩))))
                    clear k0 k1 k2 k3
                    obtain ⟨fu, f1, f2, f3, f4, f5, f6, f7, fA, fn, fc, fy⟩ := f
                    have hf2 := HF2.out
                    have hfr2 := HFR2.out
                    obtain ⟨g0, g1, g2, g3, g4, g5, g6, g7, g8⟩ := hf2
                    dsimp only at g0 g1 g2 g3 g4 g5 g6 g7 g8
                    simp only [Nat.zero_add] at g1 g2 g3 g4 g5 g6 g7 g8
                    have z0 := hfr2 0 (by omega)
                    have z1 := hfr2 1 (by omega)
                    have z2 := hfr2 2 (by omega)
                    have z3 := hfr2 3 (by omega)
                    have z4 := hfr2 4 (by omega)
                    have z5 := hfr2 5 (by omega)
                    have z6 := hfr2 6 (by omega)
                    have z7 := hfr2 7 (by omega)
                    have z8 := hfr2 8 (by omega)
                    clear hfr2 q0
                    have HSET := Lib.hid (act_set (wr.alloc (.cells #[.string un, .int .i64 pa, .int .i64 nu, .int .i64 at_, .int .i64 la, .int .i64 co, .int .i64 re, .int .i64 di, .slice sA sn sc] 38)) (w.heap.size + 1 + 1) _ un pa nu at_ la co re di sA sn sc sy HF2.out HFR2.out)
                    go_wp2_with fail
                    go_region
                    go_wp2
                    go_roundw
                    case rel => exact ⟨k + 1, 3, ⟨un, pa, nu, at_, la, co, re, di, sA, sn, sc, sy⟩, by omega, rfl, by go_num, belowQ (Below.setCell (Below.setCell (Below.setCell (Below.setCell (Below.setCell (Below.setCell (Below.setCell (Below.setCell (Below.setCell hbA (by simp) _) (by simp) _) (by simp) _) (by simp) _) (by simp) _) (by simp) _) (by simp) _) (by simp) _) (by simp) _) 1, by simp; omega, HSET.out.1, Lib.hid HSET.out.2, HN⟩
                    case measure => first | (simp [intOf]; done) | (simp [intOf]; omega)
                  · skip
                    have HN : Hid (FAt (l.take (k + 1)) u part num att best f) := Lib.hid (by rw [HT.out]; exact HFA.out.stay (fun h => by rw [k0] at h; cases h) (fun h => by rw [k1] at h; cases h) (fun h => by rw [k2] at h; cases h) (fun _ => by omega))
                    clear k0 k1 k2 k3
                    go_wp2
                    go_roundw
                    case rel => exact ⟨k + 1, best, f, by omega, rfl, by go_num, hbA, by simp; omega, HF2.out, HFR2, HN⟩
                    case measure => first | (simp [intOf]; done) | (simp [intOf]; omega)
              | true =>
                have k0 : ofB ⟨un, pa, nu, at_, la, co, re, di, sA, sn, sc, sy⟩ u part num att = false := by unfold ofB; dsimp only; rw [e2]; simp
                have k1 : ofB ⟨un, pa, nu, at_, la, co, re, di, sA, sn, sc, sy⟩ u part (-1) att = true := by unfold ofB; dsimp only; rw [e0, e1, e4, e3]; rfl
                have k2 : ofB ⟨un, pa, nu, at_, la, co, re, di, sA, sn, sc, sy⟩ u part num 0 = false := by unfold ofB; dsimp only; rw [e2]; simp
                by_cases nb : 1 < best
                · skip
                  have HN : Hid (FAt (l.take (k + 1)) u part num att 1 ⟨un, pa, nu, at_, la, co, re, di, sA, sn, sc, sy⟩) := Lib.hid (by rw [HT.out]; exact HFA.out.take 1 nb (.inr (.inl ⟨rfl, k0, k1⟩)))
                  clear k0 k1 k2
                  obtain ⟨fu, f1, f2, f3, f4, f5, f6, f7, fA, fn, fc, fy⟩ := f
                  have hf2 := HF2.out
                  have hfr2 := HFR2.out
                  obtain ⟨g0, g1, g2, g3, g4, g5, g6, g7, g8⟩ := hf2
                  dsimp only at g0 g1 g2 g3 g4 g5 g6 g7 g8
                  simp only [Nat.zero_add] at g1 g2 g3 g4 g5 g6 g7 g8
                  have z0 := hfr2 0 (by omega)
                  have z1 := hfr2 1 (by omega)
                  have z2 := hfr2 2 (by omega)
                  have z3 := hfr2 3 (by omega)
                  have z4 := hfr2 4 (by omega)
                  have z5 := hfr2 5 (by omega)
                  have z6 := hfr2 6 (by omega)
                  have z7 := hfr2 7 (by omega)
                  have z8 := hfr2 8 (by omega)
                  clear hfr2 q0
                  have HSET := Lib.hid (act_set (wr.alloc (.cells #[.string un, .int .i64 pa, .int .i64 nu, .int .i64 at_, .int .i64 la, .int .i64 co, .int .i64 re, .int .i64 di, .slice sA sn sc] 38)) (w.heap.size + 1 + 1) _ un pa nu at_ la co re di sA sn sc sy HF2.out HFR2.out)
                  go_wp2_with fail
                  go_region
                  go_wp2
                  go_roundw
                  case rel => exact ⟨k + 1, 1, ⟨un, pa, nu, at_, la, co, re, di, sA, sn, sc, sy⟩, by omega, rfl, by go_num, belowQ (Below.setCell (Below.setCell (Below.setCell (Below.setCell (Below.setCell (Below.setCell (Below.setCell (Below.setCell (Below.setCell hbA (by simp) _) (by simp) _) (by simp) _) (by simp) _) (by simp) _) (by simp) _) (by simp) _) (by simp) _) (by simp) _) 1, by simp; omega, HSET.out.1, Lib.hid HSET.out.2, HN⟩
                  case measure => first | (simp [intOf]; done) | (simp [intOf]; omega)
                · skip
                  have HN : Hid (FAt (l.take (k + 1)) u part num att best f) := Lib.hid (by rw [HT.out]; exact HFA.out.stay (fun h => by rw [k0] at h; cases h) (fun _ => by omega) (fun h => by rw [k2] at h; cases h) (fun _ => by omega))
                  clear k0 k1 k2
                  go_wp2
                  go_roundw
                  case rel => exact ⟨k + 1, best, f, by omega, rfl, by go_num, hbA, by simp; omega, HF2.out, HFR2, HN⟩
                  case measure => first | (simp [intOf]; done) | (simp [intOf]; omega)
          | true =>
            cases e3 : (at_ == att) with
            | false =>
              cases e4 : (nu == -1) with
              | false =>
                cases e5 : (at_ == 0) with
                | false =>
                  have k0 : ofB ⟨un, pa, nu, at_, la, co, re, di, sA, sn, sc, sy⟩ u part num att = false := by unfold ofB; dsimp only; rw [e3]; simp
                  have k1 : ofB ⟨un, pa, nu, at_, la, co, re, di, sA, sn, sc, sy⟩ u part (-1) att = false := by unfold ofB; dsimp only; rw [e4]; simp
                  have k2 : ofB ⟨un, pa, nu, at_, la, co, re, di, sA, sn, sc, sy⟩ u part num 0 = false := by unfold ofB; dsimp only; rw [e5]; simp
                  have k3 : ofB ⟨un, pa, nu, at_, la, co, re, di, sA, sn, sc, sy⟩ u part (-1) 0 = false := by unfold ofB; dsimp only; rw [e4]; simp
                  have HN : Hid (FAt (l.take (k + 1)) u part num att best f) := Lib.hid (by rw [HT.out]; exact HFA.out.stay (fun h => by rw [k0] at h; cases h) (fun h => by rw [k1] at h; cases h) (fun h => by rw [k2] at h; cases h) (fun h => by rw [k3] at h; cases h))
                  clear k0 k1 k2 k3
                  have nb : ¬ 9 < best := by omega
                  go_wp2
                  go_roundw
                  case rel => exact ⟨k + 1, best, f, by omega, rfl, by go_num, hbA, by simp; omega, HF2.out, HFR2, HN⟩
                  case measure => first | (simp [intOf]; done) | (simp [intOf]; omega)
                | true =>
                  have k0 : ofB ⟨un, pa, nu, at_, la, co, re, di, sA, sn, sc, sy⟩ u part num att = false := by unfold ofB; dsimp only; rw [e3]; simp
                  have k1 : ofB ⟨un, pa, nu, at_, la, co, re, di, sA, sn, sc, sy⟩ u part (-1) att = false := by unfold ofB; dsimp only; rw [e4]; simp
                  have k2 : ofB ⟨un, pa, nu, at_, la, co, re, di, sA, sn, sc, sy⟩ u part num 0 = true := by unfold ofB; dsimp only; rw [e0, e1, e2, e5]; rfl
                  have k3 : ofB ⟨un, pa, nu, at_, la, co, re, di, sA, sn, sc, sy⟩ u part (-1) 0 = false := by unfold ofB; dsimp only; rw [e4]; simp
                  by_cases nb : 2 < best
                  · skip
                    have HN : Hid (FAt (l.take (k + 1)) u part num att 2 ⟨un, pa, nu, at_, la, co, re, di, sA, sn, sc, sy⟩) := Lib.hid (by rw [HT.out]; exact HFA.out.take 2 nb (.inr (.inr (.inl ⟨rfl, k0, k1, k2⟩))))
                    clear k0 k1 k2 k3
                    obtain ⟨fu, f1, f2, f3, f4, f5, f6, f7, fA, fn, fc, fy⟩ := f
                    have hf2 := HF2.out
                    have hfr2 := HFR2.out
                    obtain ⟨g0, g1, g2, g3, g4, g5, g6, g7, g8⟩ := hf2
                    dsimp only at g0 g1 g2 g3 g4 g5 g6 g7 g8
                    simp only [Nat.zero_add] at g1 g2 g3 g4 g5 g6 g7 g8
                    have z0 := hfr2 0 (by omega)
                    have z1 := hfr2 1 (by omega)
                    have z2 := hfr2 2 (by omega)
                    have z3 := hfr2 3 (by omega)
                    have z4 := hfr2 4 (by omega)
                    have z5 := hfr2 5 (by omega)
                    have z6 := hfr2 6 (by omega)
                    have z7 := hfr2 7 (by omega)
                    have z8 := hfr2 8 (by omega)
                    clear hfr2 q0
                    have HSET := Lib.hid (act_set (wr.alloc (.cells #[.string un, .int .i64 pa, .int .i64 nu, .int .i64 at_, .int .i64 la, .int .i64 co, .int .i64 re, .int .i64 di, .slice sA sn sc] 38)) (w.heap.size + 1 + 1) _ un pa nu at_ la co re di sA sn sc sy HF2.out HFR2.out)
                    go_wp2_with fail
                    go_region
                    go_wp2
                    go_roundw
                    case rel => exact ⟨k + 1, 2, ⟨un, pa, nu, at_, la, co, re, di, sA, sn, sc, sy⟩, by omega, rfl, by go_num, belowQ (Below.setCell (Below.setCell (Below.setCell (Below.setCell (Below.setCell (Below.setCell (Below.setCell (Below.setCell (Below.setCell hbA (by simp) _) (by simp) _) (by simp) _) (by simp) _) (by simp) _) (by simp) _) (by simp) _) (by simp) _) (by simp) _) 1, by simp; omega, HSET.out.1, Lib.hid HSET.out.2, HN⟩
                    case measure => first | (simp [intOf]; done) | (simp [intOf]; omega)
                  · skip
                    have HN : Hid (FAt (l.take (k + 1)) u part num att best f) := Lib.hid (by rw [HT.out]; exact HFA.out.stay (fun h => by rw [k0] at h; cases h) (fun h => by rw [k1] at h; cases h) (fun _ => by omega) (fun h => by rw [k3] at h; cases h))
                    clear k0 k1 k2 k3
                    go_wp2
                    go_roundw
                    case rel => exact ⟨k + 1, best, f, by omega, rfl, by go_num, hbA, by simp; omega, HF2.out, HFR2, HN⟩
                    case measure => first | (simp [intOf]; done) | (simp [intOf]; omega)
              | true =>
                cases e5 : (at_ == 0) with
                | false =>
                  have k0 : ofB ⟨un, pa, nu, at_, la, co, re, di, sA, sn, sc, sy⟩ u part num att = false := by unfold ofB; dsimp only; rw [e3]; simp
                  have k1 : ofB ⟨un, pa, nu, at_, la, co, re, di, sA, sn, sc, sy⟩ u part (-1) att = false := by unfold ofB; dsimp only; rw [e3]; simp
                  have k2 : ofB ⟨un, pa, nu, at_, la, co, re, di, sA, sn, sc, sy⟩ u part num 0 = false := by unfold ofB; dsimp only; rw [e5]; simp
                  have k3 : ofB ⟨un, pa, nu, at_, la, co, re, di, sA, sn, sc, sy⟩ u part (-1) 0 = false := by unfold ofB; dsimp only; rw [e5]; simp
                  have HN : Hid (FAt (l.take (k + 1)) u part num att best f) := Lib.hid (by rw [HT.out]; exact HFA.out.stay (fun h => by rw [k0] at h; cases h) (fun h => by rw [k1] at h; cases h) (fun h => by rw [k2] at h; cases h) (fun h => by rw [k3] at h; cases h))
                  clear k0 k1 k2 k3
                  have nb : ¬ 9 < best := by omega
                  go_wp2
                  go_roundw
                  case rel => exact ⟨k + 1, best, f, by omega, rfl, by go_num, hbA, by simp; omega, HF2.out, HFR2, HN⟩
                  case measure => first | (simp [intOf]; done) | (simp [intOf]; omega)
                | true =>
                  have k0 : ofB ⟨un, pa, nu, at_, la, co, re, di, sA, sn, sc, sy⟩ u part num att = false := by unfold ofB; dsimp only; rw [e3]; simp
                  have k1 : ofB ⟨un, pa, nu, at_, la, co, re, di, sA, sn, sc, sy⟩ u part (-1) att = false := by unfold ofB; dsimp only; rw [e3]; simp
                  have k2 : ofB ⟨un, pa, nu, at_, la, co, re, di, sA, sn, sc, sy⟩ u part num 0 = true := by unfold ofB; dsimp only; rw [e0, e1, e2, e5]; rfl
                  have k3 : ofB ⟨un, pa, nu, at_, la, co, re, di, sA, sn, sc, sy⟩ u part (-1) 0 = true := by unfold ofB; dsimp only; rw [e0, e1, e4, e5]; rfl
                  by_cases nb : 2 < best
                  · skip
                    have HN : Hid (FAt (l.take (k + 1)) u part num att 2 ⟨un, pa, nu, at_, la, co, re, di, sA, sn, sc, sy⟩) := Lib.hid (by rw [HT.out]; exact HFA.out.take 2 nb (.inr (.inr (.inl ⟨rfl, k0, k1, k2⟩))))
                    clear k0 k1 k2 k3
                    obtain ⟨fu, f1, f2, f3, f4, f5, f6, f7, fA, fn, fc, fy⟩ := f
                    have hf2 := HF2.out
                    have hfr2 := HFR2.out
                    obtain ⟨g0, g1, g2, g3, g4, g5, g6, g7, g8⟩ := hf2
                    dsimp only at g0 g1 g2 g3 g4 g5 g6 g7 g8
                    simp only [Nat.zero_add] at g1 g2 g3 g4 g5 g6 g7 g8
                    have z0 := hfr2 0 (by omega)
                    have z1 := hfr2 1 (by omega)
                    have z2 := hfr2 2 (by omega)
                    have z3 := hfr2 3 (by omega)
                    have z4 := hfr2 4 (by omega)
                    have z5 := hfr2 5 (by omega)
                    have z6 := hfr2 6 (by omega)
                    have z7 := hfr2 7 (by omega)
                    have z8 := hfr2 8 (by omega)
                    clear hfr2 q0
                    have HSET := Lib.hid (act_set (wr.alloc (.cells #[.string un, .int .i64 pa, .int .i64 nu, .int .i64 at_, .int .i64 la, .int .i64 co, .int .i64 re, .int .i64 di, .slice sA sn sc] 38)) (w.heap.size + 1 + 1) _ un pa nu at_ la co re di sA sn sc sy HF2.out HFR2.out)
                    go_wp2_with fail
                    go_region
                    go_wp2
                    go_roundw
                    case rel => exact ⟨k + 1, 2, ⟨un, pa, nu, at_, la, co, re, di, sA, sn, sc, sy⟩, by omega, rfl, by go_num, belowQ (Below.setCell (Below.setCell (Below.setCell (Below.setCell (Below.setCell (Below.setCell (Below.setCell (Below.setCell (Below.setCell hbA (by simp) _) (by simp) _) (by simp) _) (by simp) _) (by simp) _) (by simp) _) (by simp) _) (by simp) _) (by simp) _) 1, by simp; omega, HSET.out.1, Lib.hid HSET.out.2, HN⟩
                    case measure => first | (simp [intOf]; done) | (simp [intOf]; omega)
                  · skip
                    have HN : Hid (FAt (l.take (k + 1)) u part num att best f) := Lib.hid (by rw [HT.out]; exact HFA.out.stay (fun h => by rw [k0] at h; cases h) (fun h => by rw [k1] at h; cases h) (fun _ => by omega) (fun _ => by omega))
                    clear k0 k1 k2 k3
                    go_wp2
                    go_roundw
                    case rel => exact ⟨k + 1, best, f, by omega, rfl, by go_num, hbA, by simp; omega, HF2.out, HFR2, HN⟩
                    case measure => first | (simp [intOf]; done) | (simp [intOf]; omega)
            | true =>
              have k0 : ofB ⟨un, pa, nu, at_, la, co, re, di, sA, sn, sc, sy⟩ u part num att = true := by unfold ofB; dsimp only; rw [e0, e1, e2, e3]; rfl
              by_cases nb : 0 < best
              · skip
                have HN : Hid (FAt (l.take (k + 1)) u part num att 0 ⟨un, pa, nu, at_, la, co, re, di, sA, sn, sc, sy⟩) := Lib.hid (by rw [HT.out]; exact HFA.out.take 0 nb (.inl ⟨rfl, k0⟩))
                clear k0
                obtain ⟨fu, f1, f2, f3, f4, f5, f6, f7, fA, fn, fc, fy⟩ := f
                have hf2 := HF2.out
                have hfr2 := HFR2.out
                obtain ⟨g0, g1, g2, g3, g4, g5, g6, g7, g8⟩ := hf2
                dsimp only at g0 g1 g2 g3 g4 g5 g6 g7 g8
                simp only [Nat.zero_add] at g1 g2 g3 g4 g5 g6 g7 g8
                have z0 := hfr2 0 (by omega)
                have z1 := hfr2 1 (by omega)
                have z2 := hfr2 2 (by omega)
                have z3 := hfr2 3 (by omega)
                have z4 := hfr2 4 (by omega)
                have z5 := hfr2 5 (by omega)
                have z6 := hfr2 6 (by omega)
                have z7 := hfr2 7 (by omega)
                have z8 := hfr2 8 (by omega)
                clear hfr2 q0
                have HSET := Lib.hid (act_set (wr.alloc (.cells #[.string un, .int .i64 pa, .int .i64 nu, .int .i64 at_, .int .i64 la, .int .i64 co, .int .i64 re, .int .i64 di, .slice sA sn sc] 38)) (w.heap.size + 1 + 1) _ un pa nu at_ la co re di sA sn sc sy HF2.out HFR2.out)
                go_wp2_with fail
                go_region
                go_wp2
                go_roundw
                case rel => exact ⟨k + 1, 0, ⟨un, pa, nu, at_, la, co, re, di, sA, sn, sc, sy⟩, by omega, rfl, by go_num, belowQ (Below.setCell (Below.setCell (Below.setCell (Below.setCell (Below.setCell (Below.setCell (Below.setCell (Below.setCell (Below.setCell hbA (by simp) _) (by simp) _) (by simp) _) (by simp) _) (by simp) _) (by simp) _) (by simp) _) (by simp) _) (by simp) _) 1, by simp; omega, HSET.out.1, Lib.hid HSET.out.2, HN⟩
                case measure => first | (simp [intOf]; done) | (simp [intOf]; omega)
              · skip
                have HN : Hid (FAt (l.take (k + 1)) u part num att best f) := Lib.hid (by rw [HT.out]; exact HFA.out.stay (fun _ => by omega) (fun _ => by omega) (fun _ => by omega) (fun _ => by omega))
                clear k0
                go_wp2
                go_roundw
                case rel => exact ⟨k + 1, best, f, by omega, rfl, by go_num, hbA, by simp; omega, HF2.out, HFR2, HN⟩
                case measure => first | (simp [intOf]; done) | (simp [intOf]; omega)
    · skip
      have x1 : ¬ (k : Int) < (an : Int) := by omega
      have HALL : Hid (FAt l u part num att best f) := Lib.hid (by have := HFA.out; rw [List.take_of_length_le (by rw [HL.out]; omega)] at this; exact this)
      clear HFA hbest q0 HFR
      obtain ⟨fu, f1, f2, f3, f4, f5, f6, f7, fA, fn, fc, fy⟩ := f
      have hf := HF.out
      obtain ⟨g0, g1, g2, g3, g4, g5, g6, g7, g8⟩ := hf
      dsimp only at g0 g1 g2 g3 g4 g5 g6 g7 g8
      simp only [Nat.zero_add] at g1 g2 g3 g4 g5 g6 g7 g8
      have d0 : wr.cell? ⟨w.heap.size + 1, 0, none⟩ = some (.string ⟨#[]⟩) := (hb.cell (p := ⟨w.heap.size + 1, 0, none⟩) (by simp)).trans (by go_simp)
      have f0' : wr.frozen? ⟨w.heap.size + 1, 0, none⟩ = false := (hb.frozen (p := ⟨w.heap.size + 1, 0, none⟩) (by simp)).trans (by go_simp)
      have d1 : wr.cell? ⟨w.heap.size + 1, 1, none⟩ = some (.int .i64 0) := (hb.cell (p := ⟨w.heap.size + 1, 1, none⟩) (by simp)).trans (by go_simp)
      have f1' : wr.frozen? ⟨w.heap.size + 1, 1, none⟩ = false := (hb.frozen (p := ⟨w.heap.size + 1, 1, none⟩) (by simp)).trans (by go_simp)
      have d2 : wr.cell? ⟨w.heap.size + 1, 2, none⟩ = some (.int .i64 0) := (hb.cell (p := ⟨w.heap.size + 1, 2, none⟩) (by simp)).trans (by go_simp)
      have f2' : wr.frozen? ⟨w.heap.size + 1, 2, none⟩ = false := (hb.frozen (p := ⟨w.heap.size + 1, 2, none⟩) (by simp)).trans (by go_simp)
      have d3 : wr.cell? ⟨w.heap.size + 1, 3, none⟩ = some (.int .i64 0) := (hb.cell (p := ⟨w.heap.size + 1, 3, none⟩) (by simp)).trans (by go_simp)
      have f3' : wr.frozen? ⟨w.heap.size + 1, 3, none⟩ = false := (hb.frozen (p := ⟨w.heap.size + 1, 3, none⟩) (by simp)).trans (by go_simp)
      have d4 : wr.cell? ⟨w.heap.size + 1, 4, none⟩ = some (.int .i64 0) := (hb.cell (p := ⟨w.heap.size + 1, 4, none⟩) (by simp)).trans (by go_simp)
      have f4' : wr.frozen? ⟨w.heap.size + 1, 4, none⟩ = false := (hb.frozen (p := ⟨w.heap.size + 1, 4, none⟩) (by simp)).trans (by go_simp)
      have d5 : wr.cell? ⟨w.heap.size + 1, 5, none⟩ = some (.int .i64 0) := (hb.cell (p := ⟨w.heap.size + 1, 5, none⟩) (by simp)).trans (by go_simp)
      have f5' : wr.frozen? ⟨w.heap.size + 1, 5, none⟩ = false := (hb.frozen (p := ⟨w.heap.size + 1, 5, none⟩) (by simp)).trans (by go_simp)
      have d6 : wr.cell? ⟨w.heap.size + 1, 6, none⟩ = some (.int .i64 0) := (hb.cell (p := ⟨w.heap.size + 1, 6, none⟩) (by simp)).trans (by go_simp)
      have f6' : wr.frozen? ⟨w.heap.size + 1, 6, none⟩ = false := (hb.frozen (p := ⟨w.heap.size + 1, 6, none⟩) (by simp)).trans (by go_simp)
      have d7 : wr.cell? ⟨w.heap.size + 1, 7, none⟩ = some (.int .i64 0) := (hb.cell (p := ⟨w.heap.size + 1, 7, none⟩) (by simp)).trans (by go_simp)
      have f7' : wr.frozen? ⟨w.heap.size + 1, 7, none⟩ = false := (hb.frozen (p := ⟨w.heap.size + 1, 7, none⟩) (by simp)).trans (by go_simp)
      have d8 : wr.cell? ⟨w.heap.size + 1, 8, none⟩ = some (.slice none 0 0) := (hb.cell (p := ⟨w.heap.size + 1, 8, none⟩) (by simp)).trans (by go_simp)
      have f8' : wr.frozen? ⟨w.heap.size + 1, 8, none⟩ = false := (hb.frozen (p := ⟨w.heap.size + 1, 8, none⟩) (by simp)).trans (by go_simp)
      clear HF
      go_wp2_with fail
      refine bodyPost_ret (v := .tuple #[.agg #[.string fu, .int .i64 f1, .int .i64 f2, .int .i64 f3, .int .i64 f4, .int .i64 f5, .int .i64 f6, .int .i64 f7, .slice fA fn fc], .bool (decide (best < 9))]) (by simp [results, Try.results14, go_sem, d0, d1, d2, d3, d4, d5, d6, d7, d8]) rfl ?_
      exact ⟨⟨best, _, rfl, HALL.out⟩, (Below.setCell (Below.setCell (Below.setCell (Below.setCell (Below.setCell (Below.setCell (Below.setCell (Below.setCell (Below.setCell hbw (by simp) _) (by simp) _) (by simp) _) (by simp) _) (by simp) _) (by simp) _) (by simp) _) (by simp) _) (by simp) _)⟩

end Go.Proofs.Ytkfeicgeobhccaa
