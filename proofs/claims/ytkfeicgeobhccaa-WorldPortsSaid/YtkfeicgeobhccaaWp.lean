/-
  The reference's walk that says whether an act may be.
-/
import Derived.Test.YtkfeicgeobhccaaWo
import Derived.Test.YtkfeicgeobhccaaNm6
import Derived.Test.YtkfeicgeobhccaaSp3
import Derived.BigQuiet
namespace Go.Proofs.Ytkfeicgeobhccaa
open Go.RowKit

/-- a world since another one -/
structure Since (B : Nat) (w : World) where
  w' : World
  hb : Below B w w'
instance {B : Nat} {w : World} : Inhabited (Since B w) := ⟨⟨w, Below.refl _ _⟩⟩
theorem wp_region_since {P : Program} {id : Nat} {Q : Exit → Act → World → Prop} {a : Act} {w : World} {l : List Oper} (B : Nat) (hm : P.follows .mixedOrders = true) (hB : Region.lexB .any l.toArray = true)
    (h : wpQuiet P l.toArray (fun w' => ∃ p : Since B w, w' = p.w') (fun a' => ∀ w', (∃ p : Since B w, w' = p.w') → Q .normal a' w') l a) : (Code.region id l.toArray true).wp P Q a w :=
  wp_region_quiet (C := fun w' => ∃ p : Since B w, w' = p.w') hm hB ⟨⟨w.drewN 1, belowQ (Below.refl _ _) _⟩, rfl⟩ (by simpa using h)
theorem Calls.since_of {P : Program} {f : FuncId} {args : Array Value} {B : Nat} {w : World} {p : Since B w} {v : Value} (hw : B ≤ w.heap.size)
    (h : Calls P f args p.w' fun e w' => e = .returned v ∧ Below p.w'.heap.size p.w' w') : Calls P f args p.w' fun e w'' => e = .returned v ∧ ∃ q : Since B w, w'' = q.w' :=
  h.mono fun _ _ ⟨he, hb⟩ => ⟨he, ⟨⟨_, p.hb.trans (hb.mono (Nat.le_trans hw p.hb.size))⟩, rfl⟩⟩
theorem Calls.since_same {P : Program} {f : FuncId} {args : Array Value} {B : Nat} {w : World} {p : Since B w} {v : Value}
    (h : Calls P f args p.w' fun e w' => e = .returned v ∧ p.w' = w') : Calls P f args p.w' fun e w'' => e = .returned v ∧ ∃ q : Since B w, w'' = q.w' :=
  h.mono fun _ _ ⟨he, hb⟩ => ⟨he, ⟨p, hb.symm⟩⟩

/-- what the loop of texts compares with -/
def LastIs (l : List (Int × ByteArray)) (k : Nat) (last : Int) : Prop := (k = 0 ∧ last = 0) ∨ ∃ j, ∃ hj : j < l.length, k = j + 1 ∧ last = l[j].1
theorem span_pos {n : Int} (h : spanB n = true) : 0 ≤ n := by
  unfold spanB at h
  simp at h
  omega

set_option maxRecDepth 100000 in
set_option maxHeartbeats 16000000 in
theorem rmayact_any (a : ActD) (w : World) (B : Nat) (h : ActIn w B a) (hB : B ≤ w.heap.size) :
    Calls Try.prog 33 #[actV a] w fun e w' => e = .returned (.bool (actB a)) ∧ Below w.heap.size w w' := by
  obtain ⟨un, pa, nu, at_, la, co, re, di, sA, sn, sc, sy⟩ := a
  obtain ⟨hr, hsn, hun, hsy⟩ := h
  dsimp only at hr hsn hun hsy
  have hl : sy.length = sn := by have h1 := hr.1; rw [sayCells_len] at h1; omega
  obtain ⟨kd, p, i, ap, HO, hp, hi⟩ := of_ex un.data.toList
  have hkd : Sp.kindL un.data.toList = kd := by have := HO.out; rw [Sp.ofL_eq] at this; exact (Prod.mk.inj this).1
  have HV : Hid (actB ⟨un, pa, nu, at_, la, co, re, di, sA, sn, sc, sy⟩ = ((kd == 1) && (decide (1 ≤ pa) && (decide (pa ≤ 5) && (decide (-1 ≤ nu) && (decide (nu ≤ 15) && (decide (0 ≤ at_) && (decide (at_ ≤ 1000) && (spanB la && (spanB re && (spanB di && (decide (0 ≤ co) && (decide (co ≤ 256) && (saysFrom 0 sy && decide (sn ≤ 4))))))))))))))) := Lib.hid (by rw [← hl, ← hkd]; rfl)
  have HL := Lib.hid hl
  have HSY := Lib.hid hsy
  have HR := Lib.hid hr
  clear hsy hr hl hkd hp hi
  show Calls Try.prog 33 #[.agg #[.string un, .int .i64 pa, .int .i64 nu, .int .i64 at_, .int .i64 la, .int .i64 co, .int .i64 re, .int .i64 di, .slice sA sn sc]] w _
  generalize actB ⟨un, pa, nu, at_, la, co, re, di, sA, sn, sc, sy⟩ = res at *
  by_cases c0 : kd = 1
  rotate_left
  · have c0b : (kd == 1) = false := by simp [c0]
    have HRES : Hid (res = false) := Lib.hid (by rw [HV.out]; rw [c0b]; simp)
    go_enter Try.func33, Try.ntmps33
    go_wp2_with fail
    refine (of_as un _ _ p i ap HO).mono ?_
    rintro e w1 ⟨rfl, hb1⟩
    have b0 : w1.cell? ⟨w.heap.size, 0, none⟩ = some (.string un) := (hb1.cell (p := ⟨w.heap.size, 0, none⟩) (by simp)).trans (by go_simp)
    have b1 : w1.cell? ⟨w.heap.size, 1, none⟩ = some (.int .i64 pa) := (hb1.cell (p := ⟨w.heap.size, 1, none⟩) (by simp)).trans (by go_simp)
    have b2 : w1.cell? ⟨w.heap.size, 2, none⟩ = some (.int .i64 nu) := (hb1.cell (p := ⟨w.heap.size, 2, none⟩) (by simp)).trans (by go_simp)
    have b3 : w1.cell? ⟨w.heap.size, 3, none⟩ = some (.int .i64 at_) := (hb1.cell (p := ⟨w.heap.size, 3, none⟩) (by simp)).trans (by go_simp)
    have b4 : w1.cell? ⟨w.heap.size, 4, none⟩ = some (.int .i64 la) := (hb1.cell (p := ⟨w.heap.size, 4, none⟩) (by simp)).trans (by go_simp)
    have b5 : w1.cell? ⟨w.heap.size, 5, none⟩ = some (.int .i64 co) := (hb1.cell (p := ⟨w.heap.size, 5, none⟩) (by simp)).trans (by go_simp)
    have b6 : w1.cell? ⟨w.heap.size, 6, none⟩ = some (.int .i64 re) := (hb1.cell (p := ⟨w.heap.size, 6, none⟩) (by simp)).trans (by go_simp)
    have b7 : w1.cell? ⟨w.heap.size, 7, none⟩ = some (.int .i64 di) := (hb1.cell (p := ⟨w.heap.size, 7, none⟩) (by simp)).trans (by go_simp)
    have b8 : w1.cell? ⟨w.heap.size, 8, none⟩ = some (.slice sA sn sc) := (hb1.cell (p := ⟨w.heap.size, 8, none⟩) (by simp)).trans (by go_simp)
    have hbb := ((Below.refl w.heap.size w).alloc (Nat.le_refl _) (.cells #[.string un, .int .i64 pa, .int .i64 nu, .int .i64 at_, .int .i64 la, .int .i64 co, .int .i64 re, .int .i64 di, .slice sA sn sc] 38)).trans (hb1.mono (by simp))
    have hz1 : w.heap.size + 1 ≤ w1.heap.size := by have := hb1.size; simpa using this
    clear hb1
    go_wp2
    go_ret
    exact ⟨ret_bool HRES.out.symm, hbb⟩
  · subst c0
    by_cases c1 : pa < 1
    · skip
      have HRES : Hid (res = false) := Lib.hid (by rw [HV.out]; simp; omega)
      go_enter Try.func33, Try.ntmps33
      go_wp2_with fail
      refine (of_as un _ _ p i ap HO).mono ?_
      rintro e w1 ⟨rfl, hb1⟩
      have b0 : w1.cell? ⟨w.heap.size, 0, none⟩ = some (.string un) := (hb1.cell (p := ⟨w.heap.size, 0, none⟩) (by simp)).trans (by go_simp)
      have b1 : w1.cell? ⟨w.heap.size, 1, none⟩ = some (.int .i64 pa) := (hb1.cell (p := ⟨w.heap.size, 1, none⟩) (by simp)).trans (by go_simp)
      have b2 : w1.cell? ⟨w.heap.size, 2, none⟩ = some (.int .i64 nu) := (hb1.cell (p := ⟨w.heap.size, 2, none⟩) (by simp)).trans (by go_simp)
      have b3 : w1.cell? ⟨w.heap.size, 3, none⟩ = some (.int .i64 at_) := (hb1.cell (p := ⟨w.heap.size, 3, none⟩) (by simp)).trans (by go_simp)
      have b4 : w1.cell? ⟨w.heap.size, 4, none⟩ = some (.int .i64 la) := (hb1.cell (p := ⟨w.heap.size, 4, none⟩) (by simp)).trans (by go_simp)
      have b5 : w1.cell? ⟨w.heap.size, 5, none⟩ = some (.int .i64 co) := (hb1.cell (p := ⟨w.heap.size, 5, none⟩) (by simp)).trans (by go_simp)
      have b6 : w1.cell? ⟨w.heap.size, 6, none⟩ = some (.int .i64 re) := (hb1.cell (p := ⟨w.heap.size, 6, none⟩) (by simp)).trans (by go_simp)
      have b7 : w1.cell? ⟨w.heap.size, 7, none⟩ = some (.int .i64 di) := (hb1.cell (p := ⟨w.heap.size, 7, none⟩) (by simp)).trans (by go_simp)
      have b8 : w1.cell? ⟨w.heap.size, 8, none⟩ = some (.slice sA sn sc) := (hb1.cell (p := ⟨w.heap.size, 8, none⟩) (by simp)).trans (by go_simp)
      have hbb := ((Below.refl w.heap.size w).alloc (Nat.le_refl _) (.cells #[.string un, .int .i64 pa, .int .i64 nu, .int .i64 at_, .int .i64 la, .int .i64 co, .int .i64 re, .int .i64 di, .slice sA sn sc] 38)).trans (hb1.mono (by simp))
      have hz1 : w.heap.size + 1 ≤ w1.heap.size := by have := hb1.size; simpa using this
      clear hb1
      go_wp2
      go_ret
      exact ⟨ret_bool HRES.out.symm, hbb⟩
    · skip
      by_cases c2 : 5 < pa
      · skip
        have HRES : Hid (res = false) := Lib.hid (by rw [HV.out]; simp; omega)
        go_enter Try.func33, Try.ntmps33
        go_wp2_with fail
        refine (of_as un _ _ p i ap HO).mono ?_
        rintro e w1 ⟨rfl, hb1⟩
        have b0 : w1.cell? ⟨w.heap.size, 0, none⟩ = some (.string un) := (hb1.cell (p := ⟨w.heap.size, 0, none⟩) (by simp)).trans (by go_simp)
        have b1 : w1.cell? ⟨w.heap.size, 1, none⟩ = some (.int .i64 pa) := (hb1.cell (p := ⟨w.heap.size, 1, none⟩) (by simp)).trans (by go_simp)
        have b2 : w1.cell? ⟨w.heap.size, 2, none⟩ = some (.int .i64 nu) := (hb1.cell (p := ⟨w.heap.size, 2, none⟩) (by simp)).trans (by go_simp)
        have b3 : w1.cell? ⟨w.heap.size, 3, none⟩ = some (.int .i64 at_) := (hb1.cell (p := ⟨w.heap.size, 3, none⟩) (by simp)).trans (by go_simp)
        have b4 : w1.cell? ⟨w.heap.size, 4, none⟩ = some (.int .i64 la) := (hb1.cell (p := ⟨w.heap.size, 4, none⟩) (by simp)).trans (by go_simp)
        have b5 : w1.cell? ⟨w.heap.size, 5, none⟩ = some (.int .i64 co) := (hb1.cell (p := ⟨w.heap.size, 5, none⟩) (by simp)).trans (by go_simp)
        have b6 : w1.cell? ⟨w.heap.size, 6, none⟩ = some (.int .i64 re) := (hb1.cell (p := ⟨w.heap.size, 6, none⟩) (by simp)).trans (by go_simp)
        have b7 : w1.cell? ⟨w.heap.size, 7, none⟩ = some (.int .i64 di) := (hb1.cell (p := ⟨w.heap.size, 7, none⟩) (by simp)).trans (by go_simp)
        have b8 : w1.cell? ⟨w.heap.size, 8, none⟩ = some (.slice sA sn sc) := (hb1.cell (p := ⟨w.heap.size, 8, none⟩) (by simp)).trans (by go_simp)
        have hbb := ((Below.refl w.heap.size w).alloc (Nat.le_refl _) (.cells #[.string un, .int .i64 pa, .int .i64 nu, .int .i64 at_, .int .i64 la, .int .i64 co, .int .i64 re, .int .i64 di, .slice sA sn sc] 38)).trans (hb1.mono (by simp))
        have hz1 : w.heap.size + 1 ≤ w1.heap.size := by have := hb1.size; simpa using this
        clear hb1
        go_wp2
        go_ret
        exact ⟨ret_bool HRES.out.symm, hbb⟩
      · skip
        by_cases c3 : nu < -1
        · skip
          have HRES : Hid (res = false) := Lib.hid (by rw [HV.out]; simp; omega)
          go_enter Try.func33, Try.ntmps33
          go_wp2_with fail
          refine (of_as un _ _ p i ap HO).mono ?_
          rintro e w1 ⟨rfl, hb1⟩
          have b0 : w1.cell? ⟨w.heap.size, 0, none⟩ = some (.string un) := (hb1.cell (p := ⟨w.heap.size, 0, none⟩) (by simp)).trans (by go_simp)
          have b1 : w1.cell? ⟨w.heap.size, 1, none⟩ = some (.int .i64 pa) := (hb1.cell (p := ⟨w.heap.size, 1, none⟩) (by simp)).trans (by go_simp)
          have b2 : w1.cell? ⟨w.heap.size, 2, none⟩ = some (.int .i64 nu) := (hb1.cell (p := ⟨w.heap.size, 2, none⟩) (by simp)).trans (by go_simp)
          have b3 : w1.cell? ⟨w.heap.size, 3, none⟩ = some (.int .i64 at_) := (hb1.cell (p := ⟨w.heap.size, 3, none⟩) (by simp)).trans (by go_simp)
          have b4 : w1.cell? ⟨w.heap.size, 4, none⟩ = some (.int .i64 la) := (hb1.cell (p := ⟨w.heap.size, 4, none⟩) (by simp)).trans (by go_simp)
          have b5 : w1.cell? ⟨w.heap.size, 5, none⟩ = some (.int .i64 co) := (hb1.cell (p := ⟨w.heap.size, 5, none⟩) (by simp)).trans (by go_simp)
          have b6 : w1.cell? ⟨w.heap.size, 6, none⟩ = some (.int .i64 re) := (hb1.cell (p := ⟨w.heap.size, 6, none⟩) (by simp)).trans (by go_simp)
          have b7 : w1.cell? ⟨w.heap.size, 7, none⟩ = some (.int .i64 di) := (hb1.cell (p := ⟨w.heap.size, 7, none⟩) (by simp)).trans (by go_simp)
          have b8 : w1.cell? ⟨w.heap.size, 8, none⟩ = some (.slice sA sn sc) := (hb1.cell (p := ⟨w.heap.size, 8, none⟩) (by simp)).trans (by go_simp)
          have hbb := ((Below.refl w.heap.size w).alloc (Nat.le_refl _) (.cells #[.string un, .int .i64 pa, .int .i64 nu, .int .i64 at_, .int .i64 la, .int .i64 co, .int .i64 re, .int .i64 di, .slice sA sn sc] 38)).trans (hb1.mono (by simp))
          have hz1 : w.heap.size + 1 ≤ w1.heap.size := by have := hb1.size; simpa using this
          clear hb1
          go_wp2
          go_ret
          exact ⟨ret_bool HRES.out.symm, hbb⟩
        · skip
          by_cases c4 : 15 < nu
          · skip
            have HRES : Hid (res = false) := Lib.hid (by rw [HV.out]; simp; omega)
            go_enter Try.func33, Try.ntmps33
            go_wp2_with fail
            refine (of_as un _ _ p i ap HO).mono ?_
            rintro e w1 ⟨rfl, hb1⟩
            have b0 : w1.cell? ⟨w.heap.size, 0, none⟩ = some (.string un) := (hb1.cell (p := ⟨w.heap.size, 0, none⟩) (by simp)).trans (by go_simp)
            have b1 : w1.cell? ⟨w.heap.size, 1, none⟩ = some (.int .i64 pa) := (hb1.cell (p := ⟨w.heap.size, 1, none⟩) (by simp)).trans (by go_simp)
            have b2 : w1.cell? ⟨w.heap.size, 2, none⟩ = some (.int .i64 nu) := (hb1.cell (p := ⟨w.heap.size, 2, none⟩) (by simp)).trans (by go_simp)
            have b3 : w1.cell? ⟨w.heap.size, 3, none⟩ = some (.int .i64 at_) := (hb1.cell (p := ⟨w.heap.size, 3, none⟩) (by simp)).trans (by go_simp)
            have b4 : w1.cell? ⟨w.heap.size, 4, none⟩ = some (.int .i64 la) := (hb1.cell (p := ⟨w.heap.size, 4, none⟩) (by simp)).trans (by go_simp)
            have b5 : w1.cell? ⟨w.heap.size, 5, none⟩ = some (.int .i64 co) := (hb1.cell (p := ⟨w.heap.size, 5, none⟩) (by simp)).trans (by go_simp)
            have b6 : w1.cell? ⟨w.heap.size, 6, none⟩ = some (.int .i64 re) := (hb1.cell (p := ⟨w.heap.size, 6, none⟩) (by simp)).trans (by go_simp)
            have b7 : w1.cell? ⟨w.heap.size, 7, none⟩ = some (.int .i64 di) := (hb1.cell (p := ⟨w.heap.size, 7, none⟩) (by simp)).trans (by go_simp)
            have b8 : w1.cell? ⟨w.heap.size, 8, none⟩ = some (.slice sA sn sc) := (hb1.cell (p := ⟨w.heap.size, 8, none⟩) (by simp)).trans (by go_simp)
            have hbb := ((Below.refl w.heap.size w).alloc (Nat.le_refl _) (.cells #[.string un, .int .i64 pa, .int .i64 nu, .int .i64 at_, .int .i64 la, .int .i64 co, .int .i64 re, .int .i64 di, .slice sA sn sc] 38)).trans (hb1.mono (by simp))
            have hz1 : w.heap.size + 1 ≤ w1.heap.size := by have := hb1.size; simpa using this
            clear hb1
            go_wp2
            go_ret
            exact ⟨ret_bool HRES.out.symm, hbb⟩
          · skip
            by_cases c5 : at_ < 0
            · skip
              have HRES : Hid (res = false) := Lib.hid (by rw [HV.out]; simp; omega)
              go_enter Try.func33, Try.ntmps33
              go_wp2_with fail
              refine (of_as un _ _ p i ap HO).mono ?_
              rintro e w1 ⟨rfl, hb1⟩
              have b0 : w1.cell? ⟨w.heap.size, 0, none⟩ = some (.string un) := (hb1.cell (p := ⟨w.heap.size, 0, none⟩) (by simp)).trans (by go_simp)
              have b1 : w1.cell? ⟨w.heap.size, 1, none⟩ = some (.int .i64 pa) := (hb1.cell (p := ⟨w.heap.size, 1, none⟩) (by simp)).trans (by go_simp)
              have b2 : w1.cell? ⟨w.heap.size, 2, none⟩ = some (.int .i64 nu) := (hb1.cell (p := ⟨w.heap.size, 2, none⟩) (by simp)).trans (by go_simp)
              have b3 : w1.cell? ⟨w.heap.size, 3, none⟩ = some (.int .i64 at_) := (hb1.cell (p := ⟨w.heap.size, 3, none⟩) (by simp)).trans (by go_simp)
              have b4 : w1.cell? ⟨w.heap.size, 4, none⟩ = some (.int .i64 la) := (hb1.cell (p := ⟨w.heap.size, 4, none⟩) (by simp)).trans (by go_simp)
              have b5 : w1.cell? ⟨w.heap.size, 5, none⟩ = some (.int .i64 co) := (hb1.cell (p := ⟨w.heap.size, 5, none⟩) (by simp)).trans (by go_simp)
              have b6 : w1.cell? ⟨w.heap.size, 6, none⟩ = some (.int .i64 re) := (hb1.cell (p := ⟨w.heap.size, 6, none⟩) (by simp)).trans (by go_simp)
              have b7 : w1.cell? ⟨w.heap.size, 7, none⟩ = some (.int .i64 di) := (hb1.cell (p := ⟨w.heap.size, 7, none⟩) (by simp)).trans (by go_simp)
              have b8 : w1.cell? ⟨w.heap.size, 8, none⟩ = some (.slice sA sn sc) := (hb1.cell (p := ⟨w.heap.size, 8, none⟩) (by simp)).trans (by go_simp)
              have hbb := ((Below.refl w.heap.size w).alloc (Nat.le_refl _) (.cells #[.string un, .int .i64 pa, .int .i64 nu, .int .i64 at_, .int .i64 la, .int .i64 co, .int .i64 re, .int .i64 di, .slice sA sn sc] 38)).trans (hb1.mono (by simp))
              have hz1 : w.heap.size + 1 ≤ w1.heap.size := by have := hb1.size; simpa using this
              clear hb1
              go_wp2
              go_ret
              exact ⟨ret_bool HRES.out.symm, hbb⟩
            · skip
              by_cases c6 : 1000 < at_
              · skip
                have HRES : Hid (res = false) := Lib.hid (by rw [HV.out]; simp; omega)
                go_enter Try.func33, Try.ntmps33
                go_wp2_with fail
                refine (of_as un _ _ p i ap HO).mono ?_
                rintro e w1 ⟨rfl, hb1⟩
                have b0 : w1.cell? ⟨w.heap.size, 0, none⟩ = some (.string un) := (hb1.cell (p := ⟨w.heap.size, 0, none⟩) (by simp)).trans (by go_simp)
                have b1 : w1.cell? ⟨w.heap.size, 1, none⟩ = some (.int .i64 pa) := (hb1.cell (p := ⟨w.heap.size, 1, none⟩) (by simp)).trans (by go_simp)
                have b2 : w1.cell? ⟨w.heap.size, 2, none⟩ = some (.int .i64 nu) := (hb1.cell (p := ⟨w.heap.size, 2, none⟩) (by simp)).trans (by go_simp)
                have b3 : w1.cell? ⟨w.heap.size, 3, none⟩ = some (.int .i64 at_) := (hb1.cell (p := ⟨w.heap.size, 3, none⟩) (by simp)).trans (by go_simp)
                have b4 : w1.cell? ⟨w.heap.size, 4, none⟩ = some (.int .i64 la) := (hb1.cell (p := ⟨w.heap.size, 4, none⟩) (by simp)).trans (by go_simp)
                have b5 : w1.cell? ⟨w.heap.size, 5, none⟩ = some (.int .i64 co) := (hb1.cell (p := ⟨w.heap.size, 5, none⟩) (by simp)).trans (by go_simp)
                have b6 : w1.cell? ⟨w.heap.size, 6, none⟩ = some (.int .i64 re) := (hb1.cell (p := ⟨w.heap.size, 6, none⟩) (by simp)).trans (by go_simp)
                have b7 : w1.cell? ⟨w.heap.size, 7, none⟩ = some (.int .i64 di) := (hb1.cell (p := ⟨w.heap.size, 7, none⟩) (by simp)).trans (by go_simp)
                have b8 : w1.cell? ⟨w.heap.size, 8, none⟩ = some (.slice sA sn sc) := (hb1.cell (p := ⟨w.heap.size, 8, none⟩) (by simp)).trans (by go_simp)
                have hbb := ((Below.refl w.heap.size w).alloc (Nat.le_refl _) (.cells #[.string un, .int .i64 pa, .int .i64 nu, .int .i64 at_, .int .i64 la, .int .i64 co, .int .i64 re, .int .i64 di, .slice sA sn sc] 38)).trans (hb1.mono (by simp))
                have hz1 : w.heap.size + 1 ≤ w1.heap.size := by have := hb1.size; simpa using this
                clear hb1
                go_wp2
                go_ret
                exact ⟨ret_bool HRES.out.symm, hbb⟩
              · skip
                cases c7 : spanB la with
                | false =>
                  have HRES : Hid (res = false) := Lib.hid (by rw [HV.out]; rw [c7]; simp)
                  have Hla := Lib.hid c7
                  clear c7
                  go_enter Try.func33, Try.ntmps33
                  go_wp2_with fail
                  refine (of_as un _ _ p i ap HO).mono ?_
                  rintro e w1 ⟨rfl, hb1⟩
                  have b0 : w1.cell? ⟨w.heap.size, 0, none⟩ = some (.string un) := (hb1.cell (p := ⟨w.heap.size, 0, none⟩) (by simp)).trans (by go_simp)
                  have b1 : w1.cell? ⟨w.heap.size, 1, none⟩ = some (.int .i64 pa) := (hb1.cell (p := ⟨w.heap.size, 1, none⟩) (by simp)).trans (by go_simp)
                  have b2 : w1.cell? ⟨w.heap.size, 2, none⟩ = some (.int .i64 nu) := (hb1.cell (p := ⟨w.heap.size, 2, none⟩) (by simp)).trans (by go_simp)
                  have b3 : w1.cell? ⟨w.heap.size, 3, none⟩ = some (.int .i64 at_) := (hb1.cell (p := ⟨w.heap.size, 3, none⟩) (by simp)).trans (by go_simp)
                  have b4 : w1.cell? ⟨w.heap.size, 4, none⟩ = some (.int .i64 la) := (hb1.cell (p := ⟨w.heap.size, 4, none⟩) (by simp)).trans (by go_simp)
                  have b5 : w1.cell? ⟨w.heap.size, 5, none⟩ = some (.int .i64 co) := (hb1.cell (p := ⟨w.heap.size, 5, none⟩) (by simp)).trans (by go_simp)
                  have b6 : w1.cell? ⟨w.heap.size, 6, none⟩ = some (.int .i64 re) := (hb1.cell (p := ⟨w.heap.size, 6, none⟩) (by simp)).trans (by go_simp)
                  have b7 : w1.cell? ⟨w.heap.size, 7, none⟩ = some (.int .i64 di) := (hb1.cell (p := ⟨w.heap.size, 7, none⟩) (by simp)).trans (by go_simp)
                  have b8 : w1.cell? ⟨w.heap.size, 8, none⟩ = some (.slice sA sn sc) := (hb1.cell (p := ⟨w.heap.size, 8, none⟩) (by simp)).trans (by go_simp)
                  have hbb := ((Below.refl w.heap.size w).alloc (Nat.le_refl _) (.cells #[.string un, .int .i64 pa, .int .i64 nu, .int .i64 at_, .int .i64 la, .int .i64 co, .int .i64 re, .int .i64 di, .slice sA sn sc] 38)).trans (hb1.mono (by simp))
                  have hz1 : w.heap.size + 1 ≤ w1.heap.size := by have := hb1.size; simpa using this
                  clear hb1
                  go_wp2_with fail
                  refine (rspan_any la _).mono ?_
                  rintro e w' ⟨rfl, rfl⟩
                  rw [Hla.out]
                  go_wp2
                  go_ret
                  exact ⟨ret_bool HRES.out.symm, hbb⟩
                | true =>
                  have Hla := Lib.hid c7
                  cases c8 : spanB re with
                  | false =>
                    have HRES : Hid (res = false) := Lib.hid (by rw [HV.out]; rw [c8]; simp)
                    have Hre := Lib.hid c8
                    clear c8
                    clear c7
                    go_enter Try.func33, Try.ntmps33
                    go_wp2_with fail
                    refine (of_as un _ _ p i ap HO).mono ?_
                    rintro e w1 ⟨rfl, hb1⟩
                    have b0 : w1.cell? ⟨w.heap.size, 0, none⟩ = some (.string un) := (hb1.cell (p := ⟨w.heap.size, 0, none⟩) (by simp)).trans (by go_simp)
                    have b1 : w1.cell? ⟨w.heap.size, 1, none⟩ = some (.int .i64 pa) := (hb1.cell (p := ⟨w.heap.size, 1, none⟩) (by simp)).trans (by go_simp)
                    have b2 : w1.cell? ⟨w.heap.size, 2, none⟩ = some (.int .i64 nu) := (hb1.cell (p := ⟨w.heap.size, 2, none⟩) (by simp)).trans (by go_simp)
                    have b3 : w1.cell? ⟨w.heap.size, 3, none⟩ = some (.int .i64 at_) := (hb1.cell (p := ⟨w.heap.size, 3, none⟩) (by simp)).trans (by go_simp)
                    have b4 : w1.cell? ⟨w.heap.size, 4, none⟩ = some (.int .i64 la) := (hb1.cell (p := ⟨w.heap.size, 4, none⟩) (by simp)).trans (by go_simp)
                    have b5 : w1.cell? ⟨w.heap.size, 5, none⟩ = some (.int .i64 co) := (hb1.cell (p := ⟨w.heap.size, 5, none⟩) (by simp)).trans (by go_simp)
                    have b6 : w1.cell? ⟨w.heap.size, 6, none⟩ = some (.int .i64 re) := (hb1.cell (p := ⟨w.heap.size, 6, none⟩) (by simp)).trans (by go_simp)
                    have b7 : w1.cell? ⟨w.heap.size, 7, none⟩ = some (.int .i64 di) := (hb1.cell (p := ⟨w.heap.size, 7, none⟩) (by simp)).trans (by go_simp)
                    have b8 : w1.cell? ⟨w.heap.size, 8, none⟩ = some (.slice sA sn sc) := (hb1.cell (p := ⟨w.heap.size, 8, none⟩) (by simp)).trans (by go_simp)
                    have hbb := ((Below.refl w.heap.size w).alloc (Nat.le_refl _) (.cells #[.string un, .int .i64 pa, .int .i64 nu, .int .i64 at_, .int .i64 la, .int .i64 co, .int .i64 re, .int .i64 di, .slice sA sn sc] 38)).trans (hb1.mono (by simp))
                    have hz1 : w.heap.size + 1 ≤ w1.heap.size := by have := hb1.size; simpa using this
                    clear hb1
                    go_wp2_with fail
                    refine (rspan_any la _).mono ?_
                    rintro e w' ⟨rfl, rfl⟩
                    rw [Hla.out]
                    go_wp2_with fail
                    refine (rspan_any re _).mono ?_
                    rintro e w' ⟨rfl, rfl⟩
                    rw [Hre.out]
                    go_wp2
                    go_ret
                    exact ⟨ret_bool HRES.out.symm, hbb⟩
                  | true =>
                    have Hre := Lib.hid c8
                    cases c9 : spanB di with
                    | false =>
                      have HRES : Hid (res = false) := Lib.hid (by rw [HV.out]; rw [c9]; simp)
                      have Hdi := Lib.hid c9
                      clear c9
                      clear c7 c8
                      go_enter Try.func33, Try.ntmps33
                      go_wp2_with fail
                      refine (of_as un _ _ p i ap HO).mono ?_
                      rintro e w1 ⟨rfl, hb1⟩
                      have b0 : w1.cell? ⟨w.heap.size, 0, none⟩ = some (.string un) := (hb1.cell (p := ⟨w.heap.size, 0, none⟩) (by simp)).trans (by go_simp)
                      have b1 : w1.cell? ⟨w.heap.size, 1, none⟩ = some (.int .i64 pa) := (hb1.cell (p := ⟨w.heap.size, 1, none⟩) (by simp)).trans (by go_simp)
                      have b2 : w1.cell? ⟨w.heap.size, 2, none⟩ = some (.int .i64 nu) := (hb1.cell (p := ⟨w.heap.size, 2, none⟩) (by simp)).trans (by go_simp)
                      have b3 : w1.cell? ⟨w.heap.size, 3, none⟩ = some (.int .i64 at_) := (hb1.cell (p := ⟨w.heap.size, 3, none⟩) (by simp)).trans (by go_simp)
                      have b4 : w1.cell? ⟨w.heap.size, 4, none⟩ = some (.int .i64 la) := (hb1.cell (p := ⟨w.heap.size, 4, none⟩) (by simp)).trans (by go_simp)
                      have b5 : w1.cell? ⟨w.heap.size, 5, none⟩ = some (.int .i64 co) := (hb1.cell (p := ⟨w.heap.size, 5, none⟩) (by simp)).trans (by go_simp)
                      have b6 : w1.cell? ⟨w.heap.size, 6, none⟩ = some (.int .i64 re) := (hb1.cell (p := ⟨w.heap.size, 6, none⟩) (by simp)).trans (by go_simp)
                      have b7 : w1.cell? ⟨w.heap.size, 7, none⟩ = some (.int .i64 di) := (hb1.cell (p := ⟨w.heap.size, 7, none⟩) (by simp)).trans (by go_simp)
                      have b8 : w1.cell? ⟨w.heap.size, 8, none⟩ = some (.slice sA sn sc) := (hb1.cell (p := ⟨w.heap.size, 8, none⟩) (by simp)).trans (by go_simp)
                      have hbb := ((Below.refl w.heap.size w).alloc (Nat.le_refl _) (.cells #[.string un, .int .i64 pa, .int .i64 nu, .int .i64 at_, .int .i64 la, .int .i64 co, .int .i64 re, .int .i64 di, .slice sA sn sc] 38)).trans (hb1.mono (by simp))
                      have hz1 : w.heap.size + 1 ≤ w1.heap.size := by have := hb1.size; simpa using this
                      clear hb1
                      go_wp2_with fail
                      refine (rspan_any la _).mono ?_
                      rintro e w' ⟨rfl, rfl⟩
                      rw [Hla.out]
                      go_wp2_with fail
                      refine (rspan_any re _).mono ?_
                      rintro e w' ⟨rfl, rfl⟩
                      rw [Hre.out]
                      go_wp2_with fail
                      refine (rspan_any di _).mono ?_
                      rintro e w' ⟨rfl, rfl⟩
                      rw [Hdi.out]
                      go_wp2
                      go_ret
                      exact ⟨ret_bool HRES.out.symm, hbb⟩
                    | true =>
                      have Hdi := Lib.hid c9
                      by_cases c10 : co < 0
                      · skip
                        have HRES : Hid (res = false) := Lib.hid (by rw [HV.out]; simp; omega)
                        clear c7 c8 c9
                        go_enter Try.func33, Try.ntmps33
                        go_wp2_with fail
                        refine (of_as un _ _ p i ap HO).mono ?_
                        rintro e w1 ⟨rfl, hb1⟩
                        have b0 : w1.cell? ⟨w.heap.size, 0, none⟩ = some (.string un) := (hb1.cell (p := ⟨w.heap.size, 0, none⟩) (by simp)).trans (by go_simp)
                        have b1 : w1.cell? ⟨w.heap.size, 1, none⟩ = some (.int .i64 pa) := (hb1.cell (p := ⟨w.heap.size, 1, none⟩) (by simp)).trans (by go_simp)
                        have b2 : w1.cell? ⟨w.heap.size, 2, none⟩ = some (.int .i64 nu) := (hb1.cell (p := ⟨w.heap.size, 2, none⟩) (by simp)).trans (by go_simp)
                        have b3 : w1.cell? ⟨w.heap.size, 3, none⟩ = some (.int .i64 at_) := (hb1.cell (p := ⟨w.heap.size, 3, none⟩) (by simp)).trans (by go_simp)
                        have b4 : w1.cell? ⟨w.heap.size, 4, none⟩ = some (.int .i64 la) := (hb1.cell (p := ⟨w.heap.size, 4, none⟩) (by simp)).trans (by go_simp)
                        have b5 : w1.cell? ⟨w.heap.size, 5, none⟩ = some (.int .i64 co) := (hb1.cell (p := ⟨w.heap.size, 5, none⟩) (by simp)).trans (by go_simp)
                        have b6 : w1.cell? ⟨w.heap.size, 6, none⟩ = some (.int .i64 re) := (hb1.cell (p := ⟨w.heap.size, 6, none⟩) (by simp)).trans (by go_simp)
                        have b7 : w1.cell? ⟨w.heap.size, 7, none⟩ = some (.int .i64 di) := (hb1.cell (p := ⟨w.heap.size, 7, none⟩) (by simp)).trans (by go_simp)
                        have b8 : w1.cell? ⟨w.heap.size, 8, none⟩ = some (.slice sA sn sc) := (hb1.cell (p := ⟨w.heap.size, 8, none⟩) (by simp)).trans (by go_simp)
                        have hbb := ((Below.refl w.heap.size w).alloc (Nat.le_refl _) (.cells #[.string un, .int .i64 pa, .int .i64 nu, .int .i64 at_, .int .i64 la, .int .i64 co, .int .i64 re, .int .i64 di, .slice sA sn sc] 38)).trans (hb1.mono (by simp))
                        have hz1 : w.heap.size + 1 ≤ w1.heap.size := by have := hb1.size; simpa using this
                        clear hb1
                        go_wp2_with fail
                        refine (rspan_any la _).mono ?_
                        rintro e w' ⟨rfl, rfl⟩
                        rw [Hla.out]
                        go_wp2_with fail
                        refine (rspan_any re _).mono ?_
                        rintro e w' ⟨rfl, rfl⟩
                        rw [Hre.out]
                        go_wp2_with fail
                        refine (rspan_any di _).mono ?_
                        rintro e w' ⟨rfl, rfl⟩
                        rw [Hdi.out]
                        go_wp2
                        go_ret
                        exact ⟨ret_bool HRES.out.symm, hbb⟩
                      · skip
                        by_cases c11 : 256 < co
                        · skip
                          have HRES : Hid (res = false) := Lib.hid (by rw [HV.out]; simp; omega)
                          clear c7 c8 c9
                          go_enter Try.func33, Try.ntmps33
                          go_wp2_with fail
                          refine (of_as un _ _ p i ap HO).mono ?_
                          rintro e w1 ⟨rfl, hb1⟩
                          have b0 : w1.cell? ⟨w.heap.size, 0, none⟩ = some (.string un) := (hb1.cell (p := ⟨w.heap.size, 0, none⟩) (by simp)).trans (by go_simp)
                          have b1 : w1.cell? ⟨w.heap.size, 1, none⟩ = some (.int .i64 pa) := (hb1.cell (p := ⟨w.heap.size, 1, none⟩) (by simp)).trans (by go_simp)
                          have b2 : w1.cell? ⟨w.heap.size, 2, none⟩ = some (.int .i64 nu) := (hb1.cell (p := ⟨w.heap.size, 2, none⟩) (by simp)).trans (by go_simp)
                          have b3 : w1.cell? ⟨w.heap.size, 3, none⟩ = some (.int .i64 at_) := (hb1.cell (p := ⟨w.heap.size, 3, none⟩) (by simp)).trans (by go_simp)
                          have b4 : w1.cell? ⟨w.heap.size, 4, none⟩ = some (.int .i64 la) := (hb1.cell (p := ⟨w.heap.size, 4, none⟩) (by simp)).trans (by go_simp)
                          have b5 : w1.cell? ⟨w.heap.size, 5, none⟩ = some (.int .i64 co) := (hb1.cell (p := ⟨w.heap.size, 5, none⟩) (by simp)).trans (by go_simp)
                          have b6 : w1.cell? ⟨w.heap.size, 6, none⟩ = some (.int .i64 re) := (hb1.cell (p := ⟨w.heap.size, 6, none⟩) (by simp)).trans (by go_simp)
                          have b7 : w1.cell? ⟨w.heap.size, 7, none⟩ = some (.int .i64 di) := (hb1.cell (p := ⟨w.heap.size, 7, none⟩) (by simp)).trans (by go_simp)
                          have b8 : w1.cell? ⟨w.heap.size, 8, none⟩ = some (.slice sA sn sc) := (hb1.cell (p := ⟨w.heap.size, 8, none⟩) (by simp)).trans (by go_simp)
                          have hbb := ((Below.refl w.heap.size w).alloc (Nat.le_refl _) (.cells #[.string un, .int .i64 pa, .int .i64 nu, .int .i64 at_, .int .i64 la, .int .i64 co, .int .i64 re, .int .i64 di, .slice sA sn sc] 38)).trans (hb1.mono (by simp))
                          have hz1 : w.heap.size + 1 ≤ w1.heap.size := by have := hb1.size; simpa using this
                          clear hb1
                          go_wp2_with fail
                          refine (rspan_any la _).mono ?_
                          rintro e w' ⟨rfl, rfl⟩
                          rw [Hla.out]
                          go_wp2_with fail
                          refine (rspan_any re _).mono ?_
                          rintro e w' ⟨rfl, rfl⟩
                          rw [Hre.out]
                          go_wp2_with fail
                          refine (rspan_any di _).mono ?_
                          rintro e w' ⟨rfl, rfl⟩
                          rw [Hdi.out]
                          go_wp2
                          go_ret
                          exact ⟨ret_bool HRES.out.symm, hbb⟩
                        · skip
                          by_cases c12 : (4 : Int) < (sn : Int)
                          · skip
                            have HRES : Hid (res = false) := Lib.hid (by rw [HV.out]; simp; omega)
                            clear c7 c8 c9
                            go_enter Try.func33, Try.ntmps33
                            go_wp2_with fail
                            refine (of_as un _ _ p i ap HO).mono ?_
                            rintro e w1 ⟨rfl, hb1⟩
                            have b0 : w1.cell? ⟨w.heap.size, 0, none⟩ = some (.string un) := (hb1.cell (p := ⟨w.heap.size, 0, none⟩) (by simp)).trans (by go_simp)
                            have b1 : w1.cell? ⟨w.heap.size, 1, none⟩ = some (.int .i64 pa) := (hb1.cell (p := ⟨w.heap.size, 1, none⟩) (by simp)).trans (by go_simp)
                            have b2 : w1.cell? ⟨w.heap.size, 2, none⟩ = some (.int .i64 nu) := (hb1.cell (p := ⟨w.heap.size, 2, none⟩) (by simp)).trans (by go_simp)
                            have b3 : w1.cell? ⟨w.heap.size, 3, none⟩ = some (.int .i64 at_) := (hb1.cell (p := ⟨w.heap.size, 3, none⟩) (by simp)).trans (by go_simp)
                            have b4 : w1.cell? ⟨w.heap.size, 4, none⟩ = some (.int .i64 la) := (hb1.cell (p := ⟨w.heap.size, 4, none⟩) (by simp)).trans (by go_simp)
                            have b5 : w1.cell? ⟨w.heap.size, 5, none⟩ = some (.int .i64 co) := (hb1.cell (p := ⟨w.heap.size, 5, none⟩) (by simp)).trans (by go_simp)
                            have b6 : w1.cell? ⟨w.heap.size, 6, none⟩ = some (.int .i64 re) := (hb1.cell (p := ⟨w.heap.size, 6, none⟩) (by simp)).trans (by go_simp)
                            have b7 : w1.cell? ⟨w.heap.size, 7, none⟩ = some (.int .i64 di) := (hb1.cell (p := ⟨w.heap.size, 7, none⟩) (by simp)).trans (by go_simp)
                            have b8 : w1.cell? ⟨w.heap.size, 8, none⟩ = some (.slice sA sn sc) := (hb1.cell (p := ⟨w.heap.size, 8, none⟩) (by simp)).trans (by go_simp)
                            have hbb := ((Below.refl w.heap.size w).alloc (Nat.le_refl _) (.cells #[.string un, .int .i64 pa, .int .i64 nu, .int .i64 at_, .int .i64 la, .int .i64 co, .int .i64 re, .int .i64 di, .slice sA sn sc] 38)).trans (hb1.mono (by simp))
                            have hz1 : w.heap.size + 1 ≤ w1.heap.size := by have := hb1.size; simpa using this
                            clear hb1
                            go_wp2_with fail
                            refine (rspan_any la _).mono ?_
                            rintro e w' ⟨rfl, rfl⟩
                            rw [Hla.out]
                            go_wp2_with fail
                            refine (rspan_any re _).mono ?_
                            rintro e w' ⟨rfl, rfl⟩
                            rw [Hre.out]
                            go_wp2_with fail
                            refine (rspan_any di _).mono ?_
                            rintro e w' ⟨rfl, rfl⟩
                            rw [Hdi.out]
                            go_wp2
                            go_ret
                            exact ⟨ret_bool HRES.out.symm, hbb⟩
                          · skip
                            have HT : Hid ((((1 : Int) == 1) && (decide (1 ≤ pa) && (decide (pa ≤ 5) && (decide (-1 ≤ nu) && (decide (nu ≤ 15) && (decide (0 ≤ at_) && (decide (at_ ≤ 1000) && (spanB la && (spanB re && (spanB di && (decide (0 ≤ co) && (decide (co ≤ 256) && (true && decide (sn ≤ 4)))))))))))))) = true) := Lib.hid (by rw [c7, c8, c9]; simp; omega)
                            clear c7 c8 c9
                            go_enter Try.func33, Try.ntmps33
                            go_wp2_with fail
                            refine (of_as un _ _ p i ap HO).mono ?_
                            rintro e w1 ⟨rfl, hb1⟩
                            have b0 : w1.cell? ⟨w.heap.size, 0, none⟩ = some (.string un) := (hb1.cell (p := ⟨w.heap.size, 0, none⟩) (by simp)).trans (by go_simp)
                            have b1 : w1.cell? ⟨w.heap.size, 1, none⟩ = some (.int .i64 pa) := (hb1.cell (p := ⟨w.heap.size, 1, none⟩) (by simp)).trans (by go_simp)
                            have b2 : w1.cell? ⟨w.heap.size, 2, none⟩ = some (.int .i64 nu) := (hb1.cell (p := ⟨w.heap.size, 2, none⟩) (by simp)).trans (by go_simp)
                            have b3 : w1.cell? ⟨w.heap.size, 3, none⟩ = some (.int .i64 at_) := (hb1.cell (p := ⟨w.heap.size, 3, none⟩) (by simp)).trans (by go_simp)
                            have b4 : w1.cell? ⟨w.heap.size, 4, none⟩ = some (.int .i64 la) := (hb1.cell (p := ⟨w.heap.size, 4, none⟩) (by simp)).trans (by go_simp)
                            have b5 : w1.cell? ⟨w.heap.size, 5, none⟩ = some (.int .i64 co) := (hb1.cell (p := ⟨w.heap.size, 5, none⟩) (by simp)).trans (by go_simp)
                            have b6 : w1.cell? ⟨w.heap.size, 6, none⟩ = some (.int .i64 re) := (hb1.cell (p := ⟨w.heap.size, 6, none⟩) (by simp)).trans (by go_simp)
                            have b7 : w1.cell? ⟨w.heap.size, 7, none⟩ = some (.int .i64 di) := (hb1.cell (p := ⟨w.heap.size, 7, none⟩) (by simp)).trans (by go_simp)
                            have b8 : w1.cell? ⟨w.heap.size, 8, none⟩ = some (.slice sA sn sc) := (hb1.cell (p := ⟨w.heap.size, 8, none⟩) (by simp)).trans (by go_simp)
                            have hbb := ((Below.refl w.heap.size w).alloc (Nat.le_refl _) (.cells #[.string un, .int .i64 pa, .int .i64 nu, .int .i64 at_, .int .i64 la, .int .i64 co, .int .i64 re, .int .i64 di, .slice sA sn sc] 38)).trans (hb1.mono (by simp))
                            have hz1 : w.heap.size + 1 ≤ w1.heap.size := by have := hb1.size; simpa using this
                            clear hb1
                            go_wp2_with fail
                            refine (rspan_any la _).mono ?_
                            rintro e w' ⟨rfl, rfl⟩
                            rw [Hla.out]
                            go_wp2_with fail
                            refine (rspan_any re _).mono ?_
                            rintro e w' ⟨rfl, rfl⟩
                            rw [Hre.out]
                            go_wp2_with fail
                            refine (rspan_any di _).mono ?_
                            rintro e w' ⟨rfl, rfl⟩
                            rw [Hdi.out]
                            go_wp2_with fail
                            go_loopw [75] (fun iv wr => ∃ (k : Nat) (last : Int), k ≤ sn ∧ iv = .int .i64 k ∧ Below (w.heap.size + 1) w1 wr ∧ Hid (SayAt sy k last) ∧ Hid (LastIs sy k last)) (fun iv _ => sn - (intOf iv).toNat)
                            case atStart => exact ⟨0, 0, Nat.zero_le _, rfl, Below.refl _ _, Lib.hid (SayAt.start _), Lib.hid (.inl ⟨rfl, rfl⟩)⟩
                            case round =>
                              obtain ⟨k, last, hk, rfl, hb, HS, HLI⟩ := hrel
                              have hbw : Below w.heap.size w wr := hbb.trans (hb.mono (by omega))
                              have hw0 : w.heap.size + 1 ≤ wr.heap.size := Nat.le_trans hz1 hb.size
                              have q8 : wr.cell? ⟨w.heap.size, 8, none⟩ = some (.slice sA sn sc) := (hb.cell (p := ⟨w.heap.size, 8, none⟩) (by simp)).trans b8
                              have q8o : ∀ o, (wr.alloc o).cell? ⟨w.heap.size, 8, none⟩ = some (.slice sA sn sc) := fun o => (World.cell?_alloc_lt wr o ⟨w.heap.size, 8, none⟩ (by simp; omega)).trans q8
                              clear b0 b1 b2 b3 b4 b5 b6 b7 b8 q8
                              by_cases hlt : k < sn
                              · skip
                                have hke : k < sy.length := by rw [HL.out]; exact hlt
                                have hrr := HR.out.below (hbw.mono hB)
                                obtain ⟨ad, rfl, hadB, hc⟩ := hrr.here (by omega)
                                obtain ⟨p1, p2⟩ := sayCells_at sy k hke
                                have hsz : sy[k].2.size ≤ 140737488355328 := HSY.out _ (List.getElem_mem hke)
                                have c1 := hc _ _ p1
                                have c2 := hc _ _ p2
                                rw [Mem.add_field _ _ 1 (by omega)] at c2
                                generalize hp : sy[k] = p at *
                                obtain ⟨aft, txt⟩ := p
                                dsimp only at c1 c2 hsz
                                have HP := Lib.hid hp
                                have x1 : (0 : Int) ≤ (k : Int) := by omega
                                have x2 : (k : Int) < (sn : Int) := by omega
                                have HC := Lib.hid hc
                                clear p1 p2 hp hc hrr
                                have hbA := hbw.alloc hbw.size (.cells #[.int .i64 aft, .string txt] 66)
                                have hbB := hb.alloc hw0 (.cells #[.int .i64 aft, .string txt] 66)
                                cases e0 : spanB aft with
                                | false =>
                                  have HNO := Lib.hid (HS.out.no (p := (aft, txt)) hke HP.out (by simp [sayB, e0]))
                                  have HRES : Hid (res = false) := Lib.hid (by rw [HV.out, HNO.out]; simp)
                                  clear HNO
                                  have HSP : Hid (∀ w, Calls Try.prog 35 #[.int .i64 aft] w fun e w' => e = .returned (.bool false) ∧ w = w') := Lib.hid (by intro w; have := rspan_any aft w; rwa [e0] at this)
                                  clear e0
                                  go_wp2_with fail
                                  go_quiet (first | (go_at_call 35; exact quiet_same (HSP.out _)))
                                  go_wp2
                                  go_ret
                                  exact ⟨ret_bool HRES.out.symm, belowQ hbA _⟩
                                | true =>
                                  have HSP : Hid (∀ w, Calls Try.prog 35 #[.int .i64 aft] w fun e w' => e = .returned (.bool true) ∧ w = w') := Lib.hid (by intro w; have := rspan_any aft w; rwa [e0] at this)
                                  cases e1 : (aft == 1099511627776) with
                                  | true =>
                                    have HNO := Lib.hid (HS.out.no (p := (aft, txt)) hke HP.out (by unfold sayB; dsimp only; rw [e1]; simp))
                                    have HRES : Hid (res = false) := Lib.hid (by rw [HV.out, HNO.out]; simp)
                                    clear HNO
                                    clear e0
                                    go_wp2_with fail
                                    go_quiet (first | (go_at_call 35; exact quiet_same (HSP.out _)))
                                    go_wp2
                                    go_ret
                                    exact ⟨ret_bool HRES.out.symm, belowQ hbA _⟩
                                  | false =>
                                    cases e2 : (cleanL txt.data.toList && decide (txt.size ≤ 100)) with
                                    | false =>
                                      have HNO := Lib.hid (HS.out.no (p := (aft, txt)) hke HP.out (by unfold sayB; dsimp only; rw [e2]; simp))
                                      have HRES : Hid (res = false) := Lib.hid (by rw [HV.out, HNO.out]; simp)
                                      clear HNO
                                      have HPL : Hid (∀ w, Calls Try.prog 44 #[.string txt, .int .i64 100] w fun e w' => e = .returned (.bool false) ∧ w = w') := Lib.hid (by intro w; have := wplain_any txt w hsz; rwa [e2] at this)
                                      clear e0 e2
                                      go_wp2_with fail
                                      go_quiet (first | (go_at_call 35; exact quiet_same (HSP.out _)) | (go_at_call 44; exact quiet_same (HPL.out _)))
                                      go_wp2
                                      go_ret
                                      exact ⟨ret_bool HRES.out.symm, belowQ hbA _⟩
                                    | true =>
                                      have HPL : Hid (∀ w, Calls Try.prog 44 #[.string txt, .int .i64 100] w fun e w' => e = .returned (.bool true) ∧ w = w') := Lib.hid (by intro w; have := wplain_any txt w hsz; rwa [e2] at this)
                                      have hpos := span_pos e0
                                      rcases HLI.out with ⟨hk0, rfl⟩ | ⟨j, hj, rfl, hlj⟩
                                      · have hng : ¬ aft < 0 := by omega
                                        have HNX := Lib.hid (HS.out.more (p := (aft, txt)) hke HP.out (by unfold sayB; dsimp only; rw [e0, e1, e2]; simp; omega))
                                        clear e0 e2
                                        have g0 : decide ((0 : Int) < (k : Int)) = false := by simp; omega
                                        have g1 : decide (0 < k) = false := by simp; omega
                                        clear hk0
                                        go_wp2_with fail
                                        go_quiet (first | (go_at_call 35; exact quiet_same (HSP.out _)) | (go_at_call 44; exact quiet_same (HPL.out _)))
                                        go_wp2
                                        go_roundw
                                        case rel => exact ⟨k + 1, aft, by omega, by go_num, belowQ hbB _, HNX, Lib.hid (.inr ⟨k, hke, rfl, by rw [HP.out]⟩)⟩
                                        case measure => first | (simp [intOf]; done) | (simp [intOf]; omega)
                                      · have hpj : (sayCells sy)[j * 2]? = some (.int .i64 last) := by rw [hlj]; exact (sayCells_at sy j hj).1
                                        have d1 : ∀ o, (wr.alloc o).cell? (ad.add (j * 2)) = some (.int .i64 last) := fun o => (World.cell?_alloc_lt wr o _ (by rw [Mem.add_block]; omega)).trans (HC.out _ _ hpj)
                                        clear hpj
                                        have hwp : IntKind.i64.wrap (j : Int) = (j : Int) := by rw [IntKind.wrap_i64]; omega
                                        have y0 : (0 : Int) ≤ (j : Int) := by omega
                                        have y1 : (j : Int) < (sn : Int) := by omega
                                        have y2 : (0 : Int) < (j : Int) + 1 := by omega
                                        have y3 : (j : Int) + 1 < (sn : Int) := by omega
                                        have y4 : (0 : Int) ≤ (j : Int) + 1 := by omega
                                        have y5 : ((j : Int) + 1).toNat = j + 1 := by omega
                                        by_cases hla : aft < last
                                        · skip
                                          have HNO := Lib.hid (HS.out.no (p := (aft, txt)) hke HP.out (by unfold sayB; dsimp only; rw [e0, e1, e2]; simp [hla]))
                                          have HRES : Hid (res = false) := Lib.hid (by rw [HV.out, HNO.out]; simp)
                                          clear HNO
                                          clear e0 e2
                                          go_wp2_with fail
                                          go_quiet (first | (go_at_call 35; exact quiet_same (HSP.out _)) | (go_at_call 44; exact quiet_same (HPL.out _)))
                                          go_wp2
                                          go_ret
                                          exact ⟨ret_bool HRES.out.symm, belowQ hbA _⟩
                                        · skip
                                          have HNX := Lib.hid (HS.out.more (p := (aft, txt)) hke HP.out (by unfold sayB; dsimp only; rw [e0, e1, e2]; simp; omega))
                                          clear e0 e2
                                          have g0 : decide (aft < last) = false := by simp; omega
                                          go_wp2_with fail
                                          go_quiet (first | (go_at_call 35; exact quiet_same (HSP.out _)) | (go_at_call 44; exact quiet_same (HPL.out _)))
                                          go_wp2
                                          go_roundw
                                          case rel => exact ⟨(j + 1) + 1, aft, by omega, by go_num, belowQ hbB _, HNX, Lib.hid (.inr ⟨(j + 1), hke, rfl, by rw [HP.out]⟩)⟩
                                          case measure => first | (simp [intOf]; done) | (simp [intOf]; omega)
                              · have HD := Lib.hid (HS.out.done (by rw [HL.out]; exact hlt))
                                have HRES : Hid (res = true) := Lib.hid (by rw [HV.out, HD.out]; exact HT.out)
                                have x1 : ¬ (k : Int) < (sn : Int) := by omega
                                go_wp2
                                go_ret
                                exact ⟨ret_bool HRES.out.symm, hbw⟩

end Go.Proofs.Ytkfeicgeobhccaa
