/-
  The walk of the law that an act more is what its command does, in order.
-/
import Derived.Test.YtkfeicgeobhccaaVa
namespace Go.Proofs.Ytkfeicgeobhccaa
open Go.RowKit

theorem vs_size {w1 W : World} {c1 c2 : Value} (h : VS w1 c1 c2 W) : w1.heap.size + 1 ≤ W.heap.size := h.2.1
set_option maxRecDepth 100000 in
set_option maxHeartbeats 16000000 in
theorem worldmore_any (D : WorldD) (a : ActD) (other : ByteArray) (part num att : Int) (w : World) (h : WorldGood w D) (ha : ActGood w a) :
    Calls Try.prog 6 #[worldV D, actV a, .string other, .int .i64 part, .int .i64 num, .int .i64 att] w fun e w' => e = .returned (.bool true) ∧ Below w.heap.size w w' := by
  have hrl := reach_le
  have hba := h.ba
  obtain ⟨i0, hi, hz0, hz1, hz2⟩ := info_parts act_info
  have HG := Lib.hid h
  have HAG := Lib.hid ha
  have hl0 : D.acts.length = D.an := by have h1 := h.ra.1; rw [actCells_len] at h1; omega
  have HS := Lib.hid (fun w' => small_any D.aA D.an D.ac D.cA D.cn D.cc D.kA D.kn D.kc w')
  obtain ⟨aA, an, ac, l, cA, cn, cc, lc, kA, kn, kc, lk⟩ := D
  obtain ⟨un, pa, nu, at_, la, co, re, di, sA, sn, sc, sy⟩ := a
  simp only [worldV, actV, actC] at HS hba hl0 ⊢
  have HGA : Hid (Rd w w.heap.size 9 aA an (actCells l)) := Lib.hid h.ra
  have HGC : Hid (Rd w w.heap.size 3 cA cn (callCells lc)) := Lib.hid h.rc
  have HGK : Hid (Rd w w.heap.size 3 kA kn (askCells lk)) := Lib.hid h.rk
  have HGG : Hid (∀ q ∈ l, ActGood w q) := Lib.hid h.ga
  have HL0 := Lib.hid hl0
  clear h ha hl0
  generalize hsm : (decide (an ≤ 300) && (decide (cn ≤ 200) && decide (kn ≤ 200))) = sm at *
  have HSM : Hid (sm = true → an ≤ 300) := Lib.hid (fun e => by rw [← hsm] at e; simp at e; exact e.1)
  clear hsm
  have hbW := ((Below.refl w.heap.size w).alloc (Nat.le_refl _) (.cells #[.slice aA an ac, .slice cA cn cc, .slice kA kn kc] 26)).alloc (by simp) (.cells #[.string un, .int .i64 pa, .int .i64 nu, .int .i64 at_, .int .i64 la, .int .i64 co, .int .i64 re, .int .i64 di, .slice sA sn sc] 38)
  have hx0 : Box ((w.alloc (.cells #[.slice aA an ac, .slice cA cn cc, .slice kA kn kc] 26)).alloc (.cells #[.string un, .int .i64 pa, .int .i64 nu, .int .i64 at_, .int .i64 la, .int .i64 co, .int .i64 re, .int .i64 di, .slice sA sn sc] 38)) w.heap.size [.slice aA an ac, .slice cA cn cc, .slice kA kn kc] := (Box.new w #[.slice aA an ac, .slice cA cn cc, .slice kA kn kc] 26).below ((Below.refl (w.alloc (.cells #[.slice aA an ac, .slice cA cn cc, .slice kA kn kc] 26)).heap.size (w.alloc (.cells #[.slice aA an ac, .slice cA cn cc, .slice kA kn kc] 26))).alloc (Nat.le_refl _) _) (by simp)
  have hy0 : Box ((w.alloc (.cells #[.slice aA an ac, .slice cA cn cc, .slice kA kn kc] 26)).alloc (.cells #[.string un, .int .i64 pa, .int .i64 nu, .int .i64 at_, .int .i64 la, .int .i64 co, .int .i64 re, .int .i64 di, .slice sA sn sc] 38)) (w.heap.size + 1) [.string un, .int .i64 pa, .int .i64 nu, .int .i64 at_, .int .i64 la, .int .i64 co, .int .i64 re, .int .i64 di, .slice sA sn sc] := by have := Box.new (w.alloc (.cells #[.slice aA an ac, .slice cA cn cc, .slice kA kn kc] 26)) #[.string un, .int .i64 pa, .int .i64 nu, .int .i64 at_, .int .i64 la, .int .i64 co, .int .i64 re, .int .i64 di, .slice sA sn sc] 38; rwa [World.size_alloc] at this
  have HX0 := Lib.hid hx0
  have HY0 := Lib.hid hy0
  clear hx0 hy0
  go_enter Try.func6, Try.ntmps6
  go_wp2_with fail
  have hsz0 : ((w.alloc (.cells #[.slice aA an ac, .slice cA cn cc, .slice kA kn kc] 26)).alloc (.cells #[.string un, .int .i64 pa, .int .i64 nu, .int .i64 at_, .int .i64 la, .int .i64 co, .int .i64 re, .int .i64 di, .slice sA sn sc] 38)).heap.size = w.heap.size + 2 := by simp
  generalize ((w.alloc (.cells #[.slice aA an ac, .slice cA cn cc, .slice kA kn kc] 26)).alloc (.cells #[.string un, .int .i64 pa, .int .i64 nu, .int .i64 at_, .int .i64 la, .int .i64 co, .int .i64 re, .int .i64 di, .slice sA sn sc] 38)) = w0 at *
  refine (shown_any _).mono ?_
  rintro e w1 ⟨rfl, hb1⟩
  have h1 := hbW.trans (hb1.mono hbW.size)
  have HX1 := Lib.hid (HX0.out.below hb1 (by omega))
  have HY1 := Lib.hid (HY0.out.below hb1 (by omega))
  have hsw1 : w.heap.size + 2 ≤ w1.heap.size := by have := hb1.size; omega
  clear hb1 HX0 HY0 hbW hsz0
  have c0 := HX1.out 0 _ rfl
  have c1 := HX1.out 1 _ rfl
  have c2 := HX1.out 2 _ rfl
  go_wp2_with fail
  clear c0 c1 c2
  have hq : VS w1 (.slice cA cn cc) (.slice kA kn kc) (w1.alloc (.cells #[.slice aA an ac, .slice cA cn cc, .slice kA kn kc] 26)).drew := by refine ⟨((Below.refl w1.heap.size w1).alloc (Nat.le_refl _) _).drew, by simp, ⟨.slice aA an ac, by go_simp⟩, by go_simp, by go_simp, by go_simp⟩
  generalize (w1.alloc (.cells #[.slice aA an ac, .slice cA cn cc, .slice kA kn kc] 26)) = w2 at *
  have k0 : ∀ W, VS w1 (.slice cA cn cc) (.slice kA kn kc) W → W.cell? ⟨w.heap.size, 0, none⟩ = some (.slice aA an ac) := fun W hW => (HX1.out.below hW.1 (by omega)) 0 _ rfl
  have k1 : ∀ W, VS w1 (.slice cA cn cc) (.slice kA kn kc) W → W.cell? ⟨w.heap.size, 1, none⟩ = some (.slice cA cn cc) := fun W hW => (HX1.out.below hW.1 (by omega)) 1 _ rfl
  have k2 : ∀ W, VS w1 (.slice cA cn cc) (.slice kA kn kc) W → W.cell? ⟨w.heap.size, 2, none⟩ = some (.slice kA kn kc) := fun W hW => (HX1.out.below hW.1 (by omega)) 2 _ rfl
  have l0 : ∀ W, VS w1 (.slice cA cn cc) (.slice kA kn kc) W → W.cell? ⟨w.heap.size + 1, 0, none⟩ = some (.string un) := fun W hW => (HY1.out.below hW.1 (by omega)) 0 _ rfl
  have l1 : ∀ W, VS w1 (.slice cA cn cc) (.slice kA kn kc) W → W.cell? ⟨w.heap.size + 1, 1, none⟩ = some (.int .i64 pa) := fun W hW => (HY1.out.below hW.1 (by omega)) 1 _ rfl
  have l2 : ∀ W, VS w1 (.slice cA cn cc) (.slice kA kn kc) W → W.cell? ⟨w.heap.size + 1, 2, none⟩ = some (.int .i64 nu) := fun W hW => (HY1.out.below hW.1 (by omega)) 2 _ rfl
  have l3 : ∀ W, VS w1 (.slice cA cn cc) (.slice kA kn kc) W → W.cell? ⟨w.heap.size + 1, 3, none⟩ = some (.int .i64 at_) := fun W hW => (HY1.out.below hW.1 (by omega)) 3 _ rfl
  have l4 : ∀ W, VS w1 (.slice cA cn cc) (.slice kA kn kc) W → W.cell? ⟨w.heap.size + 1, 4, none⟩ = some (.int .i64 la) := fun W hW => (HY1.out.below hW.1 (by omega)) 4 _ rfl
  have l5 : ∀ W, VS w1 (.slice cA cn cc) (.slice kA kn kc) W → W.cell? ⟨w.heap.size + 1, 5, none⟩ = some (.int .i64 co) := fun W hW => (HY1.out.below hW.1 (by omega)) 5 _ rfl
  have l6 : ∀ W, VS w1 (.slice cA cn cc) (.slice kA kn kc) W → W.cell? ⟨w.heap.size + 1, 6, none⟩ = some (.int .i64 re) := fun W hW => (HY1.out.below hW.1 (by omega)) 6 _ rfl
  have l7 : ∀ W, VS w1 (.slice cA cn cc) (.slice kA kn kc) W → W.cell? ⟨w.heap.size + 1, 7, none⟩ = some (.int .i64 di) := fun W hW => (HY1.out.below hW.1 (by omega)) 7 _ rfl
  have l8 : ∀ W, VS w1 (.slice cA cn cc) (.slice kA kn kc) W → W.cell? ⟨w.heap.size + 1, 8, none⟩ = some (.slice sA sn sc) := fun W hW => (HY1.out.below hW.1 (by omega)) 8 _ rfl
  have HRW := Lib.hid (fun W (hW : VS w1 (.slice cA cn cc) (.slice kA kn kc) W) => HGA.out.below (h1.trans (hW.1.mono h1.size)))
  have HNIL : Hid (∀ W : World, W.ownsRow (w1.heap.size + 1) 38 9 (.slice none 0 0) 0 []) := Lib.hid (fun W => ⟨rfl, .inl ⟨rfl, rfl⟩⟩)
  go_region_held3 (fun W => VS w1 (.slice cA cn cc) (.slice kA kn kc) W) (first | assumption | exact VS.alloc (by assumption) _ | exact VS.set (by assumption) _) (first | (refine step_app _ rfl _ _ 22 rfl (w1.heap.size + 1) 38 i0 (.agg #[.string ⟨#[]⟩, .int .i64 0, .int .i64 0, .int .i64 0, .int .i64 0, .int .i64 0, .int .i64 0, .int .i64 0, .slice none 0 0]) 9 96 Try.underlying22 hi hz0 hz1 hz2 rfl (by decide) _ 0 [] rfl (HNIL.out _) w.heap.size aA an ac (actCells l) rfl (HRW.out _ (by assumption)) (actCells_one l) (by unfold maxLen; omega) (by omega) (vs_size (by assumption)) ?_; intro v5 w5 hown5 hgr5 hx5; clear hx5; have q5 := VS.grown (by assumption) hgr5 (by intro k hk; cases hk); simp only [List.nil_append, Nat.zero_add] at hown5) | (refine step_app _ rfl _ _ 22 rfl (w1.heap.size + 1) 38 i0 (.agg #[.string ⟨#[]⟩, .int .i64 0, .int .i64 0, .int .i64 0, .int .i64 0, .int .i64 0, .int .i64 0, .int .i64 0, .slice none 0 0]) 9 96 Try.underlying22 hi hz0 hz1 hz2 rfl (by decide) v5 an (actCells l) rfl (by first | exact hown5 | exact World.ownsRow.alloc hown5 _) _ (some ⟨_, 0, none⟩) 1 1 (actCells [⟨un, pa, nu, at_, la, co, re, di, sA, sn, sc, sy⟩]) rfl (Rd.fresh _ #[.string un, .int .i64 pa, .int .i64 nu, .int .i64 at_, .int .i64 la, .int .i64 co, .int .i64 re, .int .i64 di, .slice sA sn sc] 38 1 9 rfl) (actCells_one _) (by unfold maxLen; omega) (by omega) (vs_size (by assumption)) ?_; intro v6 w6 hown6 hgr6 hx6; clear hx6; have q6 := VS.grown (by assumption) hgr6 (fun k hk => (hown5.lt k hk).1); obtain ⟨x0, hx0⟩ := q6.2.2.1; have hfz := q6.2.2.2.1; obtain ⟨A6, c6, rfl⟩ := own_slice hown6; rw [← actCells_app] at hown6) | (refine step_app _ rfl _ _ 22 rfl (w1.heap.size + 1) 38 i0 (.agg #[.string ⟨#[]⟩, .int .i64 0, .int .i64 0, .int .i64 0, .int .i64 0, .int .i64 0, .int .i64 0, .int .i64 0, .slice none 0 0]) 9 96 Try.underlying22 hi hz0 hz1 hz2 rfl (by decide) v5 an (actCells l) rfl (by first | exact hown5 | exact World.ownsRow.alloc hown5 _) (w2.heap.size + 1) (some ⟨w2.heap.size, 0, none⟩) 1 1 (actCells [⟨un, pa, nu, at_, la, co, re, di, sA, sn, sc, sy⟩]) rfl (Rd.grown (Rd.fresh w2.drew #[.string un, .int .i64 pa, .int .i64 nu, .int .i64 at_, .int .i64 la, .int .i64 co, .int .i64 re, .int .i64 di, .slice sA sn sc] 38 1 9 rfl) hgr5 (by simp) (by intro g hg; cases hg)) (actCells_one _) (by unfold maxLen; omega) (by omega) (vs_size (by assumption)) ?_; intro v6 w6 hown6 hgr6 hx6; clear hx6; have q6 := VS.grown (by assumption) hgr6 (fun k hk => (hown5.lt k hk).1); obtain ⟨x0, hx0⟩ := q6.2.2.1; have hfz := q6.2.2.2.1; obtain ⟨A6, c6, rfl⟩ := own_slice hown6; rw [← actCells_app] at hown6))
  all_goals
    have q7 := VS.set q6 (.slice A6 (an + 1) c6)
    have hown7 := ownsRow_setCell_below hown6 (a := ⟨w1.heap.size, 0, none⟩) (by simp) (.slice A6 (an + 1) c6)
    have hv0 : (w6.setCell ⟨w1.heap.size, 0, none⟩ (.slice A6 (an + 1) c6)).cell? ⟨w1.heap.size, 0, none⟩ = some (.slice A6 (an + 1) c6) := by go_simp
    clear hx0 hfz hown6 hgr6 hgr5 hown5 q5 q6 hq HRW HNIL k0 k1 k2 l0 l1 l2 l3 l4 l5 l6 l7 l8
    generalize (w6.setCell ⟨w1.heap.size, 0, none⟩ (.slice A6 (an + 1) c6)) = w7 at *
    have hcap : an + 1 ≤ c6 := by rcases hown7.2 with ⟨e, _⟩ | ⟨g, cap, cur, e, _, _, hc, _⟩; (cases e); (cases e; exact hc)
    have h7 := h1.trans (q7.1.mono h1.size)
    have hs17 := q7.2.1
    have HR7 := Lib.hid (Rd.of_own hown7)
    have HX7 := Lib.hid (HX1.out.below q7.1 (by omega))
    have HY7 := Lib.hid (HY1.out.below q7.1 (by omega))
    have HV7 : Hid (Box w7 w1.heap.size [.slice A6 (an + 1) c6, .slice cA cn cc, .slice kA kn kc]) := Lib.hid (by intro j u hu; match j, hu with | 0, hu => (simp at hu; subst hu; exact hv0) | 1, hu => (simp at hu; subst hu; exact q7.2.2.2.2.1) | 2, hu => (simp at hu; subst hu; exact q7.2.2.2.2.2))
    clear hv0 hown7 q7 HX1 HY1
    have c0 := HX7.out 0 _ rfl
    have c1 := HX7.out 1 _ rfl
    have c2 := HX7.out 2 _ rfl
    go_wp2_with fail
    refine (HS.out _).mono ?_
    rintro e w8 ⟨rfl, hb8⟩
    have h8 := h7.trans (hb8.mono h7.size)
    have hs78 := hb8.size
    clear c0 c1 c2
    cases sm with
    | false =>
      clear hb8
      go_wp2
      go_ret
      exact ⟨rfl, h8⟩
    | true =>
      have han := HSM.out rfl
      have HR8 := Lib.hid (HR7.out.below hb8)
      have HX8 := Lib.hid (HX7.out.below hb8 (by omega))
      have HY8 := Lib.hid (HY7.out.below hb8 (by omega))
      have HV8 := Lib.hid (HV7.out.below hb8 (by omega))
      clear hb8 HX7 HY7 HV7
      have HIN : Hid (∀ x ∈ l ++ [(⟨un, pa, nu, at_, la, co, re, di, sA, sn, sc, sy⟩ : ActD)], ActGood w x) := Lib.hid (by intro x hx; rcases List.mem_append.1 hx with hx | hx; exact HGG.out x hx; simp only [List.mem_cons, List.not_mem_nil, or_false] at hx; subst hx; exact HAG.out)
      have HM := Lib.hid (rmay_w_any A6 (an + 1) c6 cA cn cc kA kn kc (l ++ [⟨un, pa, nu, at_, la, co, re, di, sA, sn, sc, sy⟩]) lc lk w8 w7.heap.size HR8.out (fun x hx => ⟨((HIN.out x hx).1.1.below h8).more h7.size, (HIN.out x hx).1.2⟩) hs78 hcap ((HGC.out.below h8).more h7.size) ((HGK.out.below h8).more h7.size))
      have HFM : Hid (mayWB (an + 1) cn kn (l ++ [⟨un, pa, nu, at_, la, co, re, di, sA, sn, sc, sy⟩]) lc lk = true → findAct (l ++ [⟨un, pa, nu, at_, la, co, re, di, sA, sn, sc, sy⟩]) un pa nu at_ = some ⟨un, pa, nu, at_, la, co, re, di, sA, sn, sc, sy⟩) := Lib.hid (fun hm => find_more l ⟨un, pa, nu, at_, la, co, re, di, sA, sn, sc, sy⟩ hm)
      generalize mayWB (an + 1) cn kn (l ++ [⟨un, pa, nu, at_, la, co, re, di, sA, sn, sc, sy⟩]) lc lk = mm at *
      have v0 := HV8.out 0 _ rfl
      have v1 := HV8.out 1 _ rfl
      have v2 := HV8.out 2 _ rfl
      go_wp2_with fail
      refine HM.out.mono ?_
      rintro e w9 ⟨rfl, hb9⟩
      have h9 := h8.trans (hb9.mono h8.size)
      have hs89 := hb9.size
      have HR9 := Lib.hid (HR8.out.below (hb9.mono hs78))
      have HX9 := Lib.hid (HX8.out.below hb9 (by omega))
      have HY9 := Lib.hid (HY8.out.below hb9 (by omega))
      have HV9 := Lib.hid (HV8.out.below hb9 (by omega))
      clear hb9 HX8 HY8 HV8 HR8 HM v0 v1 v2
      have d0 := HY9.out 0 _ rfl
      have d1 := HY9.out 1 _ rfl
      cases mm with
      | false =>
        go_wp2
        go_ret
        exact ⟨rfl, h9⟩
      | true =>
        have HFM := Lib.hid (HFM.out rfl)
        have HELSE : Hid (((other.toList == un.toList) && (part == pa)) = false → findAct (l ++ [⟨un, pa, nu, at_, la, co, re, di, sA, sn, sc, sy⟩]) other part num att = findAct l other part num att) := Lib.hid (fun hh => find_else l ⟨un, pa, nu, at_, la, co, re, di, sA, sn, sc, sy⟩ other part num att hh)
        cases e0 : ((other.toList == un.toList) && (part == pa)) with
        | true =>
          have e1 : (other.toList == un.toList) = true := by simp only [Bool.and_eq_true] at e0; exact e0.1
          have e2 : (part == pa) = true := by simp only [Bool.and_eq_true] at e0; exact e0.2
          clear e0
          go_wp2
          go_ret
          exact ⟨rfl, h9⟩
        | false =>
          have HE := Lib.hid (HELSE.out e0)
          have HAI : Hid (∀ W, Below w9.heap.size w9 W → ActsIn W w7.heap.size A6 (an + 1) (l ++ [⟨un, pa, nu, at_, la, co, re, di, sA, sn, sc, sy⟩])) := Lib.hid (fun W hW => ⟨HR9.out.below (hW.mono (by omega)), by omega, fun x hx => ⟨⟨((HIN.out x hx).1.1.below (h9.trans (hW.mono h9.size))).more h7.size, (HIN.out x hx).1.2⟩, by have := (HIN.out x hx).2.1; omega⟩⟩)
          have HF1 := Lib.hid (fun W (hW : Below w9.heap.size w9 W) => find_uni A6 (an + 1) c6 cA cn cc kA kn kc (l ++ [⟨un, pa, nu, at_, la, co, re, di, sA, sn, sc, sy⟩]) un pa nu at_ W w7.heap.size (HAI.out W hW) (Nat.le_trans (by omega) hW.size))
          have HF3 := Lib.hid (fun W (hW : Below w9.heap.size w9 W) => find_uni A6 (an + 1) c6 cA cn cc kA kn kc (l ++ [⟨un, pa, nu, at_, la, co, re, di, sA, sn, sc, sy⟩]) other part num att W w7.heap.size (HAI.out W hW) (Nat.le_trans (by omega) hW.size))
          have HF2 := Lib.hid (fun W (hW : Below w9.heap.size w9 W) => find_uni aA an ac cA cn cc kA kn kc l other part num att W w.heap.size ⟨HGA.out.below (h9.trans (hW.mono h9.size)), by omega, fun x hx => ⟨((HGG.out x hx).1.below (h9.trans (hW.mono h9.size))), by have := (HGG.out x hx).2.1; omega⟩⟩ (Nat.le_trans h9.size hW.size))
          have HROW : Hid (Rd w w.heap.size 2 (foundOr l other part num att).sA (foundOr l other part num att).sn (sayCells (foundOr l other part num att).says) ∧ (foundOr l other part num att).sn ≤ 140737488355328) := Lib.hid (found_row HG.out other part num att)
          unfold foundOr at HF1 HF2 HF3 HROW
          rw [HFM.out] at HF1
          rw [HE.out] at HF3
          simp only [Option.getD_some, Option.isSome_some] at HF1
          generalize (findAct l other part num att).getD zeroAct = y at *
          generalize (findAct l other part num att).isSome = ok at *
          obtain ⟨yu, y1, y2, y3, y4, y5, y6, y7, yA, yn, yc, yy⟩ := y
          simp only [findE, actV, actC] at HF1 HF2 HF3 HROW
          have hsn : sn ≤ 140737488355328 := HAG.out.1.2.1
          have HA0 : Hid (Rd w w.heap.size 2 sA sn (sayCells sy)) := Lib.hid HAG.out.1.1
          have d2 := HY9.out 2 _ rfl
          have d3 := HY9.out 3 _ rfl
          have v0 := HV9.out 0 _ rfl
          have v1 := HV9.out 1 _ rfl
          have v2 := HV9.out 2 _ rfl
          have e1 : (other.toList == un.toList) = false ∨ (other.toList == un.toList) = true ∧ (part == pa) = false := by cases h1 : (other.toList == un.toList) with | false => exact .inl rfl | true => exact .inr ⟨rfl, by rw [h1, Bool.true_and] at e0; exact e0⟩
          clear e0 HELSE HE HAI HFM HIN
          rcases e1 with e1 | ⟨e1, e2⟩
          all_goals
            go_wp2_with fail
            refine (HF1.out _ (Below.refl _ _)).mono ?_
            rintro e w10 ⟨A10, c10, rfl, hr10, hb10⟩
            have h10 := h9.trans (hb10.mono h9.size)
            have hs9 := hb10.size
            have g10 := hb10
            have HX10 := Lib.hid (HX9.out.below hb10 (by omega))
            have HY10 := Lib.hid (HY9.out.below hb10 (by omega))
            have HV10 := Lib.hid (HV9.out.below hb10 (by omega))
            have HRR10 := Lib.hid hr10
            clear hb10 hr10 d0 d1 d2 d3 v0 v1 v2
            have BB := (Below.refl w10.heap.size w10).alloc (Nat.le_refl _) (.cells #[.string un, .int .i64 pa, .int .i64 nu, .int .i64 at_, .int .i64 la, .int .i64 co, .int .i64 re, .int .i64 di, .slice A10 sn c10] 38)
            have h10' := h10.trans (BB.mono h10.size)
            have g10' := g10.trans (BB.mono hs9)
            have HX11 := Lib.hid (HX10.out.below BB (by omega))
            have HY11 := Lib.hid (HY10.out.below BB (by omega))
            have HV11 := Lib.hid (HV10.out.below BB (by omega))
            have HRR11 := Lib.hid (HRR10.out.below BB)
            have HA11 := Lib.hid (Box.new w10 #[.string un, .int .i64 pa, .int .i64 nu, .int .i64 at_, .int .i64 la, .int .i64 co, .int .i64 re, .int .i64 di, .slice A10 sn c10] 38)
            have hz11 : (w10.alloc (.cells #[.string un, .int .i64 pa, .int .i64 nu, .int .i64 at_, .int .i64 la, .int .i64 co, .int .i64 re, .int .i64 di, .slice A10 sn c10] 38)).heap.size = w10.heap.size + 1 := by simp
            clear BB HX10 HY10 HV10 HRR10
            have c0 := HX11.out 0 _ rfl
            have c1 := HX11.out 1 _ rfl
            have c2 := HX11.out 2 _ rfl
            go_wp2_with fail
            clear c0 c1 c2
            generalize (w10.alloc (.cells #[.string un, .int .i64 pa, .int .i64 nu, .int .i64 at_, .int .i64 la, .int .i64 co, .int .i64 re, .int .i64 di, .slice A10 sn c10] 38)) = w11 at *
            refine (HF2.out _ g10').mono ?_
            rintro e w12 ⟨A11, c11, rfl, hr12, hb12⟩
            have h12 := h10'.trans (hb12.mono h10'.size)
            have g12 := g10'.trans (hb12.mono g10'.size)
            have hs12 := hb12.size
            have HX12 := Lib.hid (HX11.out.below hb12 (by omega))
            have HY12 := Lib.hid (HY11.out.below hb12 (by omega))
            have HV12 := Lib.hid (HV11.out.below hb12 (by omega))
            have HA12 := Lib.hid (HA11.out.below hb12 (by omega))
            have HRR12 := Lib.hid (HRR11.out.below (hb12.mono (by omega)))
            have HSR12 := Lib.hid hr12
            clear hb12 hr12 HX11 HY11 HV11 HA11 HRR11
            have BB := (Below.refl w12.heap.size w12).alloc (Nat.le_refl _) (.cells #[.string yu, .int .i64 y1, .int .i64 y2, .int .i64 y3, .int .i64 y4, .int .i64 y5, .int .i64 y6, .int .i64 y7, .slice A11 yn c11] 38)
            have h12' := h12.trans (BB.mono h12.size)
            have g12' := g12.trans (BB.mono g12.size)
            have HX13 := Lib.hid (HX12.out.below BB (by omega))
            have HY13 := Lib.hid (HY12.out.below BB (by omega))
            have HV13 := Lib.hid (HV12.out.below BB (by omega))
            have HA13 := Lib.hid (HA12.out.below BB (by omega))
            have HRR13 := Lib.hid (HRR12.out.below (BB.mono (by omega)))
            have HSR13 := Lib.hid (HSR12.out.below BB)
            have HB13 := Lib.hid (Box.new w12 #[.string yu, .int .i64 y1, .int .i64 y2, .int .i64 y3, .int .i64 y4, .int .i64 y5, .int .i64 y6, .int .i64 y7, .slice A11 yn c11] 38)
            have hz13 : (w12.alloc (.cells #[.string yu, .int .i64 y1, .int .i64 y2, .int .i64 y3, .int .i64 y4, .int .i64 y5, .int .i64 y6, .int .i64 y7, .slice A11 yn c11] 38)).heap.size = w12.heap.size + 1 := by simp
            clear BB HX12 HY12 HV12 HA12 HRR12 HSR12
            have v0 := HV13.out 0 _ rfl
            have v1 := HV13.out 1 _ rfl
            have v2 := HV13.out 2 _ rfl
            go_wp2_with fail
            clear v0 v1 v2
            generalize (w12.alloc (.cells #[.string yu, .int .i64 y1, .int .i64 y2, .int .i64 y3, .int .i64 y4, .int .i64 y5, .int .i64 y6, .int .i64 y7, .slice A11 yn c11] 38)) = w13 at *
            refine (HF3.out _ g12').mono ?_
            rintro e w14 ⟨A12, c12, rfl, hr14, hb14⟩
            have h14 := h12'.trans (hb14.mono h12'.size)
            have hs14 := hb14.size
            have HY14 := Lib.hid (HY13.out.below hb14 (by omega))
            have HA14 := Lib.hid (HA13.out.below hb14 (by omega))
            have HB14 := Lib.hid (HB13.out.below hb14 (by omega))
            have HRR14 := Lib.hid (HRR13.out.below (hb14.mono (by omega)))
            have HSR14 := Lib.hid (HSR13.out.below (hb14.mono (by omega)))
            have HTR14 := Lib.hid hr14
            clear hb14 hr14 HX13 HY13 HV13 HA13 HB13 HRR13 HSR13
            have BB := (Below.refl w14.heap.size w14).alloc (Nat.le_refl _) (.cells #[.string yu, .int .i64 y1, .int .i64 y2, .int .i64 y3, .int .i64 y4, .int .i64 y5, .int .i64 y6, .int .i64 y7, .slice A12 yn c12] 38)
            have h15 := h14.trans (BB.mono h14.size)
            have HY15 := Lib.hid (HY14.out.below BB (by omega))
            have HA15 := Lib.hid (HA14.out.below BB (by omega))
            have HB15 := Lib.hid (HB14.out.below BB (by omega))
            have HRR15 := Lib.hid (HRR14.out.below (BB.mono (by omega)))
            have HSR15 := Lib.hid (HSR14.out.below (BB.mono (by omega)))
            have HTR15 := Lib.hid (HTR14.out.below BB)
            have HC15 := Lib.hid (Box.new w14 #[.string yu, .int .i64 y1, .int .i64 y2, .int .i64 y3, .int .i64 y4, .int .i64 y5, .int .i64 y6, .int .i64 y7, .slice A12 yn c12] 38)
            have hz15 : (w14.alloc (.cells #[.string yu, .int .i64 y1, .int .i64 y2, .int .i64 y3, .int .i64 y4, .int .i64 y5, .int .i64 y6, .int .i64 y7, .slice A12 yn c12] 38)).heap.size = w14.heap.size + 1 := by simp
            clear BB HY14 HA14 HB14 HRR14 HSR14 HTR14
            have m0 := HA15.out 0 _ rfl
            have m1 := HA15.out 1 _ rfl
            have m2 := HA15.out 2 _ rfl
            have m3 := HA15.out 3 _ rfl
            have m4 := HA15.out 4 _ rfl
            have m5 := HA15.out 5 _ rfl
            have m6 := HA15.out 6 _ rfl
            have m7 := HA15.out 7 _ rfl
            have m8 := HA15.out 8 _ rfl
            have n0 := HY15.out 0 _ rfl
            have n1 := HY15.out 1 _ rfl
            have n2 := HY15.out 2 _ rfl
            have n3 := HY15.out 3 _ rfl
            have n4 := HY15.out 4 _ rfl
            have n5 := HY15.out 5 _ rfl
            have n6 := HY15.out 6 _ rfl
            have n7 := HY15.out 7 _ rfl
            have n8 := HY15.out 8 _ rfl
            go_wp2_with fail
            generalize (w14.alloc (.cells #[.string yu, .int .i64 y1, .int .i64 y2, .int .i64 y3, .int .i64 y4, .int .i64 y5, .int .i64 y6, .int .i64 y7, .slice A12 yn c12] 38)) = W0 at *
            have hsa := sameact2_any ⟨un, pa, nu, at_, la, co, re, di, sA, sn, sc, sy⟩ A10 c10 W0.heap.size W0 (HRR15.out.more (by omega)) ((HA0.out.below h15).more h15.size) (Nat.le_refl _) hsn
            simp only [actV, actC] at hsa
            have HSA := Lib.hid hsa
            clear hsa
            refine HSA.out.mono ?_
            rintro e w15 ⟨rfl, hb15⟩
            have h16 := h15.trans (hb15.mono h15.size)
            have hs15 := hb15.size
            have HB16 := Lib.hid (HB15.out.below hb15 (by omega))
            have HC16 := Lib.hid (HC15.out.below hb15 (by omega))
            have HSR16 := Lib.hid (HSR15.out.below (hb15.mono (by omega)))
            have HTR16 := Lib.hid (HTR15.out.below (hb15.mono (by omega)))
            clear hb15 m0 m1 m2 m3 m4 m5 m6 m7 m8 n0 n1 n2 n3 n4 n5 n6 n7 n8
            have m0 := HB16.out 0 _ rfl
            have m1 := HB16.out 1 _ rfl
            have m2 := HB16.out 2 _ rfl
            have m3 := HB16.out 3 _ rfl
            have m4 := HB16.out 4 _ rfl
            have m5 := HB16.out 5 _ rfl
            have m6 := HB16.out 6 _ rfl
            have m7 := HB16.out 7 _ rfl
            have m8 := HB16.out 8 _ rfl
            have n0 := HC16.out 0 _ rfl
            have n1 := HC16.out 1 _ rfl
            have n2 := HC16.out 2 _ rfl
            have n3 := HC16.out 3 _ rfl
            have n4 := HC16.out 4 _ rfl
            have n5 := HC16.out 5 _ rfl
            have n6 := HC16.out 6 _ rfl
            have n7 := HC16.out 7 _ rfl
            have n8 := HC16.out 8 _ rfl
            have hsb := sameact_any ⟨yu, y1, y2, y3, y4, y5, y6, y7, A11, yn, c11, yy⟩ A12 c12 w15.heap.size w15 (HSR16.out.more (by omega)) (HTR16.out.more (by omega)) (Nat.le_refl _) HROW.out.2
            simp only [actV, actC] at hsb
            have HSB := Lib.hid hsb
            clear hsb
            go_wp2_with fail
            refine HSB.out.mono ?_
            rintro e w16 ⟨rfl, hb16⟩
            have h17 := h16.trans (hb16.mono h16.size)
            clear hb16
            go_wp2
            go_ret
            exact ⟨rfl, h17⟩
theorem worldmore_row (D : WorldD) (a : ActD) (other : ByteArray) (part num att : Int) (w : World) (h : WorldGood w D) (ha : ActGood w a) (_ : other.size ≤ 140737488351232) :
    Calls Try.prog 6 #[worldV D, actV a, .string other, .int .i64 part, .int .i64 num, .int .i64 att] w fun e w' => e = .returned (.bool true) ∧ Below w.heap.size w w' := worldmore_any D a other part num att w h ha

end Go.Proofs.Ytkfeicgeobhccaa
