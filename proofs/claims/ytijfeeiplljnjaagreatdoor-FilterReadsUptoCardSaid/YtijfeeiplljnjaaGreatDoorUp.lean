/-
  An element is put in its place in a row of the call's own: slices.Insert, slices.BinarySearch, the program's put.
-/
import Derived.Test.YtijfeeiplljnjaaGreatDoorUl
import Derived.Test.YtijfeeiplljnjaaGreatDoorIns2
namespace Go.Proofs.YtijfeeiplljnjaaGreatDoor
open Go.RowKit Go.Shelf

theorem grown_setCell (w : World) (b o : Nat) (v : Value) : w.grownBy (w.setCell ⟨b, o, none⟩ v) (some b) := ⟨rfl, rfl, rfl, by simp [World.setCell], fun k _ hk => Below.heap_setCell _ _ _ _ (fun e => hk (by simp [e]))⟩
theorem grown_trans {a b c : World} {row : Option Nat} (h : a.grownBy b row) (g : b.grownBy c row) : a.grownBy c row :=
  ⟨g.os.trans h.os, g.tape.trans h.tape, g.output.trans h.output, Nat.le_trans h.size g.size, fun k hk hr => (g.block k (Nat.lt_of_lt_of_le hk h.size) hr).trans (h.block k hk hr)⟩
theorem grown_refl (a : World) (row : Option Nat) : a.grownBy a row := ⟨rfl, rfl, rfl, Nat.le_refl _, fun _ _ _ => rfl⟩
theorem grown_setCells (b : Nat) : ∀ (vs : List Value) (o : Nat) (w : World), w.grownBy (w.setCells b o vs) (some b)
  | [], _, w => grown_refl w _
  | v :: r, o, w => grown_trans (grown_setCell w b o v) (grown_setCells b r (o + 1) _)
theorem grown_new {w w' : World} {b : Nat} (h : w.grownBy w' (some b)) (row : Option Nat) (hb : w.heap.size ≤ b) : w.grownBy w' row :=
  ⟨h.os, h.tape, h.output, h.size, fun k hk _ => h.block k hk (fun e => by injection e with e; omega)⟩
theorem grown_fresh (w : World) (o : Obj) (vs1 : List Value) (o1 : Nat) (vs2 : List Value) (o2 : Nat) (row : Option Nat) : w.grownBy (((w.alloc o).drew.setCells w.heap.size o1 vs1).drew.setCells w.heap.size o2 vs2) row := by
  have h1 : w.grownBy (w.alloc o).drew (some w.heap.size) := ⟨rfl, rfl, rfl, by simp, fun k hk _ => Lib.alloc_old w o k hk⟩
  have h2 := grown_setCells w.heap.size vs1 o1 (w.alloc o).drew
  have h3 : ((w.alloc o).drew.setCells w.heap.size o1 vs1).grownBy ((w.alloc o).drew.setCells w.heap.size o1 vs1).drew (some w.heap.size) := ⟨rfl, rfl, rfl, Nat.le_refl _, fun _ _ _ => rfl⟩
  have h4 := grown_setCells w.heap.size vs2 o2 ((w.alloc o).drew.setCells w.heap.size o1 vs1).drew
  exact grown_new (grown_trans (grown_trans h1 h2) (grown_trans h3 h4)) row (Nat.le_refl _)
theorem setCells_row (b : Nat) (T : TypeId) (fz : Nat × Nat) : ∀ (vs : List Value) (o : Nat) (w : World) (cur : Array Value), w.heap[b]? = some (.cells cur T fz) → o + vs.length ≤ cur.size →
    ∃ cur', (w.setCells b o vs).heap[b]? = some (.cells cur' T fz) ∧ cur'.size = cur.size ∧ ∀ j, cur'[j]? = if o ≤ j ∧ j < o + vs.length then vs[j - o]? else cur[j]?
  | [], o, w, cur, h, _ => ⟨cur, h, rfl, fun j => by rw [if_neg (by simp only [List.length_nil]; omega)]⟩
  | v :: r, o, w, cur, h, hl => by
    simp only [List.length_cons] at hl
    have h2 : (w.setCell ⟨b, o, none⟩ v).heap[b]? = some (.cells (cur.setIfInBounds o v) T fz) := by simp [World.setCell, Array.getElem?_modify, h]
    obtain ⟨cur', g1, g2, g3⟩ := setCells_row b T fz r (o + 1) _ _ h2 (by simp; omega)
    refine ⟨cur', g1, by simpa using g2, fun j => ?_⟩
    rw [g3 j]
    by_cases hj : o + 1 ≤ j ∧ j < o + 1 + r.length
    · rw [if_pos hj, if_pos (by simp only [List.length_cons]; omega)]
      rw [show j - o = (j - (o + 1)) + 1 by omega, List.getElem?_cons_succ]
    · rw [if_neg hj]
      by_cases hjo : j = o
      · subst hjo
        rw [if_pos (by simp only [List.length_cons]; omega)]
        simp [Array.getElem?_setIfInBounds]
        omega
      · rw [if_neg (by simp only [List.length_cons]; omega)]
        simp [Ne.symm hjo]
theorem take_of (cur : Array Value) (L : List Value) (h : ∀ j, j < L.length → cur[j]? = L[j]?) : cur.toList.take L.length = L := by
  apply List.ext_getElem?
  intro j
  rw [List.getElem?_take]
  by_cases hj : j < L.length
  · rw [if_pos hj, ← h j hj]; simp
  · rw [if_neg hj, List.getElem?_eq_none (by omega)]
theorem ins_at (cs : List Value) (x : Value) (i : Nat) (hi : i ≤ cs.length) (j : Nat) : (cs.take i ++ x :: cs.drop i)[j]? = if j < i then cs[j]? else if j = i then some x else cs[j - 1]? := by
  have hl : (cs.take i).length = i := by rw [List.length_take]; omega
  by_cases h1 : j < i
  · rw [if_pos h1, List.getElem?_append_left (by omega), List.getElem?_take, if_pos h1]
  · rw [if_neg h1, List.getElem?_append_right (by omega), hl]
    by_cases h2 : j = i
    · rw [if_pos h2, h2]; simp
    · rw [if_neg h2, show j - i = (j - i - 1) + 1 by omega, List.getElem?_cons_succ, List.getElem?_drop]
      congr 1; omega
def OwnI (B : Nat) (v : Value) (xs : List Int) (w : World) : Prop := w.ownsRow B 3 1 v xs.length (xs.map (Value.int .i64))
theorem OwnI.form {B : Nat} {v : Value} {xs : List Int} {w : World} (h : OwnI B v xs w) : ∃ A c, v = .slice A xs.length c := by
  rcases h.2 with ⟨hv, h0⟩ | ⟨g', cap, cur, hv, _⟩
  · exact ⟨none, 0, by rw [hv, h0]⟩
  · exact ⟨_, _, hv⟩
theorem OwnI.row {B : Nat} {v : Value} {xs : List Int} {w : World} (h : OwnI B v xs w) : ∀ g, v.ownBlock = some g → ∃ cs, w.heap[g]? = some (.cells cs 3 (0, 0)) := by
  intro g hg
  rcases h.2 with ⟨hv, _⟩ | ⟨g', cap, cur, hv, _, hh, _⟩
  · rw [hv] at hg; cases hg
  · rw [hv] at hg
    injection hg with hg
    subst hg
    exact ⟨cur, hh⟩

/-- what Insert leaves -/
def InssR (B : Nat) (v : Value) (ys : List ByteArray) (w : World) (e : Ending) (w' : World) : Prop := ∃ v', e = .returned v' ∧ OwnS B v' ys w' ∧ w.grownBy w' v.ownBlock
theorem insert_s (B : Nat) (v : Value) (xs : List ByteArray) (x : ByteArray) (i vb : Nat) (w : World) (hr : OwnS B v xs w) (hi : i ≤ xs.length) (hn : xs.length ≤ 1000) (hB : B ≤ w.heap.size) (hv : w.heap[vb]? = some (.cells #[.string x] 9 (0, 0))) (hne : v.ownBlock ≠ some vb) :
    Calls Tryz.prog 89 #[v, .int .i64 i, .slice (some ⟨vb, 0, none⟩) 1 1] w (InssR B v (xs.take i ++ x :: xs.drop i) w) := by
  have hvs : ∀ j u, ([.string x] : List Value)[j]? = some u → w.cell? ⟨vb, 0 + j, none⟩ = some u := by
    intro j u hu
    match j, hu with
    | 0, hu => simp at hu; subst hu; rw [Lib.cell_of_heap hv]; rfl
    | j + 1, hu => simp at hu
  have h1v : ∀ u ∈ ([.string x] : List Value), u.oneCell' = true := by intro u hu; simp at hu; subst hu; rfl
  have h1c : ∀ u ∈ xs.map Value.string, u.oneCell' = true := by intro u hu; obtain ⟨y, _, rfl⟩ := List.mem_map.1 hu; rfl
  have hml : (xs.take i ++ x :: xs.drop i).map Value.string = (xs.map Value.string).take i ++ (.string x) :: (xs.map Value.string).drop i := by
    rw [List.map_append, List.map_cons, List.map_take, List.map_drop]
  have hlen : (xs.take i ++ x :: xs.drop i).length = xs.length + 1 := by rw [List.length_append, List.length_cons, List.length_take, List.length_drop]; omega
  have hcl : (xs.map Value.string).length = xs.length := List.length_map _
  generalize hcs : xs.map Value.string = cs at *
  have fin : ∀ (w' : World) (g cap : Nat) (cur : Array Value), w'.heap[g]? = some (.cells cur 9 (0, 0)) → B ≤ g → xs.length + 1 ≤ cap → cap ≤ maxLen → cur.size = cap → (∀ j, j < xs.length + 1 → cur[j]? = if j < i then cs[j]? else if j = i then some (.string x) else cs[j - 1]?) → OwnS B (.slice (some ⟨g, 0, none⟩) (xs.length + 1) cap) (xs.take i ++ x :: xs.drop i) w' := by
    intro w' g cap cur hg hBg hc hm hs hat
    unfold OwnS
    rw [hlen, hml]
    have hL : (cs.take i ++ (.string x) :: cs.drop i).length = xs.length + 1 := by rw [List.length_append, List.length_cons, List.length_take, List.length_drop]; omega
    refine ⟨by rw [hL]; omega, .inr ⟨g, cap, cur, rfl, hBg, hg, hc, hm, by omega, ?_⟩⟩
    rw [Nat.mul_one, ← hL]
    exact take_of cur _ (fun j hj => by rw [hat j (by omega), ins_at cs _ i (by omega) j])
  have hzc : (Value.cells (.string ⟨#[]⟩)).size = 1 := rfl
  rcases hr.2 with ⟨rfl, h0⟩ | ⟨g, cap, cur, rfl, hBg, hg, hnc, hcm, hsz, htake⟩
  · have hi0 : i = 0 := by omega
    subst hi0
    obtain rfl : xs = [] := List.eq_nil_of_length_eq_zero h0
    obtain rfl : [] = cs := hcs
    have h := Any2.slices_Insert_string_end_grow Tryz.lInsS none 0 0 vb 0 1 1 [] [.string x] w (by decide) (by decide) (by decide) (by decide) rfl rfl (fun _ => rfl) (fun a e => by cases e) hvs h1v
    refine Calls.mono h ?_
    rintro e w' ⟨rfl, rfl⟩
    refine ⟨_, rfl, ?_, ⟨rfl, rfl, rfl, by simp, fun k hk _ => Lib.alloc_old w.drew _ k hk⟩⟩
    have hge := grownCap_ge w (0 + 1) 0 9
    refine fin _ w.heap.size _ _ Array.getElem?_push_size hB hge (grownCap_le_maxLen w (0 + 1) 0 9 (by decide)) ?_ ?_
    · simp only [List.nil_append, Array.size_append, List.size_toArray, List.length_singleton, size_zeroCells, hzc]
      show 1 + (grownCap w (0 + 1) 0 9 - (0 + 1)) * 1 = grownCap w (0 + 1) 0 9
      omega
    · intro j hj
      have : j = 0 := by omega
      subst this
      rw [Array.getElem?_append_left (by simp)]
      simp
  · rw [Nat.mul_one] at hsz htake
    rw [hcs] at htake
    have hlt : g < w.heap.size := (Array.getElem?_eq_some_iff.1 hg).1
    have hgv : vb ≠ g := fun e => hne (by simp [Value.ownBlock, e])
    have hcat : ∀ j, j < xs.length → cur[j]? = cs[j]? := by
      intro j hj
      rw [← htake, List.getElem?_take, if_pos hj]
      simp
    have hcell : ∀ j u, cs[j]? = some u → w.cell? ⟨g, 0 + j, none⟩ = some u := by
      intro j u hu
      have hj : j < xs.length := by have := (List.getElem?_eq_some_iff.1 hu).1; omega
      rw [Nat.zero_add, Lib.cell_of_heap hg, hcat j hj, hu]
    have hsome : ∀ j, j < cap → (w.cell? ⟨g, j, none⟩).isSome = true := by
      intro j hj
      rw [Lib.cell_of_heap hg]
      simp; omega
    have hfr : ∀ j, w.frozen? ⟨g, j, none⟩ = false := fun j => Lib.frozen_of_heap hg j
    have hc63 : cap ≤ 9223372036854775807 := by unfold maxLen at hcm; omega
    by_cases hie : i = xs.length
    · subst hie
      by_cases hroom : xs.length + 1 ≤ cap
      · have h := Any2.slices_Insert_string_end_room Tryz.lInsS g 0 xs.length cap vb 0 1 1 [.string x] w (by decide) hroom hc63 rfl (fun j hj => hsome _ (by omega)) (fun j hj => hfr _) hvs h1v
        refine Calls.mono h ?_
        rintro e w' ⟨rfl, rfl⟩
        refine ⟨_, rfl, ?_, grown_setCells g _ _ _⟩
        obtain ⟨cur', g1, g2, g3⟩ := setCells_row g 9 (0, 0) [.string x] (0 + xs.length) w cur hg (by simp; omega)
        refine fin _ g cap cur' g1 hBg hroom hcm (by omega) (fun j hj => ?_)
        rw [g3 j]
        by_cases hjn : j < xs.length
        · rw [if_neg (by simp; omega), if_pos hjn, hcat j hjn]
        · have hjn : j = xs.length := by omega
          subst hjn
          rw [if_pos (by simp), if_neg (by omega), if_pos rfl]
          simp
      · have h := Any2.slices_Insert_string_end_grow Tryz.lInsS (some ⟨g, 0, none⟩) xs.length cap vb 0 1 1 cs [.string x] w (by decide) hnc (by omega) (by omega) hcl rfl (fun e => by cases e) (fun a e j u hu => by
          injection e with e
          subst e
          have := hcell j u hu
          rw [Nat.zero_add] at this
          unfold Addr.add
          split
          · rename_i hj; subst hj; exact this
          · rw [Nat.zero_add]; exact this) hvs h1v
        refine Calls.mono h ?_
        rintro e w' ⟨rfl, rfl⟩
        refine ⟨_, rfl, ?_, ⟨rfl, rfl, rfl, by simp, fun k hk _ => Lib.alloc_old w.drew _ k hk⟩⟩
        have hge := grownCap_ge w (xs.length + 1) cap 9
        refine fin _ w.heap.size _ _ Array.getElem?_push_size hB hge (grownCap_le_maxLen w (xs.length + 1) cap 9 (by unfold maxLen; omega)) ?_ ?_
        · simp only [Array.size_append, List.size_toArray, List.length_append, List.length_singleton, size_zeroCells, hzc, hcl]
          rw [show ((Tryz.lInsS_ren).t 9) = 9 from rfl] at *
          omega
        · intro j hj
          rw [Array.getElem?_append_left (by simp; omega)]
          simp only [List.getElem?_toArray]
          by_cases hjn : j < xs.length
          · rw [if_pos hjn, List.getElem?_append_left (by omega)]
          · have hjn : j = xs.length := by omega
            rw [if_neg (by omega), if_pos hjn, List.getElem?_append_right (by omega), hcl, hjn]
            simp
    · have hil : i < xs.length := by omega
      by_cases hroom : xs.length + 1 ≤ cap
      · have hsh : w.shape? vb = some (9, 1) := by simp [World.shape?, hv]
        have hshg : w.shape? g = some (9, cap) := by simp [World.shape?, hg, hsz]
        have h := Any2.slices_Insert_string_shift Tryz.lInsS g 0 xs.length cap i vb 0 1 1 cs [.string x] w hil (by decide) hroom hc63 hgv hcl rfl hcell (fun j hj => by rw [Nat.zero_add]; exact hsome j (by omega)) (fun j _ => hfr _) hvs h1c h1v 9 9 1 cap hsh hshg (by omega) (Lib.frozen_of_heap hv 0) (Lib.frozen_of_heap hv 1)
        refine Calls.mono h ?_
        rintro e w' ⟨rfl, rfl⟩
        refine ⟨_, rfl, ?_, grown_trans (b := w.drew) ⟨rfl, rfl, rfl, Nat.le_refl _, fun _ _ _ => rfl⟩ (grown_trans (grown_setCells g _ _ _) (grown_setCells g _ _ _))⟩
        have hdl : (cs.drop i).length = xs.length - i := by rw [List.length_drop, hcl]
        obtain ⟨c1, g1, g2, g3⟩ := setCells_row g 9 (0, 0) (cs.drop i) (0 + (i + 1)) w.drew cur hg (by rw [hdl]; omega)
        obtain ⟨c2, k1, k2, k3⟩ := setCells_row g 9 (0, 0) [.string x] (0 + i) _ c1 g1 (by simp; omega)
        refine fin _ g cap c2 k1 hBg hroom hcm (by omega) (fun j hj => ?_)
        rw [k3 j, g3 j]
        by_cases hj1 : j < i
        · rw [if_neg (by simp; omega), if_neg (by omega), if_pos hj1, hcat j (by omega)]
        · rw [if_neg hj1]
          by_cases hj2 : j = i
          · subst hj2
            rw [if_pos (by simp), if_pos rfl]; simp
          · rw [if_neg (by simp; omega), if_pos (by rw [hdl]; omega), if_neg hj2, List.getElem?_drop]
            congr 1; omega
      · have h := Any2.slices_Insert_string_grow Tryz.lInsS g 0 xs.length cap i vb 0 1 1 cs [.string x] w hil (by decide) hnc (by omega) (by omega) hcl rfl hcell hvs h1c h1v
        refine Calls.mono h ?_
        rintro e w' ⟨rfl, rfl⟩
        have hge := grownCap_ge w (xs.length + 1) cap 9
        have hle := grownCap_le_maxLen w (xs.length + 1) cap 9 (by unfold maxLen; omega)
        have hdl : (cs.drop i).length = xs.length - i := by rw [List.length_drop, hcl]
        have htl : (cs.take i).length = i := by rw [List.length_take]; omega
        refine ⟨_, rfl, ?_, grown_fresh w _ _ _ _ _ _⟩
        generalize hcu : ((cs.take i).toArray ++ Builtin.zeroCells (Value.cells (.string ⟨#[]⟩)) (xs.length + 1 - i) ++ Builtin.zeroCells (Value.cells (.string ⟨#[]⟩)) (grownCap w (xs.length + 1) cap (Tryz.lInsS_ren.t 9) - (xs.length + 1)) : Array Value) = cu
        have hcz : cu.size = grownCap w (xs.length + 1) cap 9 := by
          rw [← hcu]
          simp only [Array.size_append, List.size_toArray, size_zeroCells, hzc, htl]
          rw [show ((Tryz.lInsS_ren).t 9) = 9 from rfl]
          omega
        have hct : ∀ j, j < i → cu[j]? = cs[j]? := by
          intro j hj
          rw [← hcu, Array.getElem?_append_left (by simp; omega), Array.getElem?_append_left (by simp; omega), List.getElem?_toArray, List.getElem?_take, if_pos hj]
        have hnew : (w.alloc (.cells cu (Tryz.lInsS_ren.t 9))).drew.heap[w.heap.size]? = some (.cells cu 9 (0, 0)) := Array.getElem?_push_size
        obtain ⟨c1, g1, g2, g3⟩ := setCells_row w.heap.size 9 (0, 0) [.string x] i _ cu hnew (by simp; omega)
        obtain ⟨c2, k1, k2, k3⟩ := setCells_row w.heap.size 9 (0, 0) (cs.drop i) (i + 1) (((w.alloc (.cells cu (Tryz.lInsS_ren.t 9))).drew.setCells w.heap.size i [.string x]).drew) c1 g1 (by rw [hdl]; omega)
        refine fin _ w.heap.size _ c2 k1 hB hge hle (by rw [k2, g2, hcz]; rfl) (fun j hj => ?_)
        rw [k3 j, g3 j]
        by_cases hj1 : j < i
        · rw [if_neg (by omega), if_neg (by simp; omega), if_pos hj1, hct j hj1]
        · rw [if_neg hj1]
          by_cases hj2 : j = i
          · subst hj2
            rw [if_neg (by omega), if_pos (by simp), if_pos rfl]; simp
          · rw [if_pos (by rw [hdl]; omega), if_neg hj2, List.getElem?_drop]
            congr 1; omega

/-- what Insert leaves -/
def InsiR (B : Nat) (v : Value) (ys : List Int) (w : World) (e : Ending) (w' : World) : Prop := ∃ v', e = .returned v' ∧ OwnI B v' ys w' ∧ w.grownBy w' v.ownBlock
theorem insert_i (B : Nat) (v : Value) (xs : List Int) (x : Int) (i vb : Nat) (w : World) (hr : OwnI B v xs w) (hi : i ≤ xs.length) (hn : xs.length ≤ 1000) (hB : B ≤ w.heap.size) (hv : w.heap[vb]? = some (.cells #[.int .i64 x] 3 (0, 0))) (hne : v.ownBlock ≠ some vb) :
    Calls Tryz.prog 70 #[v, .int .i64 i, .slice (some ⟨vb, 0, none⟩) 1 1] w (InsiR B v (xs.take i ++ x :: xs.drop i) w) := by
  have hvs : ∀ j u, ([.int .i64 x] : List Value)[j]? = some u → w.cell? ⟨vb, 0 + j, none⟩ = some u := by
    intro j u hu
    match j, hu with
    | 0, hu => simp at hu; subst hu; rw [Lib.cell_of_heap hv]; rfl
    | j + 1, hu => simp at hu
  have h1v : ∀ u ∈ ([.int .i64 x] : List Value), u.oneCell' = true := by intro u hu; simp at hu; subst hu; rfl
  have h1c : ∀ u ∈ xs.map (Value.int .i64), u.oneCell' = true := by intro u hu; obtain ⟨y, _, rfl⟩ := List.mem_map.1 hu; rfl
  have hml : (xs.take i ++ x :: xs.drop i).map (Value.int .i64) = (xs.map (Value.int .i64)).take i ++ (.int .i64 x) :: (xs.map (Value.int .i64)).drop i := by
    rw [List.map_append, List.map_cons, List.map_take, List.map_drop]
  have hlen : (xs.take i ++ x :: xs.drop i).length = xs.length + 1 := by rw [List.length_append, List.length_cons, List.length_take, List.length_drop]; omega
  have hcl : (xs.map (Value.int .i64)).length = xs.length := List.length_map _
  generalize hcs : xs.map (Value.int .i64) = cs at *
  have fin : ∀ (w' : World) (g cap : Nat) (cur : Array Value), w'.heap[g]? = some (.cells cur 3 (0, 0)) → B ≤ g → xs.length + 1 ≤ cap → cap ≤ maxLen → cur.size = cap → (∀ j, j < xs.length + 1 → cur[j]? = if j < i then cs[j]? else if j = i then some (.int .i64 x) else cs[j - 1]?) → OwnI B (.slice (some ⟨g, 0, none⟩) (xs.length + 1) cap) (xs.take i ++ x :: xs.drop i) w' := by
    intro w' g cap cur hg hBg hc hm hs hat
    unfold OwnI
    rw [hlen, hml]
    have hL : (cs.take i ++ (.int .i64 x) :: cs.drop i).length = xs.length + 1 := by rw [List.length_append, List.length_cons, List.length_take, List.length_drop]; omega
    refine ⟨by rw [hL]; omega, .inr ⟨g, cap, cur, rfl, hBg, hg, hc, hm, by omega, ?_⟩⟩
    rw [Nat.mul_one, ← hL]
    exact take_of cur _ (fun j hj => by rw [hat j (by omega), ins_at cs _ i (by omega) j])
  have hzc : (Value.cells (.int .i64 0)).size = 1 := rfl
  rcases hr.2 with ⟨rfl, h0⟩ | ⟨g, cap, cur, rfl, hBg, hg, hnc, hcm, hsz, htake⟩
  · have hi0 : i = 0 := by omega
    subst hi0
    obtain rfl : xs = [] := List.eq_nil_of_length_eq_zero h0
    obtain rfl : [] = cs := hcs
    have h := Any2.slices_Insert_int_end_grow Tryz.lInsI none 0 0 vb 0 1 1 [] [.int .i64 x] w (by decide) (by decide) (by decide) (by decide) rfl rfl (fun _ => rfl) (fun a e => by cases e) hvs h1v
    refine Calls.mono h ?_
    rintro e w' ⟨rfl, rfl⟩
    refine ⟨_, rfl, ?_, ⟨rfl, rfl, rfl, by simp, fun k hk _ => Lib.alloc_old w.drew _ k hk⟩⟩
    have hge := grownCap_ge w (0 + 1) 0 3
    refine fin _ w.heap.size _ _ Array.getElem?_push_size hB hge (grownCap_le_maxLen w (0 + 1) 0 3 (by decide)) ?_ ?_
    · simp only [List.nil_append, Array.size_append, List.size_toArray, List.length_singleton, size_zeroCells, hzc]
      show 1 + (grownCap w (0 + 1) 0 3 - (0 + 1)) * 1 = grownCap w (0 + 1) 0 3
      omega
    · intro j hj
      have : j = 0 := by omega
      subst this
      rw [Array.getElem?_append_left (by simp)]
      simp
  · rw [Nat.mul_one] at hsz htake
    rw [hcs] at htake
    have hlt : g < w.heap.size := (Array.getElem?_eq_some_iff.1 hg).1
    have hgv : vb ≠ g := fun e => hne (by simp [Value.ownBlock, e])
    have hcat : ∀ j, j < xs.length → cur[j]? = cs[j]? := by
      intro j hj
      rw [← htake, List.getElem?_take, if_pos hj]
      simp
    have hcell : ∀ j u, cs[j]? = some u → w.cell? ⟨g, 0 + j, none⟩ = some u := by
      intro j u hu
      have hj : j < xs.length := by have := (List.getElem?_eq_some_iff.1 hu).1; omega
      rw [Nat.zero_add, Lib.cell_of_heap hg, hcat j hj, hu]
    have hsome : ∀ j, j < cap → (w.cell? ⟨g, j, none⟩).isSome = true := by
      intro j hj
      rw [Lib.cell_of_heap hg]
      simp; omega
    have hfr : ∀ j, w.frozen? ⟨g, j, none⟩ = false := fun j => Lib.frozen_of_heap hg j
    have hc63 : cap ≤ 9223372036854775807 := by unfold maxLen at hcm; omega
    by_cases hie : i = xs.length
    · subst hie
      by_cases hroom : xs.length + 1 ≤ cap
      · have h := Any2.slices_Insert_int_end_room Tryz.lInsI g 0 xs.length cap vb 0 1 1 [.int .i64 x] w (by decide) hroom hc63 rfl (fun j hj => hsome _ (by omega)) (fun j hj => hfr _) hvs h1v
        refine Calls.mono h ?_
        rintro e w' ⟨rfl, rfl⟩
        refine ⟨_, rfl, ?_, grown_setCells g _ _ _⟩
        obtain ⟨cur', g1, g2, g3⟩ := setCells_row g 3 (0, 0) [.int .i64 x] (0 + xs.length) w cur hg (by simp; omega)
        refine fin _ g cap cur' g1 hBg hroom hcm (by omega) (fun j hj => ?_)
        rw [g3 j]
        by_cases hjn : j < xs.length
        · rw [if_neg (by simp; omega), if_pos hjn, hcat j hjn]
        · have hjn : j = xs.length := by omega
          subst hjn
          rw [if_pos (by simp), if_neg (by omega), if_pos rfl]
          simp
      · have h := Any2.slices_Insert_int_end_grow Tryz.lInsI (some ⟨g, 0, none⟩) xs.length cap vb 0 1 1 cs [.int .i64 x] w (by decide) hnc (by omega) (by omega) hcl rfl (fun e => by cases e) (fun a e j u hu => by
          injection e with e
          subst e
          have := hcell j u hu
          rw [Nat.zero_add] at this
          unfold Addr.add
          split
          · rename_i hj; subst hj; exact this
          · rw [Nat.zero_add]; exact this) hvs h1v
        refine Calls.mono h ?_
        rintro e w' ⟨rfl, rfl⟩
        refine ⟨_, rfl, ?_, ⟨rfl, rfl, rfl, by simp, fun k hk _ => Lib.alloc_old w.drew _ k hk⟩⟩
        have hge := grownCap_ge w (xs.length + 1) cap 3
        refine fin _ w.heap.size _ _ Array.getElem?_push_size hB hge (grownCap_le_maxLen w (xs.length + 1) cap 3 (by unfold maxLen; omega)) ?_ ?_
        · simp only [Array.size_append, List.size_toArray, List.length_append, List.length_singleton, size_zeroCells, hzc, hcl]
          rw [show ((Tryz.lInsI_ren).t 3) = 3 from rfl] at *
          omega
        · intro j hj
          rw [Array.getElem?_append_left (by simp; omega)]
          simp only [List.getElem?_toArray]
          by_cases hjn : j < xs.length
          · rw [if_pos hjn, List.getElem?_append_left (by omega)]
          · have hjn : j = xs.length := by omega
            rw [if_neg (by omega), if_pos hjn, List.getElem?_append_right (by omega), hcl, hjn]
            simp
    · have hil : i < xs.length := by omega
      by_cases hroom : xs.length + 1 ≤ cap
      · have hsh : w.shape? vb = some (3, 1) := by simp [World.shape?, hv]
        have hshg : w.shape? g = some (3, cap) := by simp [World.shape?, hg, hsz]
        have h := Any2.slices_Insert_int_shift Tryz.lInsI g 0 xs.length cap i vb 0 1 1 cs [.int .i64 x] w hil (by decide) hroom hc63 hgv hcl rfl hcell (fun j hj => by rw [Nat.zero_add]; exact hsome j (by omega)) (fun j _ => hfr _) hvs h1c h1v 3 3 1 cap hsh hshg (by omega) (Lib.frozen_of_heap hv 0) (Lib.frozen_of_heap hv 1)
        refine Calls.mono h ?_
        rintro e w' ⟨rfl, rfl⟩
        refine ⟨_, rfl, ?_, grown_trans (b := w.drew) ⟨rfl, rfl, rfl, Nat.le_refl _, fun _ _ _ => rfl⟩ (grown_trans (grown_setCells g _ _ _) (grown_setCells g _ _ _))⟩
        have hdl : (cs.drop i).length = xs.length - i := by rw [List.length_drop, hcl]
        obtain ⟨c1, g1, g2, g3⟩ := setCells_row g 3 (0, 0) (cs.drop i) (0 + (i + 1)) w.drew cur hg (by rw [hdl]; omega)
        obtain ⟨c2, k1, k2, k3⟩ := setCells_row g 3 (0, 0) [.int .i64 x] (0 + i) _ c1 g1 (by simp; omega)
        refine fin _ g cap c2 k1 hBg hroom hcm (by omega) (fun j hj => ?_)
        rw [k3 j, g3 j]
        by_cases hj1 : j < i
        · rw [if_neg (by simp; omega), if_neg (by omega), if_pos hj1, hcat j (by omega)]
        · rw [if_neg hj1]
          by_cases hj2 : j = i
          · subst hj2
            rw [if_pos (by simp), if_pos rfl]; simp
          · rw [if_neg (by simp; omega), if_pos (by rw [hdl]; omega), if_neg hj2, List.getElem?_drop]
            congr 1; omega
      · have h := Any2.slices_Insert_int_grow Tryz.lInsI g 0 xs.length cap i vb 0 1 1 cs [.int .i64 x] w hil (by decide) hnc (by omega) (by omega) hcl rfl hcell hvs h1c h1v
        refine Calls.mono h ?_
        rintro e w' ⟨rfl, rfl⟩
        have hge := grownCap_ge w (xs.length + 1) cap 3
        have hle := grownCap_le_maxLen w (xs.length + 1) cap 3 (by unfold maxLen; omega)
        have hdl : (cs.drop i).length = xs.length - i := by rw [List.length_drop, hcl]
        have htl : (cs.take i).length = i := by rw [List.length_take]; omega
        refine ⟨_, rfl, ?_, grown_fresh w _ _ _ _ _ _⟩
        generalize hcu : ((cs.take i).toArray ++ Builtin.zeroCells (Value.cells (.int .i64 0)) (xs.length + 1 - i) ++ Builtin.zeroCells (Value.cells (.int .i64 0)) (grownCap w (xs.length + 1) cap (Tryz.lInsI_ren.t 3) - (xs.length + 1)) : Array Value) = cu
        have hcz : cu.size = grownCap w (xs.length + 1) cap 3 := by
          rw [← hcu]
          simp only [Array.size_append, List.size_toArray, size_zeroCells, hzc, htl]
          rw [show ((Tryz.lInsI_ren).t 3) = 3 from rfl]
          omega
        have hct : ∀ j, j < i → cu[j]? = cs[j]? := by
          intro j hj
          rw [← hcu, Array.getElem?_append_left (by simp; omega), Array.getElem?_append_left (by simp; omega), List.getElem?_toArray, List.getElem?_take, if_pos hj]
        have hnew : (w.alloc (.cells cu (Tryz.lInsI_ren.t 3))).drew.heap[w.heap.size]? = some (.cells cu 3 (0, 0)) := Array.getElem?_push_size
        obtain ⟨c1, g1, g2, g3⟩ := setCells_row w.heap.size 3 (0, 0) [.int .i64 x] i _ cu hnew (by simp; omega)
        obtain ⟨c2, k1, k2, k3⟩ := setCells_row w.heap.size 3 (0, 0) (cs.drop i) (i + 1) (((w.alloc (.cells cu (Tryz.lInsI_ren.t 3))).drew.setCells w.heap.size i [.int .i64 x]).drew) c1 g1 (by rw [hdl]; omega)
        refine fin _ w.heap.size _ c2 k1 hB hge hle (by rw [k2, g2, hcz]; rfl) (fun j hj => ?_)
        rw [k3 j, g3 j]
        by_cases hj1 : j < i
        · rw [if_neg (by omega), if_neg (by simp; omega), if_pos hj1, hct j hj1]
        · rw [if_neg hj1]
          by_cases hj2 : j = i
          · subst hj2
            rw [if_neg (by omega), if_pos (by simp), if_pos rfl]; simp
          · rw [if_pos (by rw [hdl]; omega), if_neg hj2, List.getElem?_drop]
            congr 1; omega

end Go.Proofs.YtijfeeiplljnjaaGreatDoor
