/-
  The walk of a span's text.
-/
import Derived.Test.YtnfbhhffclahjaaDoorTsY
import Derived.Deep.RegionLaw
import Derived.Deep.AppendLies
import Derived.Lib.AppendIntMem
namespace Go.Proofs.YtnfbhhffclahjaaDoor
open Go.RowKit Go.Lib Go.Sort

abbrev Tab (B : Nat) (w : World) : Prop := Lib.TabBelow Tryd.prog B w "internal/strconv.uint64pow10" .u64 Lib.pow10Tab
theorem below_grow (w : World) (k : Nat) (os : Array Obj) : Below w.heap.size w (grow (w.drewN k) os) :=
  ⟨rfl, rfl, rfl, by simp [grow], fun j hj => by simp only [grow]; exact Array.getElem?_append_left hj⟩

/-- the variable of words at block b: it holds a slice with these words -/
def PS (W : World) (b : Nat) (L : List ByteArray) (v : Value) (w : World) : Prop :=
  w.cell? ⟨b, 0, none⟩ = some v ∧ w.frozen? ⟨b, 0, none⟩ = false ∧ w.ownsRow (b + 1) 9 1 v L.length (strCells L) ∧ b + 1 ≤ w.heap.size ∧ Below b W w
theorem PS.quiet {W : World} {b : Nat} {L : List ByteArray} {v : Value} {w w' : World} (h : PS W b L v w) (hb : Below w.heap.size w w') : PS W b L v w' := by
  obtain ⟨h1, h2, h3, h4, h5⟩ := h
  refine ⟨(hb.cell (p := ⟨b, 0, none⟩) h4).trans h1, ?_, h3.kept (row := none) ⟨hb.os, hb.tape, hb.output, hb.size, fun k hk _ => hb.block k hk⟩ (Classical.em _), Nat.le_trans h4 hb.size, h5.trans (hb.mono (by omega))⟩
  rw [← h2]
  have e := hb.block b h4
  unfold World.frozen?
  simp only [e]
theorem PS.drew {W : World} {b : Nat} {L : List ByteArray} {v : Value} {w : World} (h : PS W b L v w) : PS W b L v w.drew := h.quiet ⟨rfl, rfl, rfl, Nat.le_refl _, fun _ _ => rfl⟩
theorem itoa_put (n : Nat) (hn : n ≤ 6311433600) (W : World) (b : Nat) (L : List ByteArray) (v : Value) (HT : Hid (Tab b W)) (w : World) (h : PS W b L v w) :
    Calls Tryd.prog 20 #[.int .i64 n] w fun e w' => e = .returned (.string ⟨(Lib.decDigits n).toArray⟩) ∧ PS W b L v w' := by
  refine (Tryd.strconv_Itoa (n : Int) (by omega) (by omega) w (HT.out w h.2.2.2.2)).mono ?_
  rintro e w' ⟨rfl, k, os, rfl⟩
  refine ⟨?_, h.quiet (below_grow w k os)⟩
  have : Lib.itoa (n : Int) = Lib.decDigits n := by unfold Lib.itoa; rw [if_neg (by omega)]; simp
  rw [this]

theorem str_info : (Tryd.prog.info? 9).map (fun i => (i.zero, i.size, i.bytes)) = some (some (.string ⟨#[]⟩), 1, 16) := by kernel_rfl
theorem Rd.new (w : World) (v : Value) (t : TypeId) : Rd (w.alloc (.cells #[v] t)) (w.heap.size + 1) 1 (some ⟨w.heap.size, 0, none⟩) 1 [v] := by
  refine ⟨rfl, fun _ => ⟨_, rfl, by simp, ?_⟩⟩
  intro j u hu
  match j, hu with
  | 0, hu => (simp at hu; subst hu; simp [Addr.add])
theorem own_slice {w : World} {base : Nat} {e : TypeId} {size n : Nat} {v : Value} {xs : List Value} (h : w.ownsRow base e size v n xs) : ∃ A c, v = .slice A n c := by
  rcases h.2 with ⟨rfl, h0⟩ | ⟨g, cap, cur, rfl, _⟩
  · exact ⟨none, 0, by rw [h0]⟩
  · exact ⟨_, _, rfl⟩
theorem PS.app {W : World} {b : Nat} {L : List ByteArray} {v : Value} {w w4 : World} (h : PS W b L v w) (o : Obj) (hg : (w.alloc o).grownBy w4 v.ownBlock) :
    w4.cell? ⟨b, 0, none⟩ = some v ∧ w4.frozen? ⟨b, 0, none⟩ = false ∧ b + 1 ≤ w4.heap.size ∧ Below b W w4 := by
  obtain ⟨h1, h2, h3, h4, h5⟩ := h
  have hne : some b ≠ v.ownBlock := by
    intro e
    have := (h3.lt b e.symm).1
    omega
  have e1 : w4.heap[b]? = w.heap[b]? := by
    rw [hg.block b (by simp; omega) hne, Below.heap_alloc _ _ _ (by omega)]
  refine ⟨(World.cell?_of_block (w := w) (a := ⟨b, 0, none⟩) e1).trans h1, ?_, by have := hg.size; simp at this; omega, (h5.alloc (by omega) o).grown hg (by simp; omega) fun k hk => by have := (h3.lt k hk).1; omega⟩
  rw [← h2]
  unfold World.frozen?
  simp only [e1]
theorem PS.afters {W : World} {b : Nat} {L : List ByteArray} {v : Value} {w : World} (h : PS W b L v w) : ∀ o, (w.alloc o).cell? ⟨b, 0, none⟩ = some v := fun o => (World.cell?_alloc_lt w o ⟨b, 0, none⟩ (by have := h.2.2.2.1; simp; omega)).trans h.1
theorem PS.set {W : World} {b : Nat} {L : List ByteArray} {v v' : Value} {w4 : World} (hc : w4.cell? ⟨b, 0, none⟩ = some v) (hf : w4.frozen? ⟨b, 0, none⟩ = false) (hs : b + 1 ≤ w4.heap.size) (hb : Below b W w4) (ho : w4.ownsRow (b + 1) 9 1 v' L.length (strCells L)) :
    PS W b L v' (w4.setCell ⟨b, 0, none⟩ v') :=
  ⟨World.cell?_setCell_same _ _ _ hc, by rw [World.frozen?_setCell]; exact hf, ownsRow_setCell_below ho (by simp) _, by simp [World.setCell]; omega, hb.setCell (Nat.le_refl _) _⟩
def putB (n : Nat) (u : ByteArray) : List ByteArray := if n = 0 then [] else [⟨(Lib.decDigits n).toArray⟩ ++ u]

set_option maxHeartbeats 4000000 in
theorem put_any (n : Nat) (u : ByteArray) (hn : n ≤ 6311433600) (hu : u.size ≤ 10) (W : World) (b : Nat) (L : List ByteArray) (v : Value) (hL : L.length ≤ 10) (HT : Hid (Tab b W)) (w : World) (h : PS W b L v w) :
    Calls Tryd.prog 19 #[.int .i64 n, .string u, .pointer (some ⟨b, 0, none⟩)] w fun e w' => e = .returned (.tuple #[]) ∧ ∃ v', PS W b (L ++ putB n u) v' w' := by
  by_cases h0 : n = 0
  · subst h0
    go_enter Tryd.func19, Tryd.ntmps19
    go_wp2
    go_end0
    exact ⟨rfl, v, by simpa [putB] using h⟩
  obtain ⟨i0, hi, hz0, hz1, hz2⟩ := info_parts str_info
  have hpos : (0 : Int) < (n : Int) := by omega
  have H := Lib.hid h
  have hd10 : (Lib.decDigits n).length ≤ 10 := Sp.dec_len n (by omega)
  have hc := h.1
  have hnov : ¬ 9223372036854775807 < (Lib.decDigits n).length + u.size := by omega
  clear h
  go_enter Tryd.func19, Tryd.ntmps19
  go_wp2_with fail
  go_region_law (first
    | ((try go_simp); go_at_call 20; refine (itoa_put n hn W b L v HT _ H.out.drew).mono ?_; rintro e w2 ⟨rfl, h2⟩; have hc2 := h2.1; have hca2 := h2.afters; have H2 := Lib.hid h2; clear h2)
    | (refine step_app _ rfl _ _ 31 rfl (b + 1) 9 i0 (.string ⟨#[]⟩) 1 16 Tryd.underlying31 hi hz0 hz1 hz2 rfl (by decide) _ L.length (strCells L) rfl (World.ownsRow.alloc H2.out.2.2.1 _) _ _ 1 1 [.string (⟨(Lib.decDigits n).toArray⟩ ++ u)] rfl (Rd.new _ _ _) (by intro u hu; simp at hu; subst hu; rfl) (by unfold maxLen; omega) (by omega) (by have := H2.out.2.2.2.1; simp; omega) ?_; intro v' w4 hown4 hgr4 hx4; clear hx4; obtain ⟨hc4, hf4, hs4, hb4⟩ := H2.out.app _ hgr4; obtain ⟨A', c', rfl⟩ := own_slice hown4; have HO4 := Lib.hid hown4; clear hown4 hgr4))
  all_goals
    have ho4 : w4.ownsRow (b + 1) 9 1 (.slice A' (L ++ putB n u).length c') (L ++ putB n u).length (strCells (L ++ putB n u)) := by
      have := HO4.out
      simpa [putB, h0, strCells] using this
    have e1 : (L ++ putB n u).length = L.length + 1 := by simp [putB, h0]
    rw [e1] at ho4
    have HO5 := Lib.hid ho4
    clear ho4 e1
    go_wp2
    go_end0
    refine ⟨rfl, _, PS.set hc4 hf4 hs4 hb4 ?_⟩
    have := HO5.out
    simpa [putB, h0] using this

end Go.Proofs.YtnfbhhffclahjaaDoor
