/-
  A reader of words in memory: a text, a place in it, a strings.Builder as its third field: the Builder's methods there.
-/
import Derived.Test.YtijfeeiplljnjaaGreatDoorBu
import Derived.Test.YtijfeeiplljnjaaGreatDoorUa
import Derived.Lib.UnsafeStr
namespace Go.Proofs.YtijfeeiplljnjaaGreatDoor
open Go.RowKit

theorem wr_lies : liesAt Tryz.prog Tryz.prog.depth 68 (4 / Tryz.prog.cellsOf 68) 2 66 1 = true := by kernel_rfl
theorem wr_uint8 : Tryz.prog.cellsOf 5 = 1 := by kernel_rfl

/-- block b is a reader at place k of s, whose builder holds these bytes -/
def WrAt (B b : Nat) (s : ByteArray) (k : Nat) (p v : Value) (l : List UInt8) (w : World) : Prop :=
  (p = .pointer none ∨ p = .pointer (some ⟨b, 2, none⟩)) ∧ B ≤ b ∧ w.heap[b]? = some (.cells #[.string s, .int .i64 k, p, v] 68 (0, 0)) ∧ w.ownsRowF B 5 1 v l.length (Lib.byteCells l) ∧ v.ownBlock ≠ some b ∧ (l = [] → v = .slice none 0 0)
def Wr (B b : Nat) (s : ByteArray) (k : Nat) (l : List UInt8) (w : World) : Prop := ∃ p v, WrAt B b s k p v l w
/-- what a step on a reader leaves as it was -/
structure Kept (B b : Nat) (w w' : World) : Prop where
  below : Below B w w'
  others : Lib.OthersKept 5 (some b) w w'
section
variable {B b k : Nat} {s : ByteArray} {p v : Value} {l : List UInt8} {w w' : World}
theorem Kept.refl (B b : Nat) (w : World) : Kept B b w w := ⟨Below.refl B w, Lib.OthersKept.refl _ _ w⟩
theorem Kept.trans {a c d : World} (h : Kept B b a c) (g : Kept B b c d) : Kept B b a d := ⟨h.below.trans g.below, h.others.trans g.others⟩
theorem WrAt.heap (h : WrAt B b s k p v l w) : w.heap[b]? = some (.cells #[.string s, .int .i64 k, p, v] 68 (0, 0)) := h.2.2.1
theorem WrAt.own (h : WrAt B b s k p v l w) : w.ownsRowF B 5 1 v l.length (Lib.byteCells l) := h.2.2.2.1
theorem WrAt.lt (h : WrAt B b s k p v l w) : b < w.heap.size := by
  rcases Nat.lt_or_ge b w.heap.size with h' | h'
  · exact h'
  · have := h.heap; simp [Array.getElem?_eq_none h'] at this
theorem WrAt.base (h : WrAt B b s k p v l w) : B ≤ w.heap.size := by have := h.lt; have := h.2.1; omega
theorem WrAt.c0 (h : WrAt B b s k p v l w) : w.cell? ⟨b, 0, none⟩ = some (.string s) := by rw [Lib.cell_of_heap h.heap]; rfl
theorem WrAt.c1 (h : WrAt B b s k p v l w) : w.cell? ⟨b, 1, none⟩ = some (.int .i64 k) := by rw [Lib.cell_of_heap h.heap]; rfl
theorem WrAt.c2 (h : WrAt B b s k p v l w) : w.cell? ⟨b, 2, none⟩ = some p := by rw [Lib.cell_of_heap h.heap]; rfl
theorem WrAt.c3 (h : WrAt B b s k p v l w) : w.cell? ⟨b, 3, none⟩ = some v := by rw [Lib.cell_of_heap h.heap]; rfl
theorem WrAt.fz (h : WrAt B b s k p v l w) (i : Nat) : w.frozen? ⟨b, i, none⟩ = false := Lib.frozen_of_heap h.heap i
theorem WrAt.shape (h : WrAt B b s k p v l w) : w.shape? b = some (68, 4) := by simp [World.shape?, h.heap]
theorem WrAt.slice (h : WrAt B b s k p v l w) : ∃ ad n c, v = .slice ad n c := by
  rcases h.own.2 with ⟨hv, _⟩ | ⟨g, cap, cur, fz, hv, _⟩
  · exact ⟨_, _, _, hv⟩
  · exact ⟨_, _, _, hv⟩
theorem own_set (h : w.ownsRowF B 5 1 v l.length (Lib.byteCells l)) (hne : v.ownBlock ≠ some b) (i : Nat) (u : Value) : (w.setCell ⟨b, i, none⟩ u).ownsRowF B 5 1 v l.length (Lib.byteCells l) :=
  h.kept (row := some b) ⟨rfl, rfl, rfl, by simp [World.setCell], fun k _ hk => Below.heap_setCell _ _ _ _ (fun e => hk (by simp [e]))⟩ (Or.inr hne)
theorem own_frozen {B g cap n : Nat} {e : TypeId} {bs : List Value} {w : World} (h : w.ownsRowF B e 1 (.slice (some ⟨g, 0, none⟩) n cap) n bs) : (w.freeze ⟨g, 0, none⟩ n).ownsRowF B e 1 (.slice (some ⟨g, 0, none⟩) n cap) n bs := by
  unfold World.freeze
  split
  · exact h
  · refine ⟨h.1, ?_⟩
    rcases h.2 with ⟨hv, _⟩ | ⟨g', cap', cur, fz, hv, hbg, hg, hfz, rest⟩
    · cases hv
    · injection hv with ha _ hcap
      injection ha with ha
      injection ha with hgg _ _
      subst hgg
      subst hcap
      obtain ⟨lo, hi⟩ := fz
      refine .inr ⟨g, _, cur, (if lo == hi then (0, 0 + n) else (min lo 0, max hi (0 + n))), rfl, hbg, ?_, ?_, rest⟩
      · simp [Array.getElem?_modify, hg]
      · simp only at hfz
        split <;> simp <;> omega
theorem heap_frozen {w : World} {g b n : Nat} (h : g ≠ b) : (w.freeze ⟨g, 0, none⟩ n).heap[b]? = w.heap[b]? := by
  unfold World.freeze
  split
  · rfl
  · show (w.heap.modify g _)[b]? = _
    rw [Array.getElem?_modify, if_neg h]
theorem Kept.set (h : Kept B b w w') (hB : B ≤ b) (i : Nat) (u : Value) : Kept B b w (w'.setCell ⟨b, i, none⟩ u) := ⟨h.below.setCell (p := ⟨b, i, none⟩) hB _, h.others.setCell ⟨b, i, none⟩ rfl _⟩
theorem Kept.drew (h : Kept B b w w') : Kept B b w w'.drew := ⟨h.below.drew, h.others.drew⟩
theorem Kept.drewN (h : Kept B b w w') (n : Nat) : Kept B b w (w'.drewN n) := ⟨⟨h.below.os, h.below.tape, h.below.output, h.below.size, h.below.block⟩, h.others⟩
theorem Kept.alloc (h : Kept B b w w') (hB : B ≤ w'.heap.size) (o : Obj) : Kept B b w (w'.alloc o) := ⟨h.below.alloc hB o, h.others.alloc o⟩
theorem WrAt.at (h : WrAt B b s k p v l w) (n : Nat) (i : Int) (hi : i = n) : WrAt B b s n p v l (w.setCell ⟨b, 1, none⟩ (.int .i64 i)) := by
  subst hi
  obtain ⟨hp, hB, hb, hown, hne, h0⟩ := h
  refine ⟨hp, hB, ?_, own_set hown hne _ _, hne, h0⟩
  simp [World.setCell, Array.getElem?_modify, hb]
theorem WrAt.used (h : WrAt B b s k p v l w) : WrAt B b s k (.pointer (some ⟨b, 2, none⟩)) v l (w.setCell ⟨b, 2, none⟩ (.pointer (some ⟨b, 2, none⟩))) := by
  obtain ⟨hp, hB, hb, hown, hne, h0⟩ := h
  refine ⟨.inr rfl, hB, ?_, own_set hown hne _ _, hne, h0⟩
  simp [World.setCell, Array.getElem?_modify, hb]
theorem WrAt.reset (h : WrAt B b s k p v l w) : WrAt B b s k (.pointer none) (.slice none 0 0) [] ((w.setCell ⟨b, 2, none⟩ (.pointer none)).setCell ⟨b, 3, none⟩ (.slice none 0 0)) := by
  obtain ⟨hp, hB, hb, hown, hne, h0⟩ := h
  refine ⟨.inl rfl, hB, ?_, World.ownsRowF_nil _ _ _ _, by simp [Value.ownBlock], fun _ => rfl⟩
  simp [World.setCell, Array.getElem?_modify, hb]
theorem WrAt.drew (h : WrAt B b s k p v l w) : WrAt B b s k p v l w.drew := h
theorem WrAt.drewN (h : WrAt B b s k p v l w) (n : Nat) : WrAt B b s k p v l (w.drewN n) := h
theorem Wr.drewN (h : Wr B b s k l w) (n : Nat) : Wr B b s k l (w.drewN n) := h
theorem WrAt.alloc (h : WrAt B b s k p v l w) (o : Obj) : WrAt B b s k p v l (w.alloc o) := by
  have hlt := h.lt
  obtain ⟨hp, hB, hb, hown, hne, h0⟩ := h
  exact ⟨hp, hB, (Lib.alloc_old w o b hlt).trans hb, hown.kept (World.grownBy_alloc w o none) (by cases hv : v.ownBlock <;> simp), hne, h0⟩
theorem Wr.lt (h : Wr B b s k l w) : b < w.heap.size := by obtain ⟨_, _, h⟩ := h; exact h.lt
theorem Wr.alloc (h : Wr B b s k l w) (o : Obj) : Wr B b s k l (w.alloc o) := by
  obtain ⟨p, v, h⟩ := h
  exact ⟨p, v, h.alloc o⟩
end

set_option maxHeartbeats 1000000 in
set_option maxRecDepth 100000 in
theorem wr_check_used (b : Nat) (w : World) (h0 : w.cell? ⟨b, 2, none⟩ = some (.pointer (some ⟨b, 2, none⟩))) :
    Calls Tryz.prog 111 #[.pointer (some ⟨b, 2, none⟩)] w fun e w' => e = .returned (.tuple #[]) ∧ w' = w := by
  obtain ⟨j, hj, _⟩ := Option.map_eq_some_iff.1 bu_size
  go_enter Tryz.func111, Tryz.ntmps111
  go_wp2
  rw [Lib.run_neq_ptr_same w _ Tryz.underlying63 hj]
  go_wp2
  go_end0
  exact ⟨rfl, rfl⟩

set_option maxHeartbeats 1000000 in
set_option maxRecDepth 100000 in
theorem wr_check_fresh (b : Nat) (w : World) (h0 : w.cell? ⟨b, 2, none⟩ = some (.pointer none)) (hsh : w.shape? b = some (68, 4)) (hfz : w.frozen? ⟨b, 2, none⟩ = false) :
    Calls Tryz.prog 111 #[.pointer (some ⟨b, 2, none⟩)] w fun e w' => e = .returned (.tuple #[]) ∧ w' = w.setCell ⟨b, 2, none⟩ (.pointer (some ⟨b, 2, none⟩)) := by
  obtain ⟨j, hj, hjs⟩ := Option.map_eq_some_iff.1 bu_size
  go_enter Tryz.func111, Tryz.ntmps111
  go_wp2
  rw [Lib.run_to_unsafe w ⟨b, 2, none⟩ Tryz.underlying63 Tryz.underlying145 hj (by rw [hjs]; decide) hsh (show 2 < 4 by decide)]
  simp only [Result.andThen]
  rw [Oper.upon_value]
  go_wp2
  rw [run_callFunc_extern Tryz.func137 (by kernel_rfl) (by kernel_rfl) (by kernel_rfl) (e := Extern.AbiNoEscape.same) (by kernel_rfl)]
  rw [Lib.run_noEscape]
  simp only [Result.andThen]
  rw [Oper.upon_value]
  go_wp2
  rw [Lib.run_from_unsafe w ⟨b, 2, none⟩ Tryz.underlying145 Tryz.underlying63 hj hsh wr_lies]
  simp only [Result.andThen]
  rw [Oper.upon_value]
  go_wp2
  go_end0
  exact ⟨rfl, rfl⟩

theorem wr_check (B b : Nat) (s : ByteArray) (k : Nat) (p v : Value) (l : List UInt8) (w : World) (h : WrAt B b s k p v l w) :
    Calls Tryz.prog 111 #[.pointer (some ⟨b, 2, none⟩)] w fun e w' => e = .returned (.tuple #[]) ∧ (WrAt B b s k (.pointer (some ⟨b, 2, none⟩)) v l w' ∧ Kept B b w w') := by
  rcases h.1 with hp | hp
  · subst hp
    refine (wr_check_fresh b w h.c2 h.shape (h.fz 2)).mono ?_
    rintro e w' ⟨rfl, rfl⟩
    exact ⟨rfl, h.used, (Kept.refl B b w).set h.2.1 _ _⟩
  · subst hp
    refine (wr_check_used b w h.c2).mono ?_
    rintro e w' ⟨rfl, rfl⟩
    exact ⟨rfl, h, Kept.refl B b _⟩

set_option maxHeartbeats 2000000 in
set_option maxRecDepth 100000 in
theorem wr_writeByte (B b : Nat) (s : ByteArray) (k : Nat) (l : List UInt8) (c : UInt8) (w : World) (h : Wr B b s k l w) (hlen : l.length + 1 ≤ 140737488355328) :
    Calls Tryz.prog 82 #[.pointer (some ⟨b, 2, none⟩), .int .u8 c.toNat] w fun e w' => e = .returned .nilIface ∧ (Wr B b s k (l ++ [c]) w' ∧ Kept B b w w') := by
  obtain ⟨p0, v0, h⟩ := h
  have hBw := h.base
  obtain ⟨i0, hi, hz0, hz1, hz2⟩ := info_parts bu_byte
  have HK := wr_check B b s k p0 v0 l w h
  clear h
  have hbl : (Lib.byteCells l).length = l.length := Lib.byteCells_length l
  go_enter Tryz.func82, Tryz.ntmps82
  go_wp2_with (go_at_call 111; refine HK.mono ?_)
  rintro e w1 ⟨rfl, h1, hk1⟩
  have c0 := h1.c2
  have c1 := h1.c3
  have hown := h1.own
  go_wp2_with (at_builtin; refine wpList_append_ownF _ rfl _ _ 64 rfl B 5 i0 (.int .u8 0) 1 1 Tryz.underlying64 hi hz0 hz1 hz2 rfl (by decide) _ _ _ rfl (hown.alloc _) ⟨w1.heap.size, 0, none⟩ 1 1 [.int .u8 c.toNat] rfl rfl ?c1 ?c2 ?c3 ?c4 ?c5 ?_)
  case c1 =>
    intro j u hj
    match j, hj with
    | 0, hj => simp at hj; subst hj; simp [Addr.add]
  case c2 => intro u hu; simp at hu; subst hu; rfl
  case c3 => unfold maxLen; omega
  case c4 => omega
  case c5 => have := hk1.below.size; simp; omega
  intro v' w2 hown' hgrow _
  have hlt := h1.lt
  have hb2 : w2.heap[b]? = some (.cells #[.string s, .int .i64 k, .pointer (some ⟨b, 2, none⟩), v0] 68 (0, 0)) := by
    rw [hgrow.block b (by simp; omega) (fun e => h1.2.2.2.2.1 e.symm), Lib.alloc_old w1 _ b hlt]
    exact h1.heap
  have d0 : w2.cell? ⟨b, 2, none⟩ = some (.pointer (some ⟨b, 2, none⟩)) := by rw [Lib.cell_of_heap hb2]; rfl
  have d1 : w2.cell? ⟨b, 3, none⟩ = some v0 := by rw [Lib.cell_of_heap hb2]; rfl
  have f1 : w2.frozen? ⟨b, 3, none⟩ = false := Lib.frozen_of_heap hb2 3
  obtain ⟨g, cap, rfl⟩ : ∃ g cap, v' = .slice (some ⟨g, 0, none⟩) (l.length + 1) cap := by
    rcases hown'.2 with ⟨_, h0⟩ | ⟨g, cap, cur, fz, hv, _⟩
    · omega
    · exact ⟨g, cap, hv⟩
  go_wp2
  go_ret
  have hown2 : w2.ownsRowF B 5 1 (.slice (some ⟨g, 0, none⟩) (l.length + 1) cap) (l ++ [c]).length (Lib.byteCells (l ++ [c])) := by
    have e1 : Lib.byteCells (l ++ [c]) = Lib.byteCells l ++ [.int .u8 c.toNat] := by rw [Lib.byteCells_append]; rfl
    rw [e1, List.length_append]
    exact hown'
  have hne2 := Lib.ownBlock_neF hown2 hb2 (by decide)
  refine ⟨rfl, ⟨.pointer (some ⟨b, 2, none⟩), .slice (some ⟨g, 0, none⟩) (l.length + 1) cap, .inr rfl, h1.2.1, ?_, own_set hown2 hne2 _ _, hne2, fun e => by simp at e⟩, ?_, ?_⟩
  · simp [World.setCell, Array.getElem?_modify, hb2]
  · exact ((hk1.below.alloc (by have := hk1.below.size; omega) _).grown hgrow (by have := hk1.below.size; simp; omega) (fun k hk => (hown.lt k hk).1)).setCell (p := ⟨b, 3, none⟩) h1.2.1 _
  · exact ((hk1.others.alloc _).grown hgrow (Lib.ownsRowF_kind (hown.alloc _))).setCell ⟨b, 3, none⟩ rfl _

set_option maxHeartbeats 1000000 in
theorem wr_reset (B b : Nat) (s : ByteArray) (k : Nat) (l : List UInt8) (w : World) (h : Wr B b s k l w) :
    Calls Tryz.prog 63 #[.pointer (some ⟨b, 2, none⟩)] w fun e w' => e = .returned (.tuple #[]) ∧ (Wr B b s k [] w' ∧ Kept B b w w') := by
  obtain ⟨p, v, h⟩ := h
  have c2 := h.c2
  have c3 := h.c3
  have f2 := h.fz 2
  have f3 := h.fz 3
  have HR := Lib.hid h.reset
  have HK := Lib.hid (((Kept.refl B b w).set h.2.1 2 (.pointer none)).set h.2.1 3 (.slice none 0 0))
  obtain ⟨ad, n, c, rfl⟩ := h.slice
  obtain ⟨q, rfl⟩ : ∃ q, p = .pointer q := by rcases h.1 with e | e <;> exact ⟨_, e⟩
  clear h
  go_enter Tryz.func63, Tryz.ntmps63
  go_wp2
  go_end0
  exact ⟨rfl, ⟨_, _, HR.out⟩, HK.out⟩

set_option maxHeartbeats 2000000 in
set_option maxRecDepth 100000 in
theorem wr_string (B b : Nat) (s : ByteArray) (k : Nat) (l : List UInt8) (w : World) (h : Wr B b s k l w) :
    Calls Tryz.prog 66 #[.pointer (some ⟨b, 2, none⟩)] w fun e w' => e = .returned (.string ⟨l.toArray⟩) ∧ (Wr B b s k l w' ∧ Kept B b w w') := by
  obtain ⟨p, v, h⟩ := h
  by_cases h0 : l = []
  · have hv := h.2.2.2.2.2 h0
    subst hv
    subst h0
    have c1 : w.drew.cell? ⟨b, 3, none⟩ = some (.slice none 0 0) := h.c3
    have hSD : (Builtin.unsafeSliceData_ #[64] 112 #[.slice none 0 0]).run Tryz.prog w.drew = .ok (.pointer none) w.drew := Lib.run_unsafeSliceData_nil _ _ _ _ _
    have hUS : (Builtin.unsafeString_ #[112, 3] 9 #[.pointer none, .int .i64 0]).run Tryz.prog w.drew = .ok (.string .empty) w.drew := Lib.run_unsafeString_none _ _ _ _ _
    have HW := Lib.hid h.drew
    have HK := Lib.hid ((Kept.refl B b w).drew)
    have mixed : Tryz.prog.follows .mixedOrders = true := by kernel_rfl
    clear h
    go_enter Tryz.func66, Tryz.ntmps66
    go_wp2
    go_region_o
    all_goals (go_wp2; go_ret; exact ⟨rfl, ⟨_, _, HW.out⟩, HK.out⟩)
  · have hl0 : l.length ≠ 0 := by simpa using h0
    obtain ⟨hp, hB, hbk, hown, hne, hz⟩ := h
    obtain ⟨g, cap, cur, fz, rfl, hbg, hg, hfz, hnc, hcm, hcs, htake⟩ : ∃ g cap cur fz, v = .slice (some ⟨g, 0, none⟩) l.length cap ∧ B ≤ g ∧ w.heap[g]? = some (.cells cur 5 fz) ∧ fz.2 ≤ l.length * 1 ∧ l.length ≤ cap ∧ cap ≤ maxLen ∧ cur.size = cap * 1 ∧ cur.toList.take (l.length * 1) = Lib.byteCells l := by
      rcases hown.2 with ⟨_, hz⟩ | ⟨g, cap, cur, fz, hv, r⟩
      · exact absurd hz hl0
      · exact ⟨g, cap, cur, fz, hv, r⟩
    have hgb : g ≠ b := fun e => hne (by simp [Value.ownBlock, e])
    have c1 : w.drew.cell? ⟨b, 3, none⟩ = some (.slice (some ⟨g, 0, none⟩) l.length cap) := by
      have : w.drew.heap[b]? = some (.cells #[.string s, .int .i64 k, p, .slice (some ⟨g, 0, none⟩) l.length cap] 68 (0, 0)) := hbk
      rw [Lib.cell_of_heap this]; rfl
    have hSD : (Builtin.unsafeSliceData_ #[64] 112 #[.slice (some ⟨g, 0, none⟩) l.length cap]).run Tryz.prog w.drew = .ok (.pointer (some ⟨g, 0, none⟩)) w.drew :=
      Lib.run_unsafeSliceData_row _ _ _ _ _ _ (by omega)
    have hUS : (Builtin.unsafeString_ #[112, 3] 9 #[.pointer (some ⟨g, 0, none⟩), .int .i64 l.length]).run Tryz.prog w.drew = .ok (.string ⟨l.toArray⟩) (w.drew.freeze ⟨g, 0, none⟩ l.length) := by
      refine Lib.run_unsafeString_row w.drew 112 3 9 5 Tryz.underlying112 wr_uint8 g cur.size (by have hg' : w.drew.heap[g]? = some (.cells cur 5 fz) := hg; simp [World.shape?, hg']) l h0 (by omega) (by unfold maxLen at hcm; omega) ?_
      intro j x hx
      have := hown.cells (g := g) rfl j (.int .u8 x.toNat) (by simp [Lib.byteCells, hx])
      exact this
    have HB := Lib.hid (Lib.below_freeze (Below.drew (Below.refl B w)) (p := ⟨g, 0, none⟩) hbg l.length)
    have HO := Lib.hid (((Lib.OthersKept.refl 5 (some b) w).drew).freeze ⟨g, 0, none⟩ l.length ⟨cur, fz, hg⟩)
    have HH : Hid ((w.drew.freeze ⟨g, 0, none⟩ l.length).heap[b]? = some (.cells #[.string s, .int .i64 k, p, .slice (some ⟨g, 0, none⟩) l.length cap] 68 (0, 0))) := Lib.hid ((heap_frozen hgb).trans hbk)
    have HW : Hid ((w.drew.freeze ⟨g, 0, none⟩ l.length).ownsRowF B 5 1 (.slice (some ⟨g, 0, none⟩) l.length cap) l.length (Lib.byteCells l)) := Lib.hid (own_frozen (w := w.drew) hown)
    have HP := Lib.hid hp
    have HN := Lib.hid hne
    have mixed : Tryz.prog.follows .mixedOrders = true := by kernel_rfl
    clear hcs htake hfz hnc hcm hne hown hp hz
    go_enter Tryz.func66, Tryz.ntmps66
    go_wp2
    go_region_o
    all_goals (go_wp2; go_ret; exact ⟨rfl, ⟨p, _, HP.out, hB, HH.out, HW.out, HN.out, fun e => absurd e h0⟩, HB.out, HO.out⟩)

theorem wr_fresh (w : World) (s : ByteArray) : Wr w.heap.size w.heap.size s 0 [] (w.alloc (.cells #[.string s, .int .i64 0, .pointer none, .slice none 0 0] 68)) :=
  ⟨.pointer none, .slice none 0 0, .inl rfl, Nat.le_refl _, Array.getElem?_push_size, World.ownsRowF_nil _ _ _ _, by simp [Value.ownBlock], fun _ => rfl⟩

end Go.Proofs.YtijfeeiplljnjaaGreatDoor
