/-
  What goes over fields and writes them: the writer's state, what it leaves as it is, and its methods.
-/
import Derived.Test.YtkgkipohalekmaaDoorBw
import Derived.Test.YtkgkipohalekmaaDoorBb
import Derived.Deep.RegionHeld3
import Derived.Lib.ItoaLen
import Derived.StillTailTactics
namespace Go.Proofs.YtkgkipohalekmaaDoor
open Go.RowKit Go.Shelf
/-- what the texts of numbers want -/
def Env (w : World) : Prop := ∀ w', Below w.heap.size w w' → Lib.TabIs Tryd.prog w' "internal/strconv.uint64pow10" .u64 Lib.pow10Tab
theorem below_grow (w : World) (k : Nat) (os : Array Obj) : Below w.heap.size w (Sort.grow (w.drewN k) os) :=
  ⟨rfl, rfl, rfl, by simp [Sort.grow], fun j hj => by simp only [Sort.grow]; exact Array.getElem?_append_left hj⟩
/-- the writer at block wb, which has written s; what was there at W0 is there -/
structure St (W0 : World) (wb : Nat) (s : List UInt8) (w : World) : Prop where
  wu : Wu W0.heap.size wb s w
  hb : Below W0.heap.size W0 w
/-- memory that is no row of bytes, and none of some blocks, stands -/
def Oth (X : Nat → Prop) (w w' : World) : Prop := w.heap.size ≤ w'.heap.size ∧ ∀ k o, w.heap[k]? = some o → ¬ X k → (∀ c fz, o ≠ .cells c 5 fz) → w'.heap[k]? = some o
theorem Oth.refl (X : Nat → Prop) (w : World) : Oth X w w := ⟨Nat.le_refl _, fun _ _ h _ _ => h⟩
theorem Oth.trans {X : Nat → Prop} {a w w' : World} (h : Oth X a w) (k : Oth X w w') : Oth X a w' := ⟨Nat.le_trans h.1 k.1, fun i o hi hx ho => k.2 i o (h.2 i o hi hx ho) hx ho⟩
theorem Oth.more {X Y : Nat → Prop} {a w : World} (h : Oth X a w) (hxy : ∀ k, X k → Y k) : Oth Y a w := ⟨h.1, fun i o hi hx ho => h.2 i o hi (fun hy => hx (hxy i hy)) ho⟩
theorem Oth.below {X : Nat → Prop} {w w' : World} (h : Below w.heap.size w w') : Oth X w w' := ⟨h.size, fun i _ hi _ _ => (h.block i (Array.getElem?_eq_some_iff.1 hi).1).trans hi⟩
theorem Oth.others {wb : Nat} {w w' : World} (h : Lib.OthersKept 5 (some wb) w w') (hs : w.heap.size ≤ w'.heap.size) : Oth (· = wb) w w' := ⟨hs, fun i o hi hx ho => h i o hi (fun e => hx (by injection e)) ho⟩
theorem Wu.keep {B b : Nat} {l : List UInt8} {w w' : World} (h : Wu B b l w) (hb : Below w.heap.size w w') : Wu B b l w' := by
  unfold Wu Lib.IsBuilderF at h ⊢
  have key : ∀ {p : Value}, Lib.BuilderAtF 82 5 B b p (Lib.byteCells l) w → Lib.BuilderAtF 82 5 B b p (Lib.byteCells l) w' := fun {p} ⟨hB, v, h1, h2, h3⟩ => by
    refine ⟨hB, v, (hb.block b (Array.getElem?_eq_some_iff.1 h1).1).trans h1, ⟨h2.1, ?_⟩, h3⟩
    rcases h2.2 with hz | ⟨g, cap, cur, fz, hv, hg, hc, hr⟩
    · exact .inl hz
    · exact .inr ⟨g, cap, cur, fz, hv, hg, (hb.block g (Array.getElem?_eq_some_iff.1 hc).1).trans hc, hr⟩
  rcases h with h | h
  · exact .inl (key h)
  · exact .inr (key h)
theorem St.keep {W0 w w' : World} {wb : Nat} {s : List UInt8} (h : St W0 wb s w) (hb : Below w.heap.size w w') : St W0 wb s w' := ⟨h.wu.keep hb, h.hb.trans (hb.mono h.hb.size)⟩
theorem cell_of_block {w w' : World} {p : Addr} (h : w'.heap[p.block]? = w.heap[p.block]?) : w'.cell? p = w.cell? p := by
  unfold World.cell?
  rw [h]
theorem itoa_any (n : Int) (W0 w : World) (h0 : -9223372036854775808 ≤ n) (h1 : n ≤ 9223372036854775807) (E : Env W0) (hb : Below W0.heap.size W0 w) :
    Calls Tryd.prog 23 #[.int .i64 n] w fun e w' => e = .returned (.string ⟨(Lib.itoa n).toArray⟩) ∧ Below w.heap.size w w' := by
  refine (Tryd.strconv_Itoa n h0 h1 w (E w hb)).mono ?_
  rintro e w' ⟨rfl, k, os, rfl⟩
  exact ⟨rfl, below_grow w k os⟩
theorem itoa_len (n : Int) (h0 : -9223372036854775808 ≤ n) (h1 : n ≤ 9223372036854775807) : (Lib.itoa n).length ≤ 21 := Lib.itoa_length_le n h0 h1
theorem st_write (W0 : World) (wb : Nat) (s : List UInt8) (R : ByteArray) (hl : s.length ≤ 100000000) (hr : R.size ≤ 10000000) (W : World) (h : St W0 wb s W) :
    Calls Tryd.prog 22 #[.pointer (some ⟨wb, 0, none⟩), .string R] W fun e w' => e = .returned (.tuple #[.int .i64 R.size, .nilIface]) ∧ St W0 wb (s ++ R.data.toList) w' ∧ Oth (· = wb) W w' := by
  refine (wu_writeString W0.heap.size wb s R W h.wu (by omega) h.hb.size).mono ?_
  rintro e w' ⟨rfl, h1, h2, h3⟩
  exact ⟨rfl, ⟨h1, h.hb.trans h2⟩, Oth.others h3 h2.size⟩
set_option maxRecDepth 100000 in
set_option maxHeartbeats 4000000 in
theorem w_int (W0 w : World) (wb : Nat) (s : List UInt8) (p : Addr) (n : Int) (E : Env W0) (h : St W0 wb s w) (hp : w.cell? p = some (.int .i64 n)) (h0 : -9223372036854775808 ≤ n) (h1 : n ≤ 9223372036854775807) (hl : s.length ≤ 100000000) (hpo : ∃ cs ty fr, w.heap[p.block]? = some (.cells cs ty fr) ∧ ty ≠ 5) (hpw : p.block ≠ wb) :
    Calls Tryd.prog 101 #[.pointer (some ⟨wb, 0, none⟩), .pointer (some p)] w fun e w' => e = .returned (.tuple #[]) ∧ St W0 wb (s ++ tokI n) w' ∧ Oth (· = wb) w w' := by
  have HI := Lib.hid (fun W hW => itoa_any n W0 W h0 h1 E hW)
  have hlen := itoa_len n h0 h1
  have hpd : (w.drew).cell? p = some (.int .i64 n) := hp
  obtain ⟨T, hT⟩ : ∃ T : ByteArray, T = ⟨(Lib.itoa n).toArray⟩ := ⟨_, rfl⟩
  have hTs : T.size = (Lib.itoa n).length := by rw [hT]; exact List.size_toArray
  rw [← hT] at HI
  have HT : Hid ((T ++ ⟨#[32]⟩ : ByteArray).data.toList = tokI n) := Lib.hid (by rw [hT, ByteArray.data_append]; simp [tokI])
  rw [← hTs] at hlen
  have hcat : ¬ 9223372036854775807 < T.size + 1 := by omega
  have HWS := Lib.hid (st_write W0 wb s (T ++ ⟨#[32]⟩) hl (by rw [ByteArray.size_append]; show T.size + 1 ≤ _; omega))
  rw [HT.out] at HWS
  have HD : Hid (St W0 wb s w.drew) := Lib.hid (h.keep (Below.drew (Below.refl _ w)))
  have HO : Hid (Oth (· = wb) w w.drew) := Lib.hid (Oth.below (Below.drew (Below.refl _ w)))
  have hpb : p.block < w.drew.heap.size := block_lt_of_cell hpd
  obtain ⟨cs0, ty0, fr0, hobj, hty⟩ := hpo
  have HTY : Hid (∀ c fz, (Obj.cells cs0 ty0 fr0) ≠ .cells c 5 fz) := Lib.hid (fun c fz e => hty (by injection e))
  have HOB : Hid (w.drew.heap[p.block]? = some (.cells cs0 ty0 fr0)) := Lib.hid hobj
  clear hobj hty
  clear hT hTs h hp
  go_enter Tryd.func101, Tryd.ntmps101
  go_region_held3 (fun W => W.cell? p = some (.int .i64 n)) (first | assumption) (first | (go_at_call 23; refine Calls.mono (HI.out _ HD.out.hb) ?_; rintro e w3 ⟨rfl, hb3⟩; have HD3 := Lib.hid (HD.out.keep hb3); have HO3 := Lib.hid (HO.out.trans (Oth.below hb3)); have hp3 := (hb3.cell hpb).trans hpd; have HQ3 := Lib.hid ((hb3.block _ hpb).trans HOB.out); clear hb3) | (go_at_call 22; refine Calls.mono (HWS.out _ HD3.out) ?_; rintro e w4 ⟨rfl, hs4, ho4⟩; have hp4 := (cell_of_block ((ho4.2 _ _ HQ3.out hpw HTY.out).trans HQ3.out.symm)).trans hp3))
  go_end0
  exact ⟨rfl, hs4, HO3.out.trans ho4⟩
set_option maxRecDepth 100000 in
set_option maxHeartbeats 4000000 in
theorem w_bool (W0 w : World) (wb : Nat) (s : List UInt8) (p : Addr) (x : Bool) (E : Env W0) (h : St W0 wb s w) (hp : w.cell? p = some (.bool x)) (hl : s.length ≤ 100000000) :
    Calls Tryd.prog 100 #[.pointer (some ⟨wb, 0, none⟩), .pointer (some p)] w fun e w' => e = .returned (.tuple #[]) ∧ St W0 wb (s ++ tokB x) w' ∧ Oth (· = wb) w w' := by
  have hwb : w.heap.size ≠ wb := by have := h.wu.lt; omega
  have HW : Hid (∀ n W, (n = 0 ∨ n = 1) → St W0 wb s W → (W.cell? ⟨w.heap.size, 0, none⟩ = some (.int .i64 n) ∧ ∃ cs ty fr, W.heap[w.heap.size]? = some (.cells cs ty fr) ∧ ty ≠ 5) → Calls Tryd.prog 101 #[.pointer (some ⟨wb, 0, none⟩), .pointer (some ⟨w.heap.size, 0, none⟩)] W fun e w' => e = .returned (.tuple #[]) ∧ St W0 wb (s ++ tokI n) w' ∧ Oth (· = wb) W w') := Lib.hid (fun n W hn hW hc => w_int W0 W wb s _ n E hW hc.1 (by omega) (by omega) hl hc.2 hwb)
  have hb : Below w.heap.size w (w.alloc (.cells #[.int .i64 (if x then 1 else 0)] 3)) := (Below.refl _ _).alloc (Nat.le_refl _) _
  have HS := Lib.hid (h.keep hb)
  have HO : Hid (Oth (· = wb) w (w.alloc (.cells #[.int .i64 (if x then 1 else 0)] 3))) := Lib.hid (Oth.below hb)
  have hc : (w.alloc (.cells #[.int .i64 (if x then 1 else 0)] 3)).cell? ⟨w.heap.size, 0, none⟩ = some (.int .i64 (if x then 1 else 0)) := by rw [cell_of_row _ _ _ _ _ _ (heap_alloc_new w _)]; rfl
  have hco : ∃ cs ty fr, (w.alloc (.cells #[.int .i64 (if x then 1 else 0)] 3)).heap[w.heap.size]? = some (.cells cs ty fr) ∧ ty ≠ 5 := ⟨_, _, _, heap_alloc_new w _, by decide⟩
  have hpb : p.block < w.heap.size := block_lt_of_cell hp
  have hp2 : (w.alloc (.cells #[.int .i64 0] 3)).cell? p = some (.bool x) := by
    rw [← hp]
    exact ((Below.refl _ w).alloc (Nat.le_refl _) _).cell hpb
  clear hb h
  unfold tokB
  cases x with
  | false =>
    simp only [Bool.false_eq_true, if_false] at HS HO hc hco
    have HCC := Lib.hid (And.intro hc hco)
    clear hc hco
    go_enter Tryd.func100, Tryd.ntmps100
    go_wp2_with fail
    refine (HW.out 0 _ (.inl rfl) HS.out HCC.out).mono ?_
    rintro e w' ⟨rfl, h1, h2⟩
    go_wp2
    go_end0
    exact ⟨rfl, h1, HO.out.trans h2⟩
  | true =>
    simp only [if_true] at HS HO hc hco
    have HCC := Lib.hid (And.intro hc hco)
    clear hc hco
    go_enter Tryd.func100, Tryd.ntmps100
    go_wp2_with fail
    refine (HW.out 1 _ (.inr rfl) HS.out HCC.out).mono ?_
    rintro e w' ⟨rfl, h1, h2⟩
    go_wp2
    go_end0
    exact ⟨rfl, h1, HO.out.trans h2⟩
set_option maxRecDepth 100000 in
set_option maxHeartbeats 4000000 in
theorem w_len (W0 w : World) (wb : Nat) (s : List UInt8) (n : Nat) (E : Env W0) (h : St W0 wb s w) (hn : n ≤ 9223372036854775807) (hl : s.length ≤ 100000000) :
    Calls Tryd.prog 102 #[.pointer (some ⟨wb, 0, none⟩), .int .i64 n] w fun e w' => e = .returned (.int .i64 n) ∧ St W0 wb (s ++ tokI n) w' ∧ Oth (· = wb) w w' := by
  have hb : Below w.heap.size w (w.alloc (.cells #[.int .i64 n] 3)) := (Below.refl _ _).alloc (Nat.le_refl _) _
  have hc : (w.alloc (.cells #[.int .i64 n] 3)).cell? ⟨w.heap.size, 0, none⟩ = some (.int .i64 n) := by rw [cell_of_row _ _ _ _ _ _ (heap_alloc_new w _)]; rfl
  have hwb : w.heap.size ≠ wb := by have := h.wu.lt; omega
  have HW := Lib.hid (w_int W0 _ wb s _ n E (h.keep hb) hc (by omega) (by omega) hl ⟨_, _, _, heap_alloc_new w _, by decide⟩ hwb)
  have HO : Hid (Oth (· = wb) w (w.alloc (.cells #[.int .i64 n] 3))) := Lib.hid (Oth.below hb)
  have HH : Hid ((w.alloc (.cells #[.int .i64 n] 3)).heap[w.heap.size]? = some (.cells #[.int .i64 n] 3)) := Lib.hid (heap_alloc_new w _)
  clear hb hc h
  go_enter Tryd.func102, Tryd.ntmps102
  go_wp2_with fail
  refine HW.out.mono ?_
  rintro e w' ⟨rfl, h1, h2⟩
  have h3 := h2.2 _ _ HH.out hwb (by intro c fz e; cases e)
  have h4 : w'.cell? ⟨w.heap.size, 0, none⟩ = some (.int .i64 n) := by rw [cell_of_row _ _ _ _ _ _ h3]; rfl
  have HX := Lib.hid (HO.out.trans h2)
  clear h2 h3
  go_wp2
  go_ret
  exact ⟨rfl, h1, HX.out⟩
set_option maxRecDepth 100000 in
set_option maxHeartbeats 4000000 in
theorem w_text (W0 w : World) (wb : Nat) (s : List UInt8) (p : Addr) (t : ByteArray) (E : Env W0) (h : St W0 wb s w) (hp : w.cell? p = some (.string t)) (ht : t.size ≤ 9000000) (hl : s.length ≤ 100000000) (hpo : ∃ cs ty fr, w.heap[p.block]? = some (.cells cs ty fr) ∧ ty ≠ 5) (hpw : p.block ≠ wb) :
    Calls Tryd.prog 103 #[.pointer (some ⟨wb, 0, none⟩), .pointer (some p)] w fun e w' => e = .returned (.tuple #[]) ∧ St W0 wb (s ++ tokS t) w' ∧ Oth (· = wb) w w' := by
  have HI := Lib.hid (fun W hW => itoa_any (t.size : Int) W0 W (by omega) (by omega) E hW)
  have hlen := itoa_len (t.size : Int) (by omega) (by omega)
  have hpd : (w.drew).cell? p = some (.string t) := hp
  obtain ⟨T, hT⟩ : ∃ T : ByteArray, T = ⟨(Lib.itoa (t.size : Int)).toArray⟩ := ⟨_, rfl⟩
  have hTs : T.size = (Lib.itoa (t.size : Int)).length := by rw [hT]; exact List.size_toArray
  rw [← hT] at HI
  have HT : Hid ((T ++ ⟨#[58]⟩ ++ t ++ ⟨#[32]⟩ : ByteArray).data.toList = tokS t) := Lib.hid (by
    rw [hT]
    simp only [ByteArray.data_append, Array.toList_append, tokS, List.append_assoc]
    rfl)
  rw [← hTs] at hlen
  have hc1 : ¬ 9223372036854775807 < T.size + 1 := by omega
  have hc2 : ¬ 9223372036854775807 < T.size + 1 + t.size := by omega
  have hc3 : ¬ 9223372036854775807 < T.size + 1 + t.size + 1 := by omega
  have HWS := Lib.hid (st_write W0 wb s (T ++ ⟨#[58]⟩ ++ t ++ ⟨#[32]⟩) hl (by rw [ByteArray.size_append, ByteArray.size_append, ByteArray.size_append]; show T.size + 1 + t.size + 1 ≤ _; omega))
  rw [HT.out] at HWS
  have HD : Hid (St W0 wb s w.drew) := Lib.hid (h.keep (Below.drew (Below.refl _ w)))
  have HO : Hid (Oth (· = wb) w w.drew) := Lib.hid (Oth.below (Below.drew (Below.refl _ w)))
  have hpb : p.block < w.drew.heap.size := block_lt_of_cell hpd
  obtain ⟨cs0, ty0, fr0, hobj, hty⟩ := hpo
  have HTY : Hid (∀ c fz, (Obj.cells cs0 ty0 fr0) ≠ .cells c 5 fz) := Lib.hid (fun c fz e => hty (by injection e))
  have HOB : Hid (w.drew.heap[p.block]? = some (.cells cs0 ty0 fr0)) := Lib.hid hobj
  clear hobj hty
  clear hT hTs h hp
  go_enter Tryd.func103, Tryd.ntmps103
  go_region_held3 (fun W => W.cell? p = some (.string t)) (first | assumption) (first | (go_at_call 23; refine Calls.mono (HI.out _ HD.out.hb) ?_; rintro e w3 ⟨rfl, hb3⟩; have HD3 := Lib.hid (HD.out.keep hb3); have HO3 := Lib.hid (HO.out.trans (Oth.below hb3)); have hp3 := (hb3.cell hpb).trans hpd; have HQ3 := Lib.hid ((hb3.block _ hpb).trans HOB.out); clear hb3) | (go_at_call 22; refine Calls.mono (HWS.out _ HD3.out) ?_; rintro e w4 ⟨rfl, hs4, ho4⟩; have hp4 := (cell_of_block ((ho4.2 _ _ HQ3.out hpw HTY.out).trans HQ3.out.symm)).trans hp3))
  go_end0
  exact ⟨rfl, hs4, HO3.out.trans ho4⟩

end Go.Proofs.YtkgkipohalekmaaDoor
