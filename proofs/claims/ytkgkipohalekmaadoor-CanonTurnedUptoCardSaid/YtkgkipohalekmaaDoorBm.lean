/-
  A list gone over element by element, in plain terms: what one element is, what is left, what is written.
-/
import Derived.Test.YtkgkipohalekmaaDoorBl
namespace Go.Proofs.YtkgkipohalekmaaDoor
open Go.RowKit Go.Shelf
theorem elem_oks {qE : List Ty} : ∀ (n : Nat) (es : List Ce), Ce.Oks es (List.replicate n qE).flatten → ∀ j, j < n → Ce.Oks ((es.drop (j * qE.length)).take qE.length) qE
  | 0, _, _, j, hj => absurd hj (by omega)
  | n + 1, es, h, j, hj => by
    rw [List.replicate_succ, List.flatten_cons] at h
    obtain ⟨h1, h2⟩ := Ce.oks_split _ _ _ h
    cases j with
    | zero => simpa using h1
    | succ j =>
      have h3 := elem_oks n _ h2 j (by omega)
      rw [List.drop_drop] at h3
      rw [show (j + 1) * qE.length = qE.length + j * qE.length by rw [Nat.add_mul, Nat.one_mul]; omega]
      exact h3
theorem take_step {α : Type} (es : List α) (j k : Nat) : es.take ((j + 1) * k) = es.take (j * k) ++ (es.drop (j * k)).take k := by
  rw [show (j + 1) * k = j * k + k by rw [Nat.add_mul, Nat.one_mul], List.take_add]
theorem txts_step (es : List Ce) (j k : Nat) : Ce.txts (es.take ((j + 1) * k)) = Ce.txts (es.take (j * k)) ++ Ce.txts ((es.drop (j * k)).take k) := by
  rw [take_step, Ce.txts_append]
theorem bulks_step (es : List Ce) (j k : Nat) : Ce.bulks (es.take (j * k)) + Ce.bulks ((es.drop (j * k)).take k) ≤ Ce.bulks es := by
  have h := Ce.bulks_append (es.take (j * k)) (es.drop (j * k))
  rw [List.take_append_drop] at h
  have h2 := Ce.bulks_append ((es.drop (j * k)).take k) ((es.drop (j * k)).drop k)
  rw [List.take_append_drop] at h2
  omega
theorem oks_take {q : List Ty} (m : Nat) (es : List Ce) (h : Ce.Oks es q) : Ce.Oks (es.take m) (q.take m) := by
  by_cases hm : m ≤ q.length
  · have h2 := (Ce.oks_split es (q.take m) (q.drop m) (by rw [List.take_append_drop]; exact h)).1
    rw [List.length_take, Nat.min_eq_left hm] at h2
    exact h2
  · rw [List.take_of_length_le (by rw [Ce.oks_length _ _ h]; omega), List.take_of_length_le (by omega)]
    exact h
theorem elem_ats {w : World} {B : Nat} {es : List Ce} {us : List Value} (h : Ce.Ats w B es us) (a k : Nat) : Ce.Ats w B ((es.drop a).take k) ((us.drop a).take k) :=
  (Ce.ats_split k _ _ (Ce.ats_split a _ _ h).2).1
theorem ce_one {w : World} {B : Nat} : ∀ (c : Ce) (v : Value), c.At w B v → v.oneCell' = true
  | .i n, v, h => by unfold Ce.At at h; rw [h]; rfl
  | .b n, v, h => by unfold Ce.At at h; rw [h]; rfl
  | .s n, v, h => by unfold Ce.At at h; rw [h]; rfl
  | .l n cs, v, h => by
    unfold Ce.At at h
    obtain ⟨A, cap, k, vs, rfl, _⟩ := h
    rfl
theorem ces_one {w : World} {B : Nat} : ∀ (cs : List Ce) (vs : List Value), Ce.Ats w B cs vs → ∀ v ∈ vs, v.oneCell' = true
  | [], vs, h => by
    unfold Ce.Ats at h
    rw [h]
    intro v hv
    cases hv
  | c :: r, vs, h => by
    unfold Ce.Ats at h
    obtain ⟨v, q, rfl, h1, h2⟩ := h
    intro u hu
    rcases List.mem_cons.1 hu with rfl | hu
    · exact ce_one c _ h1
    · exact ces_one r q h2 u hu
/-- a box of one element, to be gone over -/
theorem elem_gst {W0 w : World} {wb xb : Nat} {T : List UInt8} {ee : List Ce} {ue : List Value} {qE : List Ty} {eT : TypeId} (hst : St W0 wb T w) (hx : w.heap[xb]? = some (.cells ue.toArray eT (0, 0))) (hne : xb ≠ wb) (hge : W0.heap.size ≤ xb) (he : eT ≠ 5)
    (ha : Ce.Ats W0 W0.heap.size ee ue) (ho : Ce.Oks ee qE) (hl : T.length + 23 * Ce.bulks ee ≤ 100000000) : Gst W0 wb xb 0 0 (T ++ Ce.txts ee) qE w w :=
  ⟨T, ee, ue, hst, ⟨⟨ue.toArray, eT, hx, he, fun j v hj => by rw [Nat.add_zero, Nat.zero_add, List.getElem?_toArray]; exact hj⟩, hne, hge⟩, ha, ho, rfl, hl, Chg.refl _ _ _ _⟩
theorem Gst.done {W0 w0 w : World} {wb blk o i : Nat} {S : List UInt8} (h : Gst W0 wb blk o i S [] w0 w) : St W0 wb S w ∧ Chg wb blk o i w0 w := by
  obtain ⟨s, cs, vs, h1, h2, h3, h4, h5, h6, h7⟩ := h
  have e : cs = [] := by
    have := Ce.oks_length _ _ h4
    exact List.eq_nil_of_length_eq_zero this
  subst e
  rw [Ce.txts, List.append_nil] at h5
  subst h5
  exact ⟨h1, h7⟩
/-- what holds at the head of each round of a list's loop -/
def Lst (W0 wN : World) (wb : Nat) (e : TypeId) (k : Nat) (T : List UInt8) (ov : Value) (j : Nat) (wr : World) : Prop := St W0 wb T wr ∧ Oth (· = wb) wN wr ∧ ∃ xs, wr.ownsRow wN.heap.size e k ov j xs
theorem Lst.slice {W0 wN wr : World} {wb k j : Nat} {e : TypeId} {T : List UInt8} {ov : Value} (h : Lst W0 wN wb e k T ov j wr) : ∃ A c, ov = .slice A j c := by
  obtain ⟨_, _, xs, hl, ⟨rfl, rfl⟩ | ⟨g, cap, cur, rfl, _⟩⟩ := h
  · exact ⟨_, _, rfl⟩
  · exact ⟨_, _, rfl⟩
/-- the list's cell set: one cell more of the box is done -/
theorem lst_end {W0 w0 w wN w' : World} {wb blk o i k n nb : Nat} {S s : List UInt8} {q : List Ty} {qE : List Ty} {e : TypeId} {ov v : Value} {es r : List Ce} {us : List Value} (h2 : Bx W0 wb blk (o + i) (v :: us) w) (h3 : Ce.Ats W0 W0.heap.size r us) (ht : (Ce.l n es).Ok (.l nb qE)) (h4 : Ce.Oks r q)
    (h5 : s ++ Ce.txts (.l n es :: r) = S) (h6 : s.length + 23 * Ce.bulks (.l n es :: r) ≤ 100000000) (h7 : Chg wb blk o i w0 w) (hN : Below w.heap.size w wN) (hL : Lst W0 wN wb e k (s ++ tokI n ++ Ce.txts es) ov n w') :
    Gst W0 wb blk o (i + 1) S q w0 (w'.setCell ⟨blk, o + i, none⟩ ov) := by
  obtain ⟨hs, ho, hr⟩ := hL
  obtain ⟨A, c, rfl⟩ := Lst.slice ⟨hs, ho, hr⟩
  have hall : Oth (· = wb) w w' := (Oth.below hN).trans ho
  obtain ⟨cells, t, hc, htu, hv⟩ := h2.obj
  have hc' : w'.heap[blk]? = some (.cells cells t (0, 0)) := hall.2 _ _ hc h2.ne (fun c fz e => htu (by injection e))
  have hset := heap_setCell_same w' blk (o + i) cells t (.slice A n c) hc'
  refine Gst.one (c := .l n es) (s := s) (r := r) (v := v) (us := us) (w := w) ?_ h2 h3 ht h4 h5 h6 h7 ?_
  · have : s ++ (Ce.l n es).txt = s ++ tokI n ++ Ce.txts es := by rw [Ce.txt, List.append_assoc]
    rw [this]
    exact hs.setCell h2.ne h2.ge hc' htu _
  · refine ⟨⟨?_, fun j ob hj hx hb => ?_⟩, fun cells2 t2 hc2 ht2 => ?_⟩
    · have := hall.1
      simpa using this
    · have hjb : j ≠ blk := fun e => hx (.inr e)
      rw [heap_setCell_other w' ⟨blk, o + i, none⟩ j _ hjb]
      exact hall.2 _ _ hj (fun e => hx (.inl e)) hb
    · rw [hc] at hc2
      injection hc2 with hc2
      injection hc2 with e1 e2 _
      subst e1
      subst e2
      refine ⟨_, hset, by simp, fun j hj => ?_, fun h1 => ?_⟩
      · rw [Array.getElem?_setIfInBounds, if_neg (by omega)]
      · rw [Array.all_eq_true] at h1 ⊢
        intro x hx
        rw [Array.size_setIfInBounds] at hx
        rw [Array.getElem_setIfInBounds]
        split
        · rfl
        · exact h1 x hx

end Go.Proofs.YtkgkipohalekmaaDoor
