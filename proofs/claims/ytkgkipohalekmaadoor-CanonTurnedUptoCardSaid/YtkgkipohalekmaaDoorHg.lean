/-
  A machine of which one thing is turned: what is opened of it, and what is left.
-/
import Derived.Test.YtkgkipohalekmaaDoorHf
import Derived.Test.YtkgkipohalekmaaDoorHd
namespace Go.Proofs.YtkgkipohalekmaaDoor
open Go.RowKit Go.Shelf
theorem get_l {w : World} {B : Nat} {cs : List Ce} {us : List Value} {q : List Ty} (ho : Ce.Oks cs q) (ha : Ce.Ats w B cs us) (k nb : Nat) (e : List Ty) (hq : q[k]? = some (.l nb e)) :
    ∃ n es A c xs k', cs[k]? = some (.l n es) ∧ us[k]? = some (.slice A n c) ∧ n ≤ c ∧ Rd w B k' A n xs ∧ Ce.Ats w B es xs ∧ (n ≤ 140737488351232 ∧ n * nb ≤ 140737488351232) ∧ Ce.Oks es (List.replicate n e).flatten := by
  have hk : k < cs.length := by rw [Ce.oks_length _ _ ho]; exact (List.getElem?_eq_some_iff.1 hq).1
  obtain ⟨t, ht, hok⟩ := Ce.oks_at cs q k _ ho (List.getElem?_eq_getElem hk)
  rw [hq] at ht
  injection ht with ht
  subst ht
  obtain ⟨v, hv, hat⟩ := Ce.ats_at cs us k _ ha (List.getElem?_eq_getElem hk)
  obtain ⟨n, es, e1, e2, e3⟩ := ok_l hok
  rw [e1] at hat
  unfold Ce.At at hat
  obtain ⟨A, c, k', xs, rfl, h1, h2, h3⟩ := hat
  exact ⟨n, es, A, c, xs, k', by rw [List.getElem?_eq_getElem hk, e1], hv, h1, h2, h3, e2, e3⟩
theorem get_i {w : World} {B : Nat} {cs : List Ce} {us : List Value} {q : List Ty} (ho : Ce.Oks cs q) (ha : Ce.Ats w B cs us) (k : Nat) (hq : q[k]? = some .i) :
    ∃ n, cs[k]? = some (.i n) ∧ us[k]? = some (.int .i64 n) ∧ -9223372036854775808 ≤ n ∧ n ≤ 9223372036854775807 := by
  have hk : k < cs.length := by rw [Ce.oks_length _ _ ho]; exact (List.getElem?_eq_some_iff.1 hq).1
  obtain ⟨t, ht, hok⟩ := Ce.oks_at cs q k _ ho (List.getElem?_eq_getElem hk)
  rw [hq] at ht
  injection ht with ht
  subst ht
  obtain ⟨v, hv, hat⟩ := Ce.ats_at cs us k _ ha (List.getElem?_eq_getElem hk)
  obtain ⟨n, e1, e2⟩ := ok_i hok
  rw [e1] at hat
  unfold Ce.At at hat
  exact ⟨n, by rw [List.getElem?_eq_getElem hk, e1], by rw [hv, hat], e2⟩
theorem get_b {w : World} {B : Nat} {cs : List Ce} {us : List Value} {q : List Ty} (ho : Ce.Oks cs q) (ha : Ce.Ats w B cs us) (k : Nat) (hq : q[k]? = some .b) :
    ∃ n, cs[k]? = some (.b n) ∧ us[k]? = some (.bool n) ∧ True := by
  have hk : k < cs.length := by rw [Ce.oks_length _ _ ho]; exact (List.getElem?_eq_some_iff.1 hq).1
  obtain ⟨t, ht, hok⟩ := Ce.oks_at cs q k _ ho (List.getElem?_eq_getElem hk)
  rw [hq] at ht
  injection ht with ht
  subst ht
  obtain ⟨v, hv, hat⟩ := Ce.ats_at cs us k _ ha (List.getElem?_eq_getElem hk)
  obtain ⟨n, e1⟩ := ok_b hok
  rw [e1] at hat
  unfold Ce.At at hat
  exact ⟨n, by rw [List.getElem?_eq_getElem hk, e1], by rw [hv, hat], trivial⟩
set_option maxRecDepth 100000 in
theorem q_len : (qCell).length = 62 := rfl
/-- what turned leaves -/
def TurnQ (cs : List Ce) (by' : Int) (w : World) (e : Ending) (w' : World) : Prop :=
  ∃ (vs' : Array Value) (cs' : List Ce), e = .returned (.agg vs') ∧ Ce.Ats w' w'.heap.size cs' vs'.toList ∧ Ce.Oks cs' qMach ∧ Ce.bulks cs' ≤ Ce.bulks cs + 10 ∧ (by' = 0 → cs' = cs) ∧ (by' ≠ 0 → cs' ≠ cs) ∧ Below w.heap.size w w'
theorem mach_one {w : World} {B : Nat} {cs : List Ce} {vs : Array Value} (ha : Ce.Ats w B cs vs.toList) : vs.all (·.oneCell') = true := by
  have h := all_oneCell_toArray (ces_one _ _ ha)
  simpa using h
theorem turnq_of {W0 w W' : World} {cs : List Ce} {vs : Array Value} {k : Nat} {c c' : Ce} {v' : Value} {by' : Int} (ho : Ce.Oks cs qMach) (ha : Ce.Ats W0 W0.heap.size cs vs.toList) (hb0 : Below W0.heap.size W0 w) (hb : Below w.heap.size w W') (hck : cs[k]? = some c) (hc' : c'.At W' W'.heap.size v')
    (hok : ∃ t, qMach[k]? = some t ∧ c'.Ok t) (hbk : c'.bulk ≤ c.bulk + 10) (h0 : by' = 0 → c' = c) (h1 : by' ≠ 0 → c' ≠ c) : TurnQ cs by' w (.returned (.agg (vs.setIfInBounds k v'))) W' := by
  have hb1 : Below W0.heap.size W0 W' := hb0.trans (hb.mono hb0.size)
  obtain ⟨t, ht, hokt⟩ := hok
  refine ⟨_, cs.set k c', rfl, ?_, Ce.oks_set hokt _ _ _ ht ho, ?_, fun h => by rw [h0 h]; exact set_same hck, fun h => set_other hck (h1 h), hb⟩
  · rw [Array.toList_setIfInBounds]
    exact Ce.ats_set hc' _ _ _ (Ce.Ats.grow hb1 hb1.size _ _ ha)
  · have := Ce.bulks_set (c := c') cs k hck
    omega
theorem list_turn {W0 W' : World} {base n k nb p : Nat} {es : List Ce} {xs : List Value} {q : List Ty} {e : TypeId} {v' u' : Value} {d' : Ce} (hb : Below W0.heap.size W0 W') (hat : Ce.Ats W0 W0.heap.size es xs) (hok : Ce.Oks es (List.replicate n q).flatten) (hn : n ≤ 140737488351232 ∧ n * nb ≤ 140737488351232)
    (hown : W'.ownsRow base e k v' n (xs.set p u')) (hd : d'.At W' W'.heap.size u') (hdk : ∃ t, ((List.replicate n q).flatten)[p]? = some t ∧ d'.Ok t) : (Ce.l n (es.set p d')).At W' W'.heap.size v' ∧ (Ce.l n (es.set p d')).Ok (.l nb q) := by
  obtain ⟨t, ht, hdt⟩ := hdk
  obtain ⟨A, c, h1, h2, h3⟩ := own_rd hown (Nat.le_refl _)
  constructor
  · unfold Ce.At
    exact ⟨A, c, k, _, h1, h2, h3, Ce.ats_set hd _ _ _ (Ce.Ats.grow hb hb.size _ _ hat)⟩
  · unfold Ce.Ok
    exact ⟨hn, Ce.oks_set hdt _ _ _ ht hok⟩
theorem own_setRow {w : World} {base n k g : Nat} {e : TypeId} {v : Value} {xs : List Value} {cs : Array Value} (h : w.ownsRow base e k v n xs) (hg : g < base) : (w.setRow g cs).ownsRow base e k v n xs := by
  obtain ⟨hl, h | ⟨b, cap, cur, h1, h2, h3, h4⟩⟩ := h
  · exact ⟨hl, .inl h⟩
  · exact ⟨hl, .inr ⟨b, cap, cur, h1, h2, by rw [setRow_other _ _ _ _ (by omega)]; exact h3, h4⟩⟩
theorem own_setOther {w : World} {base n k : Nat} {e : TypeId} {v u : Value} {xs : List Value} {p : Addr} (h : w.ownsRow base e k v n xs) (hg : p.block < base) : (w.setCell p u).ownsRow base e k v n xs := by
  obtain ⟨hl, h | ⟨b, cap, cur, h1, h2, h3, h4⟩⟩ := h
  · exact ⟨hl, .inl h⟩
  · exact ⟨hl, .inr ⟨b, cap, cur, h1, h2, by rw [heap_setCell_other _ _ _ _ (by omega)]; exact h3, h4⟩⟩
theorem own_cell {w : World} {base n k g cap : Nat} {e : TypeId} {xs : List Value} (h : w.ownsRow base e k (.slice (some ⟨g, 0, none⟩) n cap) n xs) (j : Nat) (u : Value) (hu : xs[j]? = some u) : w.cell? ⟨g, j, none⟩ = some u ∧ w.frozen? ⟨g, j, none⟩ = false ∧ base ≤ g ∧ g < w.heap.size := by
  obtain ⟨hl, ⟨h0, _⟩ | ⟨g', cap', cur, hv, hb, hg, hc, hm, hs, ht⟩⟩ := h
  · cases h0
  · injection hv with hv _ hcap
    injection hv with hv
    injection hv with hv
    subst hv hcap
    refine ⟨?_, frozen_of_row _ _ _ _ _ hg, hb, (Array.getElem?_eq_some_iff.1 hg).1⟩
    rw [cell_of_row _ _ _ _ _ _ hg]
    rw [← ht, List.getElem?_take] at hu
    split at hu
    · simpa using hu
    · cases hu

end Go.Proofs.YtkgkipohalekmaaDoor

