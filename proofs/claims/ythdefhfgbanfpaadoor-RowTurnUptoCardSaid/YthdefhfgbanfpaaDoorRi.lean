/-
  The law that a row that is written is read as it was: its plain part, and its walk.
-/
import Derived.Test.YthdefhfgbanfpaaDoorRh
namespace Go.Proofs.YthdefhfgbanfpaaDoor
open Go.RowKit

namespace Sp
theorem text_small (r : RowD) (h : mayRowB r = true) : (toB (textL r)).size ≤ 1048576 := by
  obtain ⟨p1, p2, p3, p4, p5, p6, p7, p8, p9⟩ := mayRow_parts r h
  have z1 := decB_size r.time p1 (by omega)
  have z2 := unitW_size r.unit p3
  have z3 := decB_size r.n (by omega) (by omega)
  have z4 := decB_size r.kind (by omega) (by omega)
  rw [toB_size] at *
  have e1 : (unitW r.unit).data.toList.length = (unitW r.unit).size := by simp
  have e2 : r.text.data.toList.length = r.text.size := by simp
  simp only [textL, List.length_append, List.length_cons, e1, e2]
  omega
theorem curs_small (r : RowD) (h : mayRowB r = true) : (toB (cursL r)).size ≤ 1048576 := by
  obtain ⟨p1, p2, p3, p4, p5, p6, p7, p8, p9⟩ := mayRow_parts r h
  have z1 := decB_size r.time p1 (by omega)
  have z2 := unitW_size r.unit p3
  have z3 := decB_size r.n (by omega) (by omega)
  rw [toB_size] at *
  have e1 : (unitW r.unit).data.toList.length = (unitW r.unit).size := by simp
  simp only [cursL, List.length_append, List.length_cons, e1]
  omega
theorem place_back (r : RowD) (h : mayRowB r = true) : placeP (toB (cursL r)) = some (atPlace r) :=
  place_some _ _ ⟨rfl, rfl⟩ (atPlace_may r h).1 (((atPlace_may r h).2).trans (toB_list _).symm)
theorem parse_back (r : RowD) (h : mayRowB r = true) : parseP (toB (textL r)) = some r := parse_some _ _ h (toB_list _).symm
theorem less_atPlace (r : RowD) (k : Int) (x : ByteArray) : lessB r ⟨r.time, r.unit, r.n, k, x⟩ = false ∧ lessB ⟨r.time, r.unit, r.n, k, x⟩ r = false := by
  simp [lessB]
theorem curs_less (a b : RowD) (ha : mayRowB a = true) (hb : mayRowB b = true) : ((toB (cursL a)).toList == (toB (cursL b)).toList) = !(lessB a b || lessB b a) := by
  rw [← less_total, Bool.eq_iff_iff, beq_iff_eq, bytes_list, bytes_list, toB_list, toB_list]
  unfold alikeB
  rw [Bool.and_eq_true, Bool.and_eq_true, beq_iff_eq, beq_iff_eq, beq_iff_eq, bytes_list, bytes_list]
  constructor
  · intro h
    obtain ⟨h1, h2, h3⟩ := curs_inj a b ha hb h
    exact ⟨h1, by rw [h2], h3⟩
  · rintro ⟨h1, h2, h3⟩
    have h4 : a.unit = b.unit := WideShapes.bytes_inj h2
    simp only [cursL, h1, h3, h4]
end Sp

/-- two rows lie there -/
structure Two (w0 W : World) (B : Nat) (a b : RowD) : Prop where
  hb : Below B w0 W
  ra : RBox W B a
  rb : RBox W (B + 1) b
theorem Two.on {w0 W W' : World} {B : Nat} {a b : RowD} (h : Two w0 W B a b) (hB : B + 1 < W.heap.size) (h' : Below W.heap.size W W') : Two w0 W' B a b :=
  ⟨h.hb.trans (h'.mono (by omega)), h.ra.on (by omega) h', h.rb.on hB h'⟩
theorem Two.new (w : World) (at' an ak bt bn bk : Int) (au ax bu bx : ByteArray) : Two w ((w.alloc (.cells #[.int .i64 at', .string au, .int .i64 an, .int .i64 ak, .string ax] 23)).alloc (.cells #[.int .i64 bt, .string bu, .int .i64 bn, .int .i64 bk, .string bx] 23)) w.heap.size ⟨at', au, an, ak, ax⟩ ⟨bt, bu, bn, bk, bx⟩ := by
  refine ⟨((Below.refl _ _).alloc (Nat.le_refl _) _).alloc (by simp) _, ?_, ?_⟩
  · exact (RBox.new w at' an ak au ax).on (B := w.heap.size + 1) (by omega) (by
      have := (Below.refl (w.heap.size + 1) (w.alloc (.cells #[.int .i64 at', .string au, .int .i64 an, .int .i64 ak, .string ax] 23))).alloc (by simp) (.cells #[.int .i64 bt, .string bu, .int .i64 bn, .int .i64 bk, .string bx] 23)
      exact this)
  · have := RBox.new (w.alloc (.cells #[.int .i64 at', .string au, .int .i64 an, .int .i64 ak, .string ax] 23)) bt bn bk bu bx
    simpa using this

end Go.Proofs.YthdefhfgbanfpaaDoor
