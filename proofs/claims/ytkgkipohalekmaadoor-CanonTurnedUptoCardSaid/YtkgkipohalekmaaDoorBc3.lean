/-
  A machine in short: its text, plain; the builder's state while it is written.
-/
import Derived.Test.YtkgkipohalekmaaDoorBc2
import Derived.Test.YtkgkipohalekmaaDoorBu
namespace Go.Proofs.YtkgkipohalekmaaDoor
open Go.RowKit Go.Shelf
def Ce.sub : Ce → List Ce
  | .l _ cs => cs
  | _ => []
/-- the first j of some elements of k cells each, each one's text -/
def rowsT (k : Nat) (f : List Ce → List UInt8) (es : List Ce) (j : Nat) : List UInt8 := (List.range j).flatMap fun i => f ((es.drop (i * k)).take k)
theorem rowsT_step (k : Nat) (f : List Ce → List UInt8) (es : List Ce) (j : Nat) : rowsT k f es (j + 1) = rowsT k f es j ++ f ((es.drop (j * k)).take k) := by
  unfold rowsT
  rw [List.range_succ, List.flatMap_append]
  simp
def jobT (e : List Ce) : List UInt8 :=
  let head := [106, 111, 98, 32] ++ (e.getD 0 (.i 0)).str ++ [32] ++ typeW (e.getD 1 (.i 0)).num ++ [32]
  if (e.getD 2 (.i 0)).num = 1 then head ++ [119, 97, 105, 116, 115] ++ [10] else if (e.getD 2 (.i 0)).num = 2 then head ++ [114, 117, 110, 115] ++ [10] else []
def askT (e : List Ce) : List UInt8 := [97, 115, 107, 115, 32] ++ (e.getD 1 (.i 0)).str ++ [32] ++ typeW (e.getD 2 (.i 0)).num ++ [10]
def timeT (now round : Int) : List UInt8 := [116, 105, 109, 101, 32] ++ Lib.itoa now ++ [32, 114, 111, 117, 110, 100, 32] ++ Lib.itoa round ++ [10]
/-- a machine in short -/
def canonT (cs : List Ce) : List UInt8 :=
  timeT (cs.getD 0 (.i 0)).num (cs.getD 2 (.i 0)).num ++ rowsT 62 lineC (cs.getD 8 (.i 0)).sub (cs.getD 8 (.i 0)).cnt ++ rowsT 4 jobT (cs.getD 9 (.i 0)).sub (cs.getD 9 (.i 0)).cnt ++ rowsT 3 askT (cs.getD 10 (.i 0)).sub (cs.getD 10 (.i 0)).cnt
theorem bulks_take_drop (es : List Ce) (a : Nat) : Ce.bulks (es.take a) + Ce.bulks (es.drop a) = Ce.bulks es := by
  rw [← Ce.bulks_append, List.take_append_drop]
theorem bulks_elem (es : List Ce) (a k : Nat) : Ce.bulks (es.take a) + Ce.bulks ((es.drop a).take k) ≤ Ce.bulks es := by
  have h1 := bulks_take_drop es a
  have h2 := bulks_take_drop (es.drop a) k
  omega
/-- as much text as there is to tell -/
theorem rowsT_len (k c : Nat) (f : List Ce → List UInt8) (es : List Ce) (n : Nat) (hf : ∀ i, i < n → (f ((es.drop (i * k)).take k)).length ≤ c * Ce.bulks ((es.drop (i * k)).take k)) : ∀ j, j ≤ n → (rowsT k f es j).length ≤ c * Ce.bulks (es.take (j * k))
  | 0, _ => by unfold rowsT; simp
  | j + 1, hj => by
    rw [rowsT_step, List.length_append]
    have h1 := rowsT_len k c f es n hf j (by omega)
    have h2 := hf j (by omega)
    have e : es.take ((j + 1) * k) = es.take (j * k) ++ (es.drop (j * k)).take k := by rw [Nat.succ_mul, List.take_add]
    rw [e, Ce.bulks_append, Nat.mul_add]
    omega
/-- the builder at block bb holds s; what was there at W0 is there -/
structure SB (W0 : World) (bb : Nat) (s : List UInt8) (w : World) : Prop where
  bu : Bu W0.heap.size bb s w
  hb : Below W0.heap.size W0 w
theorem Bu.keep {B b : Nat} {l : List UInt8} {w w' : World} (h : Bu B b l w) (hb : Below w.heap.size w w') : Bu B b l w' := by
  unfold Bu Lib.IsBuilderF at h ⊢
  have key : ∀ {p : Value}, Lib.BuilderAtF 64 5 B b p (Lib.byteCells l) w → Lib.BuilderAtF 64 5 B b p (Lib.byteCells l) w' := fun {p} ⟨hB, v, h1, h2, h3⟩ => by
    refine ⟨hB, v, (hb.block b (Array.getElem?_eq_some_iff.1 h1).1).trans h1, ⟨h2.1, ?_⟩, h3⟩
    rcases h2.2 with hz | ⟨g, cap, cur, fz, hv, hg, hc, hr⟩
    · exact .inl hz
    · exact .inr ⟨g, cap, cur, fz, hv, hg, (hb.block g (Array.getElem?_eq_some_iff.1 hc).1).trans hc, hr⟩
  rcases h with h | h
  · exact .inl (key h)
  · exact .inr (key h)
/-- since w1: what is no row of bytes, and not the builder, stands -/
structure CT (W0 w1 : World) (bb : Nat) (s : List UInt8) (w : World) : Prop where
  bu : Bu W0.heap.size bb s w
  hb : Below W0.heap.size W0 w
  ot : Oth (· = bb) w1 w
theorem CT.below {W0 w1 w w' : World} {bb : Nat} {s : List UInt8} (h : CT W0 w1 bb s w) (hb : Below w.heap.size w w') : CT W0 w1 bb s w' :=
  ⟨h.bu.keep hb, h.hb.trans (hb.mono h.hb.size), h.ot.trans (Oth.below hb)⟩
theorem CT.drew {W0 w1 w : World} {bb : Nat} {s : List UInt8} (h : CT W0 w1 bb s w) : CT W0 w1 bb s w.drew := h.below (Below.drew (Below.refl _ w))
theorem CT.start {W0 w1 w : World} {bb : Nat} {s : List UInt8} (h : CT W0 w1 bb s w) : CT W0 w bb s w := ⟨h.bu, h.hb, Oth.refl _ _⟩
theorem CT.obj {W0 w1 w : World} {bb : Nat} {s : List UInt8} (h : CT W0 w1 bb s w) {b : Nat} {cells : Array Value} {t : TypeId} {fr : Nat × Nat} (hx : w1.heap[b]? = some (.cells cells t fr)) (hb : b ≠ bb) (ht : t ≠ 5) : w.heap[b]? = some (.cells cells t fr) :=
  h.ot.2 _ _ hx hb (fun c fz e => ht (by injection e))
theorem CT.cell {W0 w1 w : World} {bb : Nat} {s : List UInt8} (h : CT W0 w1 bb s w) {b : Nat} {cells : Array Value} {t : TypeId} (hx : w1.heap[b]? = some (.cells cells t (0, 0))) (hb : b ≠ bb) (ht : t ≠ 5) (j : Nat) (v : Value) (hj : cells[j]? = some v) : w.cell? ⟨b, j, none⟩ = some v := by
  rw [cell_of_row w b _ _ _ _ (h.obj hx hb ht)]
  exact hj
theorem CT.write {W0 w1 : World} {bb : Nat} {s : List UInt8} {w : World} (h : CT W0 w1 bb s w) (R : ByteArray) (hl : s.length + R.size ≤ 140737488355328) :
    Calls Tryd.prog 22 #[.pointer (some ⟨bb, 0, none⟩), .string R] w fun e w' => e = .returned (.tuple #[.int .i64 R.size, .nilIface]) ∧ CT W0 w1 bb (s ++ R.data.toList) w' := by
  refine (bu_writeString W0.heap.size bb s R w h.bu hl h.hb.size).mono ?_
  rintro e w' ⟨rfl, h1, h2, h3⟩
  exact ⟨rfl, h1, h.hb.trans h2, h.ot.trans (Oth.others h3 h2.size)⟩
/-- what a machine's short text is made of -/
structure MachIs (w : World) (B : Nat) (cs : List Ce) (us : List Value) (now round : Int) (n8 n9 n10 : Nat) (e8 e9 e10 : List Ce) (v8 v9 v10 : Value) : Prop where
  c0 : us[0]? = some (.int .i64 now)
  c2 : us[2]? = some (.int .i64 round)
  c8 : us[8]? = some v8
  c9 : us[9]? = some v9
  c10 : us[10]? = some v10
  a8 : (Ce.l n8 e8).At w B v8
  a9 : (Ce.l n9 e9).At w B v9
  a10 : (Ce.l n10 e10).At w B v10
  k8 : (Ce.l n8 e8).Ok (.l (Tryd.prog.bytesOf 51) qCell)
  k9 : (Ce.l n9 e9).Ok (.l (Tryd.prog.bytesOf 71) [.s, .i, .i, .i])
  k10 : (Ce.l n10 e10).Ok (.l (Tryd.prog.bytesOf 73) [.i, .s, .i])
  text : canonT cs = timeT now round ++ rowsT 62 lineC e8 n8 ++ rowsT 4 jobT e9 n9 ++ rowsT 3 askT e10 n10
  rnow : -9223372036854775808 ≤ now ∧ now ≤ 9223372036854775807
  rround : -9223372036854775808 ≤ round ∧ round ≤ 9223372036854775807
  bulk : Ce.bulks e8 + Ce.bulks e9 + Ce.bulks e10 ≤ Ce.bulks cs
theorem mach_is {w : World} {B : Nat} {cs : List Ce} {us : List Value} (ho : Ce.Oks cs qMach) (ha : Ce.Ats w B cs us) : ∃ now round n8 n9 n10 e8 e9 e10 v8 v9 v10, MachIs w B cs us now round n8 n9 n10 e8 e9 e10 v8 v9 v10 := by
  unfold qMach at ho
  have hk0 := ho
  obtain ⟨x0, r0, u0, rfl, rfl, ho, ha⟩ := cons_i ho ha
  obtain ⟨x1, r1, u1, rfl, rfl, ho, ha⟩ := cons_i ho ha
  have hk2 := ho
  obtain ⟨x2, r2, u2, rfl, rfl, ho, ha⟩ := cons_i ho ha
  obtain ⟨x3, r3, u3, rfl, rfl, ho, ha⟩ := cons_i ho ha
  obtain ⟨n4, e4, r4, v4, u4, rfl, rfl, _, _, ho, ha⟩ := cons_l ho ha
  obtain ⟨n5, e5, r5, v5, u5, rfl, rfl, _, _, ho, ha⟩ := cons_l ho ha
  obtain ⟨n6, e6, r6, v6, u6, rfl, rfl, _, _, ho, ha⟩ := cons_l ho ha
  obtain ⟨n7, e7, r7, v7, u7, rfl, rfl, _, _, ho, ha⟩ := cons_l ho ha
  obtain ⟨n8, e8, r8, v8, u8, rfl, rfl, k8, a8, ho, ha⟩ := cons_l ho ha
  obtain ⟨n9, e9, r9, v9, u9, rfl, rfl, k9, a9, ho, ha⟩ := cons_l ho ha
  obtain ⟨n10, e10, r10, v10, u10, rfl, rfl, k10, a10, ho, ha⟩ := cons_l ho ha
  unfold Ce.Oks at hk0 hk2
  have h0 := hk0.1
  have h2 := hk2.1
  unfold Ce.Ok at h0 h2
  refine ⟨x0, x2, n8, n9, n10, e8, e9, e10, v8, v9, v10, ⟨rfl, rfl, rfl, rfl, rfl, a8, a9, a10, k8, k9, k10, rfl, h0, h2, ?_⟩⟩
  simp only [Ce.bulks, Ce.bulk]
  omega

end Go.Proofs.YtkgkipohalekmaaDoor
