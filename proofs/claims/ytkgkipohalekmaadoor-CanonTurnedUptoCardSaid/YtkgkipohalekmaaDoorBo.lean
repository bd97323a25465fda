/-
  Several fields handed over by their addresses: the writer's walks.
-/
import Derived.Test.YtkgkipohalekmaaDoorBn
namespace Go.Proofs.YtkgkipohalekmaaDoor
open Go.RowKit Go.Shelf
theorem Chg.trans {wb blk o k m : Nat} {w w1 w2 : World} (h : Chg wb blk o k w w1) (h2 : Chg wb blk o m w1 w2) (hkm : k ≤ m) : Chg wb blk o m w w2 :=
  ⟨h.oth.trans h2.oth, fun cells t hc ht => by
    obtain ⟨c1, e1, e2, e3, e4⟩ := h.box cells t hc ht
    obtain ⟨c2, g1, g2, g3, g4⟩ := h2.box c1 t e1 ht
    exact ⟨c2, g1, g2.trans e2, fun j hj => (g3 j hj).trans (e3 j (by omega)), fun h => g4 (e4 h)⟩⟩
theorem Gst.base {W0 w0 w : World} {wb blk o i : Nat} {S : List UInt8} {q : List Ty} (h : Gst W0 wb blk o i S q w0 w) : Gst W0 wb blk o i S q w w := by
  obtain ⟨s, cs, vs, h1, h2, h3, h4, h5, h6, h7⟩ := h
  exact ⟨s, cs, vs, h1, h2, h3, h4, h5, h6, Oth.refl _ _, fun cells _ h _ => ⟨cells, h, rfl, fun _ _ => rfl, id⟩⟩
theorem Gst.join {W0 w0 w w' : World} {wb blk o i j : Nat} {S : List UInt8} {q q' : List Ty} (h : Gst W0 wb blk o i S q w0 w) (h' : Gst W0 wb blk o j S q' w w') (hij : i ≤ j) : Gst W0 wb blk o j S q' w0 w' := by
  obtain ⟨_, _, _, _, _, _, _, _, _, h7⟩ := h
  obtain ⟨s, cs, vs, h1, h2, h3, h4, h5, h6, g7⟩ := h'
  exact ⟨s, cs, vs, h1, h2, h3, h4, h5, h6, h7.trans g7 hij⟩
theorem Gst.oth {W0 w0 w : World} {wb blk o i : Nat} {S : List UInt8} {q : List Ty} (h : Gst W0 wb blk o i S q w0 w) : Oth (fun i => i = wb ∨ i = blk) w0 w := by
  obtain ⟨_, _, _, _, _, _, _, _, _, h7⟩ := h
  exact h7.oth

set_option maxRecDepth 100000 in
set_option maxHeartbeats 8000000 in
theorem nums_w {W0 w0 w : World} {wb blk o i : Nat} {S : List UInt8} {q : List Ty} (E : Env W0) (m ab : Nat) (ps : Array Value) (t : TypeId) (fr : Nat × Nat) (h : Gst W0 wb blk o i S (List.replicate m (.i) ++ q) w0 w) (ha : w.heap[ab]? = some (.cells ps t fr)) (ht : t ≠ 5)
    (hps : ∀ j, j < m → ps[j]? = some (.pointer (some ⟨blk, o + i + j, none⟩))) (hw : ab ≠ wb) (hb : ab ≠ blk) (hm : m ≤ 9223372036854775807) :
    Calls Tryd.prog 34 #[.iface 80 (.pointer (some ⟨wb, 0, none⟩)), .slice (some ⟨ab, 0, none⟩) m m] w fun e w' => e = .returned (.tuple #[]) ∧ Gst W0 wb blk o (i + m) S q w0 w' := by
  have HJ : Hid (∀ w', Gst W0 wb blk o (i + m) S q w w' → Gst W0 wb blk o (i + m) S q w0 w') := Lib.hid (fun w' h' => h.join h' (by omega))
  have HG := Lib.hid h.base
  have HA := Lib.hid ha
  have HPS := Lib.hid hps
  have HT : Hid (∀ c fz, (Obj.cells ps t fr) ≠ .cells c 5 fz) := Lib.hid (fun c fz e => ht (by injection e))
  clear h ha hps ht
  have q3 := me_int
  go_enter Tryd.func34, Tryd.ntmps34
  go_wp2_with fail
  go_loopw [8] (fun kv wr => ∃ k : Nat, k ≤ m ∧ kv = .int .i64 k ∧ Hid (Gst W0 wb blk o (i + k) S (List.replicate (m - k) (.i) ++ q) w wr)) (fun kv _ => m - (intOf kv).toNat)
  case atStart => exact ⟨0, Nat.zero_le _, rfl, HG⟩
  case round =>
    clear HG
    obtain ⟨k, hk, rfl, HG⟩ := hrel
    by_cases hkm : k < m
    · have hk1 : (k : Int) < (m : Int) := by omega
      have hk0 : (0 : Int) ≤ (k : Int) := by omega
      have v1 : IntKind.i64.wrap ((k : Int) + 1) = ((k + 1 : Nat) : Int) := by rw [IntKind.wrap_i64]; omega
      have hc : wr.cell? ⟨ab, k, none⟩ = some (.pointer (some ⟨blk, o + i + k, none⟩)) := by
        rw [cell_of_row wr ab k _ _ _ (HG.out.oth.2 _ _ HA.out (fun h => by rcases h with h | h; exact hw h; exact hb h) HT.out)]
        exact HPS.out k hkm
      have HG2 : Hid (Gst W0 wb blk o (i + k) S (.i :: (List.replicate (m - (k + 1)) (.i) ++ q)) w wr) := Lib.hid (by
        have h := HG.out
        rw [show m - k = (m - (k + 1)) + 1 by omega, List.replicate_succ] at h
        exact h)
      go_wp2_with fail
      refine (stp_int E _ HG2.out (by omega)).mono ?_
      rintro e w2 ⟨rfl, h2⟩
      have H2 := Lib.hid h2
      clear h2 hc
      go_wp2
      go_roundw
      case rel => exact ⟨k + 1, by omega, by first | rfl | go_num, H2⟩
      case measure => simp [intOf]; omega
    · obtain rfl : k = m := by omega
      have hk1 : ¬ (k : Int) < (k : Int) := by omega
      have HF : Hid (Gst W0 wb blk o (i + k) S q w0 wr) := Lib.hid (HJ.out wr (by
        have h := HG.out
        rw [Nat.sub_self] at h
        exact h))
      go_wp2
      go_end0
      exact ⟨rfl, HF.out⟩

set_option maxRecDepth 100000 in
set_option maxHeartbeats 8000000 in
theorem ints_w {W0 w0 w : World} {wb blk o i : Nat} {S : List UInt8} {q : List Ty} (E : Env W0) (m ab : Nat) (ps : Array Value) (t : TypeId) (fr : Nat × Nat) (h : Gst W0 wb blk o i S (List.replicate m (.l (Tryd.prog.bytesOf 3) [.i]) ++ q) w0 w) (ha : w.heap[ab]? = some (.cells ps t fr)) (ht : t ≠ 5)
    (hps : ∀ j, j < m → ps[j]? = some (.pointer (some ⟨blk, o + i + j, none⟩))) (hw : ab ≠ wb) (hb : ab ≠ blk) (hm : m ≤ 9223372036854775807) :
    Calls Tryd.prog 63 #[.iface 80 (.pointer (some ⟨wb, 0, none⟩)), .slice (some ⟨ab, 0, none⟩) m m] w fun e w' => e = .returned (.tuple #[]) ∧ Gst W0 wb blk o (i + m) S q w0 w' := by
  have HJ : Hid (∀ w', Gst W0 wb blk o (i + m) S q w w' → Gst W0 wb blk o (i + m) S q w0 w') := Lib.hid (fun w' h' => h.join h' (by omega))
  have HG := Lib.hid h.base
  have HA := Lib.hid ha
  have HPS := Lib.hid hps
  have HT : Hid (∀ c fz, (Obj.cells ps t fr) ≠ .cells c 5 fz) := Lib.hid (fun c fz e => ht (by injection e))
  clear h ha hps ht
  go_enter Tryd.func63, Tryd.ntmps63
  go_wp2_with fail
  go_loopw [8] (fun kv wr => ∃ k : Nat, k ≤ m ∧ kv = .int .i64 k ∧ Hid (Gst W0 wb blk o (i + k) S (List.replicate (m - k) (.l (Tryd.prog.bytesOf 3) [.i]) ++ q) w wr)) (fun kv _ => m - (intOf kv).toNat)
  case atStart => exact ⟨0, Nat.zero_le _, rfl, HG⟩
  case round =>
    clear HG
    obtain ⟨k, hk, rfl, HG⟩ := hrel
    by_cases hkm : k < m
    · have hk1 : (k : Int) < (m : Int) := by omega
      have hk0 : (0 : Int) ≤ (k : Int) := by omega
      have v1 : IntKind.i64.wrap ((k : Int) + 1) = ((k + 1 : Nat) : Int) := by rw [IntKind.wrap_i64]; omega
      have hc : wr.cell? ⟨ab, k, none⟩ = some (.pointer (some ⟨blk, o + i + k, none⟩)) := by
        rw [cell_of_row wr ab k _ _ _ (HG.out.oth.2 _ _ HA.out (fun h => by rcases h with h | h; exact hw h; exact hb h) HT.out)]
        exact HPS.out k hkm
      have HG2 : Hid (Gst W0 wb blk o (i + k) S (.l (Tryd.prog.bytesOf 3) [.i] :: (List.replicate (m - (k + 1)) (.l (Tryd.prog.bytesOf 3) [.i]) ++ q)) w wr) := Lib.hid (by
        have h := HG.out
        rw [show m - k = (m - (k + 1)) + 1 by omega, List.replicate_succ] at h
        exact h)
      go_wp2_with fail
      refine (list_int E _ HG2.out (by omega)).mono ?_
      rintro e w2 ⟨rfl, h2⟩
      have H2 := Lib.hid h2
      clear h2 hc
      go_wp2
      go_roundw
      case rel => exact ⟨k + 1, by omega, by first | rfl | go_num, H2⟩
      case measure => simp [intOf]; omega
    · obtain rfl : k = m := by omega
      have hk1 : ¬ (k : Int) < (k : Int) := by omega
      have HF : Hid (Gst W0 wb blk o (i + k) S q w0 wr) := Lib.hid (HJ.out wr (by
        have h := HG.out
        rw [Nat.sub_self] at h
        exact h))
      go_wp2
      go_end0
      exact ⟨rfl, HF.out⟩

set_option maxRecDepth 100000 in
set_option maxHeartbeats 8000000 in
theorem texts_w {W0 w0 w : World} {wb blk o i : Nat} {S : List UInt8} {q : List Ty} (E : Env W0) (m ab : Nat) (ps : Array Value) (t : TypeId) (fr : Nat × Nat) (h : Gst W0 wb blk o i S (List.replicate m (.l (Tryd.prog.bytesOf 9) [.s]) ++ q) w0 w) (ha : w.heap[ab]? = some (.cells ps t fr)) (ht : t ≠ 5)
    (hps : ∀ j, j < m → ps[j]? = some (.pointer (some ⟨blk, o + i + j, none⟩))) (hw : ab ≠ wb) (hb : ab ≠ blk) (hm : m ≤ 9223372036854775807) :
    Calls Tryd.prog 35 #[.iface 80 (.pointer (some ⟨wb, 0, none⟩)), .slice (some ⟨ab, 0, none⟩) m m] w fun e w' => e = .returned (.tuple #[]) ∧ Gst W0 wb blk o (i + m) S q w0 w' := by
  have HJ : Hid (∀ w', Gst W0 wb blk o (i + m) S q w w' → Gst W0 wb blk o (i + m) S q w0 w') := Lib.hid (fun w' h' => h.join h' (by omega))
  have HG := Lib.hid h.base
  have HA := Lib.hid ha
  have HPS := Lib.hid hps
  have HT : Hid (∀ c fz, (Obj.cells ps t fr) ≠ .cells c 5 fz) := Lib.hid (fun c fz e => ht (by injection e))
  clear h ha hps ht
  go_enter Tryd.func35, Tryd.ntmps35
  go_wp2_with fail
  go_loopw [8] (fun kv wr => ∃ k : Nat, k ≤ m ∧ kv = .int .i64 k ∧ Hid (Gst W0 wb blk o (i + k) S (List.replicate (m - k) (.l (Tryd.prog.bytesOf 9) [.s]) ++ q) w wr)) (fun kv _ => m - (intOf kv).toNat)
  case atStart => exact ⟨0, Nat.zero_le _, rfl, HG⟩
  case round =>
    clear HG
    obtain ⟨k, hk, rfl, HG⟩ := hrel
    by_cases hkm : k < m
    · have hk1 : (k : Int) < (m : Int) := by omega
      have hk0 : (0 : Int) ≤ (k : Int) := by omega
      have v1 : IntKind.i64.wrap ((k : Int) + 1) = ((k + 1 : Nat) : Int) := by rw [IntKind.wrap_i64]; omega
      have hc : wr.cell? ⟨ab, k, none⟩ = some (.pointer (some ⟨blk, o + i + k, none⟩)) := by
        rw [cell_of_row wr ab k _ _ _ (HG.out.oth.2 _ _ HA.out (fun h => by rcases h with h | h; exact hw h; exact hb h) HT.out)]
        exact HPS.out k hkm
      have HG2 : Hid (Gst W0 wb blk o (i + k) S (.l (Tryd.prog.bytesOf 9) [.s] :: (List.replicate (m - (k + 1)) (.l (Tryd.prog.bytesOf 9) [.s]) ++ q)) w wr) := Lib.hid (by
        have h := HG.out
        rw [show m - k = (m - (k + 1)) + 1 by omega, List.replicate_succ] at h
        exact h)
      go_wp2_with fail
      refine (list_string E _ HG2.out (by omega)).mono ?_
      rintro e w2 ⟨rfl, h2⟩
      have H2 := Lib.hid h2
      clear h2 hc
      go_wp2
      go_roundw
      case rel => exact ⟨k + 1, by omega, by first | rfl | go_num, H2⟩
      case measure => simp [intOf]; omega
    · obtain rfl : k = m := by omega
      have hk1 : ¬ (k : Int) < (k : Int) := by omega
      have HF : Hid (Gst W0 wb blk o (i + k) S q w0 wr) := Lib.hid (HJ.out wr (by
        have h := HG.out
        rw [Nat.sub_self] at h
        exact h))
      go_wp2
      go_end0
      exact ⟨rfl, HF.out⟩

end Go.Proofs.YtkgkipohalekmaaDoor
