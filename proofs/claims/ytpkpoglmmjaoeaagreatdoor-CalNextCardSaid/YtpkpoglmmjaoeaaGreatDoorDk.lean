/-
  A calendar's fields out of texts: the program's walk.
-/
import Derived.Test.YtpkpoglmmjaoeaaGreatDoorDj
namespace Go.Proofs.YtpkpoglmmjaoeaaGreatDoor
open Go.RowKit Go.Shelf

/-- a calendar that is being filled -/
def CV (w : World) (b : Nat) (d : SlA) (f : Nat → SlA) : Prop := w.heap[b]? = some (.cells #[slV d, slV (f 0), slV (f 1), slV (f 2), slV (f 3), slV (f 4), slV (f 5)] 25 (0, 0))
theorem CV.lt {w : World} {b : Nat} {d : SlA} {f : Nat → SlA} (h : CV w b d f) : b < w.heap.size := (Array.getElem?_eq_some_iff.1 h).1
theorem CV.cd {w : World} {b : Nat} {d : SlA} {f : Nat → SlA} (h : CV w b d f) : w.cell? ⟨b, 0, none⟩ = some (slV d) := by simp [World.cell?, show w.heap[b]? = _ from h]
theorem CV.cell {w : World} {b : Nat} {d : SlA} {f : Nat → SlA} (h : CV w b d f) (j : Nat) (hj : j < 6) : w.cell? ⟨b, j + 1, none⟩ = some (slV (f j)) := by
  have e : j = 0 ∨ j = 1 ∨ j = 2 ∨ j = 3 ∨ j = 4 ∨ j = 5 := by omega
  rcases e with rfl | rfl | rfl | rfl | rfl | rfl <;> simp [World.cell?, show w.heap[b]? = _ from h]
theorem CV.fz {w : World} {b : Nat} {d : SlA} {f : Nat → SlA} (h : CV w b d f) (i : Nat) : w.frozen? ⟨b, i, none⟩ = false := by simp [World.frozen?, show w.heap[b]? = _ from h]
theorem CV.same {w w' : World} {b : Nat} {d : SlA} {f : Nat → SlA} (h : CV w b d f) (e : w'.heap[b]? = w.heap[b]?) : CV w' b d f := e.trans h
theorem CV.under {w w' : World} {b : Nat} {d : SlA} {f : Nat → SlA} (h : CV w b d f) (hb : Below w.heap.size w w') : CV w' b d f := h.same (hb.block b h.lt)
theorem CV.set {w : World} {b : Nat} {d : SlA} {f g : Nat → SlA} (h : CV w b d f) (j : Nat) (hj : j < 6) (a : SlA) (hg : ∀ i, i < 6 → g i = if i = j then a else f i) : CV (w.setCell ⟨b, j + 1, none⟩ (slV a)) b d g := by
  obtain ⟨hlt, hk⟩ := Array.getElem?_eq_some_iff.1 h
  show (w.heap.modify b _)[b]? = _
  rw [Array.getElem?_eq_getElem (by rw [Array.size_modify]; exact hlt), Array.getElem_modify_self, hk]
  rw [hg 0 (by decide), hg 1 (by decide), hg 2 (by decide), hg 3 (by decide), hg 4 (by decide), hg 5 (by decide)]
  have e : j = 0 ∨ j = 1 ∨ j = 2 ∨ j = 3 ∨ j = 4 ∨ j = 5 := by omega
  rcases e with rfl | rfl | rfl | rfl | rfl | rfl <;> simp
theorem CV.setd {w : World} {b : Nat} {d : SlA} {f : Nat → SlA} (h : CV w b d f) (a : SlA) : CV (w.setCell ⟨b, 0, none⟩ (slV a)) b a f := by
  obtain ⟨hlt, hk⟩ := Array.getElem?_eq_some_iff.1 h
  show (w.heap.modify b _)[b]? = _
  rw [Array.getElem?_eq_getElem (by rw [Array.size_modify]; exact hlt), Array.getElem_modify_self, hk]
  rfl
theorem CV.eq {w : World} {b : Nat} {d : SlA} {f g : Nat → SlA} (h : CV w b d f) (hg : ∀ i, i < 6 → g i = f i) : CV w b d g := by
  unfold CV
  rw [hg 0 (by decide), hg 1 (by decide), hg 2 (by decide), hg 3 (by decide), hg 4 (by decide), hg 5 (by decide)]
  exact h
theorem strAt {w : World} {B n : Nat} {ad : Addr} {xs : List ByteArray} (h : Rd w B 1 (some ad) n (strsC xs)) (k : Nat) (hk : k < xs.length) (W : World) (hW : Below B w W) : W.cell? (ad.add k) = some (.string xs[k]) := by
  have hl : xs.length = n := by have := h.1; rw [strsC_len] at this; omega
  obtain ⟨ad', e, _, hc⟩ := (h.below hW).here (by omega)
  injection e with e
  subst e
  exact hc k _ (by simp [strsC, hk])
/-- k parts have been filled in, from a field on -/
def filled (f : Nat → SlA) (sl : Nat → SlA) (first k i : Nat) : SlA := if first ≤ i ∧ i < first + k then sl (i - first) else f i
def FillsI (ts : List ByteArray) (sl : Nat → SlA) (ps : Nat → List Sp.PartD) (k : Nat) (W : World) : Prop :=
  ∀ i (h : i < k) (h2 : i < ts.length), Sp.partsP ts[i].data.toList = some (ps i) ∧ Rd W W.heap.size 3 (sl i).A (sl i).n (partsC (ps i)) ∧ (sl i).n ≤ 9223372036854775807
theorem FillsI.under {ts : List ByteArray} {sl : Nat → SlA} {ps : Nat → List Sp.PartD} {k : Nat} {W W' : World} (h : FillsI ts sl ps k W) (hb : Below W.heap.size W W') : FillsI ts sl ps k W' :=
  fun i h1 h2 => ⟨(h i h1 h2).1, ((h i h1 h2).2.1.below hb).more hb.size, (h i h1 h2).2.2⟩
theorem rd_set {W : World} {size n : Nat} {A : Option Addr} {xs : List Value} (h : Rd W W.heap.size size A n xs) {b j : Nat} {v : Value} (hne : ∀ ad, 0 < n → A = some ad → ad.block ≠ b) : Rd (W.setCell ⟨b, j, none⟩ v) (W.setCell ⟨b, j, none⟩ v).heap.size size A n xs := by
  refine ⟨h.1, fun hn => ?_⟩
  obtain ⟨ad, e, hb, hc⟩ := h.2 hn
  refine ⟨ad, e, by rw [World.size_setCell]; exact hb, fun k u hu => ?_⟩
  rw [← hc k u hu]
  exact World.cell?_of_block (Below.heap_setCell W _ v _ (by rw [Mem.add_block]; exact hne ad hn e))
theorem partsC_not {q : List Sp.PartD} {u : Value} {j : Nat} (h : (partsC q)[j]? = some u) : ∀ A n c, u ≠ .slice A n c := by
  have hm := List.mem_of_getElem? h
  unfold partsC at hm
  obtain ⟨p, _, hp⟩ := List.mem_flatMap.1 hm
  unfold partC at hp
  simp at hp
  intro A n c e
  subst e
  simp at hp
theorem CV.not_int {w : World} {b : Nat} {d : SlA} {f : Nat → SlA} (h : CV w b d f) {a : Addr} {v : Value} (hv : w.cell? a = some v) (hs : ∀ A n c, v ≠ .slice A n c) : a.block ≠ b := by
  intro e
  obtain ⟨ab, off, vw⟩ := a
  dsimp only at e
  subst e
  have hx : ∀ x ∈ ([slV d, slV (f 0), slV (f 1), slV (f 2), slV (f 3), slV (f 4), slV (f 5)] : List Value), v ≠ x := by
    intro x hx
    simp only [List.mem_cons, List.not_mem_nil, or_false] at hx
    rcases hx with rfl | rfl | rfl | rfl | rfl | rfl | rfl <;> exact hs _ _ _
  cases vw with
  | some q => simp [World.cell?, show w.heap[ab]? = _ from h] at hv
  | none =>
    have hc : w.cell? ⟨ab, off, none⟩ = ([slV d, slV (f 0), slV (f 1), slV (f 2), slV (f 3), slV (f 4), slV (f 5)] : List Value)[off]? := by
      simp [World.cell?, show w.heap[ab]? = _ from h]
    rw [hc] at hv
    exact hx v (List.mem_of_getElem? hv) rfl
theorem filled_succ (f sl : Nat → SlA) (first k : Nat) (a : SlA) (i : Nat) : filled f (fun j => if j = k then a else sl j) first (k + 1) i = if i = first + k then a else filled f sl first k i := by
  unfold filled
  by_cases h : i = first + k
  · rw [if_pos ⟨by omega, by omega⟩, if_pos h]
    dsimp only
    rw [if_pos (by omega)]
  · rw [if_neg h]
    by_cases h2 : first ≤ i ∧ i < first + k
    · rw [if_pos ⟨h2.1, by omega⟩, if_pos h2]
      dsimp only
      rw [if_neg (by omega)]
    · rw [if_neg (by omega), if_neg h2]
def FillPost (bc : Nat) (ts : List ByteArray) (first : Nat) (d : SlA) (f : Nat → SlA) (e : Ending) (W : World) : Prop :=
  (∃ sl ps, FillsI ts sl ps 3 W ∧ CV W bc d (filled f sl first 3) ∧ e = .returned (.bool true)) ∨ ((∃ t ∈ ts, Sp.partsP t.data.toList = none) ∧ e = .returned (.bool false))
set_option maxRecDepth 100000 in
set_option maxHeartbeats 16000000 in
theorem fill_any (bc first B0 : Nat) (ts : List ByteArray) (ad : Addr) (d : SlA) (f : Nat → SlA) (w : World) (h3 : ts.length = 3) (hf : first + 3 ≤ 6) (hts : ∀ t ∈ ts, t.size ≤ 1048576) (hB0 : B0 ≤ bc) (EB : ∀ x, Below B0 w x → Lays x)
    (hr : Rd w w.heap.size 1 (some ad) 3 (strsC ts)) (hc : CV w bc d f) :
    Calls Tryz.prog 32 #[.pointer (some ⟨bc, 0, none⟩), .int .i64 first, .slice (some ad) 3 3] w fun e w' => FillPost bc ts first d f e w' ∧ w.grownBy w' (some bc) := by
  have hbw := hc.lt
  have hne : ad.block ≠ bc := by
    have h0 := strAt hr 0 (by omega) w (Below.refl _ _)
    rw [show ad.add 0 = ad by simp [Addr.add]] at h0
    exact hc.not_int h0 (fun _ _ _ e => by cases e)
  have hadb : ad.block < w.heap.size := by
    obtain ⟨ad', e, hb, _⟩ := hr.here (by decide)
    injection e with e
    rw [e]; exact hb
  have HCELL : Hid (∀ wr, w.grownBy wr (some bc) → ∀ k (hk : k < ts.length), wr.cell? (ad.add k) = some (.string ts[k])) := Lib.hid (fun wr hg k hk => by
    rw [← strAt hr k hk w (Below.refl _ _)]
    exact World.cell?_of_block (hg.block _ (by rw [Mem.add_block]; exact hadb) (fun e => by rw [Mem.add_block] at e; cases e; exact hne rfl)))
  have HENV : Hid (∀ wr, w.grownBy wr (some bc) → Env wr) := Lib.hid (fun wr hg x hx => EB x ⟨hx.os.trans hg.os, hx.tape.trans hg.tape, hx.output.trans hg.output, Nat.le_trans hg.size hx.size, fun k hk => (hx.block k (by have := hg.size; omega)).trans (hg.block k (by omega) (fun e => by cases e; omega))⟩)
  have HTS := Lib.hid hts
  have HC := Lib.hid hc
  have H3 := Lib.hid h3
  clear hts EB hr hc h3
  go_enter Tryz.func32, Tryz.ntmps32
  go_wp2_with fail
  go_loopw [13] (fun iv wr => ∃ (k : Nat) (sl : Nat → SlA) (ps : Nat → List Sp.PartD), iv = .int .i64 k ∧ k ≤ 3 ∧ Hid (CV wr bc d (filled f sl first k)) ∧ Hid (FillsI ts sl ps k wr) ∧ Hid (w.grownBy wr (some bc))) (fun iv _ => 3 - (intOf iv).toNat)
  case atStart => exact ⟨0, fun _ => d, fun _ => [], rfl, by decide, Lib.hid (HC.out.eq (fun i _ => by unfold filled; rw [if_neg (by omega)])), Lib.hid (fun i h => absurd h (by omega)), Lib.hid (grown_none _)⟩
  case round =>
    obtain ⟨k, sl, ps, rfl, hk3, HCV, HFI, HG⟩ := hrel
    by_cases hlt : k < 3
    · have hlt2 : (k : Int) < 3 := by omega
      have hkl : k < ts.length := by rw [H3.out]; exact hlt
      have v1 : IntKind.i64.wrap ((k : Int) + 1) = ((k + 1 : Nat) : Int) := by rw [IntKind.wrap_i64]; omega
      have v2 : IntKind.i64.wrap ((first : Int) + (k : Int)) = (first : Int) + (k : Int) := by rw [IntKind.wrap_i64]; omega
      have hck := HCELL.out wr HG.out k hkl
      have HPA := Lib.hid (parts_any ts[k] wr (HTS.out _ (List.getElem_mem hkl)) (HENV.out wr HG.out))
      have HMEM := Lib.hid (List.getElem_mem hkl)
      have HTK : Hid (∀ i (h2 : i < ts.length), i = k → ts[i].data.toList = ts[k].data.toList) := Lib.hid (fun i h2 e => by subst e; rfl)
      generalize ts[k] = t at *
      go_wp2_with fail
      refine HPA.out.mono ?_
      rintro e w2 ⟨(⟨q, A, m, c, hq, rfl, hrd, hm⟩ | ⟨hq, rfl⟩), hb2⟩
      · have HQ := Lib.hid hq
        have HRD := Lib.hid hrd
        have HM := Lib.hid hm
        have HB2 := Lib.hid hb2
        clear hq hrd hm hb2
        have hix : ∀ W, (Instr.index 65 (listsV bc) (.int .i64 ((first : Int) + (k : Int)))).run Tryz.prog W = .ok (.pointer (some ⟨bc, first + k + 1, none⟩)) W := fun W => by
          have h := index_lists bc W (first + k) (by omega)
          rw [Int.natCast_add] at h
          exact h
        go_wp2_with fail
        refine (lists_any bc w2).mono ?_
        rintro e w3 ⟨rfl, hb3⟩
        have hb23 : Below wr.heap.size wr w3 := HB2.out.trans (hb3.mono HB2.out.size)
        have hcv := HCV.out.under hb23
        have hce := hcv.cell (first + k) (by omega)
        have hfe := hcv.fz (first + k + 1)
        have HCV3 := Lib.hid hcv
        have HRD3 := Lib.hid ((HRD.out.below hb3).more hb3.size)
        have HFI3 := Lib.hid (HFI.out.under hb23)
        have HG3 := Lib.hid (grown_t HG.out (grown_but (grown_of_below hb23) (some bc)))
        clear hcv hb23 hb3
        go_wp2
        go_roundw
        case rel =>
          refine ⟨k + 1, fun j => if j = k then ⟨A, m, c⟩ else sl j, fun j => if j = k then q else ps j, rfl, by omega, Lib.hid (HCV3.out.set (first + k) (by omega) ⟨A, m, c⟩ (fun i _ => filled_succ f sl first k ⟨A, m, c⟩ i)), Lib.hid (fun i h h2 => ?_), Lib.hid (grown_t HG3.out (grownBy_setCellAt _ _ _ _))⟩
          by_cases hik : i = k
          · have e2 := HTK.out i h2 hik
            simp only [if_pos hik]
            rw [e2]
            refine ⟨HQ.out, rd_set HRD3.out (fun a hn ha => ?_), HM.out⟩
            obtain ⟨a', ea, hb, hcc⟩ := HRD3.out.here hn
            rw [ha] at ea
            injection ea with ea
            subst ea
            have hl := HRD3.out.1
            obtain ⟨u, hu⟩ : ∃ u, (partsC q)[0]? = some u := ⟨_, List.getElem?_eq_getElem (by omega)⟩
            have h0 := hcc 0 u hu
            rw [show a.add 0 = a by simp [Addr.add]] at h0
            exact HCV3.out.not_int h0 (partsC_not hu)
          · simp only [if_neg hik]
            obtain ⟨g1, g2, g3⟩ := HFI3.out i (by omega) h2
            refine ⟨g1, rd_set g2 (fun a hn ha => ?_), g3⟩
            obtain ⟨a', ea, hb, hcc⟩ := g2.here hn
            rw [ha] at ea
            injection ea with ea
            subst ea
            have hl := g2.1
            obtain ⟨u, hu⟩ : ∃ u, (partsC (ps i))[0]? = some u := ⟨_, List.getElem?_eq_getElem (by omega)⟩
            have h0 := hcc 0 u hu
            rw [show a.add 0 = a by simp [Addr.add]] at h0
            exact HCV3.out.not_int h0 (partsC_not hu)
        case measure => simp [intOf]; omega
      · have HQ := Lib.hid hq
        have HG2 := Lib.hid (grown_t HG.out (grown_but (grown_of_below hb2) (some bc)))
        clear hq hb2
        go_wp2
        go_ret
        exact ⟨.inr ⟨⟨t, HMEM.out, HQ.out⟩, rfl⟩, HG2.out⟩
    · obtain rfl : k = 3 := by omega
      go_wp2
      go_ret
      exact ⟨.inl ⟨sl, ps, HFI.out, HCV.out, rfl⟩, HG.out⟩

end Go.Proofs.YtpkpoglmmjaoeaaGreatDoor
