/-
  Words are put together as a command: the program's Join.
-/
import Derived.Test.YtijfeeiplljnjaaGreatDoorUj
namespace Go.Proofs.YtijfeeiplljnjaaGreatDoor
open Go.RowKit

theorem OwnS.cells {B : Nat} {v : Value} {xs : List ByteArray} {w : World} (h : OwnS B v xs w) (hn : 0 < xs.length) : ∃ g c, v = .slice (some ⟨g, 0, none⟩) xs.length c ∧ (B ≤ g ∧ g < w.heap.size) ∧ xs.length ≤ c ∧ ∀ (j : Nat) (x : ByteArray), xs[j]? = some x → w.cell? ⟨g, j, none⟩ = some (.string x) := by
  rcases h.2 with ⟨hv, h0⟩ | ⟨g, cap, cur, hv, hg, hh, hc, _⟩
  · omega
  · refine ⟨g, cap, hv, ⟨hg, (Array.getElem?_eq_some_iff.1 hh).1⟩, hc, fun j x hx => ?_⟩
    subst hv
    have hrd : Rd w w.heap.size 1 (some ⟨g, 0, none⟩) xs.length (xs.map Value.string) := Rd.of_own h
    have hj2 : j < xs.length := (List.getElem?_eq_some_iff.1 hx).1
    obtain ⟨ad, ea, _, hc⟩ := hrd.here hn
    injection ea with ea
    subst ea
    have h2 := hc j (.string x) (by rw [List.getElem?_map, hx]; rfl)
    by_cases hj0 : j = 0
    · subst hj0; simpa [Addr.add] using h2
    · simpa [Addr.add, hj0] using h2
theorem OwnS.below {B B' : Nat} {v : Value} {xs : List ByteArray} {w w' : World} (h : OwnS B v xs w) (hb : Below B' w w') (hB : w.heap.size ≤ B') : OwnS B v xs w' := by
  refine ⟨h.1, ?_⟩
  rcases h.2 with hv | ⟨g, cap, cur, hv, hg, hh, r⟩
  · exact .inl hv
  · exact .inr ⟨g, cap, cur, hv, hg, (hb.block g (by have := (Array.getElem?_eq_some_iff.1 hh).1; omega)).trans hh, r⟩
/-- strings.Join over a row of one's own, by a blank -/
theorem sjoin_any (xs : List ByteArray) (ws : List (List UInt8)) (hx : xs.map (fun x => x.data.toList) = ws.map Sp.wordW) (B : Nat) (v : Value) (w : World) (hr : OwnS B v xs w) (hn : xs.length ≤ 100) (hM : ∀ l ∈ ws, l.length ≤ 1048576) :
    Calls Tryz.prog 60 #[v, .string ⟨#[32]⟩] w fun e w' => e = .returned (.string ⟨(Sp.joinS ws).toArray⟩) ∧ Below w.heap.size w w' := by
  have hlen : ws.length = xs.length := by have := congrArg List.length hx; simpa using this.symm
  by_cases h0 : xs.length = 0
  · have hl : ws = [] := List.eq_nil_of_length_eq_zero (by omega)
    subst hl
    obtain ⟨A, c, rfl⟩ := hr.form
    rw [h0]
    refine (Tryz.strings_Join_none A c ⟨#[32]⟩ w).mono ?_
    rintro e w' ⟨rfl, rfl⟩
    exact ⟨rfl, Below.refl _ _⟩
  · obtain ⟨g, c, rfl, ⟨_, hg⟩, hc, hcell⟩ := hr.cells (by omega)
    have hj : (Lib.join (xs.map (·.data.toList)) [32]) = Sp.joinS ws := by rw [hx, Sp.joinS_eq]
    have hjl := Sp.joinS_len 1048576 ws hM
    have h := Tryz.strings_Join g 0 c xs ⟨#[32]⟩ w (fun j x hx => by rw [Nat.zero_add]; exact hcell j x hx) hg (by omega) hc (by
      rw [show (⟨#[32]⟩ : ByteArray).data.toList = [32] from rfl, hj]
      have : ws.length * (4 * 1048576 + 3) ≤ 100 * (4 * 1048576 + 3) := Nat.mul_le_mul_right _ (by omega)
      omega)
    rw [show (⟨#[32]⟩ : ByteArray).data.toList = [32] from rfl, hj] at h
    exact h

set_option maxHeartbeats 4000000 in
set_option maxRecDepth 100000 in
theorem join_any (xs : List ByteArray) (B : Nat) (v : Value) (w : World) (hr : OwnS B v xs w) (hn : xs.length ≤ 1000) (hM : ∀ x ∈ xs, x.size ≤ 1048576) (J : ByteArray) (hJ : J.data.toList = Sp.joinC (xs.map fun x => x.data.toList)) :
    Calls Tryz.prog 31 #[v] w fun e w' => e = .returned (.string J) ∧ Below w.heap.size w w' := by
  obtain ⟨i0, hi, hz0, hz1, hz2⟩ := info_parts str_info
  obtain ⟨A, cp, rfl⟩ := hr.form
  by_cases h32 : 32 < xs.length
  · have t32 : (32 : Int) < (xs.length : Int) := by omega
    have e : J = ⟨#[]⟩ := by
      apply WideShapes.bytes_inj
      rw [hJ, Sp.joinC, if_pos (by rw [List.length_map]; exact h32)]
    subst e
    clear hJ h32
    go_enter Tryz.func31, Tryz.ntmps31
    go_wp2
    go_ret
    exact ⟨rfl, Below.refl _ _⟩
  · have t32 : ¬ (32 : Int) < (xs.length : Int) := by omega
    have hl32 : xs.length ≤ 32 := by omega
    have HJ : Hid (J.data.toList = if (xs.map fun x => x.data.toList).any Sp.hasZero = true then [] else Sp.joinS (xs.map fun x => x.data.toList)) := Lib.hid (by
      rw [hJ, Sp.joinC, if_neg (by rw [List.length_map]; exact h32)])
    have HR := Lib.hid hr
    have HM := Lib.hid hM
    have HTK : Hid (∀ k (h : k < xs.length), xs.take (k + 1) = xs.take k ++ [xs[k]]) := Lib.hid (fun k h => List.take_succ_eq_append_getElem h)
    clear hJ h32 hr hM
    go_enter Tryz.func31, Tryz.ntmps31
    go_wp2_with fail
    go_loopw [3, 11] (fun ov iv wr => ∃ (k : Nat) (ys : List ByteArray), (k ≤ xs.length ∧ ys.length = k) ∧ iv = .int .i64 k ∧ Hid (Below w.heap.size w wr ∧ OwnS w.heap.size ov ys wr) ∧ Hid (ys.map (fun x => x.data.toList) = ((xs.take k).map fun x => x.data.toList).map Sp.wordW) ∧ Hid (((xs.take k).map fun x => x.data.toList).any Sp.hasZero = false)) (fun _ iv _ => xs.length - (intOf iv).toNat)
    case atStart => exact ⟨0, [], ⟨Nat.zero_le _, rfl⟩, rfl, Lib.hid ⟨Below.refl _ _, World.ownsRow_nil _ _ _ _⟩, Lib.hid rfl, Lib.hid rfl⟩
    case round =>
      obtain ⟨k, ys, ⟨hk, hyk⟩, rfl, HB, HY, HZ⟩ := hrel
      obtain ⟨A2, c2, rfl⟩ := HB.out.2.form
      by_cases hlt : k < xs.length
      · obtain ⟨g, c, hv, ⟨hg1, hg2⟩, _, hcell⟩ := HR.out.cells (by omega)
        injection hv with hA hn' hc'
        subst hA
        subst hc'
        have c0 : wr.cell? ⟨g, k, none⟩ = some (.string xs[k]) := (HB.out.1.cell (p := ⟨g, k, none⟩) hg2).trans (hcell k _ (List.getElem?_eq_getElem hlt))
        have hsx := HM.out xs[k] (List.getElem_mem hlt)
        have HTK1 := Lib.hid (HTK.out k hlt)
        have HYK := Lib.hid hyk
        have hy32 : ys.length ≤ 32 := by omega
        clear hcell hyk hn'
        generalize xs[k] = x at *
        have x1 : (0 : Int) ≤ (k : Int) := by omega
        have x2 : (k : Int) < (xs.length : Int) := by omega
        have HI := Lib.hid (Tryz.strings_IndexByte x 0 wr)
        have hze := Sp.zero_index x.data.toList
        obtain ⟨iz, hiz⟩ : ∃ iz, Lib.indexByte x.data.toList 0 = iz := ⟨_, rfl⟩
        rw [hiz] at hze
        have HIZ : Hid (Lib.indexByte x.data.toList ((0 : Int).toNat).toUInt8 = iz) := Lib.hid hiz
        clear hiz
        cases hz : Sp.hasZero x.data.toList with
        | true =>
          have t0 : (0 : Int) ≤ iz := of_decide_eq_true (hze.trans hz)
          have HE : Hid (J = ⟨#[]⟩) := Lib.hid (by
            apply WideShapes.bytes_inj
            rw [HJ.out, if_pos]
            rw [← List.take_append_drop (k + 1) xs, HTK1.out, List.map_append, List.any_append, List.map_append, List.any_append]
            simp [hz])
          clear hze hz
          go_wp2_with fail
          refine HI.out.mono ?_
          rintro e w2 ⟨rfl, rfl⟩
          rw [HIZ.out]
          go_wp2
          go_ret
          exact ⟨by rw [HE.out]; rfl, HB.out.1⟩
        | false =>
          have t0 : ¬ (0 : Int) ≤ iz := of_decide_eq_false (hze.trans hz)
          have HZ2 : Hid (((xs.take (k + 1)).map fun x => x.data.toList).any Sp.hasZero = false) := Lib.hid (by
            rw [HTK1.out, List.map_append, List.any_append, HZ.out]
            simp [hz])
          clear hze hz
          cases hp : Sp.plainW x.data.toList with
          | true =>
            have HP := Lib.hid (fun wz => plainW_any x true hp wz (by omega))
            have HY2 : Hid ((ys ++ [x]).map (fun x => x.data.toList) = ((xs.take (k + 1)).map fun x => x.data.toList).map Sp.wordW) := Lib.hid (by
              rw [HTK1.out, List.map_append, List.map_append, List.map_append, HY.out]
              simp [Sp.wordW, hp])
            clear hp
            go_wp2_with fail
            refine HI.out.mono ?_
            rintro e w2 ⟨rfl, rfl⟩
            rw [HIZ.out]
            go_wp2_with fail
            refine (HP.out _).mono ?_
            rintro e w3 ⟨rfl, rfl⟩
            have hsz := HB.out.1.size
            go_wp2_with (at_builtin; refine wpList_append_own _ rfl _ _ 23 rfl w.heap.size 9 i0 (.string ⟨#[]⟩) 1 16 Tryz.underlying23 hi hz0 hz1 hz2 rfl (by decide) _ _ _ rfl (World.ownsRow.alloc HB.out.2 _) ⟨w3.heap.size, 0, none⟩ 1 1 [.string x] rfl rfl (cell_one_new _ _ _) (by simp [Value.oneCell']) (by simp only [maxLen]; omega) (by omega) (by simp; omega) ?_; intro v9 w9 hown9 hgrow9 _)
            have HO9 : Hid (OwnS w.heap.size v9 (ys ++ [x]) w9) := Lib.hid (by
              unfold OwnS
              rw [List.length_append, List.map_append]
              exact hown9)
            have HB9 := Lib.hid ((HB.out.1.alloc hsz (.cells #[.string x] 9)).grown hgrow9 (by simp; omega) (fun k hk => ((World.ownsRow.alloc HB.out.2 (.cells #[.string x] 9)).lt k hk).1))
            clear hown9 hgrow9
            go_wp2
            go_roundw
            case rel => exact ⟨k + 1, ys ++ [x], ⟨by omega, by rw [List.length_append, HYK.out]; rfl⟩, by go_num, Lib.hid ⟨HB9.out, HO9.out⟩, HY2, HZ2⟩
            case measure => simp [intOf]; omega
          | false =>
            have HP := Lib.hid (fun wz => plainW_any x false hp wz (by omega))
            have HQ := Lib.hid (fun wz => quote_any x wz (by omega))
            obtain ⟨X, hX⟩ : ∃ X : ByteArray, X = ⟨(Sp.quoteW x.data.toList).toArray⟩ := ⟨_, rfl⟩
            have HY2 : Hid ((ys ++ [X]).map (fun x => x.data.toList) = ((xs.take (k + 1)).map fun x => x.data.toList).map Sp.wordW) := Lib.hid (by
              rw [HTK1.out, List.map_append, List.map_append, List.map_append, HY.out]
              simp [Sp.wordW, hp, hX])
            rw [← hX] at HQ
            clear hp hX
            go_wp2_with fail
            refine HI.out.mono ?_
            rintro e w2 ⟨rfl, rfl⟩
            rw [HIZ.out]
            go_wp2_with fail
            refine (HP.out _).mono ?_
            rintro e w3 ⟨rfl, rfl⟩
            go_wp2_with fail
            refine (HQ.out _).mono ?_
            rintro e w4 ⟨rfl, hb4⟩
            have HB4 := Lib.hid (HB.out.1.trans (hb4.mono HB.out.1.size))
            have HO4 := Lib.hid (HB.out.2.below hb4 (Nat.le_refl _))
            have hsz := HB4.out.size
            clear hb4
            go_wp2_with (at_builtin; refine wpList_append_own _ rfl _ _ 23 rfl w.heap.size 9 i0 (.string ⟨#[]⟩) 1 16 Tryz.underlying23 hi hz0 hz1 hz2 rfl (by decide) _ _ _ rfl (World.ownsRow.alloc HO4.out _) ⟨w4.heap.size, 0, none⟩ 1 1 [.string X] rfl rfl (cell_one_new _ _ _) (by simp [Value.oneCell']) (by simp only [maxLen]; omega) (by omega) (by simp; omega) ?_; intro v9 w9 hown9 hgrow9 _)
            have HO9 : Hid (OwnS w.heap.size v9 (ys ++ [X]) w9) := Lib.hid (by
              unfold OwnS
              rw [List.length_append, List.map_append]
              exact hown9)
            have HB9 := Lib.hid ((HB4.out.alloc hsz (.cells #[.string X] 9)).grown hgrow9 (by simp; omega) (fun k hk => ((World.ownsRow.alloc HO4.out (.cells #[.string X] 9)).lt k hk).1))
            clear hown9 hgrow9
            go_wp2
            go_roundw
            case rel => exact ⟨k + 1, ys ++ [X], ⟨by omega, by rw [List.length_append, HYK.out]; rfl⟩, by go_num, Lib.hid ⟨HB9.out, HO9.out⟩, HY2, HZ2⟩
            case measure => simp [intOf]; omega
      · have hke : k = xs.length := by omega
        have x2 : ¬ (k : Int) < (xs.length : Int) := by omega
        have hta : xs.take k = xs := List.take_of_length_le (by omega)
        have HS := Lib.hid (sjoin_any ys (xs.map fun x => x.data.toList) (by rw [HY.out, hta]) w.heap.size _ wr HB.out.2 (by omega) (fun l hl => by
          obtain ⟨x, hx, rfl⟩ := List.mem_map.1 hl
          have := HM.out x hx
          simpa using this))
        have HE : Hid ((⟨(Sp.joinS (xs.map fun x => x.data.toList)).toArray⟩ : ByteArray) = J) := Lib.hid (by
          apply WideShapes.bytes_inj
          have hz := HZ.out
          rw [hta] at hz
          rw [HJ.out, hz]
          simp)
        rw [HE.out] at HS
        clear hke hta hyk
        go_wp2_with fail
        refine HS.out.mono ?_
        rintro e w2 ⟨rfl, hb2⟩
        go_wp2
        go_ret
        exact ⟨rfl, HB.out.1.trans (hb2.mono HB.out.1.size)⟩

end Go.Proofs.YtijfeeiplljnjaaGreatDoor
