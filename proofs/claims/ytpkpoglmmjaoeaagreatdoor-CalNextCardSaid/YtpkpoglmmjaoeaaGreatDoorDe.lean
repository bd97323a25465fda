/-
  strings.SplitSeq at a byte: the iterator's contract.
-/
import Derived.Test.YtpkpoglmmjaoeaaGreatDoorDc
import Derived.Lib.IndexLaws
namespace Go.Proofs.YtpkpoglmmjaoeaaGreatDoor
open Go.RowKit Go.Shelf
attribute [local go_sem] Oper.semAt_some

namespace Sp
theorem split_none (c : UInt8) (l : List UInt8) (h : Lib.indexByte l c = -1) : splitC c l = [l] := split_one c l fun x hx e => by
  obtain ⟨k, hk⟩ := List.mem_iff_getElem?.1 hx
  exact Lib.indexByte_none h k (by rw [hk, e])
theorem split_at (c : UInt8) (l : List UInt8) (o : Nat) (h : Lib.indexByte l c = o) : o < l.length ∧ splitC c l = l.take o :: splitC c (l.drop (o + 1)) := by
  obtain ⟨h1, h2⟩ := Lib.indexByte_some h
  obtain ⟨hlt, he⟩ := List.getElem?_eq_some_iff.1 h1
  refine ⟨hlt, ?_⟩
  have e : l = l.take o ++ c :: l.drop (o + 1) := by
    rw [← he, List.getElem_cons_drop, List.take_append_drop]
  conv => lhs; rw [e]
  refine split_hit c _ _ fun x hx ex => ?_
  obtain ⟨k, hk⟩ := List.mem_iff_getElem?.1 hx
  rw [List.getElem?_take] at hk
  split at hk
  · rename_i hko
    exact h2 k hko (by rw [hk, ex])
  · cases hk
end Sp
theorem bytes_size (s : ByteArray) : s.data.toList.length = s.size := by rw [Array.length_toList]; rfl
theorem ext_take (s : ByteArray) (o : Nat) : (s.extract 0 o).data.toList = s.data.toList.take o := by
  simp [ByteArray.data_extract]
theorem ext_drop (s : ByteArray) (o : Nat) : (s.extract o s.size).data.toList = s.data.toList.drop o := by
  have := bytes_size s
  simp only [ByteArray.data_extract, Array.toList_extract, List.extract]
  rw [List.take_of_length_le]
  rw [List.length_drop, this]
  exact Nat.le_refl _
def txtAt (b : Nat) (W : World) : Nat := match W.cell? ⟨b, 0, none⟩ with
  | some (.string r) => r.size
  | _ => 0
theorem txtAt_of {b : Nat} {W : World} {s : ByteArray} (h : W.cell? ⟨b, 0, none⟩ = some (.string s)) : txtAt b W = s.size := by unfold txtAt; rw [h]
set_option maxRecDepth 100000 in
set_option maxHeartbeats 4000000 in
theorem splitSeq1_seq (n : Nat) (hn : 2 ≤ n) (bp bs bv : Nat) (c : UInt8) (s : ByteArray) (hsz : s.size ≤ 9223372036854775806) (w : World) (hbp : bp < w.heap.size) (hbs : bs < w.heap.size) (hbv : bv < w.heap.size) (hd1 : bp ≠ bs) (hd2 : bv ≠ bs)
    (hp : Boxed w bp 9 (.string ⟨#[c]⟩)) (hb : Boxed w bs 9 (.string s)) (hv : Boxed w bv 3 (.int .i64 0)) :
    SeqGen n Tryz.prog 84 #[.pointer (some ⟨bp, 0, none⟩), .pointer (some ⟨bs, 0, none⟩), .pointer (some ⟨bv, 0, none⟩)] (fun x : ByteArray => #[.string x])
      (fun xs => xs.map (fun x => x.data.toList) = Sp.splitC c s.data.toList) (fun pre => pre.map (fun x => x.data.toList) <+: Sp.splitC c s.data.toList) (fun pre x => (pre ++ [x]).map (fun x => x.data.toList) <+: Sp.splitC c s.data.toList)
      (fun X Y => ∃ v, Y = X.setCell ⟨bs, 0, none⟩ (.string v)) (fun _ A B => ∀ b, b = bp ∨ b = bs ∨ b = bv → B.heap[b]? = A.heap[b]?) w := by
  intro l J Jx W hl hlW hW hJ hJa hJx hY h0
  have h1n : 1 ≤ n := by omega
  have hpW : Boxed W bp 9 (.string ⟨#[c]⟩) := Boxed.below hp hW hbp
  have hbW : Boxed W bs 9 (.string s) := Boxed.below hb hW hbs
  have hvW : Boxed W bv 3 (.int .i64 0) := Boxed.below hv hW hbv
  have cp0 := hpW.cell
  have HY := Lib.hid hY
  have HJA := Lib.hid hJa
  have H0 := Lib.hid h0
  clear hp hb hv hY hJa hJ hJx h0
  refine callsIn_of_wp Tryz.func84 rfl trivial ?_ rfl
  simp only [Tryz.ntmps84, List.size_toArray, List.length_cons, List.length_nil, Nat.reduceAdd, Nat.reduceSub, Array.replicate_succ, Array.replicate_zero, List.push_toArray, List.append_toArray, List.nil_append, List.cons_append]
  gi_wp2_with fail
  gi_loopw [7] (fun _ wr => ∃ (pre : List ByteArray) (r : ByteArray), (Boxed wr bp 9 (.string ⟨#[c]⟩) ∧ Boxed wr bs 9 (.string r) ∧ Boxed wr bv 3 (.int .i64 0)) ∧ r.size ≤ s.size ∧ Hid (pre.map (fun x => x.data.toList) ++ Sp.splitC c r.data.toList = Sp.splitC c s.data.toList) ∧ Hid (J pre wr)) (fun _ wr => txtAt bs wr)
  case atStart => exact ⟨[], s, ⟨hpW, hbW, hvW⟩, Nat.le_refl _, Lib.hid rfl, H0⟩
  case round =>
    obtain ⟨pre, r, ⟨xp, xb, xv⟩, hrs, hsp, HJ⟩ := hrel
    have dp := xp.cell
    have db := xb.cell
    have fb := xb.frozen
    have dv := xv.cell
    have hlen := bytes_size r
    have hix := Lib.indexByte_ge r.data.toList c
    have HN := Lib.hid (Sp.split_none c r.data.toList)
    have HA := Lib.hid (Sp.split_at c r.data.toList)
    have HIX := Lib.hid (Tryz.strings_Index_one r c wr)
    have HMS := Lib.hid (txtAt_of db)
    generalize hi : Lib.indexByte r.data.toList c = ix at *
    clear hi
    by_cases hneg : ix < 0
    · have hsp1 : Hid ((pre ++ [r]).map (fun x => x.data.toList) = Sp.splitC c s.data.toList) := Lib.hid (by rw [← hsp.out, HN.out (by omega)]; simp)
      obtain ⟨fn, tmps, assign, body, hy, hR⟩ := HY.out pre r wr HJ.out (by rw [hsp1.out]; exact List.prefix_rfl)
      have HR := Lib.hid hR
      clear hR
      gi_wp2_with fail
      refine ⟨trivial, (callsIn_wide.2 HIX.out).mono ?_⟩
      rintro e w2 ⟨rfl, rfl⟩
      gi_wp2
      refine HR.out.mono ?_
      rintro e W3 (⟨rfl, hJ3, hk3⟩ | ⟨rfl, hJx3, _⟩)
      · have HJ3 := Lib.hid hJ3
        clear hJ3 hk3
        gi_wp2
        go_end0
        exact ⟨⟨_, rfl⟩, .inl ⟨_, hsp1.out, HJ3.out⟩⟩
      · have HJ3 := Lib.hid hJx3
        clear hJx3
        gi_wp2
        go_end0
        exact ⟨⟨_, rfl⟩, .inr ⟨_, by rw [hsp1.out]; exact List.prefix_rfl, HJ3.out⟩⟩
    · obtain ⟨o, rfl⟩ : ∃ o : Nat, ix = o := ⟨ix.toNat, by omega⟩
      obtain ⟨ho, hsplit⟩ := HA.out o rfl
      rw [hlen] at ho
      have HSP := Lib.hid hsplit
      have hno : ¬ ((o : Int) < 0) := by omega
      have v1 : IntKind.i64.wrap ((o : Int) + 0) = (o : Int) := by rw [IntKind.wrap_i64]; omega
      have v2 : IntKind.i64.wrap ((o : Int) + 1) = ((o + 1 : Nat) : Int) := by rw [IntKind.wrap_i64]; omega
      have hfr := Lib.hid (ext_take r o)
      have hre := Lib.hid (ext_drop r (o + 1))
      have hresz : (r.extract (o + 1) r.size).size = r.size - (o + 1) := by simp
      have HPX : Hid ((pre ++ [r.extract 0 o]).map (fun x => x.data.toList) <+: Sp.splitC c s.data.toList) := Lib.hid (by
        rw [← hsp.out, HSP.out, List.map_append]
        refine (List.prefix_append_right_inj _).2 ?_
        simp)
      obtain ⟨fn, tmps, assign, body, hy, hR⟩ := HY.out pre (r.extract 0 o) wr HJ.out HPX.out
      have HR := Lib.hid hR
      clear hR hsplit hneg
      gi_wp2_with fail
      refine ⟨trivial, (callsIn_wide.2 HIX.out).mono ?_⟩
      rintro e w2 ⟨rfl, rfl⟩
      gi_wp2
      refine HR.out.mono ?_
      rintro e W3 (⟨rfl, hJ3, hk3⟩ | ⟨rfl, hJx3, _⟩)
      · have HJ3 := Lib.hid hJ3
        have yp : Boxed W3 bp 9 (.string ⟨#[c]⟩) := (hk3 bp (.inl rfl)).trans xp
        have yb : Boxed W3 bs 9 (.string r) := (hk3 bs (.inr (.inl rfl))).trans xb
        have yv : Boxed W3 bv 3 (.int .i64 0) := (hk3 bv (.inr (.inr rfl))).trans xv
        have ep := yp.cell
        have eb := yb.cell
        have gb := yb.frozen
        clear hJ3 hk3
        gi_wp2
        go_roundw
        case rel =>
          refine ⟨pre ++ [r.extract 0 o], r.extract (o + 1) r.size, ⟨yp.other hd1 _, yb.set _, yv.other hd2 _⟩, by omega, Lib.hid ?_, Lib.hid (HJA.out _ _ _ HJ3.out ⟨_, rfl⟩)⟩
          rw [← hsp.out, HSP.out, List.map_append, List.append_assoc, hre.out]
          simp
        case measure =>
          rw [HMS.out, txtAt_of (yb.set _).cell]
          omega
      · have HJ3 := Lib.hid hJx3
        clear hJx3
        gi_wp2
        refine bodyPost_ret (results_none rfl _ _ _) rfl ?_
        exact ⟨⟨_, rfl⟩, .inr ⟨_, HPX.out, HJ3.out⟩⟩
/-- strings.SplitSeq at a byte: three boxes, the function value captures them -/
theorem splitSeq_any (s p : ByteArray) (w : World) :
    Calls Tryz.prog 53 #[.string s, .string p] w fun e w' => e = .returned (.func (.func 84) #[] #[.pointer (some ⟨w.heap.size + 1, 0, none⟩), .pointer (some ⟨w.heap.size, 0, none⟩), .pointer (some ⟨w.heap.size + 2, 0, none⟩)]) ∧ w' = ((w.alloc (.cells #[.string s] 9)).alloc (.cells #[.string p] 9)).alloc (.cells #[.int .i64 0] 3) := by
  have h1 : ∀ w, Calls Tryz.prog 74 #[.string s, .string p, .int .i64 0] w fun e w' => e = .returned (.func (.func 84) #[] #[.pointer (some ⟨w.heap.size + 1, 0, none⟩), .pointer (some ⟨w.heap.size, 0, none⟩), .pointer (some ⟨w.heap.size + 2, 0, none⟩)]) ∧ w' = ((w.alloc (.cells #[.string s] 9)).alloc (.cells #[.string p] 9)).alloc (.cells #[.int .i64 0] 3) := fun w => by
    go_enter Tryz.func74, Tryz.ntmps74
    go_wp2
    go_ret
    exact ⟨by simp, rfl⟩
  go_enter Tryz.func53, Tryz.ntmps53
  go_wp2_with fail
  refine (h1 _).mono ?_
  rintro e w' ⟨rfl, rfl⟩
  go_wp2
  go_ret
  exact ⟨rfl, rfl⟩

end Go.Proofs.YtpkpoglmmjaoeaaGreatDoor
