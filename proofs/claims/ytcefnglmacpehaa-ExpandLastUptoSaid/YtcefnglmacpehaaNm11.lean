/-
  The walk of the reference's Unescape.
-/
import Derived.Test.YtcefnglmacpehaaNm10
import Derived.Lib.SlBytesRow
import Derived.Lib.BufferRead
import Derived.Deep.RegionLaw
import Derived.Deep.AppendLies
namespace Go.Proofs.Ytcefnglmacpehaa
open Go.RowKit

/-- a row of bytes as a text -/
theorem row_str (w : World) (B : Nat) (v : Value) (l : List UInt8) (h : w.ownsRow B 5 1 v l.length (Lib.byteCells l)) :
    (convert 40 9 v).run Try.prog w = .ok (.string ⟨l.toArray⟩) w := by
  rcases h.2 with ⟨hv, h0⟩ | ⟨g, cap, cur, hv, hB, hg, hn, hc, hs, htk⟩
  · obtain rfl : l = [] := List.eq_nil_of_length_eq_zero h0
    rw [hv]
    exact Lib.run_convert_nil_bytes w 40 9 5 0 Try.underlying40 Try.underlying5 Try.underlying9
  · have hb := Lib.bytes_of_row hg (l := l) (by simpa using htk)
    rw [hv]
    have hb2 : Lib.Bytes w g 0 ⟨l.toArray⟩ := by
      intro i h
      have h2 : i < l.length := h
      have := hb i h2
      simp only [Addr.add] at this
      have e : (ByteArray.mk l.toArray)[i] = l[i] := by simp [ByteArray.getElem_eq_getElem_data]
      rw [e, ← this]
      congr 1
      by_cases h0 : i = 0
      · simp [h0]
      · simp [h0]
    have := Lib.run_convert_whole (P := Try.prog) w 40 5 9 Try.underlying40 Try.underlying5 Try.underlying9 g 0 ⟨l.toArray⟩ hb2 cap
    exact this

theorem rhex_as (c : UInt8) (v : Int) (hv : Hid (Sp.hexR c = v)) (w : World) :
    Calls Try.prog 41 #[.int .u8 c.toNat] w fun e w' => e = .returned (.int .i64 v) ∧ w = w' := by
  have h := rhex_any c w
  rw [hv.out] at h
  exact h

theorem rhex_st (c : UInt8) (v : Int) (hv : Hid (Sp.hexR c = v)) (w : World) :
    Calls Try.prog 41 #[.int .u8 c.toNat] w fun e w' => e = .returned (.int .i64 v) ∧ w' = w :=
  (rhex_as c v hv w).mono fun _ _ ⟨h1, h2⟩ => ⟨h1, h2.symm⟩

/-- where the loop of the reference's Unescape stands -/
def RunRel (s : ByteArray) (k : Nat) (acc : List UInt8) : Prop :=
  Sp.unescL s.data.toList = (Sp.unescL (s.data.toList.drop k)).map (acc ++ ·) ∧ acc.length ≤ k

theorem RunRel.step {s : ByteArray} {k : Nat} {acc : List UInt8} (h : RunRel s k acc) (n : Nat) (c : UInt8) (hn : 1 ≤ n)
    (hu : Sp.unescL (s.data.toList.drop k) = (Sp.unescL (s.data.toList.drop (k + n))).map (c :: ·)) : RunRel s (k + n) (acc ++ [c]) := by
  refine ⟨?_, ?_⟩
  · rw [h.1, hu]
    simp only [Option.map_map]
    congr 1
    funext x
    simp
  · have := h.2
    simp; omega

theorem row_grow {w1 : World} {B : Nat} {v' : Value} {acc : List UInt8} {c : UInt8} {n : Int} (hn : n = (c.toNat : Int)) (h : w1.ownsRow B 5 1 v' (acc.length + 1) (Lib.byteCells acc ++ [.int .u8 n])) :
    w1.ownsRow B 5 1 v' (acc ++ [c]).length (Lib.byteCells (acc ++ [c])) := by
  subst hn
  have e1 : (acc ++ [c]).length = acc.length + 1 := by simp
  rw [e1, Lib.byteCells_append]
  exact h

set_option maxHeartbeats 1000000 in
set_option maxRecDepth 100000 in
theorem runescape_any (s : ByteArray) (w : World) (hs : s.size ≤ 140737488355328) :
    Calls Try.prog 23 #[.string s] w fun e w' => e = .returned (.tuple #[.string ⟨((Sp.unescL s.data.toList).getD []).toArray⟩, .bool (Sp.unescL s.data.toList).isSome]) ∧ Below w.heap.size w w' := by
  obtain ⟨i0, hi, hz0, hz1, hz2⟩ := info_parts bu_byte
  go_enter Try.func23, Try.ntmps23
  go_wp2_with fail
  go_loopw [4, 5] (fun v i wr => ∃ (k : Nat) (acc : List UInt8), k ≤ s.size ∧ i = .int .i64 k ∧ Hid (RunRel s k acc) ∧ wr.ownsRow w.heap.size 5 1 v acc.length (Lib.byteCells acc) ∧ Below w.heap.size w wr) (fun _ i _ => s.size - (intOf i).toNat)
  case atStart => exact ⟨0, [], Nat.zero_le _, rfl, Lib.hid ⟨by simp, by simp⟩, World.ownsRow_nil _ _ _ _, Below.refl _ _⟩
  case round =>
    obtain ⟨k, acc, hk, rfl, HU, hown, hb⟩ := hrel
    have hbs := hb.size
    have hac : acc.length ≤ k := HU.out.2
    match hl : s.data.toList.drop k with
    | [] =>
      have hge : ¬ k < s.size := by
        intro h
        have h1 : s.data.toList.length = s.size := by simp
        have : (s.data.toList.drop k).length = s.size - k := by rw [List.length_drop, h1]
        rw [hl] at this; simp at this; omega
      have HE : Hid (Sp.unescL s.data.toList = some acc) := Lib.hid (by rw [HU.out.1, hl]; simp [Sp.unescL])
      have hcv := row_str wr w.heap.size _ acc hown
      clear hl
      go_wp2
      go_ret2
      exact ⟨by rw [HE.out]; rfl, hb⟩
    | c :: r =>
      obtain ⟨h0, hc0⟩ := Sp.drop_at s k c r hl
      have hdr := Sp.drop_next _ _ _ _ hl
      have HC := Lib.hid hc0
      have HLR := Lib.hid hl
      have HDR := Lib.hid hdr
      clear hl hc0 hdr
      by_cases h45 : c = 45
      · have t1 : ((s[k].toNat : Int) == 45) = true := by rw [HC.out, h45]; rfl
        have HN : Hid (RunRel s (k + 1) (acc ++ [47])) := Lib.hid (HU.out.step 1 47 (by omega) (by rw [HLR.out, HDR.out, h45]; simp [Sp.unescL]))
        clear h45
        go_wp2_with (at_builtin; refine wpList_append_own _ rfl _ _ 40 rfl w.heap.size 5 i0 (.int .u8 0) 1 1 Try.underlying40 hi hz0 hz1 hz2 rfl (by decide) _ _ _ rfl (hown.alloc _) ⟨wr.heap.size, 0, none⟩ 1 1 [.int .u8 47] rfl rfl ?c1 ?c2 ?c3 ?c4 ?c5 ?_)
        case c1 => intro j u hj; match j, hj with | 0, hj => (simp at hj; subst hj; simp [Addr.add])
        case c2 => intro u hu; simp at hu; subst hu; rfl
        case c3 => unfold maxLen; omega
        case c4 => omega
        case c5 => simp; omega
        intro v' w2 hown' hgrow hx
        clear hx
        have HO := Lib.hid hown'
        have HG := Lib.hid hgrow
        clear hown' hgrow
        go_wp2
        go_roundw
        case rel => exact ⟨k + 1, _, by omega, by go_num, HN, row_grow (by decide) HO.out, (hb.alloc hbs _).grown HG.out (by simp; omega) (fun k hk => (hown.lt k hk).1)⟩
        case measure => show s.size - ((k : Int) + 1).toNat < s.size - (k : Int).toNat; omega
      · have t1 : ((s[k].toNat : Int) == 45) = false := Sp.at_ne s k h0 45 (by rw [HC.out]; exact h45)
        cases hkp : Sp.kept c
        · have HK : Hid (Sp.kept s[k] = false) := Lib.hid (by rw [HC.out]; exact hkp)
          have hsl : s.data.toList.length = s.size := by simp
          have hdl : (s.data.toList.drop k).length = s.size - k := by rw [List.length_drop, hsl]
          rw [HLR.out, List.length_cons] at hdl
          rcases Sp.unesc_split c r h45 hkp with ⟨a, b, r2, e92, er, ha, hb16, hu⟩ | ⟨hu, hcase⟩
          · have hl3 : k + 4 ≤ s.size := by rw [er] at hdl; simp at hdl; omega
            have hd1 : s.data.toList.drop (k + 1) = 120 :: a :: b :: r2 := by rw [HDR.out, er]
            have hd2 := Sp.drop_next _ _ _ _ hd1
            have hd3 := Sp.drop_next _ _ _ _ hd2
            have hd4 := Sp.drop_next _ _ _ _ hd3
            obtain ⟨q1, p1⟩ := Sp.drop_at s _ _ _ hd1
            obtain ⟨q2, p2⟩ := Sp.drop_at s _ _ _ hd2
            obtain ⟨q3, p3⟩ := Sp.drop_at s _ _ _ hd3
            obtain ⟨va, ea, la, ga⟩ := Sp.hexR_yes a ha
            obtain ⟨vb, eb, lb, gb⟩ := Sp.hexR_yes b hb16
            have t2 : ((s[k].toNat : Int) == 92) = true := by rw [HC.out, e92]; rfl
            have t3 : (4 : Int) ≤ (s.size : Int) - (k : Int) := by omega
            have t4 : ((s[k + 1].toNat : Int) == 120) = true := by rw [p1]; rfl
            have HA : Hid (Sp.hexR s[k + 1 + 1] = va) := Lib.hid (by rw [p2]; exact ea)
            have HB : Hid (Sp.hexR s[k + 1 + 1 + 1] = vb) := Lib.hid (by rw [p3]; exact eb)
            have HN : Hid (RunRel s (k + 4) (acc ++ [Sp.twoB a b])) := Lib.hid (HU.out.step 4 (Sp.twoB a b) (by omega) (by rw [HLR.out, hd4]; exact hu))
            have HT : Hid (((Sp.twoB a b).toNat : Int) = 16 * (va : Int) + vb) := Lib.hid (by unfold Sp.twoB; rw [ga, gb]; simp; omega)
            have x1 : (0 : Int) ≤ (k : Int) + 1 := by omega
            have x2 : (k : Int) + 3 < (s.size : Int) := by omega
            have x3 : (k : Int) + 2 < (s.size : Int) := by omega
            have x4 : (k : Int) + 1 < (s.size : Int) := by omega
            have x5 : ((k : Int) + 1).toNat = k + 1 := by omega
            have x6 : ((k : Int) + 2).toNat = k + 1 + 1 := by omega
            have x7 : ((k : Int) + 3).toNat = k + 1 + 1 + 1 := by omega
            clear h45 hkp hdl hsl e92 er ha hb16 hu hd1 hd2 hd3 hd4 p1 p2 p3 ea eb ga gb
            go_wp2_with (go_at_call 40; refine (rplain_any _ _).mono ?_; rintro e w2 ⟨rfl, rfl⟩; rw [HK.out])
            refine (rhex_as _ _ HA _).mono ?_
            rintro e w2 ⟨rfl, rfl⟩
            go_wp2_with fail
            refine (rhex_as _ _ HB _).mono ?_
            rintro e w2 ⟨rfl, rfl⟩
            go_wp2_with fail
            have y1 : IntKind.i64.wrap ((k : Int) + 2) = (k : Int) + 2 := IntWalk.i64_in _ (by omega)
            have y2 : IntKind.i64.wrap ((k : Int) + 3) = (k : Int) + 3 := IntWalk.i64_in _ (by omega)
            have y3 : IntKind.i64.wrap (16 * (va : Int)) = 16 * (va : Int) := IntWalk.i64_in _ (by omega)
            have y4 : IntKind.i64.wrap (16 * (va : Int) + (vb : Int)) = 16 * (va : Int) + (vb : Int) := IntWalk.i64_in _ (by omega)
            have y5 : (0 : Int) ≤ (k : Int) + 2 := by omega
            have y6 : (0 : Int) ≤ (k : Int) + 3 := by omega
            have y7 : IntKind.u8.wrap (16 * (va : Int) + (vb : Int)) = 16 * (va : Int) + (vb : Int) := by
              have := Sp.wrap_u8 (16 * va + vb) (by omega)
              simpa using this
            have hown2 : ((wr.alloc (.cells #[.int .u8 (16 * (va : Int) + (vb : Int))] 5)).drew).ownsRow w.heap.size 5 1 u4 acc.length (Lib.byteCells acc) := hown.alloc _
            have hcell : ∀ j u, [Value.int .u8 (16 * (va : Int) + (vb : Int))][j]? = some u → ((wr.alloc (.cells #[.int .u8 (16 * (va : Int) + (vb : Int))] 5)).drew).cell? ((⟨wr.heap.size, 0, none⟩ : Addr).add j) = some u := by
              intro j u hj
              match j, hj with
              | 0, hj => simp at hj; subst hj; simp [Addr.add]
            have ha1 := HA.out
            have ha2 := HB.out
            have HO := Lib.hid hown2
            have HCL := Lib.hid hcell
            clear hown2 hcell
            go_region_law (first
              | (refine step_append_lies _ rfl _ _ 40 rfl w.heap.size 5 i0 (.int .u8 0) 1 1 Try.underlying40 hi hz0 hz1 hz2 rfl (by decide) _ _ _ rfl HO.out ⟨wr.heap.size, 0, none⟩ 1 1 [.int .u8 (16 * (va : Int) + (vb : Int))] rfl rfl HCL.out (by intro u hu; simp at hu; subst hu; rfl) (by decide) (by unfold maxLen; omega) (by omega) (by simp; omega) _ rfl ?_; intro g cap w2 hown' hgrow hx hlt; clear hx)
              | (go_simp; go_at_call 41; refine (rhex_any _ _).mono ?_; rintro e w2 ⟨rfl, rfl⟩))
            all_goals
              have hg2 : World.grownBy _ w2 u4.ownBlock := hgrow
              have HO2 := Lib.hid hown'
              have HG := Lib.hid hg2
              clear hown' hgrow hg2 hlt
              go_wp2
              go_roundw
              case rel => exact ⟨k + 4, _, by omega, by go_num, HN, row_grow HT.out.symm HO2.out, ((hb.alloc hbs _).drew).grown HG.out (by simp; omega) (fun j hj => (hown.lt j hj).1)⟩
              case measure => show s.size - ((k : Int) + 3 + 1).toNat < s.size - (k : Int).toNat; omega
          · have HE : Hid (Sp.unescL s.data.toList = none) := Lib.hid (by rw [HU.out.1, HLR.out, hu]; rfl)
            rcases hcase with h92 | ⟨e92, hr3⟩ | ⟨x, a, b, r2, e92, er, hx⟩
            · have t2 : ((s[k].toNat : Int) == 92) = false := Sp.at_ne s k h0 92 (by rw [HC.out]; exact h92)
              clear h45 hkp hdl hsl hu h92
              go_wp2_with (go_at_call 40; refine (rplain_any _ _).mono ?_; rintro e w2 ⟨rfl, rfl⟩; rw [HK.out])
              go_ret2
              exact ⟨by rw [HE.out]; rfl, hb⟩
            · have t2 : ((s[k].toNat : Int) == 92) = true := by rw [HC.out, e92]; rfl
              have t3 : (s.size : Int) - (k : Int) < 4 := by omega
              clear h45 hkp hdl hsl hu e92 hr3
              go_wp2_with (go_at_call 40; refine (rplain_any _ _).mono ?_; rintro e w2 ⟨rfl, rfl⟩; rw [HK.out])
              go_ret2
              exact ⟨by rw [HE.out]; rfl, hb⟩
            · have hl3 : k + 4 ≤ s.size := by rw [er] at hdl; simp at hdl; omega
              have hd1 : s.data.toList.drop (k + 1) = x :: a :: b :: r2 := by rw [HDR.out, er]
              have hd2 := Sp.drop_next _ _ _ _ hd1
              have hd3 := Sp.drop_next _ _ _ _ hd2
              obtain ⟨q1, p1⟩ := Sp.drop_at s _ _ _ hd1
              obtain ⟨q2, p2⟩ := Sp.drop_at s _ _ _ hd2
              obtain ⟨q3, p3⟩ := Sp.drop_at s _ _ _ hd3
              have t2 : ((s[k].toNat : Int) == 92) = true := by rw [HC.out, e92]; rfl
              have t3 : (4 : Int) ≤ (s.size : Int) - (k : Int) := by omega
              have x1 : (0 : Int) ≤ (k : Int) + 1 := by omega
              have x2 : (k : Int) + 3 < (s.size : Int) := by omega
              have x3 : (k : Int) + 2 < (s.size : Int) := by omega
              have x4 : (k : Int) + 1 < (s.size : Int) := by omega
              have x5 : ((k : Int) + 1).toNat = k + 1 := by omega
              have x6 : ((k : Int) + 2).toNat = k + 1 + 1 := by omega
              have x7 : ((k : Int) + 3).toNat = k + 1 + 1 + 1 := by omega
              have P1 := Lib.hid p1
              have P2 := Lib.hid p2
              have P3 := Lib.hid p3
              clear h45 hkp hdl hsl hu e92 er hd1 hd2 hd3 p1 p2 p3
              rcases hx with hx | ⟨hx, ha⟩ | ⟨hx, ha, hb16⟩
              · have t4 : ((s[k + 1].toNat : Int) == 120) = false := Sp.at_ne s (k + 1) q1 120 (by rw [P1.out]; exact hx)
                clear hx
                go_wp2_with (go_at_call 40; refine (rplain_any _ _).mono ?_; rintro e w2 ⟨rfl, rfl⟩; rw [HK.out])
                go_ret2
                exact ⟨by rw [HE.out]; rfl, hb⟩
              · have t4 : ((s[k + 1].toNat : Int) == 120) = true := by rw [P1.out, hx]; rfl
                have HA : Hid (Sp.hexR s[k + 1 + 1] = 16) := Lib.hid (by rw [P2.out]; exact Sp.hexR_no a ha)
                clear hx ha
                go_wp2_with (go_at_call 40; refine (rplain_any _ _).mono ?_; rintro e w2 ⟨rfl, rfl⟩; rw [HK.out])
                refine (rhex_as _ _ HA _).mono ?_
                rintro e w2 ⟨rfl, rfl⟩
                go_wp2_with fail
                go_ret2
                exact ⟨by rw [HE.out]; rfl, hb⟩
              · have t4 : ((s[k + 1].toNat : Int) == 120) = true := by rw [P1.out, hx]; rfl
                obtain ⟨va, ea, la, ga⟩ := Sp.hexR_yes a ha
                have HA : Hid (Sp.hexR s[k + 1 + 1] = va) := Lib.hid (by rw [P2.out]; exact ea)
                have HB : Hid (Sp.hexR s[k + 1 + 1 + 1] = 16) := Lib.hid (by rw [P3.out]; exact Sp.hexR_no b hb16)
                clear hx ha hb16 ea ga
                go_wp2_with (go_at_call 40; refine (rplain_any _ _).mono ?_; rintro e w2 ⟨rfl, rfl⟩; rw [HK.out])
                refine (rhex_as _ _ HA _).mono ?_
                rintro e w2 ⟨rfl, rfl⟩
                go_wp2_with fail
                refine (rhex_as _ _ HB _).mono ?_
                rintro e w2 ⟨rfl, rfl⟩
                go_wp2_with fail
                go_ret2
                exact ⟨by rw [HE.out]; rfl, hb⟩
        · have HK : Hid (Sp.kept s[k] = true) := Lib.hid (by rw [HC.out]; exact hkp)
          have HN : Hid (RunRel s (k + 1) (acc ++ [s[k]])) := Lib.hid (HU.out.step 1 s[k] (by omega) (by rw [HLR.out, HDR.out, HC.out, Sp.unesc_kept c r h45 hkp]))
          clear h45 hkp
          go_wp2_with (first
            | (go_at_call 40; refine (rplain_any _ _).mono ?_; rintro e w2 ⟨rfl, rfl⟩; rw [HK.out])
            | (at_builtin; refine wpList_append_own _ rfl _ _ 40 rfl w.heap.size 5 i0 (.int .u8 0) 1 1 Try.underlying40 hi hz0 hz1 hz2 rfl (by decide) _ _ _ rfl (hown.alloc _) ⟨wr.heap.size, 0, none⟩ 1 1 [.int .u8 s[k].toNat] rfl rfl ?c1 ?c2 ?c3 ?c4 ?c5 ?_))
          case c1 => intro j u hj; match j, hj with | 0, hj => (simp at hj; subst hj; simp [Addr.add])
          case c2 => intro u hu; simp at hu; subst hu; rfl
          case c3 => unfold maxLen; omega
          case c4 => omega
          case c5 => simp; omega
          intro v' w2 hown' hgrow hx
          clear hx
          have HO := Lib.hid hown'
          have HG := Lib.hid hgrow
          clear hown' hgrow
          go_wp2
          go_roundw
          case rel => exact ⟨k + 1, _, by omega, by go_num, HN, row_grow rfl HO.out, (hb.alloc hbs _).grown HG.out (by simp; omega) (fun k hk => (hown.lt k hk).1)⟩
          case measure => show s.size - ((k : Int) + 1).toNat < s.size - (k : Int).toNat; omega

end Go.Proofs.Ytcefnglmacpehaa
