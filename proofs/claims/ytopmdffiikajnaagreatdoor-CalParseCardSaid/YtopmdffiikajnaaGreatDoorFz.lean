/-
  The reference: number, short, points, split, part, parts, days, and what Parse's walk holds.
-/
import Derived.Test.YtopmdffiikajnaaGreatDoorEc
import Derived.Test.YtopmdffiikajnaaGreatDoorDf
import Derived.Test.YtopmdffiikajnaaGreatDoorDj
import Derived.Test.YtopmdffiikajnaaGreatDoorDi
import Derived.Test.YtopmdffiikajnaaGreatDoorGa
import Derived.Test.YtopmdffiikajnaaGreatDoorDl
import Derived.Test.YtopmdffiikajnaaGreatDoorQg
import Derived.Test.YtopmdffiikajnaaGreatDoorDo
import Derived.Test.YtopmdffiikajnaaGreatDoorDn
import Derived.Test.YtopmdffiikajnaaGreatDoorCh
import Derived.Laws.CopyOwn
import Derived.Test.YtopmdffiikajnaaGreatDoorQr
namespace Go.Proofs.YtopmdffiikajnaaGreatDoor
section
open Go.RowKit Go.Shelf

namespace Sp
def numI (l : List UInt8) : Int := match numC l with
  | some v => v
  | none => -1
theorem numI_bad (l : List UInt8) (h : l.length < 1 ∨ 4 < l.length) : numI l = -1 := by
  unfold numI numC
  rw [if_neg (by omega)]
theorem numI_not (s : ByteArray) (k : Nat) (h : k < s.size) (hb : digC s[k] = false) : numI s.data.toList = -1 := by
  have := all_false s k h hb
  unfold allD at this
  unfold numI numC
  rw [this, if_neg (by simp)]
theorem numI_yes (l : List UInt8) (h1 : 1 ≤ l.length) (h4 : l.length ≤ 4) (ha : allD l = true) : numI l = (valC l : Int) := by
  unfold numI numC
  unfold allD at ha
  rw [ha, if_pos ⟨h1, h4, rfl⟩]
theorem val_next (s : ByteArray) (k : Nat) (h : k < s.size) : valC (s.data.toList.take (k + 1)) = 10 * valC (s.data.toList.take k) + (s[k].toNat - 48) := by
  have hl : k < s.data.toList.length := by rw [bytes_size]; exact h
  rw [List.take_succ_eq_append_getElem hl, valC_snoc]
  rfl
end Sp
set_option maxHeartbeats 400000 in
theorem rdigit_any (c : UInt8) (w : World) :
    Calls Tryz.prog 115 #[.int .u8 c.toNat] w fun e w' => e = .returned (.bool (Sp.digC c)) ∧ w = w' := by
  go_enter Tryz.func115, Tryz.ntmps115
  go_wp2
  all_goals
    go_ret
    exact ⟨ret_bool (by rw [Bool.eq_iff_iff]; simp [Sp.digC]; omega), rfl⟩
set_option maxRecDepth 100000 in
set_option maxHeartbeats 4000000 in
theorem rnumber_any (s : ByteArray) (w : World) (hs : s.size ≤ 9223372036854775807) :
    Calls Tryz.prog 99 #[.string s] w fun e w' => e = .returned (.int .i64 (Sp.numI s.data.toList)) ∧ w = w' := by
  have hz := bytes_size s
  have HBAD := Lib.hid (Sp.numI_bad s.data.toList)
  have HNOT := Lib.hid (Sp.numI_not s)
  have HYES := Lib.hid (Sp.numI_yes s.data.toList)
  have HAN := Lib.hid (Sp.all_next s)
  have HVN := Lib.hid (Sp.val_next s)
  have HTK : Hid (s.data.toList.take s.size = s.data.toList) := Lib.hid (List.take_of_length_le (by omega))
  have HZ := Lib.hid hz
  clear hz
  by_cases h1 : s.size < 1
  · have x1 : (s.size : Int) < 1 := by omega
    have HR := Lib.hid (HBAD.out (.inl (by rw [HZ.out]; exact h1)))
    go_enter Tryz.func99, Tryz.ntmps99
    go_wp2
    go_ret
    exact ⟨by rw [HR.out]; rfl, rfl⟩
  · have x1 : ¬ (s.size : Int) < 1 := by omega
    by_cases h4 : 4 < s.size
    · have x4 : 4 < (s.size : Int) := by omega
      have HR := Lib.hid (HBAD.out (.inr (by rw [HZ.out]; exact h4)))
      go_enter Tryz.func99, Tryz.ntmps99
      go_wp2
      go_ret
      exact ⟨by rw [HR.out]; rfl, rfl⟩
    · have x4 : ¬ 4 < (s.size : Int) := by omega
      go_enter Tryz.func99, Tryz.ntmps99
      go_wp2_with fail
      go_loop [3, 4] (fun n i => ∃ (k v : Nat), k ≤ s.size ∧ i = .int .i64 k ∧ n = .int .i64 v ∧ v < 10 ^ k ∧ Hid (v = Sp.valC (s.data.toList.take k)) ∧ Hid (Sp.allD (s.data.toList.take k) = true)) (fun _ i => s.size - (intOf i).toNat)
      case atStart => exact ⟨0, 0, Nat.zero_le _, rfl, rfl, by decide, Lib.hid rfl, Lib.hid rfl⟩
      case round =>
        obtain ⟨k, v, hk, rfl, rfl, hv, HV, HA⟩ := hrel
        have hpow : 10 ^ k ≤ 10 ^ 4 := Nat.pow_le_pow_right (by decide) (by omega)
        have hv10 : v < 10000 := Nat.lt_of_lt_of_le hv hpow
        clear hpow
        by_cases hlt : k < s.size
        · have HDG := Lib.hid (rdigit_any s[k] w)
          cases hb : Sp.digC s[k] with
          | false =>
            have HR := Lib.hid (HNOT.out k hlt hb)
            rw [hb] at HDG
            clear hb hv
            go_wp2_with fail
            refine HDG.out.mono ?_
            rintro e w' ⟨rfl, rfl⟩
            go_wp2
            go_ret
            exact ⟨by rw [HR.out]; rfl, rfl⟩
          | true =>
            have hdv : 48 ≤ s[k].toNat ∧ s[k].toNat ≤ 57 := by simpa [Sp.digC] using hb
            have HVV := Lib.hid (HVN.out k hlt)
            have HAA := Lib.hid (HAN.out k hlt)
            rw [hb] at HDG HAA
            have e48 : ¬ (s[k].toNat : Int) < 48 := by omega
            have hnx : 10 * v + (s[k].toNat - 48) < 10 ^ (k + 1) := by rw [Nat.pow_succ]; omega
            have hle : s[k].toNat ≤ 57 := hdv.2
            have hge : 48 ≤ s[k].toNat := hdv.1
            clear hb hv hdv
            go_wp2_with fail
            refine HDG.out.mono ?_
            rintro e w' ⟨rfl, rfl⟩
            go_wp2
            go_round
            case rel => exact ⟨k + 1, 10 * v + (s[k].toNat - 48), by omega, by go_num, by go_num, hnx, Lib.hid (by rw [HVV.out, ← HV.out]), Lib.hid (by rw [HAA.out, HA.out]; rfl)⟩
            case measure => first | (simp [intOf]; done) | (simp [intOf]; omega)
        · obtain rfl : k = s.size := by omega
          have HR := Lib.hid (HYES.out (by rw [HZ.out]; omega) (by rw [HZ.out]; omega) (by rw [← HTK.out]; exact HA.out))
          rw [HTK.out] at HV
          clear hv
          go_wp2
          go_ret
          exact ⟨by rw [HR.out, HV.out]; rfl, rfl⟩
theorem rshort_any (s N : ByteArray) (w : World) (hN : N.data.toList = Sp.namedL s.data.toList) :
    Calls Tryz.prog 41 #[.string s] w fun e w' => e = .returned (.string N) ∧ w' = w := by
  cases h0 : (s.toList == [109, 105, 110, 117, 116, 101, 108, 121]) with
  | true =>
    have hl : s.data.toList = [109, 105, 110, 117, 116, 101, 108, 121] := by rw [toL_eq] at h0; exact of_decide_eq_true h0
    have e : N = ⟨#[42, 45, 42, 45, 42, 32, 42, 58, 42, 58, 48, 48]⟩ := WideShapes.bytes_inj (by rw [hN, hl]; decide)
    rw [e]
    clear hN e hl
    go_enter Tryz.func41, Tryz.ntmps41
    go_wp2
    go_ret
    exact ⟨rfl, rfl⟩
  | false =>
    cases h1 : (s.toList == [104, 111, 117, 114, 108, 121]) with
    | true =>
      have hl : s.data.toList = [104, 111, 117, 114, 108, 121] := by rw [toL_eq] at h1; exact of_decide_eq_true h1
      have e : N = ⟨#[42, 45, 42, 45, 42, 32, 42, 58, 48, 48, 58, 48, 48]⟩ := WideShapes.bytes_inj (by rw [hN, hl]; decide)
      rw [e]
      clear hN e hl
      go_enter Tryz.func41, Tryz.ntmps41
      go_wp2
      go_ret
      exact ⟨rfl, rfl⟩
    | false =>
      cases h2 : (s.toList == [100, 97, 105, 108, 121]) with
      | true =>
        have hl : s.data.toList = [100, 97, 105, 108, 121] := by rw [toL_eq] at h2; exact of_decide_eq_true h2
        have e : N = ⟨#[42, 45, 42, 45, 42, 32, 48, 48, 58, 48, 48, 58, 48, 48]⟩ := WideShapes.bytes_inj (by rw [hN, hl]; decide)
        rw [e]
        clear hN e hl
        go_enter Tryz.func41, Tryz.ntmps41
        go_wp2
        go_ret
        exact ⟨rfl, rfl⟩
      | false =>
        cases h3 : (s.toList == [119, 101, 101, 107, 108, 121]) with
        | true =>
          have hl : s.data.toList = [119, 101, 101, 107, 108, 121] := by rw [toL_eq] at h3; exact of_decide_eq_true h3
          have e : N = ⟨#[77, 111, 110, 32, 42, 45, 42, 45, 42, 32, 48, 48, 58, 48, 48, 58, 48, 48]⟩ := WideShapes.bytes_inj (by rw [hN, hl]; decide)
          rw [e]
          clear hN e hl
          go_enter Tryz.func41, Tryz.ntmps41
          go_wp2
          go_ret
          exact ⟨rfl, rfl⟩
        | false =>
          cases h4 : (s.toList == [109, 111, 110, 116, 104, 108, 121]) with
          | true =>
            have hl : s.data.toList = [109, 111, 110, 116, 104, 108, 121] := by rw [toL_eq] at h4; exact of_decide_eq_true h4
            have e : N = ⟨#[42, 45, 42, 45, 48, 49, 32, 48, 48, 58, 48, 48, 58, 48, 48]⟩ := WideShapes.bytes_inj (by rw [hN, hl]; decide)
            rw [e]
            clear hN e hl
            go_enter Tryz.func41, Tryz.ntmps41
            go_wp2
            go_ret
            exact ⟨rfl, rfl⟩
          | false =>
            cases h5 : (s.toList == [121, 101, 97, 114, 108, 121]) with
            | true =>
              have hl : s.data.toList = [121, 101, 97, 114, 108, 121] := by rw [toL_eq] at h5; exact of_decide_eq_true h5
              have e : N = ⟨#[42, 45, 48, 49, 45, 48, 49, 32, 48, 48, 58, 48, 48, 58, 48, 48]⟩ := WideShapes.bytes_inj (by rw [hN, hl]; decide)
              rw [e]
              clear hN e hl
              go_enter Tryz.func41, Tryz.ntmps41
              go_wp2
              go_ret
              exact ⟨rfl, rfl⟩
            | false =>
              have e : N = s := WideShapes.bytes_inj (by
                rw [hN]
                unfold Sp.namedL
                rw [if_neg (fun e => by rw [toL_eq] at h0; exact of_decide_eq_false h0 e)]
                rw [if_neg (fun e => by rw [toL_eq] at h1; exact of_decide_eq_false h1 e)]
                rw [if_neg (fun e => by rw [toL_eq] at h2; exact of_decide_eq_false h2 e)]
                rw [if_neg (fun e => by rw [toL_eq] at h3; exact of_decide_eq_false h3 e)]
                rw [if_neg (fun e => by rw [toL_eq] at h4; exact of_decide_eq_false h4 e)]
                rw [if_neg (fun e => by rw [toL_eq] at h5; exact of_decide_eq_false h5 e)])
              rw [e]
              clear hN e
              go_enter Tryz.func41, Tryz.ntmps41
              go_wp2
              go_ret
              exact ⟨rfl, rfl⟩
namespace Sp
/-- where two points stand -/
def pointsAt (l : List UInt8) (k : Nat) : Prop := k + 1 < l.length ∧ l[k]? = some 46 ∧ l[k + 1]? = some 46
theorem cutD_at : ∀ (k : Nat) (l : List UInt8), l[k]? = some 46 → l[k + 1]? = some 46 → (∀ j, j < k → ¬ (l[j]? = some 46 ∧ l[j + 1]? = some 46)) → cutD l = (l.take k, l.drop (k + 2), true)
  | 0, [], h, _, _ => by cases h
  | 0, [b], _, h, _ => by cases h
  | 0, b :: b' :: r, h1, h2, _ => by
    obtain rfl : b = 46 := by simpa using h1
    obtain rfl : b' = 46 := by simpa using h2
    rw [cutD, if_pos ⟨rfl, rfl⟩]
    rfl
  | k + 1, [], h, _, _ => by cases h
  | k + 1, [b], h, _, _ => by simp at h
  | k + 1, b :: b' :: r, h1, h2, hn => by
    have h0 := hn 0 (by omega)
    have ih := cutD_at k (b' :: r) (by simpa using h1) (by simpa using h2) (fun j hj h => hn (j + 1) (by omega) (by simpa using h))
    rw [cutD, if_neg (fun e => h0 ⟨by simp [e.1], by simp [e.2]⟩), ih]
    rfl
theorem cutD_no : ∀ (l : List UInt8), (∀ j : Nat, ¬ (l[j]? = some 46 ∧ l[j + 1]? = some 46)) → cutD l = (l, [], false)
  | [], _ => rfl
  | [b], _ => rfl
  | b :: b' :: r, hn => by
    have h0 := hn 0
    have ih := cutD_no (b' :: r) (fun j h => hn (j + 1) (by simpa using h))
    rw [cutD, if_neg (fun e => h0 ⟨by simp [e.1], by simp [e.2]⟩), ih]
theorem two_points (s : ByteArray) (k : Nat) (h : k + 2 ≤ s.size) : ((s.extract k (k + 2)).toList == [46, 46]) = decide (s.data.toList[k]? = some 46 ∧ s.data.toList[k + 1]? = some 46) := by
  have hz := bytes_size s
  have e1 : (s.extract k (k + 2)).toList = [s.data.toList[k]'(by omega), s.data.toList[k + 1]'(by omega)] := by
    rw [Lib.toList_data, Lib.extract_data, List.drop_eq_getElem_cons (by omega), List.drop_eq_getElem_cons (by omega)]
    have e : k + 2 - k = 2 := by omega
    rw [e]
    rfl
  rw [e1, List.getElem?_eq_getElem (by omega), List.getElem?_eq_getElem (by omega)]
  rw [Bool.eq_iff_iff]
  simp
end Sp
/-- where two points stand first: what is ahead, what is behind -/
def PointsR (l : List UInt8) (r : Int) : Prop := (r = -1 ∧ Sp.cutD l = (l, [], false)) ∨ ∃ k : Nat, r = k ∧ k + 2 ≤ l.length ∧ Sp.cutD l = (l.take k, l.drop (k + 2), true)
set_option maxRecDepth 100000 in
set_option maxHeartbeats 4000000 in
theorem points_any (s : ByteArray) (w : World) (hs : s.size ≤ 1099511627776) :
    Calls Tryz.prog 100 #[.string s] w fun e w' => (∃ r, e = .returned (.int .i64 r) ∧ PointsR s.data.toList r) ∧ w = w' := by
  have hz := bytes_size s
  have HZ := Lib.hid hz
  have HTP := Lib.hid (Sp.two_points s)
  clear hz
  go_enter Tryz.func100, Tryz.ntmps100
  go_wp2_with fail
  go_loop [3] (fun i => ∃ k : Nat, k ≤ s.size ∧ i = .int .i64 k ∧ Hid (∀ j, j < k → ¬ (s.data.toList[j]? = some 46 ∧ s.data.toList[j + 1]? = some 46))) (fun i => s.size - (intOf i).toNat)
  case atStart => exact ⟨0, Nat.zero_le _, rfl, Lib.hid (fun j hj => absurd hj (by omega))⟩
  case round =>
    obtain ⟨k, hk, rfl, HN⟩ := hrel
    have v1 : IntKind.i64.wrap ((k : Int) + 1) = ((k + 1 : Nat) : Int) := by rw [IntKind.wrap_i64]; omega
    have v2 : IntKind.i64.wrap ((k : Int) + 2) = ((k + 2 : Nat) : Int) := by rw [IntKind.wrap_i64]; omega
    by_cases hlt : k + 1 < s.size
    · have x1 : ((k + 1 : Nat) : Int) < (s.size : Int) := by omega
      have x2 : ((k + 2 : Nat) : Int) ≤ (s.size : Int) := by omega
      have x3 : (k : Int) ≤ ((k + 2 : Nat) : Int) := by omega
      have HT := Lib.hid (HTP.out k (by omega))
      cases hb : ((s.extract k (k + 2)).toList == [46, 46]) with
      | true =>
        have HR : Hid (PointsR s.data.toList (k : Int)) := Lib.hid (by
          have h := HT.out
          rw [hb] at h
          obtain ⟨h1, h2⟩ := of_decide_eq_true h.symm
          exact .inr ⟨k, rfl, by rw [HZ.out]; omega, Sp.cutD_at k _ h1 h2 HN.out⟩)
        go_wp2
        go_ret
        exact ⟨⟨_, rfl, HR.out⟩, rfl⟩
      | false =>
        have HN2 : Hid (∀ j, j < k + 1 → ¬ (s.data.toList[j]? = some 46 ∧ s.data.toList[j + 1]? = some 46)) := Lib.hid (fun j hj => by
          by_cases e : j = k
          · subst e
            have h := HT.out
            rw [hb] at h
            exact of_decide_eq_false h.symm
          · exact HN.out j (by omega))
        go_wp2
        go_round
        case rel => exact ⟨k + 1, by omega, by first | rfl | go_num, HN2⟩
        case measure => first | (simp [intOf]; done) | (simp [intOf]; omega)
    · have x1 : ¬ ((k + 1 : Nat) : Int) < (s.size : Int) := by omega
      have HR : Hid (PointsR s.data.toList (-1)) := Lib.hid (.inl ⟨rfl, Sp.cutD_no _ (fun j h => by
        by_cases hj : j < k
        · exact HN.out j hj h
        · have := (List.getElem?_eq_some_iff.1 h.2).1
          rw [HZ.out] at this
          omega)⟩)
      go_wp2
      go_ret
      exact ⟨⟨_, rfl, HR.out⟩, rfl⟩
end

section
open Go.RowKit Go.Shelf

theorem info_string : (Tryz.prog.info? 9).map (fun i => (i.zero, i.size, i.bytes)) = some (some (.string ⟨#[]⟩), 1, 16) := by kernel_rfl
theorem rd_one (w : World) (v : Value) (t : TypeId) : Rd (w.alloc (.cells #[v] t)) (w.alloc (.cells #[v] t)).heap.size 1 (some ⟨w.heap.size, 0, none⟩) 1 [v] := by
  refine ⟨rfl, fun _ => ⟨_, rfl, by simp, fun j u hu => ?_⟩⟩
  have hj : j = 0 := by
    have := (List.getElem?_eq_some_iff.1 hu).1
    have e : ([v] : List Value).length = 1 := rfl
    omega
  subst hj
  injection hu with hu
  subst hu
  simp [Addr.add]
theorem strsC_cells (xs : List ByteArray) : ∀ u ∈ strsC xs, u.oneCell' = true := by
  intro u hu
  unfold strsC at hu
  obtain ⟨x, _, rfl⟩ := List.mem_map.1 hu
  rfl
theorem strsC_snoc (xs : List ByteArray) (x : ByteArray) : strsC xs ++ [.string x] = strsC (xs ++ [x]) := by
  unfold strsC; rw [List.map_append]; rfl
theorem own_base {w : World} {base : Nat} {e : TypeId} {size n : Nat} {v : Value} {xs : List Value} (h : w.ownsRow base e size v n xs) : ∀ k, v.ownBlock = some k → base ≤ k := by
  intro k hk
  rcases h.2 with ⟨rfl, _⟩ | ⟨g, cap, cur, rfl, hb, _⟩
  · cases hk
  · injection hk with hk
    rw [← hk]; exact hb
namespace Sp
theorem split_step (s : ByteArray) (c : UInt8) (xs : List ByteArray) (fr k : Nat) (hf : fr ≤ k) (hk : k < s.size) (h : splitC c s.data.toList = xs.map tl ++ splitC c (s.data.toList.drop fr)) (hn : ∀ x ∈ (s.data.toList.drop fr).take (k - fr), x ≠ c) (hc : s[k] = c) :
    splitC c s.data.toList = (xs ++ [s.extract fr k]).map tl ++ splitC c (s.data.toList.drop (k + 1)) := by
  have hz := bytes_size s
  have hl : k < s.data.toList.length := by omega
  have e : s.data.toList.drop fr = (s.data.toList.drop fr).take (k - fr) ++ c :: s.data.toList.drop (k + 1) := by
    conv => lhs; rw [← List.take_append_drop (k - fr) (s.data.toList.drop fr)]
    rw [List.drop_drop, show fr + (k - fr) = k by omega, List.drop_eq_getElem_cons hl]
    have : s.data.toList[k] = c := hc
    rw [this]
  rw [h, e, split_hit c _ _ hn, List.map_append, List.append_assoc]
  congr 1
  show _ = [tl (s.extract fr k)] ++ _
  unfold tl
  rw [Lib.extract_data]
  rfl
theorem split_last (s : ByteArray) (c : UInt8) (xs : List ByteArray) (fr : Nat) (hf : fr ≤ s.size) (h : splitC c s.data.toList = xs.map tl ++ splitC c (s.data.toList.drop fr)) (hn : ∀ x ∈ (s.data.toList.drop fr).take (s.size - fr), x ≠ c) :
    (xs ++ [s.extract fr s.size]).map tl = splitC c s.data.toList := by
  have hz := bytes_size s
  have e : (s.data.toList.drop fr).take (s.size - fr) = s.data.toList.drop fr := List.take_of_length_le (by rw [List.length_drop]; omega)
  rw [e] at hn
  rw [h, split_one c _ hn, List.map_append]
  congr 1
  show [tl (s.extract fr s.size)] = _
  unfold tl
  rw [Lib.extract_data, e]
theorem ext_size (s : ByteArray) (a b : Nat) : (s.extract a b).size ≤ s.size := by
  have h1 := bytes_size (s.extract a b)
  have hz := bytes_size s
  rw [← h1, Lib.extract_data, List.length_take, List.length_drop]
  omega
theorem miss_step (s : ByteArray) (c : UInt8) (fr k : Nat) (hf : fr ≤ k) (hk : k < s.size) (hn : ∀ x ∈ (s.data.toList.drop fr).take (k - fr), x ≠ c) (hc : s[k] ≠ c) : ∀ x ∈ (s.data.toList.drop fr).take (k + 1 - fr), x ≠ c := by
  have hz := bytes_size s
  have hl : k - fr < (s.data.toList.drop fr).length := by rw [List.length_drop]; omega
  rw [show k + 1 - fr = (k - fr) + 1 by omega, List.take_succ_eq_append_getElem hl]
  intro x hx
  rcases List.mem_append.1 hx with hx | hx
  · exact hn x hx
  · rw [List.mem_singleton] at hx
    rw [hx, List.getElem_drop]
    have e : s.data.toList[fr + (k - fr)]'(by omega) = s[k] := by
      have : fr + (k - fr) = k := by omega
      simp only [this]
      rfl
    rw [e]
    exact hc
end Sp
def SplitR (s : ByteArray) (c : UInt8) (e : Ending) (w' : World) : Prop := ∃ (A : Option Addr) (cp : Nat) (xs : List ByteArray), xs.map tl = Sp.splitC c s.data.toList ∧ e = .returned (.slice A xs.length cp) ∧ Rd w' w'.heap.size 1 A xs.length (strsC xs) ∧ xs.length ≤ s.size + 1 ∧ ∀ x ∈ xs, x.size ≤ s.size
set_option maxRecDepth 100000 in
set_option maxHeartbeats 4000000 in
theorem rsplit_any (s : ByteArray) (c : UInt8) (kc : Int) (hkc : (c.toNat : Int) = kc) (w : World) (hs : s.size ≤ 1048576) :
    Calls Tryz.prog 40 #[.string s, .int .u8 kc] w fun e w' => SplitR s c e w' ∧ Below w.heap.size w w' := by
  subst hkc
  obtain ⟨i0, hi, hz0, hz1, hz2⟩ := info_parts info_string
  have HI := Lib.hid hi
  have HZ0 := Lib.hid hz0
  have HZ1 := Lib.hid hz1
  have HZ2 := Lib.hid hz2
  have HST := Lib.hid (Sp.split_step s c)
  have HLA := Lib.hid (Sp.split_last s c)
  have HMI := Lib.hid (Sp.miss_step s c)
  have HEX := Lib.hid (Sp.ext_size s)
  clear hi hz0 hz1 hz2
  go_enter Tryz.func40, Tryz.ntmps40
  go_wp2_with fail
  go_loopw [5, 6, 7] (fun ov fv iv wr => ∃ (k fr : Nat) (xs : List ByteArray), k ≤ s.size ∧ fr ≤ k ∧ iv = .int .i64 k ∧ fv = .int .i64 fr ∧ xs.length ≤ k ∧ Hid (wr.ownsRow w.heap.size 9 1 ov xs.length (strsC xs)) ∧ Hid (Below w.heap.size w wr) ∧ Hid (Sp.splitC c s.data.toList = xs.map tl ++ Sp.splitC c (s.data.toList.drop fr)) ∧ Hid (∀ x ∈ (s.data.toList.drop fr).take (k - fr), x ≠ c) ∧ Hid (∀ x ∈ xs, x.size ≤ s.size)) (fun _ _ iv _ => s.size - (intOf iv).toNat)
  case atStart => exact ⟨0, 0, [], Nat.zero_le _, Nat.le_refl _, rfl, rfl, Nat.le_refl _, Lib.hid ⟨rfl, .inl ⟨rfl, rfl⟩⟩, Lib.hid (Below.refl _ _), Lib.hid rfl, Lib.hid (fun x hx => by cases hx), Lib.hid (fun x hx => by cases hx)⟩
  case round =>
    obtain ⟨k, fr, xs, hk, hfk, rfl, rfl, hxl, HOW, HB, HSP, HMS, HXS⟩ := hrel
    have x0 : (0 : Int) ≤ (fr : Int) := by omega
    have x1 : (fr : Int) ≤ (k : Int) := by omega
    have x2 : (k : Int) ≤ (s.size : Int) := by omega
    have v1 : IntKind.i64.wrap ((k : Int) + 1) = ((k + 1 : Nat) : Int) := by rw [IntKind.wrap_i64]; omega
    have hsz := HB.out.size
    by_cases hlt : k < s.size
    · cases hc : ((s[k].toNat : Int) == (c.toNat : Int)) with
      | true =>
        have he : s[k] = c := by
          apply UInt8.toNat_inj.1
          have h2 : (s[k].toNat : Int) = (c.toNat : Int) := by simpa using hc
          omega
        have HSP2 := Lib.hid (HST.out xs fr k hfk hlt HSP.out HMS.out he)
        have HX := Lib.hid (HEX.out fr k)
        clear he
        go_wp2_with (at_builtin; refine wpList_append_rd _ rfl _ _ 50 rfl w.heap.size 9 i0 (.string ⟨#[]⟩) 1 16 Tryz.underlying50 HI.out HZ0.out HZ1.out HZ2.out rfl (by decide) _ xs.length (strsC xs) rfl (HOW.out.alloc _) (some ⟨wr.heap.size, 0, none⟩) 1 1 _ [.string (s.extract fr k)] rfl (rd_one wr _ _) (strsC_cells [s.extract fr k]) (by simp only [maxLen]; omega) (by omega) (by simp; omega) ?_)
        intro v' w2 hown hgr
        have HOW2 := Lib.hid hown
        rw [strsC_snoc] at HOW2
        have HB2 : Hid (Below w.heap.size w w2) := Lib.hid ((HB.out.alloc HB.out.size _).grown hgr (by simp; omega) (own_base HOW.out))
        have hlen : (xs ++ [s.extract fr k]).length = xs.length + 1 := by simp
        have HLEN := Lib.hid hlen
        clear hown hgr hlen
        go_wp2
        go_roundw
        case rel => exact ⟨k + 1, k + 1, xs ++ [s.extract fr k], by omega, Nat.le_refl _, by first | rfl | go_num, by first | rfl | go_num, by rw [HLEN.out]; omega, Lib.hid (by rw [HLEN.out]; exact HOW2.out), HB2, HSP2, Lib.hid (fun x hx => by rw [Nat.sub_self] at hx; cases hx), Lib.hid (fun x hx => by
          rcases List.mem_append.1 hx with h | h
          · exact HXS.out x h
          · rw [List.mem_singleton] at h; rw [h]; exact HX.out)⟩
        case measure => first | (simp [intOf]; done) | (simp [intOf]; omega)
      | false =>
        have he : s[k] ≠ c := fun e => by rw [e] at hc; simp at hc
        have HMS2 := Lib.hid (HMI.out fr k hfk hlt HMS.out he)
        clear he
        go_wp2
        go_roundw
        case rel => exact ⟨k + 1, fr, xs, by omega, by omega, by first | rfl | go_num, by first | rfl | go_num, by omega, HOW, HB, HSP, HMS2, HXS⟩
        case measure => first | (simp [intOf]; done) | (simp [intOf]; omega)
    · obtain rfl : k = s.size := by omega
      have HSP2 := Lib.hid (HLA.out xs fr hfk HSP.out HMS.out)
      have HX := Lib.hid (HEX.out fr s.size)
      go_wp2_with (at_builtin; refine wpList_append_rd _ rfl _ _ 50 rfl w.heap.size 9 i0 (.string ⟨#[]⟩) 1 16 Tryz.underlying50 HI.out HZ0.out HZ1.out HZ2.out rfl (by decide) _ xs.length (strsC xs) rfl (HOW.out.alloc _) (some ⟨wr.heap.size, 0, none⟩) 1 1 _ [.string (s.extract fr s.size)] rfl (rd_one wr _ _) (strsC_cells [s.extract fr s.size]) (by simp only [maxLen]; omega) (by omega) (by simp; omega) ?_)
      intro v' w2 hown hgr
      obtain ⟨A, cp, rfl⟩ := own_slice hown
      have hrd := (Rd.own hown).1
      rw [strsC_snoc] at hrd
      have HRD := Lib.hid hrd
      have HB2 : Hid (Below w.heap.size w w2) := Lib.hid ((HB.out.alloc HB.out.size _).grown hgr (by simp; omega) (own_base HOW.out))
      have hlen : (xs ++ [s.extract fr s.size]).length = xs.length + 1 := by simp
      have HLEN := Lib.hid hlen
      clear hown hgr hlen hrd
      go_wp2
      go_ret
      exact ⟨⟨A, cp, xs ++ [s.extract fr s.size], HSP2.out, by rw [HLEN.out]; rfl, by rw [HLEN.out]; exact HRD.out, by rw [HLEN.out]; omega, fun x hx => by
          rcases List.mem_append.1 hx with h | h
          · exact HXS.out x h
          · rw [List.mem_singleton] at h; rw [h]; exact HX.out⟩, HB2.out⟩
end

section
open Go.RowKit Go.Shelf

namespace Sp
theorem split_cut (c : UInt8) : ∀ l : List UInt8, splitC c l = if (cut1 c l).2.2 = true then (cut1 c l).1 :: splitC c (cut1 c l).2.1 else [(cut1 c l).1]
  | [] => rfl
  | b :: r => by
    have ih := split_cut c r
    by_cases h : b = c
    · simp [splitC, cut1, h]
    · simp only [splitC, cut1, h, if_false]
      rw [ih]
      by_cases hh : (cut1 c r).2.2 = true
      · rw [if_pos hh, if_pos hh]
      · rw [if_neg hh, if_neg hh]
theorem part_one {l a : List UInt8} (h : splitC 47 l = [a]) : partP l = bodyP a 0 := by
  have e := split_cut 47 l
  unfold partP
  by_cases hc : (cut1 47 l).2.2 = true
  · rw [if_pos hc] at e
    rw [h] at e
    injection e with _ e
    exact absurd e.symm (split_ne 47 _)
  · rw [if_neg hc] at e
    rw [h] at e
    injection e with e _
    rw [if_neg hc, e]
theorem part_two {l a b : List UInt8} (h : splitC 47 l = [a, b]) : partP l = match numC b with
    | none => none
    | some st => if st = 0 then none else bodyP a st := by
  have e := split_cut 47 l
  unfold partP
  by_cases hc : (cut1 47 l).2.2 = true
  · rw [if_pos hc] at e
    rw [h] at e
    injection e with e1 e2
    have e3 := split_cut 47 (cut1 47 l).2.1
    by_cases hd : (cut1 47 (cut1 47 l).2.1).2.2 = true
    · rw [if_pos hd, ← e2] at e3
      injection e3 with _ e3
      exact absurd e3.symm (split_ne 47 _)
    · rw [if_neg hd, ← e2] at e3
      injection e3 with e3 _
      have e4 := cut1_whole 47 (cut1 47 l).2.1 (by simpa using hd)
      rw [e4] at e3
      rw [if_pos hc, ← e1, ← e3]
      cases numC b <;> rfl
  · rw [if_neg hc] at e
    rw [h] at e
    injection e with _ e
    cases e
theorem part_more {l a b c : List UInt8} {r : List (List UInt8)} (h : splitC 47 l = a :: b :: c :: r) : partP l = none := by
  have e := split_cut 47 l
  unfold partP
  by_cases hc : (cut1 47 l).2.2 = true
  · rw [if_pos hc] at e
    rw [h] at e
    injection e with e1 e2
    rw [if_pos hc]
    cases hn : numC (cut1 47 l).2.1 with
    | none => rfl
    | some v =>
      exfalso
      have hb := num_bytes _ _ hn
      have h1 := split_one 47 (cut1 47 l).2.1 (fun x hx e => by
        have := hb x hx
        rw [e] at this
        exact absurd this (by decide))
      rw [h1] at e2
      injection e2 with _ e2
      cases e2
  · rw [if_neg hc] at e
    rw [h] at e
    injection e with _ e
    cases e
end Sp
theorem PB.ne_str {w : World} {b : Nat} {p : Sp.PartD} (h : PB w b p) {ad : Addr} {x : ByteArray} (hc : w.cell? ad = some (.string x)) : ad.block ≠ b := by
  intro e
  obtain ⟨ab, off, vw⟩ := ad
  dsimp only at e
  subst e
  have hx : ∀ v ∈ ([.int .i64 p.fr, .int .i64 p.to, .int .i64 p.st] : List Value), Value.string x ≠ v := by
    intro v hv
    simp only [List.mem_cons, List.not_mem_nil, or_false] at hv
    rcases hv with rfl | rfl | rfl <;> (intro h; cases h)
  cases vw with
  | some q => simp [World.cell?, show w.heap[ab]? = _ from h] at hc
  | none =>
    have h2 : w.cell? ⟨ab, off, none⟩ = ([.int .i64 p.fr, .int .i64 p.to, .int .i64 p.st] : List Value)[off]? := by
      simp [World.cell?, show w.heap[ab]? = _ from h]
    rw [h2] at hc
    exact hx _ (List.mem_of_getElem? hc) rfl
set_option maxRecDepth 100000 in
set_option maxHeartbeats 16000000 in
theorem rpart_any (s : ByteArray) (w : World) (hs : s.size ≤ 1048576) :
    Calls Tryz.prog 73 #[.string s] w fun e w' => PartPost s.data.toList e ∧ Below w.heap.size w w' := by
  have hb0 : Below w.heap.size w ((w.alloc (.cells #[.int .i64 0, .int .i64 0, .int .i64 0] 43)).alloc (.cells #[.int .i64 (-1), .int .i64 (-1), .int .i64 0] 43)) := ((Below.refl _ w).alloc (Nat.le_refl _) _).alloc (by simp) _
  have q1 : PB ((w.alloc (.cells #[.int .i64 0, .int .i64 0, .int .i64 0] 43)).alloc (.cells #[.int .i64 (-1), .int .i64 (-1), .int .i64 0] 43)) (w.heap.size + 1) ⟨-1, -1, 0⟩ := by
    have h := PB.new (w.alloc (.cells #[.int .i64 0, .int .i64 0, .int .i64 0] 43)) (-1) (-1) 0
    rw [World.size_alloc] at h
    exact h
  have q0 : PB ((w.alloc (.cells #[.int .i64 0, .int .i64 0, .int .i64 0] 43)).alloc (.cells #[.int .i64 (-1), .int .i64 (-1), .int .i64 0] 43)) w.heap.size ⟨0, 0, 0⟩ := (PB.new w 0 0 0).alloc (.cells #[.int .i64 (-1), .int .i64 (-1), .int .i64 0] 43)
  go_enter Tryz.func73, Tryz.ntmps73
  go_wp2_with fail
  refine (rsplit_any s 47 47 rfl _ hs).mono ?_
  rintro e W ⟨⟨A, cp, xs, hxs, rfl, hrd, hxl, hxz⟩, hb1⟩
  replace q1 := PB.under q1 hb1 q1.lt
  replace q0 := PB.under q0 hb1 q0.lt
  have hb := hb0.trans (hb1.mono hb0.size)
  clear hb0 hb1
  rcases xs with _ | ⟨a, _ | ⟨b, _ | ⟨c, r⟩⟩⟩
  · exact absurd hxs.symm (Sp.split_ne 47 _)
  · have hP := Sp.part_one hxs.symm
    obtain ⟨ad, rfl, _, hc⟩ := hrd.here (by simp)
    have hc0 := hc 0 _ rfl
    have ea : ad.add 0 = ad := by simp [Addr.add]
    rw [ea] at hc0
    have hsa : a.size ≤ 1048576 := Nat.le_trans (hxz a (by simp)) hs
    clear hrd hc ea hxs hxl hxz
    simp only [List.length_cons, List.length_nil, Nat.zero_add]
    have hP' : Sp.partP s.data.toList = Sp.bodyP a.data.toList 0 := hP
    clear hP
    cases hq : (a.toList == [42]) with
    | true =>
      have ha : a.data.toList = [42] := by rw [Lib.toList_data] at hq; simpa using hq
      have d0 := q1.c0
      have d1 := q1.c1
      have d2 := q1.c2
      have f0 := q1.fz 0
      have f1 := q1.fz 1
      have f2 := q1.fz 2
      have e0' := q0.c0
      have e1' := q0.c1
      have e2' := q0.c2
      have g0 := q0.fz 0
      have g1 := q0.fz 1
      have g2 := q0.fz 2
      dsimp only at d0 d1 d2 e0' e1' e2'
      have HQ : Hid (PartPost s.data.toList (.returned (.tuple #[.agg #[.int .i64 (-1), .int .i64 (-1), .int .i64 0], .bool true]))) := Lib.hid (.inl ⟨⟨-1, -1, 0⟩, by rw [hP', ha]; rfl, rfl⟩)
      have qf := PB.put q0 (-1) (-1) 0
      have r0 := qf.c0
      have r1 := qf.c1
      have r2 := qf.c2
      dsimp only at r0 r1 r2
      have HBF := Lib.hid (below_put3 hb (Nat.le_refl _) (.int .i64 (-1)) (.int .i64 (-1)) (.int .i64 0))
      clear qf
      go_wp2
      refine bodyPost_ret (v := .tuple #[.agg #[.int .i64 (-1), .int .i64 (-1), .int .i64 0], .bool true]) (by simp [results, Tryz.f73, go_sem, r0, r1, r2]) rfl ?_
      exact ⟨HQ.out, HBF.out⟩
    | false =>
      have ha : a.data.toList ≠ [42] := by rw [Lib.toList_data] at hq; simpa using hq
      go_wp2_with fail
      refine (points_any a W (by omega)).mono ?_
      rintro e w2 ⟨⟨r, rfl, hpr⟩, rfl⟩
      rcases hpr with ⟨rfl, hcd⟩ | ⟨k, rfl, hk2, hcd⟩
      · have hPB := Sp.bodyP_of 0 hcd
        rw [if_neg ha] at hPB
        simp only [Bool.false_eq_true, if_false] at hPB
        have HN := Lib.hid (rnumber_any a W (by omega))
        obtain ⟨fr, hfr⟩ : ∃ fr, fr = Sp.numI a.data.toList := ⟨_, rfl⟩
        rw [← hfr] at HN
        have HFR := Lib.hid hfr
        clear hfr
        obtain ⟨ok, hok⟩ : ∃ ok, decide (0 ≤ fr) = ok := ⟨_, rfl⟩
        have HQ : Hid (PartPost s.data.toList (.returned (.tuple #[.agg #[.int .i64 fr, .int .i64 (-1), .int .i64 0], .bool ok]))) := Lib.hid (by
          rw [← hok, HFR.out]
          unfold Sp.numI
          cases hn : Sp.numC a.data.toList with
          | none => exact .inr ⟨by rw [hP', hPB, hn], ⟨-1, -1, 0⟩, rfl⟩
          | some v =>
            have := Sp.num_range _ _ hn
            dsimp only
            rw [decide_eq_true this.1]
            exact .inl ⟨⟨v, -1, 0⟩, by rw [hP', hPB, hn], rfl⟩)
        have d0 := q1.c0
        have d1 := q1.c1
        have d2 := q1.c2
        have f0 := q1.fz 0
        have f1 := q1.fz 1
        have f2 := q1.fz 2
        have e0' := q0.c0
        have e1' := q0.c1
        have e2' := q0.c2
        have g0 := q0.fz 0
        have g1 := q0.fz 1
        have g2 := q0.fz 2
        dsimp only at d0 d1 d2 e0' e1' e2'
        go_wp2_with fail
        refine HN.out.mono ?_
        rintro e w2 ⟨rfl, rfl⟩
        go_upto_region 16 with fail
        replace q0 := q0.far (a := ⟨w.heap.size + 1, 0, none⟩) (by simp) (.int .i64 fr)
        replace q1 := q1.set0 fr
        replace hb := hb.setCell (p := ⟨w.heap.size + 1, 0, none⟩) (by simp) (.int .i64 fr)
        have hc0 := hc0
        clear d0 d1 d2 f0 f1 f2 e0' e1' e2' g0 g1 g2
        clear hc0 hcd hPB HFR HN
        dsimp only at q1
        generalize W.setCell ⟨w.heap.size + 1, 0, none⟩ (.int .i64 fr) = W2 at *
        obtain ⟨wd, hwd⟩ : ∃ wd, wd = W2.drew := ⟨_, rfl⟩
        replace q1 : PB wd (w.heap.size + 1) ⟨fr, -1, 0⟩ := hwd ▸ q1
        replace q0 : PB wd w.heap.size ⟨0, 0, 0⟩ := hwd ▸ q0
        replace hb : Below w.heap.size w wd := hwd ▸ hb.drew
        have HWD := Lib.hid hwd
        clear hwd
        have q1p := ((q1.far (a := ⟨w.heap.size, 0, none⟩) (by simp) (.int .i64 fr)).far (a := ⟨w.heap.size, 1, none⟩) (by simp) (.int .i64 (-1))).far (a := ⟨w.heap.size, 2, none⟩) (by simp) (.int .i64 0)
        have st0 := q0.c0
        have st1 := q0.c1
        have st2 := q0.c2
        have sf0 := q0.fz 0
        have sf1 := q0.fz 1
        have sf2 := q0.fz 2
        dsimp only at st0 st1 st2
        refine wp_region_inv (by kernel_rfl) (fun D x W => (D 4 = false → W = wd) ∧ (D 4 = true → W = ((wd.setCell ⟨w.heap.size, 0, none⟩ (.int .i64 fr)).setCell ⟨w.heap.size, 1, none⟩ (.int .i64 (-1))).setCell ⟨w.heap.size, 2, none⟩ (.int .i64 0)) ∧ (D 0 = true → x 0 = .agg #[.int .i64 fr, .int .i64 (-1), .int .i64 0]) ∧ (D 1 = true → x 1 = .pointer (some ⟨w.heap.size + 1, 0, none⟩)) ∧ (D 2 = true → x 2 = .int .i64 fr) ∧ (D 3 = true → x 3 = .bool ok) ∧ (D 5 = true → x 5 = .bool ok)) (by kernel_rfl) (by kernel_rfl) (fun x => ⟨fun _ => HWD.out.symm, fun h => (by cases h), fun h => (by cases h), fun h => (by cases h), fun h => (by cases h), fun h => (by cases h), fun h => (by cases h)⟩) ?_ ?_
        · refine And.intro ?_ (And.intro ?_ (And.intro ?_ (And.intro ?_ (And.intro ?_ (And.intro ?_ trivial)))))
          · refine stepO_plain rfl (fun D x W hJ hp hn hcl K hK => ?_)
            obtain ⟨hw0, hw1, h0, h1, h2, h3, h5⟩ := hJ
            have hD0 : D 4 = false := by
              cases h : D 4 with
              | false => rfl
              | true => exact absurd (hcl 4 _ rfl h 0 (of_decide_eq_true (by kernel_rfl))) (by rw [hn]; decide)
            obtain rfl := hw0 hD0
            have hK := hK.out
            simp only [fillO, Act.put, List.setIfInBounds_toArray, List.set_cons_zero, List.set_cons_succ, Nat.reduceAdd] at hK ⊢
            have d0 := q1.c0
            have d1 := q1.c1
            have d2 := q1.c2
            dsimp only at d0 d1 d2
            refine Wrap.mk ?_
            go_simp
            refine hK _ _ ?_
            exact ⟨fun _ => rfl, fun h => absurd (hD0.symm.trans h) (by decide), fun _ => rfl, h1, h2, h3, h5⟩
          · refine stepO_plain rfl (fun D x W hJ hp hn hcl K hK => ?_)
            obtain ⟨hw0, hw1, h0, h1, h2, h3, h5⟩ := hJ
            cases hD0 : D 4 with
            | false =>
              obtain rfl := hw0 hD0
              have hK := hK.out
              simp only [fillO, Act.put, List.setIfInBounds_toArray, List.set_cons_zero, List.set_cons_succ, Nat.reduceAdd] at hK ⊢
              refine Wrap.mk ?_
              go_simp
              refine hK _ _ ?_
              exact ⟨fun _ => rfl, fun h => absurd (hD0.symm.trans h) (by decide), h0, fun _ => rfl, h2, h3, h5⟩
            | true =>
              obtain rfl := hw1 hD0
              have hK := hK.out
              simp only [fillO, Act.put, List.setIfInBounds_toArray, List.set_cons_zero, List.set_cons_succ, Nat.reduceAdd] at hK ⊢
              refine Wrap.mk ?_
              go_simp
              refine hK _ _ ?_
              exact ⟨fun h => absurd (hD0.symm.trans h) (by decide), fun _ => rfl, h0, fun _ => rfl, h2, h3, h5⟩
          · refine stepO_plain rfl (fun D x W hJ hp hn hcl K hK => ?_)
            obtain ⟨hw0, hw1, h0, h1, h2, h3, h5⟩ := hJ
            cases hD0 : D 4 with
            | false =>
              obtain rfl := hw0 hD0
              have hK := hK.out
              have d1 : D 1 = true := hp 1 (of_decide_eq_true (by kernel_rfl))
              have e1 := h1 d1
              simp only [fillO, Act.put, List.setIfInBounds_toArray, List.set_cons_zero, List.set_cons_succ, Nat.reduceAdd] at hK ⊢
              simp only [e1] at hK ⊢
              have d0 := q1.c0
              have d1 := q1.c1
              have d2 := q1.c2
              dsimp only at d0 d1 d2
              refine Wrap.mk ?_
              go_simp
              refine hK _ _ ?_
              exact ⟨fun _ => rfl, fun h => absurd (hD0.symm.trans h) (by decide), h0, h1, fun _ => rfl, h3, h5⟩
            | true =>
              obtain rfl := hw1 hD0
              have hK := hK.out
              have d1 : D 1 = true := hp 1 (of_decide_eq_true (by kernel_rfl))
              have e1 := h1 d1
              simp only [fillO, Act.put, List.setIfInBounds_toArray, List.set_cons_zero, List.set_cons_succ, Nat.reduceAdd] at hK ⊢
              simp only [e1] at hK ⊢
              have d0 := q1p.c0
              have d1 := q1p.c1
              have d2 := q1p.c2
              dsimp only at d0 d1 d2
              refine Wrap.mk ?_
              go_simp
              refine hK _ _ ?_
              exact ⟨fun h => absurd (hD0.symm.trans h) (by decide), fun _ => rfl, h0, h1, fun _ => rfl, h3, h5⟩
          · refine stepO_plain rfl (fun D x W hJ hp hn hcl K hK => ?_)
            obtain ⟨hw0, hw1, h0, h1, h2, h3, h5⟩ := hJ
            cases hD0 : D 4 with
            | false =>
              obtain rfl := hw0 hD0
              have hK := hK.out
              have d2 : D 2 = true := hp 2 (of_decide_eq_true (by kernel_rfl))
              have e2 := h2 d2
              simp only [fillO, Act.put, List.setIfInBounds_toArray, List.set_cons_zero, List.set_cons_succ, Nat.reduceAdd] at hK ⊢
              simp only [e2] at hK ⊢
              have hok2 := hok
              refine Wrap.mk ?_
              go_simp
              refine hK _ _ ?_
              exact ⟨fun _ => rfl, fun h => absurd (hD0.symm.trans h) (by decide), h0, h1, h2, fun _ => rfl, h5⟩
            | true =>
              obtain rfl := hw1 hD0
              have hK := hK.out
              have d2 : D 2 = true := hp 2 (of_decide_eq_true (by kernel_rfl))
              have e2 := h2 d2
              simp only [fillO, Act.put, List.setIfInBounds_toArray, List.set_cons_zero, List.set_cons_succ, Nat.reduceAdd] at hK ⊢
              simp only [e2] at hK ⊢
              have hok2 := hok
              refine Wrap.mk ?_
              go_simp
              refine hK _ _ ?_
              exact ⟨fun h => absurd (hD0.symm.trans h) (by decide), fun _ => rfl, h0, h1, h2, fun _ => rfl, h5⟩
          · refine stepO_plain rfl (fun D x W hJ hp hn hcl K hK => ?_)
            obtain ⟨hw0, hw1, h0, h1, h2, h3, h5⟩ := hJ
            have hD0 : D 4 = false := hn
            obtain rfl := hw0 hD0
            have hK := hK.out
            have d0 : D 0 = true := hp 0 (of_decide_eq_true (by kernel_rfl))
            have e0 := h0 d0
            simp only [fillO, Act.put, List.setIfInBounds_toArray, List.set_cons_zero, List.set_cons_succ, Nat.reduceAdd] at hK ⊢
            simp only [e0] at hK ⊢
            refine Wrap.mk ?_
            go_simp
            refine hK undef _ ?_
            exact ⟨fun h => absurd (show true = false from h) (by decide), fun _ => rfl, h0, h1, h2, h3, h5⟩
          · refine stepO_plain rfl (fun D x W hJ hp hn hcl K hK => ?_)
            obtain ⟨hw0, hw1, h0, h1, h2, h3, h5⟩ := hJ
            have hD0 : D 4 = true := (hp 4 (of_decide_eq_true (by kernel_rfl)))
            obtain rfl := hw1 hD0
            have hK := hK.out
            have d3 : D 3 = true := hp 3 (of_decide_eq_true (by kernel_rfl))
            have e3 := h3 d3
            simp only [fillO, Act.put, List.setIfInBounds_toArray, List.set_cons_zero, List.set_cons_succ, Nat.reduceAdd] at hK ⊢
            simp only [e3] at hK ⊢
            refine Wrap.mk ?_
            go_simp
            refine hK _ _ ?_
            exact ⟨fun h => absurd (hD0.symm.trans h) (by decide), fun _ => rfl, h0, h1, h2, h3, fun _ => rfl⟩
        · intro x W hJ
          obtain ⟨hw0, hw1, h0, h1, h2, h3, h5⟩ := hJ
          obtain rfl := hw1 (by decide)
          have e0 := h0 (by decide)
          have e1 := h1 (by decide)
          have e2 := h2 (by decide)
          have e3 := h3 (by decide)
          have e5 := h5 (by decide)
          clear hw0 hw1 h0 h1 h2 h3 h5
          simp only [fillO, Act.put, List.setIfInBounds_toArray, List.set_cons_zero, List.set_cons_succ, Nat.reduceAdd]
          simp only [e0, e1, e2, e3, e5]
          clear e0 e1 e2 e3 e5 x
          have qf := PB.put q0 fr (-1) 0
          have r0 := qf.c0
          have r1 := qf.c1
          have r2 := qf.c2
          dsimp only at r0 r1 r2
          have HBF := Lib.hid (below_put3 hb (Nat.le_refl _) (.int .i64 fr) (.int .i64 (-1)) (.int .i64 0))
          clear qf
          go_wp2
          refine bodyPost_ret (v := .tuple #[.agg #[.int .i64 fr, .int .i64 (-1), .int .i64 0], .bool ok]) (by simp [results, Tryz.f73, go_sem, r0, r1, r2]) rfl ?_
          exact ⟨HQ.out, HBF.out⟩
      · have hPB := Sp.bodyP_of 0 hcd
        rw [if_neg ha] at hPB
        simp only [if_true] at hPB
        have hka := bytes_size a
        have hx1 : (0 : Int) ≤ (k : Int) := by omega
        have hx2 : (k : Int) ≤ (a.size : Int) := by omega
        have hx3 : (k : Int) + 2 ≤ (a.size : Int) := by omega
        have hx4 : IntKind.i64.wrap ((k : Int) + 2) = (k : Int) + 2 := by rw [IntKind.wrap_i64]; omega
        have hx5 : (0 : Int) ≤ (k : Int) + 2 := by omega
        have hx6 : ((k : Int) + 2).toNat = k + 2 := by omega
        have HN1 := Lib.hid (fun W => rnumber_any (a.extract 0 k) W (Nat.le_trans (Sp.ext_size _ _ _) (by omega)))
        have HN2 := Lib.hid (fun W => rnumber_any (a.extract (k + 2) a.size) W (Nat.le_trans (Sp.ext_size _ _ _) (by omega)))
        rw [Lib.extract_from_zero] at HN1
        rw [Lib.extract_to_end] at HN2
        obtain ⟨fr, hfr⟩ : ∃ fr, fr = Sp.numI (a.data.toList.take k) := ⟨_, rfl⟩
        obtain ⟨tt, htt⟩ : ∃ tt, tt = Sp.numI (a.data.toList.drop (k + 2)) := ⟨_, rfl⟩
        simp only [← hfr] at HN1
        simp only [← htt] at HN2
        have HQ : Hid (PartPost s.data.toList (.returned (.tuple #[.agg #[.int .i64 fr, .int .i64 tt, .int .i64 0], .bool (decide (0 ≤ fr) && decide (0 ≤ tt))]))) := Lib.hid (by
          rw [hfr, htt]
          unfold Sp.numI
          cases hn : Sp.numC (a.data.toList.take k) with
          | none => exact .inr ⟨by rw [hP', hPB, hn], ⟨-1, _, 0⟩, rfl⟩
          | some v =>
            have h1 := Sp.num_range _ _ hn
            cases hm : Sp.numC (a.data.toList.drop (k + 2)) with
            | none =>
              dsimp only
              rw [decide_eq_true h1.1]
              exact .inr ⟨by rw [hP', hPB, hn, hm], ⟨v, -1, 0⟩, rfl⟩
            | some u =>
              have h2 := Sp.num_range _ _ hm
              dsimp only
              rw [decide_eq_true h1.1, decide_eq_true h2.1]
              exact .inl ⟨⟨v, u, 0⟩, by rw [hP', hPB, hn, hm], rfl⟩)
        clear hcd hPB hfr htt hka
        go_upto_region 13 with fail
        obtain ⟨wd, hwd⟩ : ∃ wd, wd = W.drew := ⟨_, rfl⟩
        replace q1 : PB wd (w.heap.size + 1) ⟨-1, -1, 0⟩ := hwd ▸ q1
        replace q0 : PB wd w.heap.size ⟨0, 0, 0⟩ := hwd ▸ q0
        replace hb : Below w.heap.size w wd := hwd ▸ hb.drew
        replace hc0 : wd.cell? ad = some (.string a) := hwd ▸ hc0
        have HWD := Lib.hid hwd
        clear hwd
        refine wp_region_inv (by kernel_rfl) (fun D x W => (D 14 = false → W = wd) ∧ (D 14 = true → D 16 = false → W = (wd.setCell ⟨w.heap.size + 1, 0, none⟩ (.int .i64 fr))) ∧ (D 16 = true → W = ((wd.setCell ⟨w.heap.size + 1, 0, none⟩ (.int .i64 fr)).setCell ⟨w.heap.size + 1, 1, none⟩ (.int .i64 tt))) ∧ (D 0 = true → x 0 = .slice (some ad) 1 cp) ∧ (D 1 = true → x 1 = .pointer (some ad)) ∧ (D 2 = true → x 2 = .string a) ∧ (D 3 = true → x 3 = .int .i64 k) ∧ (D 4 = true → x 4 = .string (a.extract 0 k)) ∧ (D 5 = true → x 5 = .int .i64 fr) ∧ (D 6 = true → x 6 = .slice (some ad) 1 cp) ∧ (D 7 = true → x 7 = .pointer (some ad)) ∧ (D 8 = true → x 8 = .string a) ∧ (D 9 = true → x 9 = .int .i64 k) ∧ (D 10 = true → x 10 = .int .i64 ((k : Int) + 2)) ∧ (D 11 = true → x 11 = .string (a.extract (k + 2) a.size)) ∧ (D 12 = true → x 12 = .int .i64 tt) ∧ (D 13 = true → x 13 = .pointer (some ⟨w.heap.size + 1, 0, none⟩)) ∧ (D 15 = true → x 15 = .pointer (some ⟨w.heap.size + 1, 1, none⟩))) (by kernel_rfl) (by kernel_rfl) (fun x => ⟨fun _ => HWD.out.symm, fun h _ => (by cases h), fun h => (by cases h), fun h => (by cases h), fun h => (by cases h), fun h => (by cases h), fun h => (by cases h), fun h => (by cases h), fun h => (by cases h), fun h => (by cases h), fun h => (by cases h), fun h => (by cases h), fun h => (by cases h), fun h => (by cases h), fun h => (by cases h), fun h => (by cases h), fun h => (by cases h), fun h => (by cases h)⟩) ?_ ?_
        · refine And.intro ?_ (And.intro ?_ (And.intro ?_ (And.intro ?_ (And.intro ?_ (And.intro ?_ (And.intro ?_ (And.intro ?_ (And.intro ?_ (And.intro ?_ (And.intro ?_ (And.intro ?_ (And.intro ?_ (And.intro ?_ (And.intro ?_ (And.intro ?_ (And.intro ?_ trivial))))))))))))))))
          · refine stepO_plain rfl (fun D x W hJ hp hn hcl K hK => ?_)
            obtain ⟨hw0, hw1, hw2, h0, h1, h2, h3, h4, h5, h6, h7, h8, h9, h10, h11, h12, h13, h15⟩ := hJ
            have hD0 : D 14 = false := by
              cases h : D 14 with
              | false => rfl
              | true => exact absurd (hcl 14 _ rfl h 0 (of_decide_eq_true (by kernel_rfl))) (by rw [hn]; decide)
            have hD1 : D 16 = false := by
              cases h : D 16 with
              | false => rfl
              | true => exact absurd (hcl 16 _ rfl h 0 (of_decide_eq_true (by kernel_rfl))) (by rw [hn]; decide)
            obtain rfl := hw0 hD0
            have hK := hK.out
            simp only [fillO, Act.put, List.setIfInBounds_toArray, List.set_cons_zero, List.set_cons_succ, Nat.reduceAdd] at hK ⊢
            have x1 := hx1
            have x2 := hx2
            have x3 := hx3
            have x4 := hx4
            have x5 := hx5
            have x6 := hx6
            have c0 := hc0
            refine Wrap.mk ?_
            go_simp
            refine hK _ _ ?_
            exact ⟨fun _ => rfl, fun h _ => absurd (hD0.symm.trans h) (by decide), fun h => absurd (hD1.symm.trans h) (by decide), fun _ => rfl, h1, h2, h3, h4, h5, h6, h7, h8, h9, h10, h11, h12, h13, h15⟩
          · refine stepO_plain rfl (fun D x W hJ hp hn hcl K hK => ?_)
            obtain ⟨hw0, hw1, hw2, h0, h1, h2, h3, h4, h5, h6, h7, h8, h9, h10, h11, h12, h13, h15⟩ := hJ
            have hD0 : D 14 = false := by
              cases h : D 14 with
              | false => rfl
              | true => exact absurd (hcl 14 _ rfl h 1 (of_decide_eq_true (by kernel_rfl))) (by rw [hn]; decide)
            have hD1 : D 16 = false := by
              cases h : D 16 with
              | false => rfl
              | true => exact absurd (hcl 16 _ rfl h 1 (of_decide_eq_true (by kernel_rfl))) (by rw [hn]; decide)
            obtain rfl := hw0 hD0
            have hK := hK.out
            have d0 : D 0 = true := hp 0 (of_decide_eq_true (by kernel_rfl))
            have e0 := h0 d0
            simp only [fillO, Act.put, List.setIfInBounds_toArray, List.set_cons_zero, List.set_cons_succ, Nat.reduceAdd] at hK ⊢
            simp only [e0] at hK ⊢
            have x1 := hx1
            have x2 := hx2
            have x3 := hx3
            have x4 := hx4
            have x5 := hx5
            have x6 := hx6
            have c0 := hc0
            refine Wrap.mk ?_
            go_simp
            refine hK _ _ ?_
            exact ⟨fun _ => rfl, fun h _ => absurd (hD0.symm.trans h) (by decide), fun h => absurd (hD1.symm.trans h) (by decide), h0, fun _ => rfl, h2, h3, h4, h5, h6, h7, h8, h9, h10, h11, h12, h13, h15⟩
          · refine stepO_plain rfl (fun D x W hJ hp hn hcl K hK => ?_)
            obtain ⟨hw0, hw1, hw2, h0, h1, h2, h3, h4, h5, h6, h7, h8, h9, h10, h11, h12, h13, h15⟩ := hJ
            have hD0 : D 14 = false := by
              cases h : D 14 with
              | false => rfl
              | true => exact absurd (hcl 14 _ rfl h 2 (of_decide_eq_true (by kernel_rfl))) (by rw [hn]; decide)
            have hD1 : D 16 = false := by
              cases h : D 16 with
              | false => rfl
              | true => exact absurd (hcl 16 _ rfl h 2 (of_decide_eq_true (by kernel_rfl))) (by rw [hn]; decide)
            obtain rfl := hw0 hD0
            have hK := hK.out
            have d1 : D 1 = true := hp 1 (of_decide_eq_true (by kernel_rfl))
            have e1 := h1 d1
            simp only [fillO, Act.put, List.setIfInBounds_toArray, List.set_cons_zero, List.set_cons_succ, Nat.reduceAdd] at hK ⊢
            simp only [e1] at hK ⊢
            have x1 := hx1
            have x2 := hx2
            have x3 := hx3
            have x4 := hx4
            have x5 := hx5
            have x6 := hx6
            have c0 := hc0
            refine Wrap.mk ?_
            go_simp
            refine hK _ _ ?_
            exact ⟨fun _ => rfl, fun h _ => absurd (hD0.symm.trans h) (by decide), fun h => absurd (hD1.symm.trans h) (by decide), h0, h1, fun _ => rfl, h3, h4, h5, h6, h7, h8, h9, h10, h11, h12, h13, h15⟩
          · refine stepO_plain rfl (fun D x W hJ hp hn hcl K hK => ?_)
            obtain ⟨hw0, hw1, hw2, h0, h1, h2, h3, h4, h5, h6, h7, h8, h9, h10, h11, h12, h13, h15⟩ := hJ
            have hD0 : D 14 = false := by
              cases h : D 14 with
              | false => rfl
              | true => exact absurd (hcl 14 _ rfl h 3 (of_decide_eq_true (by kernel_rfl))) (by rw [hn]; decide)
            have hD1 : D 16 = false := by
              cases h : D 16 with
              | false => rfl
              | true => exact absurd (hcl 16 _ rfl h 3 (of_decide_eq_true (by kernel_rfl))) (by rw [hn]; decide)
            obtain rfl := hw0 hD0
            have hK := hK.out
            simp only [fillO, Act.put, List.setIfInBounds_toArray, List.set_cons_zero, List.set_cons_succ, Nat.reduceAdd] at hK ⊢
            have x1 := hx1
            have x2 := hx2
            have x3 := hx3
            have x4 := hx4
            have x5 := hx5
            have x6 := hx6
            have c0 := hc0
            refine Wrap.mk ?_
            go_simp
            refine hK _ _ ?_
            exact ⟨fun _ => rfl, fun h _ => absurd (hD0.symm.trans h) (by decide), fun h => absurd (hD1.symm.trans h) (by decide), h0, h1, h2, fun _ => rfl, h4, h5, h6, h7, h8, h9, h10, h11, h12, h13, h15⟩
          · refine stepO_plain rfl (fun D x W hJ hp hn hcl K hK => ?_)
            obtain ⟨hw0, hw1, hw2, h0, h1, h2, h3, h4, h5, h6, h7, h8, h9, h10, h11, h12, h13, h15⟩ := hJ
            have hD0 : D 14 = false := by
              cases h : D 14 with
              | false => rfl
              | true => exact absurd (hcl 14 _ rfl h 4 (of_decide_eq_true (by kernel_rfl))) (by rw [hn]; decide)
            have hD1 : D 16 = false := by
              cases h : D 16 with
              | false => rfl
              | true => exact absurd (hcl 16 _ rfl h 4 (of_decide_eq_true (by kernel_rfl))) (by rw [hn]; decide)
            obtain rfl := hw0 hD0
            have hK := hK.out
            have d2 : D 2 = true := hp 2 (of_decide_eq_true (by kernel_rfl))
            have e2 := h2 d2
            have d3 : D 3 = true := hp 3 (of_decide_eq_true (by kernel_rfl))
            have e3 := h3 d3
            simp only [fillO, Act.put, List.setIfInBounds_toArray, List.set_cons_zero, List.set_cons_succ, Nat.reduceAdd] at hK ⊢
            simp only [e2, e3] at hK ⊢
            have x1 := hx1
            have x2 := hx2
            have x3 := hx3
            have x4 := hx4
            have x5 := hx5
            have x6 := hx6
            have c0 := hc0
            refine Wrap.mk ?_
            go_simp
            refine hK _ _ ?_
            exact ⟨fun _ => rfl, fun h _ => absurd (hD0.symm.trans h) (by decide), fun h => absurd (hD1.symm.trans h) (by decide), h0, h1, h2, h3, fun _ => rfl, h5, h6, h7, h8, h9, h10, h11, h12, h13, h15⟩
          · refine stepO_plain rfl (fun D x W hJ hp hn hcl K hK => ?_)
            obtain ⟨hw0, hw1, hw2, h0, h1, h2, h3, h4, h5, h6, h7, h8, h9, h10, h11, h12, h13, h15⟩ := hJ
            have hD0 : D 14 = false := by
              cases h : D 14 with
              | false => rfl
              | true => exact absurd (hcl 14 _ rfl h 5 (of_decide_eq_true (by kernel_rfl))) (by rw [hn]; decide)
            have hD1 : D 16 = false := by
              cases h : D 16 with
              | false => rfl
              | true => exact absurd (hcl 16 _ rfl h 5 (of_decide_eq_true (by kernel_rfl))) (by rw [hn]; decide)
            obtain rfl := hw0 hD0
            have hK := hK.out
            have d4 : D 4 = true := hp 4 (of_decide_eq_true (by kernel_rfl))
            have e4 := h4 d4
            simp only [fillO, Act.put, List.setIfInBounds_toArray, List.set_cons_zero, List.set_cons_succ, Nat.reduceAdd] at hK ⊢
            simp only [e4] at hK ⊢
            have x1 := hx1
            have x2 := hx2
            have x3 := hx3
            have x4 := hx4
            have x5 := hx5
            have x6 := hx6
            have c0 := hc0
            refine Wrap.mk ?_
            go_simp
            refine (HN1.out _).mono ?_
            rintro e W' ⟨rfl, rfl⟩
            exact hK _ _ ⟨fun _ => rfl, fun h _ => absurd (hD0.symm.trans h) (by decide), fun h => absurd (hD1.symm.trans h) (by decide), h0, h1, h2, h3, h4, fun _ => rfl, h6, h7, h8, h9, h10, h11, h12, h13, h15⟩
          · refine stepO_plain rfl (fun D x W hJ hp hn hcl K hK => ?_)
            obtain ⟨hw0, hw1, hw2, h0, h1, h2, h3, h4, h5, h6, h7, h8, h9, h10, h11, h12, h13, h15⟩ := hJ
            have hD0 : D 14 = false := by
              cases h : D 14 with
              | false => rfl
              | true => exact absurd (hcl 7 _ rfl (hcl 8 _ rfl (hcl 11 _ rfl (hcl 12 _ rfl (hcl 14 _ rfl h 12 (of_decide_eq_true (by kernel_rfl))) 11 (of_decide_eq_true (by kernel_rfl))) 8 (of_decide_eq_true (by kernel_rfl))) 7 (of_decide_eq_true (by kernel_rfl))) 6 (of_decide_eq_true (by kernel_rfl))) (by rw [hn]; decide)
            have hD1 : D 16 = false := by
              cases h : D 16 with
              | false => rfl
              | true => exact absurd (hcl 16 _ rfl h 6 (of_decide_eq_true (by kernel_rfl))) (by rw [hn]; decide)
            obtain rfl := hw0 hD0
            have hK := hK.out
            simp only [fillO, Act.put, List.setIfInBounds_toArray, List.set_cons_zero, List.set_cons_succ, Nat.reduceAdd] at hK ⊢
            have x1 := hx1
            have x2 := hx2
            have x3 := hx3
            have x4 := hx4
            have x5 := hx5
            have x6 := hx6
            have c0 := hc0
            refine Wrap.mk ?_
            go_simp
            refine hK _ _ ?_
            exact ⟨fun _ => rfl, fun h _ => absurd (hD0.symm.trans h) (by decide), fun h => absurd (hD1.symm.trans h) (by decide), h0, h1, h2, h3, h4, h5, fun _ => rfl, h7, h8, h9, h10, h11, h12, h13, h15⟩
          · refine stepO_plain rfl (fun D x W hJ hp hn hcl K hK => ?_)
            obtain ⟨hw0, hw1, hw2, h0, h1, h2, h3, h4, h5, h6, h7, h8, h9, h10, h11, h12, h13, h15⟩ := hJ
            have hD0 : D 14 = false := by
              cases h : D 14 with
              | false => rfl
              | true => exact absurd (hcl 8 _ rfl (hcl 11 _ rfl (hcl 12 _ rfl (hcl 14 _ rfl h 12 (of_decide_eq_true (by kernel_rfl))) 11 (of_decide_eq_true (by kernel_rfl))) 8 (of_decide_eq_true (by kernel_rfl))) 7 (of_decide_eq_true (by kernel_rfl))) (by rw [hn]; decide)
            have hD1 : D 16 = false := by
              cases h : D 16 with
              | false => rfl
              | true => exact absurd (hcl 16 _ rfl h 7 (of_decide_eq_true (by kernel_rfl))) (by rw [hn]; decide)
            obtain rfl := hw0 hD0
            have hK := hK.out
            have d6 : D 6 = true := hp 6 (of_decide_eq_true (by kernel_rfl))
            have e6 := h6 d6
            simp only [fillO, Act.put, List.setIfInBounds_toArray, List.set_cons_zero, List.set_cons_succ, Nat.reduceAdd] at hK ⊢
            simp only [e6] at hK ⊢
            have x1 := hx1
            have x2 := hx2
            have x3 := hx3
            have x4 := hx4
            have x5 := hx5
            have x6 := hx6
            have c0 := hc0
            refine Wrap.mk ?_
            go_simp
            refine hK _ _ ?_
            exact ⟨fun _ => rfl, fun h _ => absurd (hD0.symm.trans h) (by decide), fun h => absurd (hD1.symm.trans h) (by decide), h0, h1, h2, h3, h4, h5, h6, fun _ => rfl, h8, h9, h10, h11, h12, h13, h15⟩
          · refine stepO_plain rfl (fun D x W hJ hp hn hcl K hK => ?_)
            obtain ⟨hw0, hw1, hw2, h0, h1, h2, h3, h4, h5, h6, h7, h8, h9, h10, h11, h12, h13, h15⟩ := hJ
            have hD0 : D 14 = false := by
              cases h : D 14 with
              | false => rfl
              | true => exact absurd (hcl 11 _ rfl (hcl 12 _ rfl (hcl 14 _ rfl h 12 (of_decide_eq_true (by kernel_rfl))) 11 (of_decide_eq_true (by kernel_rfl))) 8 (of_decide_eq_true (by kernel_rfl))) (by rw [hn]; decide)
            have hD1 : D 16 = false := by
              cases h : D 16 with
              | false => rfl
              | true => exact absurd (hcl 16 _ rfl h 8 (of_decide_eq_true (by kernel_rfl))) (by rw [hn]; decide)
            obtain rfl := hw0 hD0
            have hK := hK.out
            have d7 : D 7 = true := hp 7 (of_decide_eq_true (by kernel_rfl))
            have e7 := h7 d7
            simp only [fillO, Act.put, List.setIfInBounds_toArray, List.set_cons_zero, List.set_cons_succ, Nat.reduceAdd] at hK ⊢
            simp only [e7] at hK ⊢
            have x1 := hx1
            have x2 := hx2
            have x3 := hx3
            have x4 := hx4
            have x5 := hx5
            have x6 := hx6
            have c0 := hc0
            refine Wrap.mk ?_
            go_simp
            refine hK _ _ ?_
            exact ⟨fun _ => rfl, fun h _ => absurd (hD0.symm.trans h) (by decide), fun h => absurd (hD1.symm.trans h) (by decide), h0, h1, h2, h3, h4, h5, h6, h7, fun _ => rfl, h9, h10, h11, h12, h13, h15⟩
          · refine stepO_plain rfl (fun D x W hJ hp hn hcl K hK => ?_)
            obtain ⟨hw0, hw1, hw2, h0, h1, h2, h3, h4, h5, h6, h7, h8, h9, h10, h11, h12, h13, h15⟩ := hJ
            have hD0 : D 14 = false := by
              cases h : D 14 with
              | false => rfl
              | true => exact absurd (hcl 10 _ rfl (hcl 11 _ rfl (hcl 12 _ rfl (hcl 14 _ rfl h 12 (of_decide_eq_true (by kernel_rfl))) 11 (of_decide_eq_true (by kernel_rfl))) 10 (of_decide_eq_true (by kernel_rfl))) 9 (of_decide_eq_true (by kernel_rfl))) (by rw [hn]; decide)
            have hD1 : D 16 = false := by
              cases h : D 16 with
              | false => rfl
              | true => exact absurd (hcl 16 _ rfl h 9 (of_decide_eq_true (by kernel_rfl))) (by rw [hn]; decide)
            obtain rfl := hw0 hD0
            have hK := hK.out
            simp only [fillO, Act.put, List.setIfInBounds_toArray, List.set_cons_zero, List.set_cons_succ, Nat.reduceAdd] at hK ⊢
            have x1 := hx1
            have x2 := hx2
            have x3 := hx3
            have x4 := hx4
            have x5 := hx5
            have x6 := hx6
            have c0 := hc0
            refine Wrap.mk ?_
            go_simp
            refine hK _ _ ?_
            exact ⟨fun _ => rfl, fun h _ => absurd (hD0.symm.trans h) (by decide), fun h => absurd (hD1.symm.trans h) (by decide), h0, h1, h2, h3, h4, h5, h6, h7, h8, fun _ => rfl, h10, h11, h12, h13, h15⟩
          · refine stepO_plain rfl (fun D x W hJ hp hn hcl K hK => ?_)
            obtain ⟨hw0, hw1, hw2, h0, h1, h2, h3, h4, h5, h6, h7, h8, h9, h10, h11, h12, h13, h15⟩ := hJ
            have hD0 : D 14 = false := by
              cases h : D 14 with
              | false => rfl
              | true => exact absurd (hcl 11 _ rfl (hcl 12 _ rfl (hcl 14 _ rfl h 12 (of_decide_eq_true (by kernel_rfl))) 11 (of_decide_eq_true (by kernel_rfl))) 10 (of_decide_eq_true (by kernel_rfl))) (by rw [hn]; decide)
            have hD1 : D 16 = false := by
              cases h : D 16 with
              | false => rfl
              | true => exact absurd (hcl 16 _ rfl h 10 (of_decide_eq_true (by kernel_rfl))) (by rw [hn]; decide)
            obtain rfl := hw0 hD0
            have hK := hK.out
            have d9 : D 9 = true := hp 9 (of_decide_eq_true (by kernel_rfl))
            have e9 := h9 d9
            simp only [fillO, Act.put, List.setIfInBounds_toArray, List.set_cons_zero, List.set_cons_succ, Nat.reduceAdd] at hK ⊢
            simp only [e9] at hK ⊢
            have x1 := hx1
            have x2 := hx2
            have x3 := hx3
            have x4 := hx4
            have x5 := hx5
            have x6 := hx6
            have c0 := hc0
            refine Wrap.mk ?_
            go_simp
            refine hK _ _ ?_
            exact ⟨fun _ => rfl, fun h _ => absurd (hD0.symm.trans h) (by decide), fun h => absurd (hD1.symm.trans h) (by decide), h0, h1, h2, h3, h4, h5, h6, h7, h8, h9, fun _ => rfl, h11, h12, h13, h15⟩
          · refine stepO_plain rfl (fun D x W hJ hp hn hcl K hK => ?_)
            obtain ⟨hw0, hw1, hw2, h0, h1, h2, h3, h4, h5, h6, h7, h8, h9, h10, h11, h12, h13, h15⟩ := hJ
            have hD0 : D 14 = false := by
              cases h : D 14 with
              | false => rfl
              | true => exact absurd (hcl 12 _ rfl (hcl 14 _ rfl h 12 (of_decide_eq_true (by kernel_rfl))) 11 (of_decide_eq_true (by kernel_rfl))) (by rw [hn]; decide)
            have hD1 : D 16 = false := by
              cases h : D 16 with
              | false => rfl
              | true => exact absurd (hcl 16 _ rfl h 11 (of_decide_eq_true (by kernel_rfl))) (by rw [hn]; decide)
            obtain rfl := hw0 hD0
            have hK := hK.out
            have d8 : D 8 = true := hp 8 (of_decide_eq_true (by kernel_rfl))
            have e8 := h8 d8
            have d10 : D 10 = true := hp 10 (of_decide_eq_true (by kernel_rfl))
            have e10 := h10 d10
            simp only [fillO, Act.put, List.setIfInBounds_toArray, List.set_cons_zero, List.set_cons_succ, Nat.reduceAdd] at hK ⊢
            simp only [e8, e10] at hK ⊢
            have x1 := hx1
            have x2 := hx2
            have x3 := hx3
            have x4 := hx4
            have x5 := hx5
            have x6 := hx6
            have c0 := hc0
            refine Wrap.mk ?_
            go_simp
            refine hK _ _ ?_
            exact ⟨fun _ => rfl, fun h _ => absurd (hD0.symm.trans h) (by decide), fun h => absurd (hD1.symm.trans h) (by decide), h0, h1, h2, h3, h4, h5, h6, h7, h8, h9, h10, fun _ => rfl, h12, h13, h15⟩
          · refine stepO_plain rfl (fun D x W hJ hp hn hcl K hK => ?_)
            obtain ⟨hw0, hw1, hw2, h0, h1, h2, h3, h4, h5, h6, h7, h8, h9, h10, h11, h12, h13, h15⟩ := hJ
            have hD0 : D 14 = false := by
              cases h : D 14 with
              | false => rfl
              | true => exact absurd (hcl 14 _ rfl h 12 (of_decide_eq_true (by kernel_rfl))) (by rw [hn]; decide)
            have hD1 : D 16 = false := by
              cases h : D 16 with
              | false => rfl
              | true => exact absurd (hcl 16 _ rfl h 12 (of_decide_eq_true (by kernel_rfl))) (by rw [hn]; decide)
            obtain rfl := hw0 hD0
            have hK := hK.out
            have d11 : D 11 = true := hp 11 (of_decide_eq_true (by kernel_rfl))
            have e11 := h11 d11
            simp only [fillO, Act.put, List.setIfInBounds_toArray, List.set_cons_zero, List.set_cons_succ, Nat.reduceAdd] at hK ⊢
            simp only [e11] at hK ⊢
            have x1 := hx1
            have x2 := hx2
            have x3 := hx3
            have x4 := hx4
            have x5 := hx5
            have x6 := hx6
            have c0 := hc0
            refine Wrap.mk ?_
            go_simp
            refine (HN2.out _).mono ?_
            rintro e W' ⟨rfl, rfl⟩
            exact hK _ _ ⟨fun _ => rfl, fun h _ => absurd (hD0.symm.trans h) (by decide), fun h => absurd (hD1.symm.trans h) (by decide), h0, h1, h2, h3, h4, h5, h6, h7, h8, h9, h10, h11, fun _ => rfl, h13, h15⟩
          · refine stepO_plain rfl (fun D x W hJ hp hn hcl K hK => ?_)
            obtain ⟨hw0, hw1, hw2, h0, h1, h2, h3, h4, h5, h6, h7, h8, h9, h10, h11, h12, h13, h15⟩ := hJ
            have hD0 : D 14 = false := by
              cases h : D 14 with
              | false => rfl
              | true => exact absurd (hcl 14 _ rfl h 13 (of_decide_eq_true (by kernel_rfl))) (by rw [hn]; decide)
            have hD1 : D 16 = false := by
              cases h : D 16 with
              | false => rfl
              | true => exact absurd (hcl 16 _ rfl h 13 (of_decide_eq_true (by kernel_rfl))) (by rw [hn]; decide)
            obtain rfl := hw0 hD0
            have hK := hK.out
            simp only [fillO, Act.put, List.setIfInBounds_toArray, List.set_cons_zero, List.set_cons_succ, Nat.reduceAdd] at hK ⊢
            refine Wrap.mk ?_
            go_simp
            refine hK _ _ ?_
            exact ⟨fun _ => rfl, fun h _ => absurd (hD0.symm.trans h) (by decide), fun h => absurd (hD1.symm.trans h) (by decide), h0, h1, h2, h3, h4, h5, h6, h7, h8, h9, h10, h11, h12, fun _ => rfl, h15⟩
          · refine stepO_plain rfl (fun D x W hJ hp hn hcl K hK => ?_)
            obtain ⟨hw0, hw1, hw2, h0, h1, h2, h3, h4, h5, h6, h7, h8, h9, h10, h11, h12, h13, h15⟩ := hJ
            have hD0 : D 14 = false := hn
            have hD1 : D 16 = false := by
              cases h : D 16 with
              | false => rfl
              | true => exact absurd (hcl 16 _ rfl h 14 (of_decide_eq_true (by kernel_rfl))) (by rw [hn]; decide)
            obtain rfl := hw0 hD0
            have hK := hK.out
            have d5 : D 5 = true := hp 5 (of_decide_eq_true (by kernel_rfl))
            have e5 := h5 d5
            have d13 : D 13 = true := hp 13 (of_decide_eq_true (by kernel_rfl))
            have e13 := h13 d13
            simp only [fillO, Act.put, List.setIfInBounds_toArray, List.set_cons_zero, List.set_cons_succ, Nat.reduceAdd] at hK ⊢
            simp only [e5, e13] at hK ⊢
            have d0 := q1.c0
            have f0 := q1.fz 0
            dsimp only at d0
            refine Wrap.mk ?_
            go_simp
            refine hK undef _ ?_
            exact ⟨fun h => absurd (show true = false from h) (by decide), fun _ _ => rfl, fun h => absurd (hD1.symm.trans h) (by decide), h0, h1, h2, h3, h4, h5, h6, h7, h8, h9, h10, h11, h12, h13, h15⟩
          · refine stepO_plain rfl (fun D x W hJ hp hn hcl K hK => ?_)
            obtain ⟨hw0, hw1, hw2, h0, h1, h2, h3, h4, h5, h6, h7, h8, h9, h10, h11, h12, h13, h15⟩ := hJ
            have hD1 : D 16 = false := by
              cases h : D 16 with
              | false => rfl
              | true => exact absurd (hcl 16 _ rfl h 15 (of_decide_eq_true (by kernel_rfl))) (by rw [hn]; decide)
            have hD0 : D 14 = true := (hp 14 (of_decide_eq_true (by kernel_rfl)))
            obtain rfl := hw1 hD0 hD1
            have hK := hK.out
            simp only [fillO, Act.put, List.setIfInBounds_toArray, List.set_cons_zero, List.set_cons_succ, Nat.reduceAdd] at hK ⊢
            refine Wrap.mk ?_
            go_simp
            refine hK _ _ ?_
            exact ⟨fun h => absurd (hD0.symm.trans h) (by decide), fun _ _ => rfl, fun h => absurd (hD1.symm.trans h) (by decide), h0, h1, h2, h3, h4, h5, h6, h7, h8, h9, h10, h11, h12, h13, fun _ => rfl⟩
          · refine stepO_plain rfl (fun D x W hJ hp hn hcl K hK => ?_)
            obtain ⟨hw0, hw1, hw2, h0, h1, h2, h3, h4, h5, h6, h7, h8, h9, h10, h11, h12, h13, h15⟩ := hJ
            have hD0 : D 14 = true := (hp 14 (of_decide_eq_true (by kernel_rfl)))
            have hD1 : D 16 = false := hn
            obtain rfl := hw1 hD0 hD1
            have hK := hK.out
            have d12 : D 12 = true := hp 12 (of_decide_eq_true (by kernel_rfl))
            have e12 := h12 d12
            have d15 : D 15 = true := hp 15 (of_decide_eq_true (by kernel_rfl))
            have e15 := h15 d15
            simp only [fillO, Act.put, List.setIfInBounds_toArray, List.set_cons_zero, List.set_cons_succ, Nat.reduceAdd] at hK ⊢
            simp only [e12, e15] at hK ⊢
            have hq1 := PB.set0 q1 fr
            have d1 := hq1.c1
            have f1 := hq1.fz 1
            dsimp only at d1
            clear hq1
            refine Wrap.mk ?_
            go_simp
            refine hK undef _ ?_
            exact ⟨fun h => absurd (hD0.symm.trans h) (by decide), fun _ h => absurd (show true = false from h) (by decide), fun _ => rfl, h0, h1, h2, h3, h4, h5, h6, h7, h8, h9, h10, h11, h12, h13, h15⟩
        · intro x W hJ
          obtain ⟨hw0, hw1, hw2, h0, h1, h2, h3, h4, h5, h6, h7, h8, h9, h10, h11, h12, h13, h15⟩ := hJ
          obtain rfl := hw2 (by decide)
          have e0 := h0 (by decide)
          have e1 := h1 (by decide)
          have e2 := h2 (by decide)
          have e3 := h3 (by decide)
          have e4 := h4 (by decide)
          have e5 := h5 (by decide)
          have e6 := h6 (by decide)
          have e7 := h7 (by decide)
          have e8 := h8 (by decide)
          have e9 := h9 (by decide)
          have e10 := h10 (by decide)
          have e11 := h11 (by decide)
          have e12 := h12 (by decide)
          have e13 := h13 (by decide)
          have e15 := h15 (by decide)
          clear hw0 hw1 hw2 h0 h1 h2 h3 h4 h5 h6 h7 h8 h9 h10 h11 h12 h13 h15
          simp only [fillO, Act.put, List.setIfInBounds_toArray, List.set_cons_zero, List.set_cons_succ, Nat.reduceAdd]
          simp only [e0, e1, e2, e3, e4, e5, e6, e7, e8, e9, e10, e11, e12, e13, e15]
          clear e0 e1 e2 e3 e4 e5 e6 e7 e8 e9 e10 e11 e12 e13 e15 x
          replace q0 := (q0.far (a := ⟨w.heap.size + 1, 0, none⟩) (by simp) (.int .i64 fr)).far (a := ⟨w.heap.size + 1, 1, none⟩) (by simp) (.int .i64 tt)
          replace q1 := (q1.set0 fr).set1 tt
          replace hb := (hb.setCell (p := ⟨w.heap.size + 1, 0, none⟩) (by simp) (.int .i64 fr)).setCell (p := ⟨w.heap.size + 1, 1, none⟩) (by simp) (.int .i64 tt)
          dsimp only at q1
          clear hc0 HWD
          generalize (wd.setCell ⟨w.heap.size + 1, 0, none⟩ (.int .i64 fr)).setCell ⟨w.heap.size + 1, 1, none⟩ (.int .i64 tt) = W2 at *
          go_upto_region 14 with fail
          obtain ⟨wd2, hwd⟩ : ∃ wd, wd = W2.drew := ⟨_, rfl⟩
          replace q1 : PB wd2 (w.heap.size + 1) ⟨fr, tt, 0⟩ := hwd ▸ q1
          replace q0 : PB wd2 w.heap.size ⟨0, 0, 0⟩ := hwd ▸ q0
          replace hb : Below w.heap.size w wd2 := hwd ▸ hb.drew
          have HWD := Lib.hid hwd
          clear hwd
          have q1p := ((q1.far (a := ⟨w.heap.size, 0, none⟩) (by simp) (.int .i64 fr)).far (a := ⟨w.heap.size, 1, none⟩) (by simp) (.int .i64 tt)).far (a := ⟨w.heap.size, 2, none⟩) (by simp) (.int .i64 0)
          have st0 := q0.c0
          have st1 := q0.c1
          have st2 := q0.c2
          have sf0 := q0.fz 0
          have sf1 := q0.fz 1
          have sf2 := q0.fz 2
          dsimp only at st0 st1 st2
          cases hf : decide (0 ≤ fr) with
          | true =>
            obtain ⟨ok, hok⟩ : ∃ ok, decide (0 ≤ tt) = ok := ⟨_, rfl⟩
            rw [hf, hok, Bool.true_and] at HQ
            refine wp_region_inv (by kernel_rfl) (fun D x W => (D 9 = false → W = wd2) ∧ (D 9 = true → W = ((wd2.setCell ⟨w.heap.size, 0, none⟩ (.int .i64 fr)).setCell ⟨w.heap.size, 1, none⟩ (.int .i64 tt)).setCell ⟨w.heap.size, 2, none⟩ (.int .i64 0)) ∧ (D 0 = true → x 0 = .agg #[.int .i64 fr, .int .i64 tt, .int .i64 0]) ∧ (D 1 = true → x 1 = .pointer (some ⟨w.heap.size + 1, 0, none⟩)) ∧ (D 2 = true → x 2 = .int .i64 fr) ∧ (D 3 = true → x 3 = .bool true) ∧ (D 4 = true → x 4 = .bool true) ∧ (D 5 = true → x 5 = .pointer (some ⟨w.heap.size + 1, 1, none⟩)) ∧ (D 6 = true → x 6 = .int .i64 tt) ∧ (D 7 = true → x 7 = .bool ok) ∧ (D 8 = true → x 8 = .bool ok) ∧ (D 10 = true → x 10 = .bool ok)) (by kernel_rfl) (by kernel_rfl) (fun x => ⟨fun _ => HWD.out.symm, fun h => (by cases h), fun h => (by cases h), fun h => (by cases h), fun h => (by cases h), fun h => (by cases h), fun h => (by cases h), fun h => (by cases h), fun h => (by cases h), fun h => (by cases h), fun h => (by cases h), fun h => (by cases h)⟩) ?_ ?_
            · refine And.intro ?_ (And.intro ?_ (And.intro ?_ (And.intro ?_ (And.intro ?_ (And.intro ?_ (And.intro ?_ (And.intro ?_ (And.intro ?_ (And.intro ?_ (And.intro ?_ trivial))))))))))
              · refine stepO_plain rfl (fun D x W hJ hp hn hcl K hK => ?_)
                obtain ⟨hw0, hw1, h0, h1, h2, h3, h4, h5, h6, h7, h8, h10⟩ := hJ
                have hD0 : D 9 = false := by
                  cases h : D 9 with
                  | false => rfl
                  | true => exact absurd (hcl 9 _ rfl h 0 (of_decide_eq_true (by kernel_rfl))) (by rw [hn]; decide)
                obtain rfl := hw0 hD0
                have hK := hK.out
                simp only [fillO, Act.put, List.setIfInBounds_toArray, List.set_cons_zero, List.set_cons_succ, Nat.reduceAdd] at hK ⊢
                have d0 := q1.c0
                have d1 := q1.c1
                have d2 := q1.c2
                dsimp only at d0 d1 d2
                refine Wrap.mk ?_
                go_simp
                refine hK _ _ ?_
                exact ⟨fun _ => rfl, fun h => absurd (hD0.symm.trans h) (by decide), fun _ => rfl, h1, h2, h3, h4, h5, h6, h7, h8, h10⟩
              · refine stepO_plain rfl (fun D x W hJ hp hn hcl K hK => ?_)
                obtain ⟨hw0, hw1, h0, h1, h2, h3, h4, h5, h6, h7, h8, h10⟩ := hJ
                have hD0 : D 9 = false := by
                  cases h : D 9 with
                  | false => rfl
                  | true => exact absurd (hcl 2 _ rfl (hcl 3 _ rfl (hcl 4 _ rfl (hcl 9 _ rfl h 4 (of_decide_eq_true (by kernel_rfl))) 3 (of_decide_eq_true (by kernel_rfl))) 2 (of_decide_eq_true (by kernel_rfl))) 1 (of_decide_eq_true (by kernel_rfl))) (by rw [hn]; decide)
                obtain rfl := hw0 hD0
                have hK := hK.out
                simp only [fillO, Act.put, List.setIfInBounds_toArray, List.set_cons_zero, List.set_cons_succ, Nat.reduceAdd] at hK ⊢
                refine Wrap.mk ?_
                go_simp
                refine hK _ _ ?_
                exact ⟨fun _ => rfl, fun h => absurd (hD0.symm.trans h) (by decide), h0, fun _ => rfl, h2, h3, h4, h5, h6, h7, h8, h10⟩
              · refine stepO_plain rfl (fun D x W hJ hp hn hcl K hK => ?_)
                obtain ⟨hw0, hw1, h0, h1, h2, h3, h4, h5, h6, h7, h8, h10⟩ := hJ
                have hD0 : D 9 = false := by
                  cases h : D 9 with
                  | false => rfl
                  | true => exact absurd (hcl 3 _ rfl (hcl 4 _ rfl (hcl 9 _ rfl h 4 (of_decide_eq_true (by kernel_rfl))) 3 (of_decide_eq_true (by kernel_rfl))) 2 (of_decide_eq_true (by kernel_rfl))) (by rw [hn]; decide)
                obtain rfl := hw0 hD0
                have hK := hK.out
                have d1 : D 1 = true := hp 1 (of_decide_eq_true (by kernel_rfl))
                have e1 := h1 d1
                simp only [fillO, Act.put, List.setIfInBounds_toArray, List.set_cons_zero, List.set_cons_succ, Nat.reduceAdd] at hK ⊢
                simp only [e1] at hK ⊢
                have d0 := q1.c0
                have d1 := q1.c1
                have d2 := q1.c2
                dsimp only at d0 d1 d2
                refine Wrap.mk ?_
                go_simp
                refine hK _ _ ?_
                exact ⟨fun _ => rfl, fun h => absurd (hD0.symm.trans h) (by decide), h0, h1, fun _ => rfl, h3, h4, h5, h6, h7, h8, h10⟩
              · refine stepO_plain rfl (fun D x W hJ hp hn hcl K hK => ?_)
                obtain ⟨hw0, hw1, h0, h1, h2, h3, h4, h5, h6, h7, h8, h10⟩ := hJ
                have hD0 : D 9 = false := by
                  cases h : D 9 with
                  | false => rfl
                  | true => exact absurd (hcl 4 _ rfl (hcl 9 _ rfl h 4 (of_decide_eq_true (by kernel_rfl))) 3 (of_decide_eq_true (by kernel_rfl))) (by rw [hn]; decide)
                obtain rfl := hw0 hD0
                have hK := hK.out
                have d2 : D 2 = true := hp 2 (of_decide_eq_true (by kernel_rfl))
                have e2 := h2 d2
                simp only [fillO, Act.put, List.setIfInBounds_toArray, List.set_cons_zero, List.set_cons_succ, Nat.reduceAdd] at hK ⊢
                simp only [e2] at hK ⊢
                have hf2 := hf
                refine Wrap.mk ?_
                go_simp
                refine hK _ _ ?_
                exact ⟨fun _ => rfl, fun h => absurd (hD0.symm.trans h) (by decide), h0, h1, h2, fun _ => rfl, h4, h5, h6, h7, h8, h10⟩
              · refine stepO_plain rfl (fun D x W hJ hp hn hcl K hK => ?_)
                obtain ⟨hw0, hw1, h0, h1, h2, h3, h4, h5, h6, h7, h8, h10⟩ := hJ
                have hD0 : D 9 = false := by
                  cases h : D 9 with
                  | false => rfl
                  | true => exact absurd (hcl 9 _ rfl h 4 (of_decide_eq_true (by kernel_rfl))) (by rw [hn]; decide)
                obtain rfl := hw0 hD0
                have hK := hK.out
                have d3 : D 3 = true := hp 3 (of_decide_eq_true (by kernel_rfl))
                have e3 := h3 d3
                simp only [fillO, Act.put, List.setIfInBounds_toArray, List.set_cons_zero, List.set_cons_succ, Nat.reduceAdd] at hK ⊢
                simp only [e3] at hK ⊢
                refine Wrap.mk ?_
                go_simp
                refine hK _ _ ?_
                exact ⟨fun _ => rfl, fun h => absurd (hD0.symm.trans h) (by decide), h0, h1, h2, h3, fun _ => rfl, h5, h6, h7, h8, h10⟩
              · refine stepO_on (d := 56) rfl rfl rfl (of_decide_eq_true (by kernel_rfl)) (by kernel_rfl) (fun D x W hJ hp hn hcl K hK => ?_)
                obtain ⟨hw0, hw1, h0, h1, h2, h3, h4, h5, h6, h7, h8, h10⟩ := hJ
                cases hD0 : D 9 with
                | false =>
                  obtain rfl := hw0 hD0
                  have hK := hK.out
                  simp only [fillO, Act.put, List.setIfInBounds_toArray, List.set_cons_zero, List.set_cons_succ, Nat.reduceAdd] at hK ⊢
                  refine ⟨h4 (hp 4 (of_decide_eq_true (by kernel_rfl))), Wrap.mk ?_⟩
                  go_simp
                  refine hK _ _ ?_
                  exact ⟨fun _ => rfl, fun h => absurd (hD0.symm.trans h) (by decide), h0, h1, h2, h3, h4, fun _ => rfl, h6, h7, h8, h10⟩
                | true =>
                  obtain rfl := hw1 hD0
                  have hK := hK.out
                  simp only [fillO, Act.put, List.setIfInBounds_toArray, List.set_cons_zero, List.set_cons_succ, Nat.reduceAdd] at hK ⊢
                  refine ⟨h4 (hp 4 (of_decide_eq_true (by kernel_rfl))), Wrap.mk ?_⟩
                  go_simp
                  refine hK _ _ ?_
                  exact ⟨fun h => absurd (hD0.symm.trans h) (by decide), fun _ => rfl, h0, h1, h2, h3, h4, fun _ => rfl, h6, h7, h8, h10⟩
              · refine stepO_on (d := 56) rfl rfl rfl (of_decide_eq_true (by kernel_rfl)) (by kernel_rfl) (fun D x W hJ hp hn hcl K hK => ?_)
                obtain ⟨hw0, hw1, h0, h1, h2, h3, h4, h5, h6, h7, h8, h10⟩ := hJ
                cases hD0 : D 9 with
                | false =>
                  obtain rfl := hw0 hD0
                  have hK := hK.out
                  have d5 : D 5 = true := hp 5 (of_decide_eq_true (by kernel_rfl))
                  have e5 := h5 d5
                  simp only [fillO, Act.put, List.setIfInBounds_toArray, List.set_cons_zero, List.set_cons_succ, Nat.reduceAdd] at hK ⊢
                  simp only [e5] at hK ⊢
                  have d0 := q1.c0
                  have d1 := q1.c1
                  have d2 := q1.c2
                  dsimp only at d0 d1 d2
                  refine ⟨h4 (hp 4 (of_decide_eq_true (by kernel_rfl))), Wrap.mk ?_⟩
                  go_simp
                  refine hK _ _ ?_
                  exact ⟨fun _ => rfl, fun h => absurd (hD0.symm.trans h) (by decide), h0, h1, h2, h3, h4, h5, fun _ => rfl, h7, h8, h10⟩
                | true =>
                  obtain rfl := hw1 hD0
                  have hK := hK.out
                  have d5 : D 5 = true := hp 5 (of_decide_eq_true (by kernel_rfl))
                  have e5 := h5 d5
                  simp only [fillO, Act.put, List.setIfInBounds_toArray, List.set_cons_zero, List.set_cons_succ, Nat.reduceAdd] at hK ⊢
                  simp only [e5] at hK ⊢
                  have d0 := q1p.c0
                  have d1 := q1p.c1
                  have d2 := q1p.c2
                  dsimp only at d0 d1 d2
                  refine ⟨h4 (hp 4 (of_decide_eq_true (by kernel_rfl))), Wrap.mk ?_⟩
                  go_simp
                  refine hK _ _ ?_
                  exact ⟨fun h => absurd (hD0.symm.trans h) (by decide), fun _ => rfl, h0, h1, h2, h3, h4, h5, fun _ => rfl, h7, h8, h10⟩
              · refine stepO_on (d := 56) rfl rfl rfl (of_decide_eq_true (by kernel_rfl)) (by kernel_rfl) (fun D x W hJ hp hn hcl K hK => ?_)
                obtain ⟨hw0, hw1, h0, h1, h2, h3, h4, h5, h6, h7, h8, h10⟩ := hJ
                cases hD0 : D 9 with
                | false =>
                  obtain rfl := hw0 hD0
                  have hK := hK.out
                  have d6 : D 6 = true := hp 6 (of_decide_eq_true (by kernel_rfl))
                  have e6 := h6 d6
                  simp only [fillO, Act.put, List.setIfInBounds_toArray, List.set_cons_zero, List.set_cons_succ, Nat.reduceAdd] at hK ⊢
                  simp only [e6] at hK ⊢
                  have hok2 := hok
                  refine ⟨h4 (hp 4 (of_decide_eq_true (by kernel_rfl))), Wrap.mk ?_⟩
                  go_simp
                  refine hK _ _ ?_
                  exact ⟨fun _ => rfl, fun h => absurd (hD0.symm.trans h) (by decide), h0, h1, h2, h3, h4, h5, h6, fun _ => rfl, h8, h10⟩
                | true =>
                  obtain rfl := hw1 hD0
                  have hK := hK.out
                  have d6 : D 6 = true := hp 6 (of_decide_eq_true (by kernel_rfl))
                  have e6 := h6 d6
                  simp only [fillO, Act.put, List.setIfInBounds_toArray, List.set_cons_zero, List.set_cons_succ, Nat.reduceAdd] at hK ⊢
                  simp only [e6] at hK ⊢
                  have hok2 := hok
                  refine ⟨h4 (hp 4 (of_decide_eq_true (by kernel_rfl))), Wrap.mk ?_⟩
                  go_simp
                  refine hK _ _ ?_
                  exact ⟨fun h => absurd (hD0.symm.trans h) (by decide), fun _ => rfl, h0, h1, h2, h3, h4, h5, h6, fun _ => rfl, h8, h10⟩
              · refine stepO_plain rfl (fun D x W hJ hp hn hcl K hK => ?_)
                obtain ⟨hw0, hw1, h0, h1, h2, h3, h4, h5, h6, h7, h8, h10⟩ := hJ
                cases hD0 : D 9 with
                | false =>
                  obtain rfl := hw0 hD0
                  have hK := hK.out
                  have d4 : D 4 = true := hp 4 (of_decide_eq_true (by kernel_rfl))
                  have e4 := h4 d4
                  have d7 : D 7 = true := hp 7 (of_decide_eq_true (by kernel_rfl))
                  have e7 := h7 d7
                  simp only [fillO, Act.put, List.setIfInBounds_toArray, List.set_cons_zero, List.set_cons_succ, Nat.reduceAdd] at hK ⊢
                  simp only [e4, e7] at hK ⊢
                  refine Wrap.mk ?_
                  go_simp
                  refine hK _ _ ?_
                  exact ⟨fun _ => rfl, fun h => absurd (hD0.symm.trans h) (by decide), h0, h1, h2, h3, h4, h5, h6, h7, fun _ => rfl, h10⟩
                | true =>
                  obtain rfl := hw1 hD0
                  have hK := hK.out
                  have d4 : D 4 = true := hp 4 (of_decide_eq_true (by kernel_rfl))
                  have e4 := h4 d4
                  have d7 : D 7 = true := hp 7 (of_decide_eq_true (by kernel_rfl))
                  have e7 := h7 d7
                  simp only [fillO, Act.put, List.setIfInBounds_toArray, List.set_cons_zero, List.set_cons_succ, Nat.reduceAdd] at hK ⊢
                  simp only [e4, e7] at hK ⊢
                  refine Wrap.mk ?_
                  go_simp
                  refine hK _ _ ?_
                  exact ⟨fun h => absurd (hD0.symm.trans h) (by decide), fun _ => rfl, h0, h1, h2, h3, h4, h5, h6, h7, fun _ => rfl, h10⟩
              · refine stepO_plain rfl (fun D x W hJ hp hn hcl K hK => ?_)
                obtain ⟨hw0, hw1, h0, h1, h2, h3, h4, h5, h6, h7, h8, h10⟩ := hJ
                have hD0 : D 9 = false := hn
                obtain rfl := hw0 hD0
                have hK := hK.out
                have d0 : D 0 = true := hp 0 (of_decide_eq_true (by kernel_rfl))
                have e0 := h0 d0
                simp only [fillO, Act.put, List.setIfInBounds_toArray, List.set_cons_zero, List.set_cons_succ, Nat.reduceAdd] at hK ⊢
                simp only [e0] at hK ⊢
                refine Wrap.mk ?_
                go_simp
                refine hK undef _ ?_
                exact ⟨fun h => absurd (show true = false from h) (by decide), fun _ => rfl, h0, h1, h2, h3, h4, h5, h6, h7, h8, h10⟩
              · refine stepO_plain rfl (fun D x W hJ hp hn hcl K hK => ?_)
                obtain ⟨hw0, hw1, h0, h1, h2, h3, h4, h5, h6, h7, h8, h10⟩ := hJ
                have hD0 : D 9 = true := (hp 9 (of_decide_eq_true (by kernel_rfl)))
                obtain rfl := hw1 hD0
                have hK := hK.out
                have d8 : D 8 = true := hp 8 (of_decide_eq_true (by kernel_rfl))
                have e8 := h8 d8
                simp only [fillO, Act.put, List.setIfInBounds_toArray, List.set_cons_zero, List.set_cons_succ, Nat.reduceAdd] at hK ⊢
                simp only [e8] at hK ⊢
                refine Wrap.mk ?_
                go_simp
                refine hK _ _ ?_
                exact ⟨fun h => absurd (hD0.symm.trans h) (by decide), fun _ => rfl, h0, h1, h2, h3, h4, h5, h6, h7, h8, fun _ => rfl⟩
            · intro x W hJ
              obtain ⟨hw0, hw1, h0, h1, h2, h3, h4, h5, h6, h7, h8, h10⟩ := hJ
              obtain rfl := hw1 (by decide)
              have e0 := h0 (by decide)
              have e1 := h1 (by decide)
              have e2 := h2 (by decide)
              have e3 := h3 (by decide)
              have e4 := h4 (by decide)
              have e5 := h5 (by decide)
              have e6 := h6 (by decide)
              have e7 := h7 (by decide)
              have e8 := h8 (by decide)
              have e10 := h10 (by decide)
              clear hw0 hw1 h0 h1 h2 h3 h4 h5 h6 h7 h8 h10
              simp only [fillO, Act.put, List.setIfInBounds_toArray, List.set_cons_zero, List.set_cons_succ, Nat.reduceAdd]
              simp only [e0, e1, e2, e3, e4, e5, e6, e7, e8, e10]
              clear e0 e1 e2 e3 e4 e5 e6 e7 e8 e10 x
              have qf := PB.put q0 fr tt 0
              have r0 := qf.c0
              have r1 := qf.c1
              have r2 := qf.c2
              dsimp only at r0 r1 r2
              have HBF := Lib.hid (below_put3 hb (Nat.le_refl _) (.int .i64 fr) (.int .i64 tt) (.int .i64 0))
              clear qf
              go_wp2
              refine bodyPost_ret (v := .tuple #[.agg #[.int .i64 fr, .int .i64 tt, .int .i64 0], .bool ok]) (by simp [results, Tryz.f73, go_sem, r0, r1, r2]) rfl ?_
              exact ⟨HQ.out, HBF.out⟩
          | false =>
            rw [hf, Bool.false_and] at HQ
            refine wp_region_inv (by kernel_rfl) (fun D x W => (D 9 = false → W = wd2) ∧ (D 9 = true → W = ((wd2.setCell ⟨w.heap.size, 0, none⟩ (.int .i64 fr)).setCell ⟨w.heap.size, 1, none⟩ (.int .i64 tt)).setCell ⟨w.heap.size, 2, none⟩ (.int .i64 0)) ∧ (D 0 = true → x 0 = .agg #[.int .i64 fr, .int .i64 tt, .int .i64 0]) ∧ (D 1 = true → x 1 = .pointer (some ⟨w.heap.size + 1, 0, none⟩)) ∧ (D 2 = true → x 2 = .int .i64 fr) ∧ (D 3 = true → x 3 = .bool false) ∧ (D 4 = true → x 4 = .bool false) ∧ (D 5 = true → x 5 = undef) ∧ (D 6 = true → x 6 = undef) ∧ (D 7 = true → x 7 = undef) ∧ (D 8 = true → x 8 = .bool false) ∧ (D 10 = true → x 10 = .bool false)) (by kernel_rfl) (by kernel_rfl) (fun x => ⟨fun _ => HWD.out.symm, fun h => (by cases h), fun h => (by cases h), fun h => (by cases h), fun h => (by cases h), fun h => (by cases h), fun h => (by cases h), fun h => (by cases h), fun h => (by cases h), fun h => (by cases h), fun h => (by cases h), fun h => (by cases h)⟩) ?_ ?_
            · refine And.intro ?_ (And.intro ?_ (And.intro ?_ (And.intro ?_ (And.intro ?_ (And.intro ?_ (And.intro ?_ (And.intro ?_ (And.intro ?_ (And.intro ?_ (And.intro ?_ trivial))))))))))
              · refine stepO_plain rfl (fun D x W hJ hp hn hcl K hK => ?_)
                obtain ⟨hw0, hw1, h0, h1, h2, h3, h4, h5, h6, h7, h8, h10⟩ := hJ
                have hD0 : D 9 = false := by
                  cases h : D 9 with
                  | false => rfl
                  | true => exact absurd (hcl 9 _ rfl h 0 (of_decide_eq_true (by kernel_rfl))) (by rw [hn]; decide)
                obtain rfl := hw0 hD0
                have hK := hK.out
                simp only [fillO, Act.put, List.setIfInBounds_toArray, List.set_cons_zero, List.set_cons_succ, Nat.reduceAdd] at hK ⊢
                have d0 := q1.c0
                have d1 := q1.c1
                have d2 := q1.c2
                dsimp only at d0 d1 d2
                refine Wrap.mk ?_
                go_simp
                refine hK _ _ ?_
                exact ⟨fun _ => rfl, fun h => absurd (hD0.symm.trans h) (by decide), fun _ => rfl, h1, h2, h3, h4, h5, h6, h7, h8, h10⟩
              · refine stepO_plain rfl (fun D x W hJ hp hn hcl K hK => ?_)
                obtain ⟨hw0, hw1, h0, h1, h2, h3, h4, h5, h6, h7, h8, h10⟩ := hJ
                have hD0 : D 9 = false := by
                  cases h : D 9 with
                  | false => rfl
                  | true => exact absurd (hcl 2 _ rfl (hcl 3 _ rfl (hcl 4 _ rfl (hcl 9 _ rfl h 4 (of_decide_eq_true (by kernel_rfl))) 3 (of_decide_eq_true (by kernel_rfl))) 2 (of_decide_eq_true (by kernel_rfl))) 1 (of_decide_eq_true (by kernel_rfl))) (by rw [hn]; decide)
                obtain rfl := hw0 hD0
                have hK := hK.out
                simp only [fillO, Act.put, List.setIfInBounds_toArray, List.set_cons_zero, List.set_cons_succ, Nat.reduceAdd] at hK ⊢
                refine Wrap.mk ?_
                go_simp
                refine hK _ _ ?_
                exact ⟨fun _ => rfl, fun h => absurd (hD0.symm.trans h) (by decide), h0, fun _ => rfl, h2, h3, h4, h5, h6, h7, h8, h10⟩
              · refine stepO_plain rfl (fun D x W hJ hp hn hcl K hK => ?_)
                obtain ⟨hw0, hw1, h0, h1, h2, h3, h4, h5, h6, h7, h8, h10⟩ := hJ
                have hD0 : D 9 = false := by
                  cases h : D 9 with
                  | false => rfl
                  | true => exact absurd (hcl 3 _ rfl (hcl 4 _ rfl (hcl 9 _ rfl h 4 (of_decide_eq_true (by kernel_rfl))) 3 (of_decide_eq_true (by kernel_rfl))) 2 (of_decide_eq_true (by kernel_rfl))) (by rw [hn]; decide)
                obtain rfl := hw0 hD0
                have hK := hK.out
                have d1 : D 1 = true := hp 1 (of_decide_eq_true (by kernel_rfl))
                have e1 := h1 d1
                simp only [fillO, Act.put, List.setIfInBounds_toArray, List.set_cons_zero, List.set_cons_succ, Nat.reduceAdd] at hK ⊢
                simp only [e1] at hK ⊢
                have d0 := q1.c0
                have d1 := q1.c1
                have d2 := q1.c2
                dsimp only at d0 d1 d2
                refine Wrap.mk ?_
                go_simp
                refine hK _ _ ?_
                exact ⟨fun _ => rfl, fun h => absurd (hD0.symm.trans h) (by decide), h0, h1, fun _ => rfl, h3, h4, h5, h6, h7, h8, h10⟩
              · refine stepO_plain rfl (fun D x W hJ hp hn hcl K hK => ?_)
                obtain ⟨hw0, hw1, h0, h1, h2, h3, h4, h5, h6, h7, h8, h10⟩ := hJ
                have hD0 : D 9 = false := by
                  cases h : D 9 with
                  | false => rfl
                  | true => exact absurd (hcl 4 _ rfl (hcl 9 _ rfl h 4 (of_decide_eq_true (by kernel_rfl))) 3 (of_decide_eq_true (by kernel_rfl))) (by rw [hn]; decide)
                obtain rfl := hw0 hD0
                have hK := hK.out
                have d2 : D 2 = true := hp 2 (of_decide_eq_true (by kernel_rfl))
                have e2 := h2 d2
                simp only [fillO, Act.put, List.setIfInBounds_toArray, List.set_cons_zero, List.set_cons_succ, Nat.reduceAdd] at hK ⊢
                simp only [e2] at hK ⊢
                have hf2 := hf
                refine Wrap.mk ?_
                go_simp
                refine hK _ _ ?_
                exact ⟨fun _ => rfl, fun h => absurd (hD0.symm.trans h) (by decide), h0, h1, h2, fun _ => rfl, h4, h5, h6, h7, h8, h10⟩
              · refine stepO_plain rfl (fun D x W hJ hp hn hcl K hK => ?_)
                obtain ⟨hw0, hw1, h0, h1, h2, h3, h4, h5, h6, h7, h8, h10⟩ := hJ
                have hD0 : D 9 = false := by
                  cases h : D 9 with
                  | false => rfl
                  | true => exact absurd (hcl 9 _ rfl h 4 (of_decide_eq_true (by kernel_rfl))) (by rw [hn]; decide)
                obtain rfl := hw0 hD0
                have hK := hK.out
                have d3 : D 3 = true := hp 3 (of_decide_eq_true (by kernel_rfl))
                have e3 := h3 d3
                simp only [fillO, Act.put, List.setIfInBounds_toArray, List.set_cons_zero, List.set_cons_succ, Nat.reduceAdd] at hK ⊢
                simp only [e3] at hK ⊢
                refine Wrap.mk ?_
                go_simp
                refine hK _ _ ?_
                exact ⟨fun _ => rfl, fun h => absurd (hD0.symm.trans h) (by decide), h0, h1, h2, h3, fun _ => rfl, h5, h6, h7, h8, h10⟩
              · refine stepO_off (d := 56) rfl rfl rfl (of_decide_eq_true (by kernel_rfl)) (by kernel_rfl) (fun D x W hJ hp hn hcl => ?_)
                obtain ⟨hw0, hw1, h0, h1, h2, h3, h4, h5, h6, h7, h8, h10⟩ := hJ
                cases hD0 : D 9 with
                | false =>
                  obtain rfl := hw0 hD0
                  exact ⟨h4 (hp 4 (of_decide_eq_true (by kernel_rfl))), ⟨fun _ => rfl, fun h => absurd (hD0.symm.trans h) (by decide), h0, h1, h2, h3, h4, fun _ => rfl, h6, h7, h8, h10⟩⟩
                | true =>
                  obtain rfl := hw1 hD0
                  exact ⟨h4 (hp 4 (of_decide_eq_true (by kernel_rfl))), ⟨fun h => absurd (hD0.symm.trans h) (by decide), fun _ => rfl, h0, h1, h2, h3, h4, fun _ => rfl, h6, h7, h8, h10⟩⟩
              · refine stepO_off (d := 56) rfl rfl rfl (of_decide_eq_true (by kernel_rfl)) (by kernel_rfl) (fun D x W hJ hp hn hcl => ?_)
                obtain ⟨hw0, hw1, h0, h1, h2, h3, h4, h5, h6, h7, h8, h10⟩ := hJ
                cases hD0 : D 9 with
                | false =>
                  obtain rfl := hw0 hD0
                  exact ⟨h4 (hp 4 (of_decide_eq_true (by kernel_rfl))), ⟨fun _ => rfl, fun h => absurd (hD0.symm.trans h) (by decide), h0, h1, h2, h3, h4, h5, fun _ => rfl, h7, h8, h10⟩⟩
                | true =>
                  obtain rfl := hw1 hD0
                  exact ⟨h4 (hp 4 (of_decide_eq_true (by kernel_rfl))), ⟨fun h => absurd (hD0.symm.trans h) (by decide), fun _ => rfl, h0, h1, h2, h3, h4, h5, fun _ => rfl, h7, h8, h10⟩⟩
              · refine stepO_off (d := 56) rfl rfl rfl (of_decide_eq_true (by kernel_rfl)) (by kernel_rfl) (fun D x W hJ hp hn hcl => ?_)
                obtain ⟨hw0, hw1, h0, h1, h2, h3, h4, h5, h6, h7, h8, h10⟩ := hJ
                cases hD0 : D 9 with
                | false =>
                  obtain rfl := hw0 hD0
                  exact ⟨h4 (hp 4 (of_decide_eq_true (by kernel_rfl))), ⟨fun _ => rfl, fun h => absurd (hD0.symm.trans h) (by decide), h0, h1, h2, h3, h4, h5, h6, fun _ => rfl, h8, h10⟩⟩
                | true =>
                  obtain rfl := hw1 hD0
                  exact ⟨h4 (hp 4 (of_decide_eq_true (by kernel_rfl))), ⟨fun h => absurd (hD0.symm.trans h) (by decide), fun _ => rfl, h0, h1, h2, h3, h4, h5, h6, fun _ => rfl, h8, h10⟩⟩
              · refine stepO_plain rfl (fun D x W hJ hp hn hcl K hK => ?_)
                obtain ⟨hw0, hw1, h0, h1, h2, h3, h4, h5, h6, h7, h8, h10⟩ := hJ
                cases hD0 : D 9 with
                | false =>
                  obtain rfl := hw0 hD0
                  have hK := hK.out
                  have d4 : D 4 = true := hp 4 (of_decide_eq_true (by kernel_rfl))
                  have e4 := h4 d4
                  have d7 : D 7 = true := hp 7 (of_decide_eq_true (by kernel_rfl))
                  have e7 := h7 d7
                  simp only [fillO, Act.put, List.setIfInBounds_toArray, List.set_cons_zero, List.set_cons_succ, Nat.reduceAdd] at hK ⊢
                  simp only [e4, e7] at hK ⊢
                  refine Wrap.mk ?_
                  go_simp
                  refine hK _ _ ?_
                  exact ⟨fun _ => rfl, fun h => absurd (hD0.symm.trans h) (by decide), h0, h1, h2, h3, h4, h5, h6, h7, fun _ => rfl, h10⟩
                | true =>
                  obtain rfl := hw1 hD0
                  have hK := hK.out
                  have d4 : D 4 = true := hp 4 (of_decide_eq_true (by kernel_rfl))
                  have e4 := h4 d4
                  have d7 : D 7 = true := hp 7 (of_decide_eq_true (by kernel_rfl))
                  have e7 := h7 d7
                  simp only [fillO, Act.put, List.setIfInBounds_toArray, List.set_cons_zero, List.set_cons_succ, Nat.reduceAdd] at hK ⊢
                  simp only [e4, e7] at hK ⊢
                  refine Wrap.mk ?_
                  go_simp
                  refine hK _ _ ?_
                  exact ⟨fun h => absurd (hD0.symm.trans h) (by decide), fun _ => rfl, h0, h1, h2, h3, h4, h5, h6, h7, fun _ => rfl, h10⟩
              · refine stepO_plain rfl (fun D x W hJ hp hn hcl K hK => ?_)
                obtain ⟨hw0, hw1, h0, h1, h2, h3, h4, h5, h6, h7, h8, h10⟩ := hJ
                have hD0 : D 9 = false := hn
                obtain rfl := hw0 hD0
                have hK := hK.out
                have d0 : D 0 = true := hp 0 (of_decide_eq_true (by kernel_rfl))
                have e0 := h0 d0
                simp only [fillO, Act.put, List.setIfInBounds_toArray, List.set_cons_zero, List.set_cons_succ, Nat.reduceAdd] at hK ⊢
                simp only [e0] at hK ⊢
                refine Wrap.mk ?_
                go_simp
                refine hK undef _ ?_
                exact ⟨fun h => absurd (show true = false from h) (by decide), fun _ => rfl, h0, h1, h2, h3, h4, h5, h6, h7, h8, h10⟩
              · refine stepO_plain rfl (fun D x W hJ hp hn hcl K hK => ?_)
                obtain ⟨hw0, hw1, h0, h1, h2, h3, h4, h5, h6, h7, h8, h10⟩ := hJ
                have hD0 : D 9 = true := (hp 9 (of_decide_eq_true (by kernel_rfl)))
                obtain rfl := hw1 hD0
                have hK := hK.out
                have d8 : D 8 = true := hp 8 (of_decide_eq_true (by kernel_rfl))
                have e8 := h8 d8
                simp only [fillO, Act.put, List.setIfInBounds_toArray, List.set_cons_zero, List.set_cons_succ, Nat.reduceAdd] at hK ⊢
                simp only [e8] at hK ⊢
                refine Wrap.mk ?_
                go_simp
                refine hK _ _ ?_
                exact ⟨fun h => absurd (hD0.symm.trans h) (by decide), fun _ => rfl, h0, h1, h2, h3, h4, h5, h6, h7, h8, fun _ => rfl⟩
            · intro x W hJ
              obtain ⟨hw0, hw1, h0, h1, h2, h3, h4, h5, h6, h7, h8, h10⟩ := hJ
              obtain rfl := hw1 (by decide)
              have e0 := h0 (by decide)
              have e1 := h1 (by decide)
              have e2 := h2 (by decide)
              have e3 := h3 (by decide)
              have e4 := h4 (by decide)
              have e5 := h5 (by decide)
              have e6 := h6 (by decide)
              have e7 := h7 (by decide)
              have e8 := h8 (by decide)
              have e10 := h10 (by decide)
              clear hw0 hw1 h0 h1 h2 h3 h4 h5 h6 h7 h8 h10
              simp only [fillO, Act.put, List.setIfInBounds_toArray, List.set_cons_zero, List.set_cons_succ, Nat.reduceAdd]
              simp only [e0, e1, e2, e3, e4, e5, e6, e7, e8, e10]
              clear e0 e1 e2 e3 e4 e5 e6 e7 e8 e10 x
              have qf := PB.put q0 fr tt 0
              have r0 := qf.c0
              have r1 := qf.c1
              have r2 := qf.c2
              dsimp only at r0 r1 r2
              have HBF := Lib.hid (below_put3 hb (Nat.le_refl _) (.int .i64 fr) (.int .i64 tt) (.int .i64 0))
              clear qf
              go_wp2
              refine bodyPost_ret (v := .tuple #[.agg #[.int .i64 fr, .int .i64 tt, .int .i64 0], .bool false]) (by simp [results, Tryz.f73, go_sem, r0, r1, r2]) rfl ?_
              exact ⟨HQ.out, HBF.out⟩
  · have hP := Sp.part_two hxs.symm
    obtain ⟨ad, rfl, _, hc⟩ := hrd.here (by simp)
    have hc0 := hc 0 _ rfl
    have hc1 := hc 1 _ rfl
    have ea : ad.add 0 = ad := by simp [Addr.add]
    rw [ea] at hc0
    have hc1b : W.cell? ⟨ad.block, ad.off + 1, none⟩ = some (.string b) := hc1
    have hsa : a.size ≤ 1048576 := Nat.le_trans (hxz a (by simp)) hs
    have hsb : b.size ≤ 1048576 := Nat.le_trans (hxz b (by simp)) hs
    clear hrd hc ea hxs hxl hxz
    simp only [List.length_cons, List.length_nil, Nat.zero_add, Nat.reduceAdd]
    have HNB := Lib.hid (rnumber_any b W (by omega))
    obtain ⟨st, hst⟩ : ∃ st, st = Sp.numI (tl b) := ⟨_, rfl⟩
    have hst2 : st = Sp.numI b.data.toList := hst
    rw [← hst2] at HNB
    have hrange : -1 ≤ st ∧ st ≤ 9999 := by
      rw [hst]
      unfold Sp.numI
      cases hn : Sp.numC (tl b) with
      | none => exact ⟨by decide, by decide⟩
      | some v =>
        have := Sp.num_range _ _ hn
        dsimp only
        omega
    have HPN : Hid (st < 1 → Sp.partP s.data.toList = none) := Lib.hid (fun h => by
      rw [hP]
      rw [hst] at h
      unfold Sp.numI at h
      cases hn : Sp.numC (tl b) with
      | none => rfl
      | some v =>
        rw [hn] at h
        have := Sp.num_range _ _ hn
        dsimp only at h
        have e : v = 0 := by omega
        simp [e])
    have HPY : Hid (¬ st < 1 → Sp.partP s.data.toList = Sp.bodyP a.data.toList st) := Lib.hid (fun h => by
      rw [hP]
      rw [hst] at h ⊢
      unfold Sp.numI at h ⊢
      cases hn : Sp.numC (tl b) with
      | none => rw [hn] at h; exact absurd (by decide) h
      | some v =>
        rw [hn] at h
        dsimp only at h ⊢
        rw [if_neg (by omega)]
        rfl)
    clear hP hst hst2
    have d0 := q1.c0
    have d1 := q1.c1
    have d2 := q1.c2
    have f0 := q1.fz 0
    have f1 := q1.fz 1
    have f2 := q1.fz 2
    have e0' := q0.c0
    have e1' := q0.c1
    have e2' := q0.c2
    have g0 := q0.fz 0
    have g1 := q0.fz 1
    have g2 := q0.fz 2
    dsimp only at d0 d1 d2 e0' e1' e2'
    go_wp2_with fail
    refine HNB.out.mono ?_
    rintro e w2 ⟨rfl, rfl⟩
    go_upto_region 7 with fail
    replace q0 := q0.far (a := ⟨w.heap.size + 1, 2, none⟩) (by simp) (.int .i64 st)
    have hne : ad.block ≠ w.heap.size + 1 := q1.ne_str hc0
    replace hc0 := (World.cell?_setCell_other W ⟨w.heap.size + 1, 2, none⟩ ad (.int .i64 st) (fun e => hne (congrArg Addr.block e).symm)).trans hc0
    replace q1 := q1.set2 st
    replace hb := hb.setCell (p := ⟨w.heap.size + 1, 2, none⟩) (by simp) (.int .i64 st)
    clear d0 d1 d2 f0 f1 f2 e0' e1' e2' g0 g1 g2
    clear hc1 hc1b HNB hne
    dsimp only at q1
    generalize W.setCell ⟨w.heap.size + 1, 2, none⟩ (.int .i64 st) = W at *
    by_cases h1 : st < 1
    · have hP' := HPN.out (by omega)
      have d0 := q1.c0
      have d1 := q1.c1
      have d2 := q1.c2
      have f0 := q1.fz 0
      have f1 := q1.fz 1
      have f2 := q1.fz 2
      have e0' := q0.c0
      have e1' := q0.c1
      have e2' := q0.c2
      have g0 := q0.fz 0
      have g1 := q0.fz 1
      have g2 := q0.fz 2
      dsimp only at d0 d1 d2 e0' e1' e2'
      have HQ : Hid (PartPost s.data.toList (.returned (.tuple #[.agg #[.int .i64 (-1), .int .i64 (-1), .int .i64 st], .bool false]))) := Lib.hid (.inr ⟨hP', ⟨-1, -1, st⟩, rfl⟩)
      have qf := PB.put q0 (-1) (-1) st
      have r0 := qf.c0
      have r1 := qf.c1
      have r2 := qf.c2
      dsimp only at r0 r1 r2
      have HBF := Lib.hid (below_put3 hb (Nat.le_refl _) (.int .i64 (-1)) (.int .i64 (-1)) (.int .i64 st))
      clear qf
      go_wp2
      refine bodyPost_ret (v := .tuple #[.agg #[.int .i64 (-1), .int .i64 (-1), .int .i64 st], .bool false]) (by simp [results, Tryz.f73, go_sem, r0, r1, r2]) rfl ?_
      exact ⟨HQ.out, HBF.out⟩
    · have hP' := HPY.out (by omega)
      clear HPN HPY
      have d0 := q1.c0
      have d1 := q1.c1
      have d2 := q1.c2
      have f0 := q1.fz 0
      have f1 := q1.fz 1
      have f2 := q1.fz 2
      have e0' := q0.c0
      have e1' := q0.c1
      have e2' := q0.c2
      have g0 := q0.fz 0
      have g1 := q0.fz 1
      have g2 := q0.fz 2
      dsimp only at d0 d1 d2 e0' e1' e2'
      go_upto_region 9 with fail
      clear d0 d1 d2 f0 f1 f2 e0' e1' e2' g0 g1 g2
      cases hq : (a.toList == [42]) with
      | true =>
        have ha : a.data.toList = [42] := by rw [Lib.toList_data] at hq; simpa using hq
        have d0 := q1.c0
        have d1 := q1.c1
        have d2 := q1.c2
        have f0 := q1.fz 0
        have f1 := q1.fz 1
        have f2 := q1.fz 2
        have e0' := q0.c0
        have e1' := q0.c1
        have e2' := q0.c2
        have g0 := q0.fz 0
        have g1 := q0.fz 1
        have g2 := q0.fz 2
        dsimp only at d0 d1 d2 e0' e1' e2'
        have HQ : Hid (PartPost s.data.toList (.returned (.tuple #[.agg #[.int .i64 (-1), .int .i64 (-1), .int .i64 st], .bool true]))) := Lib.hid (.inl ⟨⟨-1, -1, st⟩, by rw [hP', ha]; rfl, rfl⟩)
        have qf := PB.put q0 (-1) (-1) st
        have r0 := qf.c0
        have r1 := qf.c1
        have r2 := qf.c2
        dsimp only at r0 r1 r2
        have HBF := Lib.hid (below_put3 hb (Nat.le_refl _) (.int .i64 (-1)) (.int .i64 (-1)) (.int .i64 st))
        clear qf
        go_wp2
        refine bodyPost_ret (v := .tuple #[.agg #[.int .i64 (-1), .int .i64 (-1), .int .i64 st], .bool true]) (by simp [results, Tryz.f73, go_sem, r0, r1, r2]) rfl ?_
        exact ⟨HQ.out, HBF.out⟩
      | false =>
        have ha : a.data.toList ≠ [42] := by rw [Lib.toList_data] at hq; simpa using hq
        go_wp2_with fail
        refine (points_any a W (by omega)).mono ?_
        rintro e w2 ⟨⟨r, rfl, hpr⟩, rfl⟩
        rcases hpr with ⟨rfl, hcd⟩ | ⟨k, rfl, hk2, hcd⟩
        · have hPB := Sp.bodyP_of st hcd
          rw [if_neg ha] at hPB
          simp only [Bool.false_eq_true, if_false] at hPB
          have HN := Lib.hid (rnumber_any a W (by omega))
          obtain ⟨fr, hfr⟩ : ∃ fr, fr = Sp.numI a.data.toList := ⟨_, rfl⟩
          rw [← hfr] at HN
          have HFR := Lib.hid hfr
          clear hfr
          obtain ⟨ok, hok⟩ : ∃ ok, decide (0 ≤ fr) = ok := ⟨_, rfl⟩
          have HQ : Hid (PartPost s.data.toList (.returned (.tuple #[.agg #[.int .i64 fr, .int .i64 (-1), .int .i64 st], .bool ok]))) := Lib.hid (by
            rw [← hok, HFR.out]
            unfold Sp.numI
            cases hn : Sp.numC a.data.toList with
            | none => exact .inr ⟨by rw [hP', hPB, hn], ⟨-1, -1, st⟩, rfl⟩
            | some v =>
              have := Sp.num_range _ _ hn
              dsimp only
              rw [decide_eq_true this.1]
              exact .inl ⟨⟨v, -1, st⟩, by rw [hP', hPB, hn], rfl⟩)
          have d0 := q1.c0
          have d1 := q1.c1
          have d2 := q1.c2
          have f0 := q1.fz 0
          have f1 := q1.fz 1
          have f2 := q1.fz 2
          have e0' := q0.c0
          have e1' := q0.c1
          have e2' := q0.c2
          have g0 := q0.fz 0
          have g1 := q0.fz 1
          have g2 := q0.fz 2
          dsimp only at d0 d1 d2 e0' e1' e2'
          go_wp2_with fail
          refine HN.out.mono ?_
          rintro e w2 ⟨rfl, rfl⟩
          go_upto_region 16 with fail
          replace q0 := q0.far (a := ⟨w.heap.size + 1, 0, none⟩) (by simp) (.int .i64 fr)
          replace q1 := q1.set0 fr
          replace hb := hb.setCell (p := ⟨w.heap.size + 1, 0, none⟩) (by simp) (.int .i64 fr)
          have hc0 := hc0
          clear d0 d1 d2 f0 f1 f2 e0' e1' e2' g0 g1 g2
          clear hc0 hcd hPB HFR HN
          dsimp only at q1
          generalize W.setCell ⟨w.heap.size + 1, 0, none⟩ (.int .i64 fr) = W2 at *
          obtain ⟨wd, hwd⟩ : ∃ wd, wd = W2.drew := ⟨_, rfl⟩
          replace q1 : PB wd (w.heap.size + 1) ⟨fr, -1, st⟩ := hwd ▸ q1
          replace q0 : PB wd w.heap.size ⟨0, 0, 0⟩ := hwd ▸ q0
          replace hb : Below w.heap.size w wd := hwd ▸ hb.drew
          have HWD := Lib.hid hwd
          clear hwd
          have q1p := ((q1.far (a := ⟨w.heap.size, 0, none⟩) (by simp) (.int .i64 fr)).far (a := ⟨w.heap.size, 1, none⟩) (by simp) (.int .i64 (-1))).far (a := ⟨w.heap.size, 2, none⟩) (by simp) (.int .i64 st)
          have st0 := q0.c0
          have st1 := q0.c1
          have st2 := q0.c2
          have sf0 := q0.fz 0
          have sf1 := q0.fz 1
          have sf2 := q0.fz 2
          dsimp only at st0 st1 st2
          refine wp_region_inv (by kernel_rfl) (fun D x W => (D 4 = false → W = wd) ∧ (D 4 = true → W = ((wd.setCell ⟨w.heap.size, 0, none⟩ (.int .i64 fr)).setCell ⟨w.heap.size, 1, none⟩ (.int .i64 (-1))).setCell ⟨w.heap.size, 2, none⟩ (.int .i64 st)) ∧ (D 0 = true → x 0 = .agg #[.int .i64 fr, .int .i64 (-1), .int .i64 st]) ∧ (D 1 = true → x 1 = .pointer (some ⟨w.heap.size + 1, 0, none⟩)) ∧ (D 2 = true → x 2 = .int .i64 fr) ∧ (D 3 = true → x 3 = .bool ok) ∧ (D 5 = true → x 5 = .bool ok)) (by kernel_rfl) (by kernel_rfl) (fun x => ⟨fun _ => HWD.out.symm, fun h => (by cases h), fun h => (by cases h), fun h => (by cases h), fun h => (by cases h), fun h => (by cases h), fun h => (by cases h)⟩) ?_ ?_
          · refine And.intro ?_ (And.intro ?_ (And.intro ?_ (And.intro ?_ (And.intro ?_ (And.intro ?_ trivial)))))
            · refine stepO_plain rfl (fun D x W hJ hp hn hcl K hK => ?_)
              obtain ⟨hw0, hw1, h0, h1, h2, h3, h5⟩ := hJ
              have hD0 : D 4 = false := by
                cases h : D 4 with
                | false => rfl
                | true => exact absurd (hcl 4 _ rfl h 0 (of_decide_eq_true (by kernel_rfl))) (by rw [hn]; decide)
              obtain rfl := hw0 hD0
              have hK := hK.out
              simp only [fillO, Act.put, List.setIfInBounds_toArray, List.set_cons_zero, List.set_cons_succ, Nat.reduceAdd] at hK ⊢
              have d0 := q1.c0
              have d1 := q1.c1
              have d2 := q1.c2
              dsimp only at d0 d1 d2
              refine Wrap.mk ?_
              go_simp
              refine hK _ _ ?_
              exact ⟨fun _ => rfl, fun h => absurd (hD0.symm.trans h) (by decide), fun _ => rfl, h1, h2, h3, h5⟩
            · refine stepO_plain rfl (fun D x W hJ hp hn hcl K hK => ?_)
              obtain ⟨hw0, hw1, h0, h1, h2, h3, h5⟩ := hJ
              cases hD0 : D 4 with
              | false =>
                obtain rfl := hw0 hD0
                have hK := hK.out
                simp only [fillO, Act.put, List.setIfInBounds_toArray, List.set_cons_zero, List.set_cons_succ, Nat.reduceAdd] at hK ⊢
                refine Wrap.mk ?_
                go_simp
                refine hK _ _ ?_
                exact ⟨fun _ => rfl, fun h => absurd (hD0.symm.trans h) (by decide), h0, fun _ => rfl, h2, h3, h5⟩
              | true =>
                obtain rfl := hw1 hD0
                have hK := hK.out
                simp only [fillO, Act.put, List.setIfInBounds_toArray, List.set_cons_zero, List.set_cons_succ, Nat.reduceAdd] at hK ⊢
                refine Wrap.mk ?_
                go_simp
                refine hK _ _ ?_
                exact ⟨fun h => absurd (hD0.symm.trans h) (by decide), fun _ => rfl, h0, fun _ => rfl, h2, h3, h5⟩
            · refine stepO_plain rfl (fun D x W hJ hp hn hcl K hK => ?_)
              obtain ⟨hw0, hw1, h0, h1, h2, h3, h5⟩ := hJ
              cases hD0 : D 4 with
              | false =>
                obtain rfl := hw0 hD0
                have hK := hK.out
                have d1 : D 1 = true := hp 1 (of_decide_eq_true (by kernel_rfl))
                have e1 := h1 d1
                simp only [fillO, Act.put, List.setIfInBounds_toArray, List.set_cons_zero, List.set_cons_succ, Nat.reduceAdd] at hK ⊢
                simp only [e1] at hK ⊢
                have d0 := q1.c0
                have d1 := q1.c1
                have d2 := q1.c2
                dsimp only at d0 d1 d2
                refine Wrap.mk ?_
                go_simp
                refine hK _ _ ?_
                exact ⟨fun _ => rfl, fun h => absurd (hD0.symm.trans h) (by decide), h0, h1, fun _ => rfl, h3, h5⟩
              | true =>
                obtain rfl := hw1 hD0
                have hK := hK.out
                have d1 : D 1 = true := hp 1 (of_decide_eq_true (by kernel_rfl))
                have e1 := h1 d1
                simp only [fillO, Act.put, List.setIfInBounds_toArray, List.set_cons_zero, List.set_cons_succ, Nat.reduceAdd] at hK ⊢
                simp only [e1] at hK ⊢
                have d0 := q1p.c0
                have d1 := q1p.c1
                have d2 := q1p.c2
                dsimp only at d0 d1 d2
                refine Wrap.mk ?_
                go_simp
                refine hK _ _ ?_
                exact ⟨fun h => absurd (hD0.symm.trans h) (by decide), fun _ => rfl, h0, h1, fun _ => rfl, h3, h5⟩
            · refine stepO_plain rfl (fun D x W hJ hp hn hcl K hK => ?_)
              obtain ⟨hw0, hw1, h0, h1, h2, h3, h5⟩ := hJ
              cases hD0 : D 4 with
              | false =>
                obtain rfl := hw0 hD0
                have hK := hK.out
                have d2 : D 2 = true := hp 2 (of_decide_eq_true (by kernel_rfl))
                have e2 := h2 d2
                simp only [fillO, Act.put, List.setIfInBounds_toArray, List.set_cons_zero, List.set_cons_succ, Nat.reduceAdd] at hK ⊢
                simp only [e2] at hK ⊢
                have hok2 := hok
                refine Wrap.mk ?_
                go_simp
                refine hK _ _ ?_
                exact ⟨fun _ => rfl, fun h => absurd (hD0.symm.trans h) (by decide), h0, h1, h2, fun _ => rfl, h5⟩
              | true =>
                obtain rfl := hw1 hD0
                have hK := hK.out
                have d2 : D 2 = true := hp 2 (of_decide_eq_true (by kernel_rfl))
                have e2 := h2 d2
                simp only [fillO, Act.put, List.setIfInBounds_toArray, List.set_cons_zero, List.set_cons_succ, Nat.reduceAdd] at hK ⊢
                simp only [e2] at hK ⊢
                have hok2 := hok
                refine Wrap.mk ?_
                go_simp
                refine hK _ _ ?_
                exact ⟨fun h => absurd (hD0.symm.trans h) (by decide), fun _ => rfl, h0, h1, h2, fun _ => rfl, h5⟩
            · refine stepO_plain rfl (fun D x W hJ hp hn hcl K hK => ?_)
              obtain ⟨hw0, hw1, h0, h1, h2, h3, h5⟩ := hJ
              have hD0 : D 4 = false := hn
              obtain rfl := hw0 hD0
              have hK := hK.out
              have d0 : D 0 = true := hp 0 (of_decide_eq_true (by kernel_rfl))
              have e0 := h0 d0
              simp only [fillO, Act.put, List.setIfInBounds_toArray, List.set_cons_zero, List.set_cons_succ, Nat.reduceAdd] at hK ⊢
              simp only [e0] at hK ⊢
              refine Wrap.mk ?_
              go_simp
              refine hK undef _ ?_
              exact ⟨fun h => absurd (show true = false from h) (by decide), fun _ => rfl, h0, h1, h2, h3, h5⟩
            · refine stepO_plain rfl (fun D x W hJ hp hn hcl K hK => ?_)
              obtain ⟨hw0, hw1, h0, h1, h2, h3, h5⟩ := hJ
              have hD0 : D 4 = true := (hp 4 (of_decide_eq_true (by kernel_rfl)))
              obtain rfl := hw1 hD0
              have hK := hK.out
              have d3 : D 3 = true := hp 3 (of_decide_eq_true (by kernel_rfl))
              have e3 := h3 d3
              simp only [fillO, Act.put, List.setIfInBounds_toArray, List.set_cons_zero, List.set_cons_succ, Nat.reduceAdd] at hK ⊢
              simp only [e3] at hK ⊢
              refine Wrap.mk ?_
              go_simp
              refine hK _ _ ?_
              exact ⟨fun h => absurd (hD0.symm.trans h) (by decide), fun _ => rfl, h0, h1, h2, h3, fun _ => rfl⟩
          · intro x W hJ
            obtain ⟨hw0, hw1, h0, h1, h2, h3, h5⟩ := hJ
            obtain rfl := hw1 (by decide)
            have e0 := h0 (by decide)
            have e1 := h1 (by decide)
            have e2 := h2 (by decide)
            have e3 := h3 (by decide)
            have e5 := h5 (by decide)
            clear hw0 hw1 h0 h1 h2 h3 h5
            simp only [fillO, Act.put, List.setIfInBounds_toArray, List.set_cons_zero, List.set_cons_succ, Nat.reduceAdd]
            simp only [e0, e1, e2, e3, e5]
            clear e0 e1 e2 e3 e5 x
            have qf := PB.put q0 fr (-1) st
            have r0 := qf.c0
            have r1 := qf.c1
            have r2 := qf.c2
            dsimp only at r0 r1 r2
            have HBF := Lib.hid (below_put3 hb (Nat.le_refl _) (.int .i64 fr) (.int .i64 (-1)) (.int .i64 st))
            clear qf
            go_wp2
            refine bodyPost_ret (v := .tuple #[.agg #[.int .i64 fr, .int .i64 (-1), .int .i64 st], .bool ok]) (by simp [results, Tryz.f73, go_sem, r0, r1, r2]) rfl ?_
            exact ⟨HQ.out, HBF.out⟩
        · have hPB := Sp.bodyP_of st hcd
          rw [if_neg ha] at hPB
          simp only [if_true] at hPB
          have hka := bytes_size a
          have hx1 : (0 : Int) ≤ (k : Int) := by omega
          have hx2 : (k : Int) ≤ (a.size : Int) := by omega
          have hx3 : (k : Int) + 2 ≤ (a.size : Int) := by omega
          have hx4 : IntKind.i64.wrap ((k : Int) + 2) = (k : Int) + 2 := by rw [IntKind.wrap_i64]; omega
          have hx5 : (0 : Int) ≤ (k : Int) + 2 := by omega
          have hx6 : ((k : Int) + 2).toNat = k + 2 := by omega
          have HN1 := Lib.hid (fun W => rnumber_any (a.extract 0 k) W (Nat.le_trans (Sp.ext_size _ _ _) (by omega)))
          have HN2 := Lib.hid (fun W => rnumber_any (a.extract (k + 2) a.size) W (Nat.le_trans (Sp.ext_size _ _ _) (by omega)))
          rw [Lib.extract_from_zero] at HN1
          rw [Lib.extract_to_end] at HN2
          obtain ⟨fr, hfr⟩ : ∃ fr, fr = Sp.numI (a.data.toList.take k) := ⟨_, rfl⟩
          obtain ⟨tt, htt⟩ : ∃ tt, tt = Sp.numI (a.data.toList.drop (k + 2)) := ⟨_, rfl⟩
          simp only [← hfr] at HN1
          simp only [← htt] at HN2
          have HQ : Hid (PartPost s.data.toList (.returned (.tuple #[.agg #[.int .i64 fr, .int .i64 tt, .int .i64 st], .bool (decide (0 ≤ fr) && decide (0 ≤ tt))]))) := Lib.hid (by
            rw [hfr, htt]
            unfold Sp.numI
            cases hn : Sp.numC (a.data.toList.take k) with
            | none => exact .inr ⟨by rw [hP', hPB, hn], ⟨-1, _, st⟩, rfl⟩
            | some v =>
              have h1 := Sp.num_range _ _ hn
              cases hm : Sp.numC (a.data.toList.drop (k + 2)) with
              | none =>
                dsimp only
                rw [decide_eq_true h1.1]
                exact .inr ⟨by rw [hP', hPB, hn, hm], ⟨v, -1, st⟩, rfl⟩
              | some u =>
                have h2 := Sp.num_range _ _ hm
                dsimp only
                rw [decide_eq_true h1.1, decide_eq_true h2.1]
                exact .inl ⟨⟨v, u, st⟩, by rw [hP', hPB, hn, hm], rfl⟩)
          clear hcd hPB hfr htt hka
          go_upto_region 13 with fail
          obtain ⟨wd, hwd⟩ : ∃ wd, wd = W.drew := ⟨_, rfl⟩
          replace q1 : PB wd (w.heap.size + 1) ⟨-1, -1, st⟩ := hwd ▸ q1
          replace q0 : PB wd w.heap.size ⟨0, 0, 0⟩ := hwd ▸ q0
          replace hb : Below w.heap.size w wd := hwd ▸ hb.drew
          replace hc0 : wd.cell? ad = some (.string a) := hwd ▸ hc0
          have HWD := Lib.hid hwd
          clear hwd
          refine wp_region_inv (by kernel_rfl) (fun D x W => (D 14 = false → W = wd) ∧ (D 14 = true → D 16 = false → W = (wd.setCell ⟨w.heap.size + 1, 0, none⟩ (.int .i64 fr))) ∧ (D 16 = true → W = ((wd.setCell ⟨w.heap.size + 1, 0, none⟩ (.int .i64 fr)).setCell ⟨w.heap.size + 1, 1, none⟩ (.int .i64 tt))) ∧ (D 0 = true → x 0 = .slice (some ad) 2 cp) ∧ (D 1 = true → x 1 = .pointer (some ad)) ∧ (D 2 = true → x 2 = .string a) ∧ (D 3 = true → x 3 = .int .i64 k) ∧ (D 4 = true → x 4 = .string (a.extract 0 k)) ∧ (D 5 = true → x 5 = .int .i64 fr) ∧ (D 6 = true → x 6 = .slice (some ad) 2 cp) ∧ (D 7 = true → x 7 = .pointer (some ad)) ∧ (D 8 = true → x 8 = .string a) ∧ (D 9 = true → x 9 = .int .i64 k) ∧ (D 10 = true → x 10 = .int .i64 ((k : Int) + 2)) ∧ (D 11 = true → x 11 = .string (a.extract (k + 2) a.size)) ∧ (D 12 = true → x 12 = .int .i64 tt) ∧ (D 13 = true → x 13 = .pointer (some ⟨w.heap.size + 1, 0, none⟩)) ∧ (D 15 = true → x 15 = .pointer (some ⟨w.heap.size + 1, 1, none⟩))) (by kernel_rfl) (by kernel_rfl) (fun x => ⟨fun _ => HWD.out.symm, fun h _ => (by cases h), fun h => (by cases h), fun h => (by cases h), fun h => (by cases h), fun h => (by cases h), fun h => (by cases h), fun h => (by cases h), fun h => (by cases h), fun h => (by cases h), fun h => (by cases h), fun h => (by cases h), fun h => (by cases h), fun h => (by cases h), fun h => (by cases h), fun h => (by cases h), fun h => (by cases h), fun h => (by cases h)⟩) ?_ ?_
          · refine And.intro ?_ (And.intro ?_ (And.intro ?_ (And.intro ?_ (And.intro ?_ (And.intro ?_ (And.intro ?_ (And.intro ?_ (And.intro ?_ (And.intro ?_ (And.intro ?_ (And.intro ?_ (And.intro ?_ (And.intro ?_ (And.intro ?_ (And.intro ?_ (And.intro ?_ trivial))))))))))))))))
            · refine stepO_plain rfl (fun D x W hJ hp hn hcl K hK => ?_)
              obtain ⟨hw0, hw1, hw2, h0, h1, h2, h3, h4, h5, h6, h7, h8, h9, h10, h11, h12, h13, h15⟩ := hJ
              have hD0 : D 14 = false := by
                cases h : D 14 with
                | false => rfl
                | true => exact absurd (hcl 14 _ rfl h 0 (of_decide_eq_true (by kernel_rfl))) (by rw [hn]; decide)
              have hD1 : D 16 = false := by
                cases h : D 16 with
                | false => rfl
                | true => exact absurd (hcl 16 _ rfl h 0 (of_decide_eq_true (by kernel_rfl))) (by rw [hn]; decide)
              obtain rfl := hw0 hD0
              have hK := hK.out
              simp only [fillO, Act.put, List.setIfInBounds_toArray, List.set_cons_zero, List.set_cons_succ, Nat.reduceAdd] at hK ⊢
              have x1 := hx1
              have x2 := hx2
              have x3 := hx3
              have x4 := hx4
              have x5 := hx5
              have x6 := hx6
              have c0 := hc0
              refine Wrap.mk ?_
              go_simp
              refine hK _ _ ?_
              exact ⟨fun _ => rfl, fun h _ => absurd (hD0.symm.trans h) (by decide), fun h => absurd (hD1.symm.trans h) (by decide), fun _ => rfl, h1, h2, h3, h4, h5, h6, h7, h8, h9, h10, h11, h12, h13, h15⟩
            · refine stepO_plain rfl (fun D x W hJ hp hn hcl K hK => ?_)
              obtain ⟨hw0, hw1, hw2, h0, h1, h2, h3, h4, h5, h6, h7, h8, h9, h10, h11, h12, h13, h15⟩ := hJ
              have hD0 : D 14 = false := by
                cases h : D 14 with
                | false => rfl
                | true => exact absurd (hcl 14 _ rfl h 1 (of_decide_eq_true (by kernel_rfl))) (by rw [hn]; decide)
              have hD1 : D 16 = false := by
                cases h : D 16 with
                | false => rfl
                | true => exact absurd (hcl 16 _ rfl h 1 (of_decide_eq_true (by kernel_rfl))) (by rw [hn]; decide)
              obtain rfl := hw0 hD0
              have hK := hK.out
              have d0 : D 0 = true := hp 0 (of_decide_eq_true (by kernel_rfl))
              have e0 := h0 d0
              simp only [fillO, Act.put, List.setIfInBounds_toArray, List.set_cons_zero, List.set_cons_succ, Nat.reduceAdd] at hK ⊢
              simp only [e0] at hK ⊢
              have x1 := hx1
              have x2 := hx2
              have x3 := hx3
              have x4 := hx4
              have x5 := hx5
              have x6 := hx6
              have c0 := hc0
              refine Wrap.mk ?_
              go_simp
              refine hK _ _ ?_
              exact ⟨fun _ => rfl, fun h _ => absurd (hD0.symm.trans h) (by decide), fun h => absurd (hD1.symm.trans h) (by decide), h0, fun _ => rfl, h2, h3, h4, h5, h6, h7, h8, h9, h10, h11, h12, h13, h15⟩
            · refine stepO_plain rfl (fun D x W hJ hp hn hcl K hK => ?_)
              obtain ⟨hw0, hw1, hw2, h0, h1, h2, h3, h4, h5, h6, h7, h8, h9, h10, h11, h12, h13, h15⟩ := hJ
              have hD0 : D 14 = false := by
                cases h : D 14 with
                | false => rfl
                | true => exact absurd (hcl 14 _ rfl h 2 (of_decide_eq_true (by kernel_rfl))) (by rw [hn]; decide)
              have hD1 : D 16 = false := by
                cases h : D 16 with
                | false => rfl
                | true => exact absurd (hcl 16 _ rfl h 2 (of_decide_eq_true (by kernel_rfl))) (by rw [hn]; decide)
              obtain rfl := hw0 hD0
              have hK := hK.out
              have d1 : D 1 = true := hp 1 (of_decide_eq_true (by kernel_rfl))
              have e1 := h1 d1
              simp only [fillO, Act.put, List.setIfInBounds_toArray, List.set_cons_zero, List.set_cons_succ, Nat.reduceAdd] at hK ⊢
              simp only [e1] at hK ⊢
              have x1 := hx1
              have x2 := hx2
              have x3 := hx3
              have x4 := hx4
              have x5 := hx5
              have x6 := hx6
              have c0 := hc0
              refine Wrap.mk ?_
              go_simp
              refine hK _ _ ?_
              exact ⟨fun _ => rfl, fun h _ => absurd (hD0.symm.trans h) (by decide), fun h => absurd (hD1.symm.trans h) (by decide), h0, h1, fun _ => rfl, h3, h4, h5, h6, h7, h8, h9, h10, h11, h12, h13, h15⟩
            · refine stepO_plain rfl (fun D x W hJ hp hn hcl K hK => ?_)
              obtain ⟨hw0, hw1, hw2, h0, h1, h2, h3, h4, h5, h6, h7, h8, h9, h10, h11, h12, h13, h15⟩ := hJ
              have hD0 : D 14 = false := by
                cases h : D 14 with
                | false => rfl
                | true => exact absurd (hcl 14 _ rfl h 3 (of_decide_eq_true (by kernel_rfl))) (by rw [hn]; decide)
              have hD1 : D 16 = false := by
                cases h : D 16 with
                | false => rfl
                | true => exact absurd (hcl 16 _ rfl h 3 (of_decide_eq_true (by kernel_rfl))) (by rw [hn]; decide)
              obtain rfl := hw0 hD0
              have hK := hK.out
              simp only [fillO, Act.put, List.setIfInBounds_toArray, List.set_cons_zero, List.set_cons_succ, Nat.reduceAdd] at hK ⊢
              have x1 := hx1
              have x2 := hx2
              have x3 := hx3
              have x4 := hx4
              have x5 := hx5
              have x6 := hx6
              have c0 := hc0
              refine Wrap.mk ?_
              go_simp
              refine hK _ _ ?_
              exact ⟨fun _ => rfl, fun h _ => absurd (hD0.symm.trans h) (by decide), fun h => absurd (hD1.symm.trans h) (by decide), h0, h1, h2, fun _ => rfl, h4, h5, h6, h7, h8, h9, h10, h11, h12, h13, h15⟩
            · refine stepO_plain rfl (fun D x W hJ hp hn hcl K hK => ?_)
              obtain ⟨hw0, hw1, hw2, h0, h1, h2, h3, h4, h5, h6, h7, h8, h9, h10, h11, h12, h13, h15⟩ := hJ
              have hD0 : D 14 = false := by
                cases h : D 14 with
                | false => rfl
                | true => exact absurd (hcl 14 _ rfl h 4 (of_decide_eq_true (by kernel_rfl))) (by rw [hn]; decide)
              have hD1 : D 16 = false := by
                cases h : D 16 with
                | false => rfl
                | true => exact absurd (hcl 16 _ rfl h 4 (of_decide_eq_true (by kernel_rfl))) (by rw [hn]; decide)
              obtain rfl := hw0 hD0
              have hK := hK.out
              have d2 : D 2 = true := hp 2 (of_decide_eq_true (by kernel_rfl))
              have e2 := h2 d2
              have d3 : D 3 = true := hp 3 (of_decide_eq_true (by kernel_rfl))
              have e3 := h3 d3
              simp only [fillO, Act.put, List.setIfInBounds_toArray, List.set_cons_zero, List.set_cons_succ, Nat.reduceAdd] at hK ⊢
              simp only [e2, e3] at hK ⊢
              have x1 := hx1
              have x2 := hx2
              have x3 := hx3
              have x4 := hx4
              have x5 := hx5
              have x6 := hx6
              have c0 := hc0
              refine Wrap.mk ?_
              go_simp
              refine hK _ _ ?_
              exact ⟨fun _ => rfl, fun h _ => absurd (hD0.symm.trans h) (by decide), fun h => absurd (hD1.symm.trans h) (by decide), h0, h1, h2, h3, fun _ => rfl, h5, h6, h7, h8, h9, h10, h11, h12, h13, h15⟩
            · refine stepO_plain rfl (fun D x W hJ hp hn hcl K hK => ?_)
              obtain ⟨hw0, hw1, hw2, h0, h1, h2, h3, h4, h5, h6, h7, h8, h9, h10, h11, h12, h13, h15⟩ := hJ
              have hD0 : D 14 = false := by
                cases h : D 14 with
                | false => rfl
                | true => exact absurd (hcl 14 _ rfl h 5 (of_decide_eq_true (by kernel_rfl))) (by rw [hn]; decide)
              have hD1 : D 16 = false := by
                cases h : D 16 with
                | false => rfl
                | true => exact absurd (hcl 16 _ rfl h 5 (of_decide_eq_true (by kernel_rfl))) (by rw [hn]; decide)
              obtain rfl := hw0 hD0
              have hK := hK.out
              have d4 : D 4 = true := hp 4 (of_decide_eq_true (by kernel_rfl))
              have e4 := h4 d4
              simp only [fillO, Act.put, List.setIfInBounds_toArray, List.set_cons_zero, List.set_cons_succ, Nat.reduceAdd] at hK ⊢
              simp only [e4] at hK ⊢
              have x1 := hx1
              have x2 := hx2
              have x3 := hx3
              have x4 := hx4
              have x5 := hx5
              have x6 := hx6
              have c0 := hc0
              refine Wrap.mk ?_
              go_simp
              refine (HN1.out _).mono ?_
              rintro e W' ⟨rfl, rfl⟩
              exact hK _ _ ⟨fun _ => rfl, fun h _ => absurd (hD0.symm.trans h) (by decide), fun h => absurd (hD1.symm.trans h) (by decide), h0, h1, h2, h3, h4, fun _ => rfl, h6, h7, h8, h9, h10, h11, h12, h13, h15⟩
            · refine stepO_plain rfl (fun D x W hJ hp hn hcl K hK => ?_)
              obtain ⟨hw0, hw1, hw2, h0, h1, h2, h3, h4, h5, h6, h7, h8, h9, h10, h11, h12, h13, h15⟩ := hJ
              have hD0 : D 14 = false := by
                cases h : D 14 with
                | false => rfl
                | true => exact absurd (hcl 7 _ rfl (hcl 8 _ rfl (hcl 11 _ rfl (hcl 12 _ rfl (hcl 14 _ rfl h 12 (of_decide_eq_true (by kernel_rfl))) 11 (of_decide_eq_true (by kernel_rfl))) 8 (of_decide_eq_true (by kernel_rfl))) 7 (of_decide_eq_true (by kernel_rfl))) 6 (of_decide_eq_true (by kernel_rfl))) (by rw [hn]; decide)
              have hD1 : D 16 = false := by
                cases h : D 16 with
                | false => rfl
                | true => exact absurd (hcl 16 _ rfl h 6 (of_decide_eq_true (by kernel_rfl))) (by rw [hn]; decide)
              obtain rfl := hw0 hD0
              have hK := hK.out
              simp only [fillO, Act.put, List.setIfInBounds_toArray, List.set_cons_zero, List.set_cons_succ, Nat.reduceAdd] at hK ⊢
              have x1 := hx1
              have x2 := hx2
              have x3 := hx3
              have x4 := hx4
              have x5 := hx5
              have x6 := hx6
              have c0 := hc0
              refine Wrap.mk ?_
              go_simp
              refine hK _ _ ?_
              exact ⟨fun _ => rfl, fun h _ => absurd (hD0.symm.trans h) (by decide), fun h => absurd (hD1.symm.trans h) (by decide), h0, h1, h2, h3, h4, h5, fun _ => rfl, h7, h8, h9, h10, h11, h12, h13, h15⟩
            · refine stepO_plain rfl (fun D x W hJ hp hn hcl K hK => ?_)
              obtain ⟨hw0, hw1, hw2, h0, h1, h2, h3, h4, h5, h6, h7, h8, h9, h10, h11, h12, h13, h15⟩ := hJ
              have hD0 : D 14 = false := by
                cases h : D 14 with
                | false => rfl
                | true => exact absurd (hcl 8 _ rfl (hcl 11 _ rfl (hcl 12 _ rfl (hcl 14 _ rfl h 12 (of_decide_eq_true (by kernel_rfl))) 11 (of_decide_eq_true (by kernel_rfl))) 8 (of_decide_eq_true (by kernel_rfl))) 7 (of_decide_eq_true (by kernel_rfl))) (by rw [hn]; decide)
              have hD1 : D 16 = false := by
                cases h : D 16 with
                | false => rfl
                | true => exact absurd (hcl 16 _ rfl h 7 (of_decide_eq_true (by kernel_rfl))) (by rw [hn]; decide)
              obtain rfl := hw0 hD0
              have hK := hK.out
              have d6 : D 6 = true := hp 6 (of_decide_eq_true (by kernel_rfl))
              have e6 := h6 d6
              simp only [fillO, Act.put, List.setIfInBounds_toArray, List.set_cons_zero, List.set_cons_succ, Nat.reduceAdd] at hK ⊢
              simp only [e6] at hK ⊢
              have x1 := hx1
              have x2 := hx2
              have x3 := hx3
              have x4 := hx4
              have x5 := hx5
              have x6 := hx6
              have c0 := hc0
              refine Wrap.mk ?_
              go_simp
              refine hK _ _ ?_
              exact ⟨fun _ => rfl, fun h _ => absurd (hD0.symm.trans h) (by decide), fun h => absurd (hD1.symm.trans h) (by decide), h0, h1, h2, h3, h4, h5, h6, fun _ => rfl, h8, h9, h10, h11, h12, h13, h15⟩
            · refine stepO_plain rfl (fun D x W hJ hp hn hcl K hK => ?_)
              obtain ⟨hw0, hw1, hw2, h0, h1, h2, h3, h4, h5, h6, h7, h8, h9, h10, h11, h12, h13, h15⟩ := hJ
              have hD0 : D 14 = false := by
                cases h : D 14 with
                | false => rfl
                | true => exact absurd (hcl 11 _ rfl (hcl 12 _ rfl (hcl 14 _ rfl h 12 (of_decide_eq_true (by kernel_rfl))) 11 (of_decide_eq_true (by kernel_rfl))) 8 (of_decide_eq_true (by kernel_rfl))) (by rw [hn]; decide)
              have hD1 : D 16 = false := by
                cases h : D 16 with
                | false => rfl
                | true => exact absurd (hcl 16 _ rfl h 8 (of_decide_eq_true (by kernel_rfl))) (by rw [hn]; decide)
              obtain rfl := hw0 hD0
              have hK := hK.out
              have d7 : D 7 = true := hp 7 (of_decide_eq_true (by kernel_rfl))
              have e7 := h7 d7
              simp only [fillO, Act.put, List.setIfInBounds_toArray, List.set_cons_zero, List.set_cons_succ, Nat.reduceAdd] at hK ⊢
              simp only [e7] at hK ⊢
              have x1 := hx1
              have x2 := hx2
              have x3 := hx3
              have x4 := hx4
              have x5 := hx5
              have x6 := hx6
              have c0 := hc0
              refine Wrap.mk ?_
              go_simp
              refine hK _ _ ?_
              exact ⟨fun _ => rfl, fun h _ => absurd (hD0.symm.trans h) (by decide), fun h => absurd (hD1.symm.trans h) (by decide), h0, h1, h2, h3, h4, h5, h6, h7, fun _ => rfl, h9, h10, h11, h12, h13, h15⟩
            · refine stepO_plain rfl (fun D x W hJ hp hn hcl K hK => ?_)
              obtain ⟨hw0, hw1, hw2, h0, h1, h2, h3, h4, h5, h6, h7, h8, h9, h10, h11, h12, h13, h15⟩ := hJ
              have hD0 : D 14 = false := by
                cases h : D 14 with
                | false => rfl
                | true => exact absurd (hcl 10 _ rfl (hcl 11 _ rfl (hcl 12 _ rfl (hcl 14 _ rfl h 12 (of_decide_eq_true (by kernel_rfl))) 11 (of_decide_eq_true (by kernel_rfl))) 10 (of_decide_eq_true (by kernel_rfl))) 9 (of_decide_eq_true (by kernel_rfl))) (by rw [hn]; decide)
              have hD1 : D 16 = false := by
                cases h : D 16 with
                | false => rfl
                | true => exact absurd (hcl 16 _ rfl h 9 (of_decide_eq_true (by kernel_rfl))) (by rw [hn]; decide)
              obtain rfl := hw0 hD0
              have hK := hK.out
              simp only [fillO, Act.put, List.setIfInBounds_toArray, List.set_cons_zero, List.set_cons_succ, Nat.reduceAdd] at hK ⊢
              have x1 := hx1
              have x2 := hx2
              have x3 := hx3
              have x4 := hx4
              have x5 := hx5
              have x6 := hx6
              have c0 := hc0
              refine Wrap.mk ?_
              go_simp
              refine hK _ _ ?_
              exact ⟨fun _ => rfl, fun h _ => absurd (hD0.symm.trans h) (by decide), fun h => absurd (hD1.symm.trans h) (by decide), h0, h1, h2, h3, h4, h5, h6, h7, h8, fun _ => rfl, h10, h11, h12, h13, h15⟩
            · refine stepO_plain rfl (fun D x W hJ hp hn hcl K hK => ?_)
              obtain ⟨hw0, hw1, hw2, h0, h1, h2, h3, h4, h5, h6, h7, h8, h9, h10, h11, h12, h13, h15⟩ := hJ
              have hD0 : D 14 = false := by
                cases h : D 14 with
                | false => rfl
                | true => exact absurd (hcl 11 _ rfl (hcl 12 _ rfl (hcl 14 _ rfl h 12 (of_decide_eq_true (by kernel_rfl))) 11 (of_decide_eq_true (by kernel_rfl))) 10 (of_decide_eq_true (by kernel_rfl))) (by rw [hn]; decide)
              have hD1 : D 16 = false := by
                cases h : D 16 with
                | false => rfl
                | true => exact absurd (hcl 16 _ rfl h 10 (of_decide_eq_true (by kernel_rfl))) (by rw [hn]; decide)
              obtain rfl := hw0 hD0
              have hK := hK.out
              have d9 : D 9 = true := hp 9 (of_decide_eq_true (by kernel_rfl))
              have e9 := h9 d9
              simp only [fillO, Act.put, List.setIfInBounds_toArray, List.set_cons_zero, List.set_cons_succ, Nat.reduceAdd] at hK ⊢
              simp only [e9] at hK ⊢
              have x1 := hx1
              have x2 := hx2
              have x3 := hx3
              have x4 := hx4
              have x5 := hx5
              have x6 := hx6
              have c0 := hc0
              refine Wrap.mk ?_
              go_simp
              refine hK _ _ ?_
              exact ⟨fun _ => rfl, fun h _ => absurd (hD0.symm.trans h) (by decide), fun h => absurd (hD1.symm.trans h) (by decide), h0, h1, h2, h3, h4, h5, h6, h7, h8, h9, fun _ => rfl, h11, h12, h13, h15⟩
            · refine stepO_plain rfl (fun D x W hJ hp hn hcl K hK => ?_)
              obtain ⟨hw0, hw1, hw2, h0, h1, h2, h3, h4, h5, h6, h7, h8, h9, h10, h11, h12, h13, h15⟩ := hJ
              have hD0 : D 14 = false := by
                cases h : D 14 with
                | false => rfl
                | true => exact absurd (hcl 12 _ rfl (hcl 14 _ rfl h 12 (of_decide_eq_true (by kernel_rfl))) 11 (of_decide_eq_true (by kernel_rfl))) (by rw [hn]; decide)
              have hD1 : D 16 = false := by
                cases h : D 16 with
                | false => rfl
                | true => exact absurd (hcl 16 _ rfl h 11 (of_decide_eq_true (by kernel_rfl))) (by rw [hn]; decide)
              obtain rfl := hw0 hD0
              have hK := hK.out
              have d8 : D 8 = true := hp 8 (of_decide_eq_true (by kernel_rfl))
              have e8 := h8 d8
              have d10 : D 10 = true := hp 10 (of_decide_eq_true (by kernel_rfl))
              have e10 := h10 d10
              simp only [fillO, Act.put, List.setIfInBounds_toArray, List.set_cons_zero, List.set_cons_succ, Nat.reduceAdd] at hK ⊢
              simp only [e8, e10] at hK ⊢
              have x1 := hx1
              have x2 := hx2
              have x3 := hx3
              have x4 := hx4
              have x5 := hx5
              have x6 := hx6
              have c0 := hc0
              refine Wrap.mk ?_
              go_simp
              refine hK _ _ ?_
              exact ⟨fun _ => rfl, fun h _ => absurd (hD0.symm.trans h) (by decide), fun h => absurd (hD1.symm.trans h) (by decide), h0, h1, h2, h3, h4, h5, h6, h7, h8, h9, h10, fun _ => rfl, h12, h13, h15⟩
            · refine stepO_plain rfl (fun D x W hJ hp hn hcl K hK => ?_)
              obtain ⟨hw0, hw1, hw2, h0, h1, h2, h3, h4, h5, h6, h7, h8, h9, h10, h11, h12, h13, h15⟩ := hJ
              have hD0 : D 14 = false := by
                cases h : D 14 with
                | false => rfl
                | true => exact absurd (hcl 14 _ rfl h 12 (of_decide_eq_true (by kernel_rfl))) (by rw [hn]; decide)
              have hD1 : D 16 = false := by
                cases h : D 16 with
                | false => rfl
                | true => exact absurd (hcl 16 _ rfl h 12 (of_decide_eq_true (by kernel_rfl))) (by rw [hn]; decide)
              obtain rfl := hw0 hD0
              have hK := hK.out
              have d11 : D 11 = true := hp 11 (of_decide_eq_true (by kernel_rfl))
              have e11 := h11 d11
              simp only [fillO, Act.put, List.setIfInBounds_toArray, List.set_cons_zero, List.set_cons_succ, Nat.reduceAdd] at hK ⊢
              simp only [e11] at hK ⊢
              have x1 := hx1
              have x2 := hx2
              have x3 := hx3
              have x4 := hx4
              have x5 := hx5
              have x6 := hx6
              have c0 := hc0
              refine Wrap.mk ?_
              go_simp
              refine (HN2.out _).mono ?_
              rintro e W' ⟨rfl, rfl⟩
              exact hK _ _ ⟨fun _ => rfl, fun h _ => absurd (hD0.symm.trans h) (by decide), fun h => absurd (hD1.symm.trans h) (by decide), h0, h1, h2, h3, h4, h5, h6, h7, h8, h9, h10, h11, fun _ => rfl, h13, h15⟩
            · refine stepO_plain rfl (fun D x W hJ hp hn hcl K hK => ?_)
              obtain ⟨hw0, hw1, hw2, h0, h1, h2, h3, h4, h5, h6, h7, h8, h9, h10, h11, h12, h13, h15⟩ := hJ
              have hD0 : D 14 = false := by
                cases h : D 14 with
                | false => rfl
                | true => exact absurd (hcl 14 _ rfl h 13 (of_decide_eq_true (by kernel_rfl))) (by rw [hn]; decide)
              have hD1 : D 16 = false := by
                cases h : D 16 with
                | false => rfl
                | true => exact absurd (hcl 16 _ rfl h 13 (of_decide_eq_true (by kernel_rfl))) (by rw [hn]; decide)
              obtain rfl := hw0 hD0
              have hK := hK.out
              simp only [fillO, Act.put, List.setIfInBounds_toArray, List.set_cons_zero, List.set_cons_succ, Nat.reduceAdd] at hK ⊢
              refine Wrap.mk ?_
              go_simp
              refine hK _ _ ?_
              exact ⟨fun _ => rfl, fun h _ => absurd (hD0.symm.trans h) (by decide), fun h => absurd (hD1.symm.trans h) (by decide), h0, h1, h2, h3, h4, h5, h6, h7, h8, h9, h10, h11, h12, fun _ => rfl, h15⟩
            · refine stepO_plain rfl (fun D x W hJ hp hn hcl K hK => ?_)
              obtain ⟨hw0, hw1, hw2, h0, h1, h2, h3, h4, h5, h6, h7, h8, h9, h10, h11, h12, h13, h15⟩ := hJ
              have hD0 : D 14 = false := hn
              have hD1 : D 16 = false := by
                cases h : D 16 with
                | false => rfl
                | true => exact absurd (hcl 16 _ rfl h 14 (of_decide_eq_true (by kernel_rfl))) (by rw [hn]; decide)
              obtain rfl := hw0 hD0
              have hK := hK.out
              have d5 : D 5 = true := hp 5 (of_decide_eq_true (by kernel_rfl))
              have e5 := h5 d5
              have d13 : D 13 = true := hp 13 (of_decide_eq_true (by kernel_rfl))
              have e13 := h13 d13
              simp only [fillO, Act.put, List.setIfInBounds_toArray, List.set_cons_zero, List.set_cons_succ, Nat.reduceAdd] at hK ⊢
              simp only [e5, e13] at hK ⊢
              have d0 := q1.c0
              have f0 := q1.fz 0
              dsimp only at d0
              refine Wrap.mk ?_
              go_simp
              refine hK undef _ ?_
              exact ⟨fun h => absurd (show true = false from h) (by decide), fun _ _ => rfl, fun h => absurd (hD1.symm.trans h) (by decide), h0, h1, h2, h3, h4, h5, h6, h7, h8, h9, h10, h11, h12, h13, h15⟩
            · refine stepO_plain rfl (fun D x W hJ hp hn hcl K hK => ?_)
              obtain ⟨hw0, hw1, hw2, h0, h1, h2, h3, h4, h5, h6, h7, h8, h9, h10, h11, h12, h13, h15⟩ := hJ
              have hD1 : D 16 = false := by
                cases h : D 16 with
                | false => rfl
                | true => exact absurd (hcl 16 _ rfl h 15 (of_decide_eq_true (by kernel_rfl))) (by rw [hn]; decide)
              have hD0 : D 14 = true := (hp 14 (of_decide_eq_true (by kernel_rfl)))
              obtain rfl := hw1 hD0 hD1
              have hK := hK.out
              simp only [fillO, Act.put, List.setIfInBounds_toArray, List.set_cons_zero, List.set_cons_succ, Nat.reduceAdd] at hK ⊢
              refine Wrap.mk ?_
              go_simp
              refine hK _ _ ?_
              exact ⟨fun h => absurd (hD0.symm.trans h) (by decide), fun _ _ => rfl, fun h => absurd (hD1.symm.trans h) (by decide), h0, h1, h2, h3, h4, h5, h6, h7, h8, h9, h10, h11, h12, h13, fun _ => rfl⟩
            · refine stepO_plain rfl (fun D x W hJ hp hn hcl K hK => ?_)
              obtain ⟨hw0, hw1, hw2, h0, h1, h2, h3, h4, h5, h6, h7, h8, h9, h10, h11, h12, h13, h15⟩ := hJ
              have hD0 : D 14 = true := (hp 14 (of_decide_eq_true (by kernel_rfl)))
              have hD1 : D 16 = false := hn
              obtain rfl := hw1 hD0 hD1
              have hK := hK.out
              have d12 : D 12 = true := hp 12 (of_decide_eq_true (by kernel_rfl))
              have e12 := h12 d12
              have d15 : D 15 = true := hp 15 (of_decide_eq_true (by kernel_rfl))
              have e15 := h15 d15
              simp only [fillO, Act.put, List.setIfInBounds_toArray, List.set_cons_zero, List.set_cons_succ, Nat.reduceAdd] at hK ⊢
              simp only [e12, e15] at hK ⊢
              have hq1 := PB.set0 q1 fr
              have d1 := hq1.c1
              have f1 := hq1.fz 1
              dsimp only at d1
              clear hq1
              refine Wrap.mk ?_
              go_simp
              refine hK undef _ ?_
              exact ⟨fun h => absurd (hD0.symm.trans h) (by decide), fun _ h => absurd (show true = false from h) (by decide), fun _ => rfl, h0, h1, h2, h3, h4, h5, h6, h7, h8, h9, h10, h11, h12, h13, h15⟩
          · intro x W hJ
            obtain ⟨hw0, hw1, hw2, h0, h1, h2, h3, h4, h5, h6, h7, h8, h9, h10, h11, h12, h13, h15⟩ := hJ
            obtain rfl := hw2 (by decide)
            have e0 := h0 (by decide)
            have e1 := h1 (by decide)
            have e2 := h2 (by decide)
            have e3 := h3 (by decide)
            have e4 := h4 (by decide)
            have e5 := h5 (by decide)
            have e6 := h6 (by decide)
            have e7 := h7 (by decide)
            have e8 := h8 (by decide)
            have e9 := h9 (by decide)
            have e10 := h10 (by decide)
            have e11 := h11 (by decide)
            have e12 := h12 (by decide)
            have e13 := h13 (by decide)
            have e15 := h15 (by decide)
            clear hw0 hw1 hw2 h0 h1 h2 h3 h4 h5 h6 h7 h8 h9 h10 h11 h12 h13 h15
            simp only [fillO, Act.put, List.setIfInBounds_toArray, List.set_cons_zero, List.set_cons_succ, Nat.reduceAdd]
            simp only [e0, e1, e2, e3, e4, e5, e6, e7, e8, e9, e10, e11, e12, e13, e15]
            clear e0 e1 e2 e3 e4 e5 e6 e7 e8 e9 e10 e11 e12 e13 e15 x
            replace q0 := (q0.far (a := ⟨w.heap.size + 1, 0, none⟩) (by simp) (.int .i64 fr)).far (a := ⟨w.heap.size + 1, 1, none⟩) (by simp) (.int .i64 tt)
            replace q1 := (q1.set0 fr).set1 tt
            replace hb := (hb.setCell (p := ⟨w.heap.size + 1, 0, none⟩) (by simp) (.int .i64 fr)).setCell (p := ⟨w.heap.size + 1, 1, none⟩) (by simp) (.int .i64 tt)
            dsimp only at q1
            clear hc0 HWD
            generalize (wd.setCell ⟨w.heap.size + 1, 0, none⟩ (.int .i64 fr)).setCell ⟨w.heap.size + 1, 1, none⟩ (.int .i64 tt) = W2 at *
            go_upto_region 14 with fail
            obtain ⟨wd2, hwd⟩ : ∃ wd, wd = W2.drew := ⟨_, rfl⟩
            replace q1 : PB wd2 (w.heap.size + 1) ⟨fr, tt, st⟩ := hwd ▸ q1
            replace q0 : PB wd2 w.heap.size ⟨0, 0, 0⟩ := hwd ▸ q0
            replace hb : Below w.heap.size w wd2 := hwd ▸ hb.drew
            have HWD := Lib.hid hwd
            clear hwd
            have q1p := ((q1.far (a := ⟨w.heap.size, 0, none⟩) (by simp) (.int .i64 fr)).far (a := ⟨w.heap.size, 1, none⟩) (by simp) (.int .i64 tt)).far (a := ⟨w.heap.size, 2, none⟩) (by simp) (.int .i64 st)
            have st0 := q0.c0
            have st1 := q0.c1
            have st2 := q0.c2
            have sf0 := q0.fz 0
            have sf1 := q0.fz 1
            have sf2 := q0.fz 2
            dsimp only at st0 st1 st2
            cases hf : decide (0 ≤ fr) with
            | true =>
              obtain ⟨ok, hok⟩ : ∃ ok, decide (0 ≤ tt) = ok := ⟨_, rfl⟩
              rw [hf, hok, Bool.true_and] at HQ
              refine wp_region_inv (by kernel_rfl) (fun D x W => (D 9 = false → W = wd2) ∧ (D 9 = true → W = ((wd2.setCell ⟨w.heap.size, 0, none⟩ (.int .i64 fr)).setCell ⟨w.heap.size, 1, none⟩ (.int .i64 tt)).setCell ⟨w.heap.size, 2, none⟩ (.int .i64 st)) ∧ (D 0 = true → x 0 = .agg #[.int .i64 fr, .int .i64 tt, .int .i64 st]) ∧ (D 1 = true → x 1 = .pointer (some ⟨w.heap.size + 1, 0, none⟩)) ∧ (D 2 = true → x 2 = .int .i64 fr) ∧ (D 3 = true → x 3 = .bool true) ∧ (D 4 = true → x 4 = .bool true) ∧ (D 5 = true → x 5 = .pointer (some ⟨w.heap.size + 1, 1, none⟩)) ∧ (D 6 = true → x 6 = .int .i64 tt) ∧ (D 7 = true → x 7 = .bool ok) ∧ (D 8 = true → x 8 = .bool ok) ∧ (D 10 = true → x 10 = .bool ok)) (by kernel_rfl) (by kernel_rfl) (fun x => ⟨fun _ => HWD.out.symm, fun h => (by cases h), fun h => (by cases h), fun h => (by cases h), fun h => (by cases h), fun h => (by cases h), fun h => (by cases h), fun h => (by cases h), fun h => (by cases h), fun h => (by cases h), fun h => (by cases h), fun h => (by cases h)⟩) ?_ ?_
              · refine And.intro ?_ (And.intro ?_ (And.intro ?_ (And.intro ?_ (And.intro ?_ (And.intro ?_ (And.intro ?_ (And.intro ?_ (And.intro ?_ (And.intro ?_ (And.intro ?_ trivial))))))))))
                · refine stepO_plain rfl (fun D x W hJ hp hn hcl K hK => ?_)
                  obtain ⟨hw0, hw1, h0, h1, h2, h3, h4, h5, h6, h7, h8, h10⟩ := hJ
                  have hD0 : D 9 = false := by
                    cases h : D 9 with
                    | false => rfl
                    | true => exact absurd (hcl 9 _ rfl h 0 (of_decide_eq_true (by kernel_rfl))) (by rw [hn]; decide)
                  obtain rfl := hw0 hD0
                  have hK := hK.out
                  simp only [fillO, Act.put, List.setIfInBounds_toArray, List.set_cons_zero, List.set_cons_succ, Nat.reduceAdd] at hK ⊢
                  have d0 := q1.c0
                  have d1 := q1.c1
                  have d2 := q1.c2
                  dsimp only at d0 d1 d2
                  refine Wrap.mk ?_
                  go_simp
                  refine hK _ _ ?_
                  exact ⟨fun _ => rfl, fun h => absurd (hD0.symm.trans h) (by decide), fun _ => rfl, h1, h2, h3, h4, h5, h6, h7, h8, h10⟩
                · refine stepO_plain rfl (fun D x W hJ hp hn hcl K hK => ?_)
                  obtain ⟨hw0, hw1, h0, h1, h2, h3, h4, h5, h6, h7, h8, h10⟩ := hJ
                  have hD0 : D 9 = false := by
                    cases h : D 9 with
                    | false => rfl
                    | true => exact absurd (hcl 2 _ rfl (hcl 3 _ rfl (hcl 4 _ rfl (hcl 9 _ rfl h 4 (of_decide_eq_true (by kernel_rfl))) 3 (of_decide_eq_true (by kernel_rfl))) 2 (of_decide_eq_true (by kernel_rfl))) 1 (of_decide_eq_true (by kernel_rfl))) (by rw [hn]; decide)
                  obtain rfl := hw0 hD0
                  have hK := hK.out
                  simp only [fillO, Act.put, List.setIfInBounds_toArray, List.set_cons_zero, List.set_cons_succ, Nat.reduceAdd] at hK ⊢
                  refine Wrap.mk ?_
                  go_simp
                  refine hK _ _ ?_
                  exact ⟨fun _ => rfl, fun h => absurd (hD0.symm.trans h) (by decide), h0, fun _ => rfl, h2, h3, h4, h5, h6, h7, h8, h10⟩
                · refine stepO_plain rfl (fun D x W hJ hp hn hcl K hK => ?_)
                  obtain ⟨hw0, hw1, h0, h1, h2, h3, h4, h5, h6, h7, h8, h10⟩ := hJ
                  have hD0 : D 9 = false := by
                    cases h : D 9 with
                    | false => rfl
                    | true => exact absurd (hcl 3 _ rfl (hcl 4 _ rfl (hcl 9 _ rfl h 4 (of_decide_eq_true (by kernel_rfl))) 3 (of_decide_eq_true (by kernel_rfl))) 2 (of_decide_eq_true (by kernel_rfl))) (by rw [hn]; decide)
                  obtain rfl := hw0 hD0
                  have hK := hK.out
                  have d1 : D 1 = true := hp 1 (of_decide_eq_true (by kernel_rfl))
                  have e1 := h1 d1
                  simp only [fillO, Act.put, List.setIfInBounds_toArray, List.set_cons_zero, List.set_cons_succ, Nat.reduceAdd] at hK ⊢
                  simp only [e1] at hK ⊢
                  have d0 := q1.c0
                  have d1 := q1.c1
                  have d2 := q1.c2
                  dsimp only at d0 d1 d2
                  refine Wrap.mk ?_
                  go_simp
                  refine hK _ _ ?_
                  exact ⟨fun _ => rfl, fun h => absurd (hD0.symm.trans h) (by decide), h0, h1, fun _ => rfl, h3, h4, h5, h6, h7, h8, h10⟩
                · refine stepO_plain rfl (fun D x W hJ hp hn hcl K hK => ?_)
                  obtain ⟨hw0, hw1, h0, h1, h2, h3, h4, h5, h6, h7, h8, h10⟩ := hJ
                  have hD0 : D 9 = false := by
                    cases h : D 9 with
                    | false => rfl
                    | true => exact absurd (hcl 4 _ rfl (hcl 9 _ rfl h 4 (of_decide_eq_true (by kernel_rfl))) 3 (of_decide_eq_true (by kernel_rfl))) (by rw [hn]; decide)
                  obtain rfl := hw0 hD0
                  have hK := hK.out
                  have d2 : D 2 = true := hp 2 (of_decide_eq_true (by kernel_rfl))
                  have e2 := h2 d2
                  simp only [fillO, Act.put, List.setIfInBounds_toArray, List.set_cons_zero, List.set_cons_succ, Nat.reduceAdd] at hK ⊢
                  simp only [e2] at hK ⊢
                  have hf2 := hf
                  refine Wrap.mk ?_
                  go_simp
                  refine hK _ _ ?_
                  exact ⟨fun _ => rfl, fun h => absurd (hD0.symm.trans h) (by decide), h0, h1, h2, fun _ => rfl, h4, h5, h6, h7, h8, h10⟩
                · refine stepO_plain rfl (fun D x W hJ hp hn hcl K hK => ?_)
                  obtain ⟨hw0, hw1, h0, h1, h2, h3, h4, h5, h6, h7, h8, h10⟩ := hJ
                  have hD0 : D 9 = false := by
                    cases h : D 9 with
                    | false => rfl
                    | true => exact absurd (hcl 9 _ rfl h 4 (of_decide_eq_true (by kernel_rfl))) (by rw [hn]; decide)
                  obtain rfl := hw0 hD0
                  have hK := hK.out
                  have d3 : D 3 = true := hp 3 (of_decide_eq_true (by kernel_rfl))
                  have e3 := h3 d3
                  simp only [fillO, Act.put, List.setIfInBounds_toArray, List.set_cons_zero, List.set_cons_succ, Nat.reduceAdd] at hK ⊢
                  simp only [e3] at hK ⊢
                  refine Wrap.mk ?_
                  go_simp
                  refine hK _ _ ?_
                  exact ⟨fun _ => rfl, fun h => absurd (hD0.symm.trans h) (by decide), h0, h1, h2, h3, fun _ => rfl, h5, h6, h7, h8, h10⟩
                · refine stepO_on (d := 56) rfl rfl rfl (of_decide_eq_true (by kernel_rfl)) (by kernel_rfl) (fun D x W hJ hp hn hcl K hK => ?_)
                  obtain ⟨hw0, hw1, h0, h1, h2, h3, h4, h5, h6, h7, h8, h10⟩ := hJ
                  cases hD0 : D 9 with
                  | false =>
                    obtain rfl := hw0 hD0
                    have hK := hK.out
                    simp only [fillO, Act.put, List.setIfInBounds_toArray, List.set_cons_zero, List.set_cons_succ, Nat.reduceAdd] at hK ⊢
                    refine ⟨h4 (hp 4 (of_decide_eq_true (by kernel_rfl))), Wrap.mk ?_⟩
                    go_simp
                    refine hK _ _ ?_
                    exact ⟨fun _ => rfl, fun h => absurd (hD0.symm.trans h) (by decide), h0, h1, h2, h3, h4, fun _ => rfl, h6, h7, h8, h10⟩
                  | true =>
                    obtain rfl := hw1 hD0
                    have hK := hK.out
                    simp only [fillO, Act.put, List.setIfInBounds_toArray, List.set_cons_zero, List.set_cons_succ, Nat.reduceAdd] at hK ⊢
                    refine ⟨h4 (hp 4 (of_decide_eq_true (by kernel_rfl))), Wrap.mk ?_⟩
                    go_simp
                    refine hK _ _ ?_
                    exact ⟨fun h => absurd (hD0.symm.trans h) (by decide), fun _ => rfl, h0, h1, h2, h3, h4, fun _ => rfl, h6, h7, h8, h10⟩
                · refine stepO_on (d := 56) rfl rfl rfl (of_decide_eq_true (by kernel_rfl)) (by kernel_rfl) (fun D x W hJ hp hn hcl K hK => ?_)
                  obtain ⟨hw0, hw1, h0, h1, h2, h3, h4, h5, h6, h7, h8, h10⟩ := hJ
                  cases hD0 : D 9 with
                  | false =>
                    obtain rfl := hw0 hD0
                    have hK := hK.out
                    have d5 : D 5 = true := hp 5 (of_decide_eq_true (by kernel_rfl))
                    have e5 := h5 d5
                    simp only [fillO, Act.put, List.setIfInBounds_toArray, List.set_cons_zero, List.set_cons_succ, Nat.reduceAdd] at hK ⊢
                    simp only [e5] at hK ⊢
                    have d0 := q1.c0
                    have d1 := q1.c1
                    have d2 := q1.c2
                    dsimp only at d0 d1 d2
                    refine ⟨h4 (hp 4 (of_decide_eq_true (by kernel_rfl))), Wrap.mk ?_⟩
                    go_simp
                    refine hK _ _ ?_
                    exact ⟨fun _ => rfl, fun h => absurd (hD0.symm.trans h) (by decide), h0, h1, h2, h3, h4, h5, fun _ => rfl, h7, h8, h10⟩
                  | true =>
                    obtain rfl := hw1 hD0
                    have hK := hK.out
                    have d5 : D 5 = true := hp 5 (of_decide_eq_true (by kernel_rfl))
                    have e5 := h5 d5
                    simp only [fillO, Act.put, List.setIfInBounds_toArray, List.set_cons_zero, List.set_cons_succ, Nat.reduceAdd] at hK ⊢
                    simp only [e5] at hK ⊢
                    have d0 := q1p.c0
                    have d1 := q1p.c1
                    have d2 := q1p.c2
                    dsimp only at d0 d1 d2
                    refine ⟨h4 (hp 4 (of_decide_eq_true (by kernel_rfl))), Wrap.mk ?_⟩
                    go_simp
                    refine hK _ _ ?_
                    exact ⟨fun h => absurd (hD0.symm.trans h) (by decide), fun _ => rfl, h0, h1, h2, h3, h4, h5, fun _ => rfl, h7, h8, h10⟩
                · refine stepO_on (d := 56) rfl rfl rfl (of_decide_eq_true (by kernel_rfl)) (by kernel_rfl) (fun D x W hJ hp hn hcl K hK => ?_)
                  obtain ⟨hw0, hw1, h0, h1, h2, h3, h4, h5, h6, h7, h8, h10⟩ := hJ
                  cases hD0 : D 9 with
                  | false =>
                    obtain rfl := hw0 hD0
                    have hK := hK.out
                    have d6 : D 6 = true := hp 6 (of_decide_eq_true (by kernel_rfl))
                    have e6 := h6 d6
                    simp only [fillO, Act.put, List.setIfInBounds_toArray, List.set_cons_zero, List.set_cons_succ, Nat.reduceAdd] at hK ⊢
                    simp only [e6] at hK ⊢
                    have hok2 := hok
                    refine ⟨h4 (hp 4 (of_decide_eq_true (by kernel_rfl))), Wrap.mk ?_⟩
                    go_simp
                    refine hK _ _ ?_
                    exact ⟨fun _ => rfl, fun h => absurd (hD0.symm.trans h) (by decide), h0, h1, h2, h3, h4, h5, h6, fun _ => rfl, h8, h10⟩
                  | true =>
                    obtain rfl := hw1 hD0
                    have hK := hK.out
                    have d6 : D 6 = true := hp 6 (of_decide_eq_true (by kernel_rfl))
                    have e6 := h6 d6
                    simp only [fillO, Act.put, List.setIfInBounds_toArray, List.set_cons_zero, List.set_cons_succ, Nat.reduceAdd] at hK ⊢
                    simp only [e6] at hK ⊢
                    have hok2 := hok
                    refine ⟨h4 (hp 4 (of_decide_eq_true (by kernel_rfl))), Wrap.mk ?_⟩
                    go_simp
                    refine hK _ _ ?_
                    exact ⟨fun h => absurd (hD0.symm.trans h) (by decide), fun _ => rfl, h0, h1, h2, h3, h4, h5, h6, fun _ => rfl, h8, h10⟩
                · refine stepO_plain rfl (fun D x W hJ hp hn hcl K hK => ?_)
                  obtain ⟨hw0, hw1, h0, h1, h2, h3, h4, h5, h6, h7, h8, h10⟩ := hJ
                  cases hD0 : D 9 with
                  | false =>
                    obtain rfl := hw0 hD0
                    have hK := hK.out
                    have d4 : D 4 = true := hp 4 (of_decide_eq_true (by kernel_rfl))
                    have e4 := h4 d4
                    have d7 : D 7 = true := hp 7 (of_decide_eq_true (by kernel_rfl))
                    have e7 := h7 d7
                    simp only [fillO, Act.put, List.setIfInBounds_toArray, List.set_cons_zero, List.set_cons_succ, Nat.reduceAdd] at hK ⊢
                    simp only [e4, e7] at hK ⊢
                    refine Wrap.mk ?_
                    go_simp
                    refine hK _ _ ?_
                    exact ⟨fun _ => rfl, fun h => absurd (hD0.symm.trans h) (by decide), h0, h1, h2, h3, h4, h5, h6, h7, fun _ => rfl, h10⟩
                  | true =>
                    obtain rfl := hw1 hD0
                    have hK := hK.out
                    have d4 : D 4 = true := hp 4 (of_decide_eq_true (by kernel_rfl))
                    have e4 := h4 d4
                    have d7 : D 7 = true := hp 7 (of_decide_eq_true (by kernel_rfl))
                    have e7 := h7 d7
                    simp only [fillO, Act.put, List.setIfInBounds_toArray, List.set_cons_zero, List.set_cons_succ, Nat.reduceAdd] at hK ⊢
                    simp only [e4, e7] at hK ⊢
                    refine Wrap.mk ?_
                    go_simp
                    refine hK _ _ ?_
                    exact ⟨fun h => absurd (hD0.symm.trans h) (by decide), fun _ => rfl, h0, h1, h2, h3, h4, h5, h6, h7, fun _ => rfl, h10⟩
                · refine stepO_plain rfl (fun D x W hJ hp hn hcl K hK => ?_)
                  obtain ⟨hw0, hw1, h0, h1, h2, h3, h4, h5, h6, h7, h8, h10⟩ := hJ
                  have hD0 : D 9 = false := hn
                  obtain rfl := hw0 hD0
                  have hK := hK.out
                  have d0 : D 0 = true := hp 0 (of_decide_eq_true (by kernel_rfl))
                  have e0 := h0 d0
                  simp only [fillO, Act.put, List.setIfInBounds_toArray, List.set_cons_zero, List.set_cons_succ, Nat.reduceAdd] at hK ⊢
                  simp only [e0] at hK ⊢
                  refine Wrap.mk ?_
                  go_simp
                  refine hK undef _ ?_
                  exact ⟨fun h => absurd (show true = false from h) (by decide), fun _ => rfl, h0, h1, h2, h3, h4, h5, h6, h7, h8, h10⟩
                · refine stepO_plain rfl (fun D x W hJ hp hn hcl K hK => ?_)
                  obtain ⟨hw0, hw1, h0, h1, h2, h3, h4, h5, h6, h7, h8, h10⟩ := hJ
                  have hD0 : D 9 = true := (hp 9 (of_decide_eq_true (by kernel_rfl)))
                  obtain rfl := hw1 hD0
                  have hK := hK.out
                  have d8 : D 8 = true := hp 8 (of_decide_eq_true (by kernel_rfl))
                  have e8 := h8 d8
                  simp only [fillO, Act.put, List.setIfInBounds_toArray, List.set_cons_zero, List.set_cons_succ, Nat.reduceAdd] at hK ⊢
                  simp only [e8] at hK ⊢
                  refine Wrap.mk ?_
                  go_simp
                  refine hK _ _ ?_
                  exact ⟨fun h => absurd (hD0.symm.trans h) (by decide), fun _ => rfl, h0, h1, h2, h3, h4, h5, h6, h7, h8, fun _ => rfl⟩
              · intro x W hJ
                obtain ⟨hw0, hw1, h0, h1, h2, h3, h4, h5, h6, h7, h8, h10⟩ := hJ
                obtain rfl := hw1 (by decide)
                have e0 := h0 (by decide)
                have e1 := h1 (by decide)
                have e2 := h2 (by decide)
                have e3 := h3 (by decide)
                have e4 := h4 (by decide)
                have e5 := h5 (by decide)
                have e6 := h6 (by decide)
                have e7 := h7 (by decide)
                have e8 := h8 (by decide)
                have e10 := h10 (by decide)
                clear hw0 hw1 h0 h1 h2 h3 h4 h5 h6 h7 h8 h10
                simp only [fillO, Act.put, List.setIfInBounds_toArray, List.set_cons_zero, List.set_cons_succ, Nat.reduceAdd]
                simp only [e0, e1, e2, e3, e4, e5, e6, e7, e8, e10]
                clear e0 e1 e2 e3 e4 e5 e6 e7 e8 e10 x
                have qf := PB.put q0 fr tt st
                have r0 := qf.c0
                have r1 := qf.c1
                have r2 := qf.c2
                dsimp only at r0 r1 r2
                have HBF := Lib.hid (below_put3 hb (Nat.le_refl _) (.int .i64 fr) (.int .i64 tt) (.int .i64 st))
                clear qf
                go_wp2
                refine bodyPost_ret (v := .tuple #[.agg #[.int .i64 fr, .int .i64 tt, .int .i64 st], .bool ok]) (by simp [results, Tryz.f73, go_sem, r0, r1, r2]) rfl ?_
                exact ⟨HQ.out, HBF.out⟩
            | false =>
              rw [hf, Bool.false_and] at HQ
              refine wp_region_inv (by kernel_rfl) (fun D x W => (D 9 = false → W = wd2) ∧ (D 9 = true → W = ((wd2.setCell ⟨w.heap.size, 0, none⟩ (.int .i64 fr)).setCell ⟨w.heap.size, 1, none⟩ (.int .i64 tt)).setCell ⟨w.heap.size, 2, none⟩ (.int .i64 st)) ∧ (D 0 = true → x 0 = .agg #[.int .i64 fr, .int .i64 tt, .int .i64 st]) ∧ (D 1 = true → x 1 = .pointer (some ⟨w.heap.size + 1, 0, none⟩)) ∧ (D 2 = true → x 2 = .int .i64 fr) ∧ (D 3 = true → x 3 = .bool false) ∧ (D 4 = true → x 4 = .bool false) ∧ (D 5 = true → x 5 = undef) ∧ (D 6 = true → x 6 = undef) ∧ (D 7 = true → x 7 = undef) ∧ (D 8 = true → x 8 = .bool false) ∧ (D 10 = true → x 10 = .bool false)) (by kernel_rfl) (by kernel_rfl) (fun x => ⟨fun _ => HWD.out.symm, fun h => (by cases h), fun h => (by cases h), fun h => (by cases h), fun h => (by cases h), fun h => (by cases h), fun h => (by cases h), fun h => (by cases h), fun h => (by cases h), fun h => (by cases h), fun h => (by cases h), fun h => (by cases h)⟩) ?_ ?_
              · refine And.intro ?_ (And.intro ?_ (And.intro ?_ (And.intro ?_ (And.intro ?_ (And.intro ?_ (And.intro ?_ (And.intro ?_ (And.intro ?_ (And.intro ?_ (And.intro ?_ trivial))))))))))
                · refine stepO_plain rfl (fun D x W hJ hp hn hcl K hK => ?_)
                  obtain ⟨hw0, hw1, h0, h1, h2, h3, h4, h5, h6, h7, h8, h10⟩ := hJ
                  have hD0 : D 9 = false := by
                    cases h : D 9 with
                    | false => rfl
                    | true => exact absurd (hcl 9 _ rfl h 0 (of_decide_eq_true (by kernel_rfl))) (by rw [hn]; decide)
                  obtain rfl := hw0 hD0
                  have hK := hK.out
                  simp only [fillO, Act.put, List.setIfInBounds_toArray, List.set_cons_zero, List.set_cons_succ, Nat.reduceAdd] at hK ⊢
                  have d0 := q1.c0
                  have d1 := q1.c1
                  have d2 := q1.c2
                  dsimp only at d0 d1 d2
                  refine Wrap.mk ?_
                  go_simp
                  refine hK _ _ ?_
                  exact ⟨fun _ => rfl, fun h => absurd (hD0.symm.trans h) (by decide), fun _ => rfl, h1, h2, h3, h4, h5, h6, h7, h8, h10⟩
                · refine stepO_plain rfl (fun D x W hJ hp hn hcl K hK => ?_)
                  obtain ⟨hw0, hw1, h0, h1, h2, h3, h4, h5, h6, h7, h8, h10⟩ := hJ
                  have hD0 : D 9 = false := by
                    cases h : D 9 with
                    | false => rfl
                    | true => exact absurd (hcl 2 _ rfl (hcl 3 _ rfl (hcl 4 _ rfl (hcl 9 _ rfl h 4 (of_decide_eq_true (by kernel_rfl))) 3 (of_decide_eq_true (by kernel_rfl))) 2 (of_decide_eq_true (by kernel_rfl))) 1 (of_decide_eq_true (by kernel_rfl))) (by rw [hn]; decide)
                  obtain rfl := hw0 hD0
                  have hK := hK.out
                  simp only [fillO, Act.put, List.setIfInBounds_toArray, List.set_cons_zero, List.set_cons_succ, Nat.reduceAdd] at hK ⊢
                  refine Wrap.mk ?_
                  go_simp
                  refine hK _ _ ?_
                  exact ⟨fun _ => rfl, fun h => absurd (hD0.symm.trans h) (by decide), h0, fun _ => rfl, h2, h3, h4, h5, h6, h7, h8, h10⟩
                · refine stepO_plain rfl (fun D x W hJ hp hn hcl K hK => ?_)
                  obtain ⟨hw0, hw1, h0, h1, h2, h3, h4, h5, h6, h7, h8, h10⟩ := hJ
                  have hD0 : D 9 = false := by
                    cases h : D 9 with
                    | false => rfl
                    | true => exact absurd (hcl 3 _ rfl (hcl 4 _ rfl (hcl 9 _ rfl h 4 (of_decide_eq_true (by kernel_rfl))) 3 (of_decide_eq_true (by kernel_rfl))) 2 (of_decide_eq_true (by kernel_rfl))) (by rw [hn]; decide)
                  obtain rfl := hw0 hD0
                  have hK := hK.out
                  have d1 : D 1 = true := hp 1 (of_decide_eq_true (by kernel_rfl))
                  have e1 := h1 d1
                  simp only [fillO, Act.put, List.setIfInBounds_toArray, List.set_cons_zero, List.set_cons_succ, Nat.reduceAdd] at hK ⊢
                  simp only [e1] at hK ⊢
                  have d0 := q1.c0
                  have d1 := q1.c1
                  have d2 := q1.c2
                  dsimp only at d0 d1 d2
                  refine Wrap.mk ?_
                  go_simp
                  refine hK _ _ ?_
                  exact ⟨fun _ => rfl, fun h => absurd (hD0.symm.trans h) (by decide), h0, h1, fun _ => rfl, h3, h4, h5, h6, h7, h8, h10⟩
                · refine stepO_plain rfl (fun D x W hJ hp hn hcl K hK => ?_)
                  obtain ⟨hw0, hw1, h0, h1, h2, h3, h4, h5, h6, h7, h8, h10⟩ := hJ
                  have hD0 : D 9 = false := by
                    cases h : D 9 with
                    | false => rfl
                    | true => exact absurd (hcl 4 _ rfl (hcl 9 _ rfl h 4 (of_decide_eq_true (by kernel_rfl))) 3 (of_decide_eq_true (by kernel_rfl))) (by rw [hn]; decide)
                  obtain rfl := hw0 hD0
                  have hK := hK.out
                  have d2 : D 2 = true := hp 2 (of_decide_eq_true (by kernel_rfl))
                  have e2 := h2 d2
                  simp only [fillO, Act.put, List.setIfInBounds_toArray, List.set_cons_zero, List.set_cons_succ, Nat.reduceAdd] at hK ⊢
                  simp only [e2] at hK ⊢
                  have hf2 := hf
                  refine Wrap.mk ?_
                  go_simp
                  refine hK _ _ ?_
                  exact ⟨fun _ => rfl, fun h => absurd (hD0.symm.trans h) (by decide), h0, h1, h2, fun _ => rfl, h4, h5, h6, h7, h8, h10⟩
                · refine stepO_plain rfl (fun D x W hJ hp hn hcl K hK => ?_)
                  obtain ⟨hw0, hw1, h0, h1, h2, h3, h4, h5, h6, h7, h8, h10⟩ := hJ
                  have hD0 : D 9 = false := by
                    cases h : D 9 with
                    | false => rfl
                    | true => exact absurd (hcl 9 _ rfl h 4 (of_decide_eq_true (by kernel_rfl))) (by rw [hn]; decide)
                  obtain rfl := hw0 hD0
                  have hK := hK.out
                  have d3 : D 3 = true := hp 3 (of_decide_eq_true (by kernel_rfl))
                  have e3 := h3 d3
                  simp only [fillO, Act.put, List.setIfInBounds_toArray, List.set_cons_zero, List.set_cons_succ, Nat.reduceAdd] at hK ⊢
                  simp only [e3] at hK ⊢
                  refine Wrap.mk ?_
                  go_simp
                  refine hK _ _ ?_
                  exact ⟨fun _ => rfl, fun h => absurd (hD0.symm.trans h) (by decide), h0, h1, h2, h3, fun _ => rfl, h5, h6, h7, h8, h10⟩
                · refine stepO_off (d := 56) rfl rfl rfl (of_decide_eq_true (by kernel_rfl)) (by kernel_rfl) (fun D x W hJ hp hn hcl => ?_)
                  obtain ⟨hw0, hw1, h0, h1, h2, h3, h4, h5, h6, h7, h8, h10⟩ := hJ
                  cases hD0 : D 9 with
                  | false =>
                    obtain rfl := hw0 hD0
                    exact ⟨h4 (hp 4 (of_decide_eq_true (by kernel_rfl))), ⟨fun _ => rfl, fun h => absurd (hD0.symm.trans h) (by decide), h0, h1, h2, h3, h4, fun _ => rfl, h6, h7, h8, h10⟩⟩
                  | true =>
                    obtain rfl := hw1 hD0
                    exact ⟨h4 (hp 4 (of_decide_eq_true (by kernel_rfl))), ⟨fun h => absurd (hD0.symm.trans h) (by decide), fun _ => rfl, h0, h1, h2, h3, h4, fun _ => rfl, h6, h7, h8, h10⟩⟩
                · refine stepO_off (d := 56) rfl rfl rfl (of_decide_eq_true (by kernel_rfl)) (by kernel_rfl) (fun D x W hJ hp hn hcl => ?_)
                  obtain ⟨hw0, hw1, h0, h1, h2, h3, h4, h5, h6, h7, h8, h10⟩ := hJ
                  cases hD0 : D 9 with
                  | false =>
                    obtain rfl := hw0 hD0
                    exact ⟨h4 (hp 4 (of_decide_eq_true (by kernel_rfl))), ⟨fun _ => rfl, fun h => absurd (hD0.symm.trans h) (by decide), h0, h1, h2, h3, h4, h5, fun _ => rfl, h7, h8, h10⟩⟩
                  | true =>
                    obtain rfl := hw1 hD0
                    exact ⟨h4 (hp 4 (of_decide_eq_true (by kernel_rfl))), ⟨fun h => absurd (hD0.symm.trans h) (by decide), fun _ => rfl, h0, h1, h2, h3, h4, h5, fun _ => rfl, h7, h8, h10⟩⟩
                · refine stepO_off (d := 56) rfl rfl rfl (of_decide_eq_true (by kernel_rfl)) (by kernel_rfl) (fun D x W hJ hp hn hcl => ?_)
                  obtain ⟨hw0, hw1, h0, h1, h2, h3, h4, h5, h6, h7, h8, h10⟩ := hJ
                  cases hD0 : D 9 with
                  | false =>
                    obtain rfl := hw0 hD0
                    exact ⟨h4 (hp 4 (of_decide_eq_true (by kernel_rfl))), ⟨fun _ => rfl, fun h => absurd (hD0.symm.trans h) (by decide), h0, h1, h2, h3, h4, h5, h6, fun _ => rfl, h8, h10⟩⟩
                  | true =>
                    obtain rfl := hw1 hD0
                    exact ⟨h4 (hp 4 (of_decide_eq_true (by kernel_rfl))), ⟨fun h => absurd (hD0.symm.trans h) (by decide), fun _ => rfl, h0, h1, h2, h3, h4, h5, h6, fun _ => rfl, h8, h10⟩⟩
                · refine stepO_plain rfl (fun D x W hJ hp hn hcl K hK => ?_)
                  obtain ⟨hw0, hw1, h0, h1, h2, h3, h4, h5, h6, h7, h8, h10⟩ := hJ
                  cases hD0 : D 9 with
                  | false =>
                    obtain rfl := hw0 hD0
                    have hK := hK.out
                    have d4 : D 4 = true := hp 4 (of_decide_eq_true (by kernel_rfl))
                    have e4 := h4 d4
                    have d7 : D 7 = true := hp 7 (of_decide_eq_true (by kernel_rfl))
                    have e7 := h7 d7
                    simp only [fillO, Act.put, List.setIfInBounds_toArray, List.set_cons_zero, List.set_cons_succ, Nat.reduceAdd] at hK ⊢
                    simp only [e4, e7] at hK ⊢
                    refine Wrap.mk ?_
                    go_simp
                    refine hK _ _ ?_
                    exact ⟨fun _ => rfl, fun h => absurd (hD0.symm.trans h) (by decide), h0, h1, h2, h3, h4, h5, h6, h7, fun _ => rfl, h10⟩
                  | true =>
                    obtain rfl := hw1 hD0
                    have hK := hK.out
                    have d4 : D 4 = true := hp 4 (of_decide_eq_true (by kernel_rfl))
                    have e4 := h4 d4
                    have d7 : D 7 = true := hp 7 (of_decide_eq_true (by kernel_rfl))
                    have e7 := h7 d7
                    simp only [fillO, Act.put, List.setIfInBounds_toArray, List.set_cons_zero, List.set_cons_succ, Nat.reduceAdd] at hK ⊢
                    simp only [e4, e7] at hK ⊢
                    refine Wrap.mk ?_
                    go_simp
                    refine hK _ _ ?_
                    exact ⟨fun h => absurd (hD0.symm.trans h) (by decide), fun _ => rfl, h0, h1, h2, h3, h4, h5, h6, h7, fun _ => rfl, h10⟩
                · refine stepO_plain rfl (fun D x W hJ hp hn hcl K hK => ?_)
                  obtain ⟨hw0, hw1, h0, h1, h2, h3, h4, h5, h6, h7, h8, h10⟩ := hJ
                  have hD0 : D 9 = false := hn
                  obtain rfl := hw0 hD0
                  have hK := hK.out
                  have d0 : D 0 = true := hp 0 (of_decide_eq_true (by kernel_rfl))
                  have e0 := h0 d0
                  simp only [fillO, Act.put, List.setIfInBounds_toArray, List.set_cons_zero, List.set_cons_succ, Nat.reduceAdd] at hK ⊢
                  simp only [e0] at hK ⊢
                  refine Wrap.mk ?_
                  go_simp
                  refine hK undef _ ?_
                  exact ⟨fun h => absurd (show true = false from h) (by decide), fun _ => rfl, h0, h1, h2, h3, h4, h5, h6, h7, h8, h10⟩
                · refine stepO_plain rfl (fun D x W hJ hp hn hcl K hK => ?_)
                  obtain ⟨hw0, hw1, h0, h1, h2, h3, h4, h5, h6, h7, h8, h10⟩ := hJ
                  have hD0 : D 9 = true := (hp 9 (of_decide_eq_true (by kernel_rfl)))
                  obtain rfl := hw1 hD0
                  have hK := hK.out
                  have d8 : D 8 = true := hp 8 (of_decide_eq_true (by kernel_rfl))
                  have e8 := h8 d8
                  simp only [fillO, Act.put, List.setIfInBounds_toArray, List.set_cons_zero, List.set_cons_succ, Nat.reduceAdd] at hK ⊢
                  simp only [e8] at hK ⊢
                  refine Wrap.mk ?_
                  go_simp
                  refine hK _ _ ?_
                  exact ⟨fun h => absurd (hD0.symm.trans h) (by decide), fun _ => rfl, h0, h1, h2, h3, h4, h5, h6, h7, h8, fun _ => rfl⟩
              · intro x W hJ
                obtain ⟨hw0, hw1, h0, h1, h2, h3, h4, h5, h6, h7, h8, h10⟩ := hJ
                obtain rfl := hw1 (by decide)
                have e0 := h0 (by decide)
                have e1 := h1 (by decide)
                have e2 := h2 (by decide)
                have e3 := h3 (by decide)
                have e4 := h4 (by decide)
                have e5 := h5 (by decide)
                have e6 := h6 (by decide)
                have e7 := h7 (by decide)
                have e8 := h8 (by decide)
                have e10 := h10 (by decide)
                clear hw0 hw1 h0 h1 h2 h3 h4 h5 h6 h7 h8 h10
                simp only [fillO, Act.put, List.setIfInBounds_toArray, List.set_cons_zero, List.set_cons_succ, Nat.reduceAdd]
                simp only [e0, e1, e2, e3, e4, e5, e6, e7, e8, e10]
                clear e0 e1 e2 e3 e4 e5 e6 e7 e8 e10 x
                have qf := PB.put q0 fr tt st
                have r0 := qf.c0
                have r1 := qf.c1
                have r2 := qf.c2
                dsimp only at r0 r1 r2
                have HBF := Lib.hid (below_put3 hb (Nat.le_refl _) (.int .i64 fr) (.int .i64 tt) (.int .i64 st))
                clear qf
                go_wp2
                refine bodyPost_ret (v := .tuple #[.agg #[.int .i64 fr, .int .i64 tt, .int .i64 st], .bool false]) (by simp [results, Tryz.f73, go_sem, r0, r1, r2]) rfl ?_
                exact ⟨HQ.out, HBF.out⟩
  · have hP := Sp.part_more hxs.symm
    have x2 : 2 < ((a :: b :: c :: r).length : Int) := by simp; omega
    clear hrd hxl hxz hxs
    generalize (a :: b :: c :: r).length = n at *
    have d0 := q1.c0
    have d1 := q1.c1
    have d2 := q1.c2
    have f0 := q1.fz 0
    have f1 := q1.fz 1
    have f2 := q1.fz 2
    have e0' := q0.c0
    have e1' := q0.c1
    have e2' := q0.c2
    have g0 := q0.fz 0
    have g1 := q0.fz 1
    have g2 := q0.fz 2
    dsimp only at d0 d1 d2 e0' e1' e2'
    have HQ : Hid (PartPost s.data.toList (.returned (.tuple #[.agg #[.int .i64 (-1), .int .i64 (-1), .int .i64 0], .bool false]))) := Lib.hid (.inr ⟨hP, ⟨-1, -1, 0⟩, rfl⟩)
    have qf := PB.put q0 (-1) (-1) 0
    have r0 := qf.c0
    have r1 := qf.c1
    have r2 := qf.c2
    dsimp only at r0 r1 r2
    have HBF := Lib.hid (below_put3 hb (Nat.le_refl _) (.int .i64 (-1)) (.int .i64 (-1)) (.int .i64 0))
    clear qf
    go_wp2
    refine bodyPost_ret (v := .tuple #[.agg #[.int .i64 (-1), .int .i64 (-1), .int .i64 0], .bool false]) (by simp [results, Tryz.f73, go_sem, r0, r1, r2]) rfl ?_
    exact ⟨HQ.out, HBF.out⟩
end

section
open Go.RowKit Go.Shelf

theorem Rd.strAt {w : World} {B n : Nat} {A : Option Addr} {xs : List ByteArray} (h : Rd w B 1 A n (strsC xs)) (k : Nat) (hk : k < xs.length) : ∃ ad, A = some ad ∧ ∀ W, Below B w W → W.cell? (ad.add k) = some (.string xs[k]) := by
  have hl : xs.length = n := by have := h.1; rw [strsC_len] at this; omega
  obtain ⟨ad, rfl, _, _⟩ := h.here (by omega)
  refine ⟨ad, rfl, fun W hW => ?_⟩
  obtain ⟨ad', e, _, hc⟩ := (h.below hW).here (by omega)
  injection e with e
  subst e
  exact hc k _ (by simp [strsC, hk])
theorem own_below {w w' : World} {base : Nat} {e : TypeId} {size n : Nat} {v : Value} {xs : List Value} (h : w.ownsRow base e size v n xs) (hb : Below w.heap.size w w') : w'.ownsRow base e size v n xs := by
  rcases h with ⟨hl, h1 | ⟨g, cap, cur, rfl, hbs, hg, hc, h2, h3, h4⟩⟩
  · exact ⟨hl, .inl h1⟩
  · exact ⟨hl, .inr ⟨g, cap, cur, rfl, hbs, by rw [hb.block g (Array.getElem?_eq_some_iff.1 hg).1]; exact hg, hc, h2, h3, h4⟩⟩
theorem partsC_one (l : List Sp.PartD) : ∀ u ∈ partsC l, u.oneCell' = true := by
  intro u hu
  unfold partsC at hu
  obtain ⟨p, _, hp⟩ := List.mem_flatMap.1 hu
  exact part_oneCell p u hp
namespace Sp
def restP (xs : List ByteArray) (k : Nat) : Option (List PartD) := allSome ((xs.drop k).map fun x => partP (tl x))
theorem rest_step (xs : List ByteArray) (k : Nat) (h : k < xs.length) : restP xs k = match partP (tl xs[k]) with
    | none => none
    | some q => (restP xs (k + 1)).map (q :: ·) := by
  unfold restP
  rw [List.drop_eq_getElem_cons h, List.map_cons]
  cases hq : partP (tl xs[k]) with
  | none => rfl
  | some q =>
    simp only [allSome]
    cases allSome ((xs.drop (k + 1)).map fun x => partP (tl x)) <;> rfl
theorem rest_end (xs : List ByteArray) : restP xs xs.length = some [] := by
  unfold restP
  rw [List.drop_length]
  rfl
theorem rest_start (xs : List ByteArray) (l : List UInt8) (h : xs.map tl = splitC 44 l) : partsP l = restP xs 0 := by
  unfold partsP restP
  rw [List.drop_zero, ← h, List.map_map]
  rfl
end Sp
def PartsR (l : List UInt8) (e : Ending) (w' : World) : Prop :=
  (∃ (A : Option Addr) (c : Nat) (ps : List Sp.PartD), Sp.partsP l = some ps ∧ e = .returned (.slice A ps.length c) ∧ Rd w' w'.heap.size 3 A ps.length (partsC ps) ∧ ps.length ≤ 1048577) ∨ (Sp.partsP l = none ∧ e = .returned (.slice none 0 0))
set_option maxRecDepth 100000 in
set_option maxHeartbeats 8000000 in
theorem rparts_any (s : ByteArray) (w : World) (hs : s.size ≤ 1048576) :
    Calls Tryz.prog 43 #[.string s] w fun e w' => PartsR s.data.toList e w' ∧ Below w.heap.size w w' := by
  obtain ⟨i0, hi, hz0, hz1, hz2⟩ := info_parts info_part
  have HI := Lib.hid hi
  have HZ0 := Lib.hid hz0
  have HZ1 := Lib.hid hz1
  have HZ2 := Lib.hid hz2
  clear hi hz0 hz1 hz2
  go_enter Tryz.func43, Tryz.ntmps43
  go_wp2_with fail
  refine (rsplit_any s 44 44 rfl _ hs).mono ?_
  rintro e w1 ⟨⟨A, cp, xs, hxs, rfl, hrd, hxl, hxz⟩, hb1⟩
  have HP0 := Lib.hid (Sp.rest_start xs _ hxs)
  have HRW := Lib.hid (fun k hk => Rd.strAt hrd k hk)
  have HXZ := Lib.hid hxz
  have HB1 := Lib.hid hb1
  have HST := Lib.hid (fun k hk => Sp.rest_step xs k hk)
  have HEN := Lib.hid (Sp.rest_end xs)
  clear hxs hrd hxz hb1
  obtain ⟨n, hn⟩ : ∃ n, xs.length = n := ⟨_, rfl⟩
  rw [hn] at HEN hxl ⊢
  have HN := Lib.hid hn
  clear hn
  go_wp2_with fail
  go_loopw [3, 11] (fun ov iv wr => ∃ (k : Nat) (ps : List Sp.PartD), k ≤ n ∧ iv = .int .i64 k ∧ Hid (ps.length = k) ∧ Hid (wr.ownsRow w1.heap.size 43 3 ov k (partsC ps)) ∧ Hid (Below w1.heap.size w1 wr) ∧ Hid (Sp.partsP s.data.toList = (Sp.restP xs k).map (ps ++ ·))) (fun _ iv _ => n - (intOf iv).toNat)
  case atStart => exact ⟨0, [], Nat.zero_le _, rfl, Lib.hid rfl, Lib.hid ⟨rfl, .inl ⟨rfl, rfl⟩⟩, Lib.hid (Below.refl _ _), Lib.hid (by
    rw [HP0.out]
    show _ = (Sp.restP xs 0).map (fun l => [] ++ l)
    cases Sp.restP xs 0 <;> rfl)⟩
  case round =>
    obtain ⟨k, ps, hk, rfl, HPL, HOW, HB, HPP⟩ := hrel
    have v1 : IntKind.i64.wrap ((k : Int) + 1) = ((k + 1 : Nat) : Int) := by rw [IntKind.wrap_i64]; omega
    have hsz := HB.out.size
    by_cases hlt : k < n
    · have hx1 : (k : Int) < (n : Int) := by omega
      have hx0 : (0 : Int) ≤ (k : Int) := by omega
      have hkl : k < xs.length := by rw [HN.out]; exact hlt
      obtain ⟨ad, rfl, hc⟩ := HRW.out k hkl
      have c0 := hc wr HB.out
      have hxk : xs[k].size ≤ 1048576 := Nat.le_trans (HXZ.out _ (List.getElem_mem hkl)) hs
      have HS1 := Lib.hid (HST.out k hkl)
      clear hc
      generalize xs[k] = x at *
      have HPA := Lib.hid (rpart_any x wr hxk)
      go_wp2_with fail
      refine HPA.out.mono ?_
      rintro e w2 ⟨hpp, hb2⟩
      have HB2 := Lib.hid (HB.out.trans (hb2.mono HB.out.size))
      have HOW2 := Lib.hid (own_below HOW.out hb2)
      clear hb2 HPA c0
      rcases hpp with ⟨q, hq, rfl⟩ | ⟨hq, ⟨q, rfl⟩⟩
      · obtain ⟨r0, r1, r2⟩ := q
        simp only [pv]
        have HQ : Hid (Sp.partsP s.data.toList = (Sp.restP xs (k + 1)).map ((ps ++ [⟨r0, r1, r2⟩]) ++ ·)) := Lib.hid (by
          rw [HPP.out, HS1.out]
          rw [show Sp.partP (tl x) = some ⟨r0, r1, r2⟩ from hq]
          show ((Sp.restP xs (k + 1)).map (_ :: ·)).map (ps ++ ·) = _
          cases Sp.restP xs (k + 1) with
          | none => rfl
          | some l => simp)
        clear hq
        have hnew := rd_part (PB.new (w2.alloc (.cells #[.int .i64 r0, .int .i64 r1, .int .i64 r2] 43)) r0 r1 r2)
        have esz : (w2.alloc (.cells #[.int .i64 r0, .int .i64 r1, .int .i64 r2] 43)).heap.size = w2.heap.size + 1 := by simp
        rw [esz] at hnew
        have HNEW := Lib.hid hnew
        have hsz2 := HB2.out.size
        clear esz hnew
        go_wp2_with (at_builtin; refine wpList_append_rd _ rfl _ _ 24 rfl w1.heap.size 43 i0 (.agg #[.int .i64 0, .int .i64 0, .int .i64 0]) 3 24 Tryz.underlying24 HI.out HZ0.out HZ1.out HZ2.out rfl (by decide) _ k _ rfl ((HOW2.out.alloc _).alloc _) (some ⟨w2.heap.size + 1, 0, none⟩) 1 1 _ (partsC [⟨r0, r1, r2⟩]) rfl HNEW.out (partsC_one _) (by simp only [maxLen]; omega) (by omega) (by simp; omega) ?_)
        intro v' w4 hown hgr
        have HOW4 : Hid (w4.ownsRow w1.heap.size 43 3 v' (k + 1) (partsC (ps ++ [⟨r0, r1, r2⟩]))) := Lib.hid (by rw [partsC_snoc]; exact hown)
        have HB4 : Hid (Below w1.heap.size w1 w4) := Lib.hid (((HB2.out.alloc HB2.out.size _).alloc (by simp; omega) _).grown hgr (by simp; omega) (own_base HOW2.out))
        clear hown hgr
        go_wp2
        go_roundw
        case rel => exact ⟨k + 1, ps ++ [⟨r0, r1, r2⟩], by omega, by first | rfl | go_num, Lib.hid (by rw [List.length_append, HPL.out]; rfl), HOW4, HB4, HQ⟩
        case measure => simp [intOf]; omega
      · obtain ⟨r0, r1, r2⟩ := q
        simp only [pv]
        have HQ : Hid (Sp.partsP s.data.toList = none) := Lib.hid (by
          rw [HPP.out, HS1.out]
          rw [show Sp.partP (tl x) = none from hq]
          rfl)
        have HZ : Hid (Below w.heap.size w (w2.alloc (.cells #[.int .i64 r0, .int .i64 r1, .int .i64 r2] 43))) := Lib.hid (HB1.out.trans ((HB2.out.alloc HB2.out.size _).mono HB1.out.size))
        clear hq
        go_wp2
        go_ret
        exact ⟨.inr ⟨HQ.out, rfl⟩, HZ.out⟩
    · obtain rfl : k = n := by omega
      have HZ := Lib.hid (HB1.out.trans (HB.out.mono HB1.out.size))
      have HQ : Hid (Sp.partsP s.data.toList = some ps) := Lib.hid (by
        rw [HPP.out, HEN.out]
        show some (ps ++ []) = _
        rw [List.append_nil])
      obtain ⟨oA, oc, hov⟩ := own_slice HOW.out
      subst hov
      have hrd := (Rd.own HOW.out).1
      have HRD := Lib.hid hrd
      clear hrd
      go_wp2
      go_ret
      exact ⟨.inl ⟨oA, oc, ps, HQ.out, by rw [HPL.out]; rfl, by rw [HPL.out]; exact HRD.out, by rw [HPL.out]; omega⟩, HZ.out⟩
end

section
open Go.RowKit Go.Shelf

namespace Sp
/-- a word that says the weekdays from one to another -/
def Hit (w : List UInt8) (f t : Nat) : Prop := 1 ≤ f ∧ f ≤ t ∧ t ≤ 7 ∧ (w = dayName (f : Int) ++ ([46, 46] ++ dayName (t : Int)) ∨ (f = t ∧ w = dayName (f : Int)))
theorem hit_days {w : List UInt8} {f t : Nat} (h : Hit w f t) : wordDays w = some (f - 1, t - 1) := by
  obtain ⟨h1, h2, h3, h4⟩ := h
  have k1 : ∀ f : Fin 8, ∀ t : Fin 8, 1 ≤ f.val → f.val ≤ t.val → wordDays (dayName (f.val : Int) ++ ([46, 46] ++ dayName (t.val : Int))) = some (f.val - 1, t.val - 1) := by decide +kernel
  have k2 : ∀ f : Fin 8, 1 ≤ f.val → wordDays (dayName (f.val : Int)) = some (f.val - 1, f.val - 1) := by decide +kernel
  rcases h4 with rfl | ⟨rfl, rfl⟩
  · exact k1 ⟨f, by omega⟩ ⟨t, by omega⟩ h1 h2
  · exact k2 ⟨f, by omega⟩ h1
theorem days_hit {w : List UInt8} {a b : Nat} (h : wordDays w = some (a, b)) : Hit w (a + 1) (b + 1) := by
  unfold wordDays at h
  cases h1 : dayIdx (cutD w).1 with
  | none => rw [h1] at h; cases h
  | some a' =>
    cases h2 : dayIdx (if (cutD w).2.2 = true then (cutD w).2.1 else (cutD w).1) with
    | none => rw [h1, h2] at h; cases h
    | some b' =>
      rw [h1, h2] at h
      dsimp only at h
      by_cases hba : b' < a'
      · rw [if_pos hba] at h; cases h
      · rw [if_neg hba] at h
        injection h with h
        injection h with e1 e2
        subst e1 e2
        obtain ⟨l1, n1⟩ := dayIdx_some _ _ h1
        obtain ⟨l2, n2⟩ := dayIdx_some _ _ h2
        refine ⟨by omega, by omega, by omega, ?_⟩
        by_cases hr : (cutD w).2.2 = true
        · rw [if_pos hr] at n2
          left
          have := cutD_bytes w hr
          rw [n1, n2] at this
          rw [this]
          rfl
        · rw [if_neg hr] at n2
          right
          have hw := cutD_whole w (by simpa using hr)
          have e : a' = b' := by
            rw [if_neg hr, h1] at h2
            injection h2
          subst e
          exact ⟨rfl, by rw [← hw]; exact n1⟩
def Scan (w : List UInt8) (d f t : Nat) : Prop := (f = 0 ∧ t = 0 ∧ ∀ x y, x < d → ¬ Hit w x y) ∨ Hit w f t
def Scan2 (w : List UInt8) (d e f t : Nat) : Prop := (f = 0 ∧ t = 0 ∧ w ≠ dayName (d : Int) ∧ (∀ x y, x < d → ¬ Hit w x y) ∧ ∀ y, y < e → ¬ Hit w d y) ∨ Hit w f t
theorem scan_start (w : List UInt8) : Scan w 1 0 0 := .inl ⟨rfl, rfl, fun x y hx h => by have := h.1; omega⟩
theorem scan_eq {w : List UInt8} {d : Nat} (h1 : 1 ≤ d) (h7 : d ≤ 7) (h : w = dayName (d : Int)) : Scan2 w d d d d := .inr ⟨h1, Nat.le_refl _, h7, .inr ⟨rfl, h⟩⟩
theorem scan2_start {w : List UInt8} {d f t : Nat} (h : Scan w d f t) (hn : w ≠ dayName (d : Int)) : Scan2 w d d f t := by
  rcases h with ⟨h1, h2, h3⟩ | h
  · exact .inl ⟨h1, h2, hn, h3, fun y hy hh => by have := hh.2.1; omega⟩
  · exact .inr h
theorem scan2_hit {w : List UInt8} {d e : Nat} (h1 : 1 ≤ d) (hde : d ≤ e) (h7 : e ≤ 7) (h : w = dayName (d : Int) ++ ([46, 46] ++ dayName (e : Int))) : Scan2 w d (e + 1) d e := .inr ⟨h1, hde, h7, .inl h⟩
theorem scan2_miss {w : List UInt8} {d e f t : Nat} (h : Scan2 w d e f t) (hn : w ≠ dayName (d : Int) ++ ([46, 46] ++ dayName (e : Int))) : Scan2 w d (e + 1) f t := by
  rcases h with ⟨h1, h2, h3, h4, h5⟩ | h
  · refine .inl ⟨h1, h2, h3, h4, fun y hy hh => ?_⟩
    by_cases e1 : y = e
    · subst e1
      rcases hh.2.2.2 with h | ⟨_, h⟩
      · exact hn h
      · exact h3 h
    · exact h5 y (by omega) hh
  · exact .inr h
theorem scan2_end {w : List UInt8} {d f t : Nat} (h : Scan2 w d 8 f t) : Scan w (d + 1) f t := by
  rcases h with ⟨h1, h2, h3, h4, h5⟩ | h
  · refine .inl ⟨h1, h2, fun x y hx hh => ?_⟩
    by_cases e1 : x = d
    · subst e1
      exact h5 y (by have := hh.2.2.1; omega) hh
    · exact h4 x y (by omega) hh
  · exact .inr h
theorem scan_end {w : List UInt8} {f t : Nat} (h : Scan w 8 f t) : (f = 0 ∧ wordDays w = none) ∨ ∃ a b, f = a + 1 ∧ t = b + 1 ∧ a ≤ b ∧ b < 7 ∧ wordDays w = some (a, b) := by
  rcases h with ⟨h1, h2, h3⟩ | h
  · refine .inl ⟨h1, ?_⟩
    cases hw : wordDays w with
    | none => rfl
    | some p =>
      obtain ⟨a, b⟩ := p
      have hh := days_hit hw
      exact absurd hh (h3 _ _ (by have := hh.2.1; have := hh.2.2.1; omega))
  · right
    have hd := hit_days h
    obtain ⟨g1, g2, g3, _⟩ := h
    exact ⟨f - 1, t - 1, by omega, by omega, by omega, by omega, hd⟩
end Sp
theorem AB.ne_str {w : World} {b : Nat} {f : Nat → Bool} (h : AB w b f) {ad : Addr} {x : ByteArray} (hc : w.cell? ad = some (.string x)) : ad.block ≠ b := by
  intro e
  obtain ⟨ab, off, vw⟩ := ad
  dsimp only at e
  subst e
  have hx : ∀ v ∈ ([.bool (f 0), .bool (f 1), .bool (f 2), .bool (f 3), .bool (f 4), .bool (f 5), .bool (f 6), .bool (f 7)] : List Value), Value.string x ≠ v := by
    intro v hv
    simp only [List.mem_cons, List.not_mem_nil, or_false] at hv
    rcases hv with rfl | rfl | rfl | rfl | rfl | rfl | rfl | rfl <;> (intro h; cases h)
  cases vw with
  | some q => simp [World.cell?, show w.heap[ab]? = _ from h] at hc
  | none =>
    have h2 : w.cell? ⟨ab, off, none⟩ = ([.bool (f 0), .bool (f 1), .bool (f 2), .bool (f 3), .bool (f 4), .bool (f 5), .bool (f 6), .bool (f 7)] : List Value)[off]? := by
      simp [World.cell?, show w.heap[ab]? = _ from h]
    rw [h2] at hc
    exact hx _ (List.mem_of_getElem? hc) rfl
theorem bts_ne {x : ByteArray} {l : List UInt8} (h : (x.toList == (Sp.bts l).toList) = false) : x.data.toList ≠ l := by
  rw [Lib.toList_data, Lib.toList_data, bts_list] at h
  intro e
  rw [e] at h
  simp at h
theorem bts_eq {x : ByteArray} {l : List UInt8} (h : (x.toList == (Sp.bts l).toList) = true) : x.data.toList = l := by
  rw [Lib.toList_data, Lib.toList_data, bts_list] at h
  simpa using h
set_option maxRecDepth 100000 in
theorem dayname_any (d : Nat) (h1 : 1 ≤ d) (h7 : d ≤ 7) (w : World) : Calls Tryz.prog 53 #[.int .i64 d] w fun e w' => e = .returned (.string (Sp.bts (Sp.dayName (d : Int)))) ∧ w = w' := by
  have e : d = 1 ∨ d = 2 ∨ d = 3 ∨ d = 4 ∨ d = 5 ∨ d = 6 ∨ d = 7 := by omega
  rcases e with rfl | rfl | rfl | rfl | rfl | rfl | rfl
  all_goals
    go_enter Tryz.func53, Tryz.ntmps53
    go_wp2
    go_ret
    exact ⟨rfl, rfl⟩
set_option maxRecDepth 100000 in
set_option maxHeartbeats 4000000 in
theorem rdays_any (s : ByteArray) (w : World) (hs : s.size ≤ 1048576) :
    Calls Tryz.prog 42 #[.string s] w fun e w' => DaysPost s.data.toList e w' ∧ Below w.heap.size w w' := by
  obtain ⟨i0, hi, hz0, hz1, hz2⟩ := info_parts info_int
  have HI := Lib.hid hi
  have HZ0 := Lib.hid hz0
  have HZ1 := Lib.hid hz1
  have HZ2 := Lib.hid hz2
  clear hi hz0 hz1 hz2
  have hb0 : Below w.heap.size w (w.alloc (.cells #[.bool false, .bool false, .bool false, .bool false, .bool false, .bool false, .bool false, .bool false] 87)) := (Below.refl _ _).alloc (Nat.le_refl _) _
  have hab := AB.new w
  go_enter Tryz.func42, Tryz.ntmps42
  go_wp2_with fail
  refine (rsplit_any s 44 44 rfl _ hs).mono ?_
  rintro e w1 ⟨⟨A, cp, xs, hxs, rfl, hrd, hxl, hxz⟩, hb1⟩
  have HAB0 := Lib.hid (hab.same (hb1.block _ hab.lt))
  have HB1 := Lib.hid (hb0.trans (hb1.mono hb0.size))
  have HXS := Lib.hid hxs
  have HPB := Lib.hid (Sp.daysP_of (l := s.data.toList) (xs := xs) hxs)
  have HRW := Lib.hid (fun k hk => Rd.strAt hrd k hk)
  have HXZ := Lib.hid hxz
  clear hxs hrd hxz hb1 hb0 hab
  obtain ⟨n, hn⟩ : ∃ n, xs.length = n := ⟨_, rfl⟩
  rw [hn] at hxl ⊢
  have HN := Lib.hid hn
  have hbl : w.heap.size < w1.heap.size := HAB0.out.lt
  clear hn
  go_wp2_with fail
  go_loopw [16] (fun iv wr => ∃ (k : Nat) (ws : List (Nat × Nat)), k ≤ n ∧ iv = .int .i64 k ∧ Hid (Sp.wordsB (xs.take k) = some ws) ∧ Hid (AB wr w.heap.size (Sp.inWs ws)) ∧ Hid (w1.grownBy wr (some w.heap.size))) (fun iv _ => n - (intOf iv).toNat)
  case atStart => exact ⟨0, [], Nat.zero_le _, rfl, Lib.hid rfl, HAB0, Lib.hid (grown_none _)⟩
  case round =>
    obtain ⟨k, ws, hk, rfl, HWS, HAB, HG⟩ := hrel
    have v1 : IntKind.i64.wrap ((k : Int) + 1) = ((k + 1 : Nat) : Int) := by rw [IntKind.wrap_i64]; omega
    by_cases hlt : k < n
    · have hx1 : (k : Int) < (n : Int) := by omega
      have hx0 : (0 : Int) ≤ (k : Int) := by omega
      have hkl : k < xs.length := by rw [HN.out]; exact hlt
      obtain ⟨ad, rfl, hc⟩ := HRW.out k hkl
      have c1 := hc w1 (Below.refl _ _)
      have c0 : wr.cell? (ad.add k) = some (.string xs[k]) := (World.cell?_of_block (w := w1) (HG.out.block _ (World.block_lt_of_cell? w1 _ c1) (fun e => by injection e with e; exact HAB0.out.ne_str c1 e))).trans c1
      have hxk : xs[k].size ≤ 1048576 := Nat.le_trans (HXZ.out _ (List.getElem_mem hkl)) hs
      have HTK : Hid (xs.take (k + 1) = xs.take k ++ [xs[k]]) := Lib.hid (List.take_succ_eq_append_getElem hkl)
      have HPX : Hid ((xs.take (k + 1)).map (fun x => x.data.toList) <+: Sp.splitC 44 s.data.toList) := Lib.hid (by
        rw [← HXS.out]
        exact (List.take_prefix _ _).map _)
      clear hc c1
      generalize xs[k] = x at *
      go_wp2_with fail
      go_loop [7, 8, 9] (fun fv tv dv => ∃ (d f t : Nat), 1 ≤ d ∧ d ≤ 8 ∧ dv = .int .i64 d ∧ fv = .int .i64 f ∧ tv = .int .i64 t ∧ Hid (Sp.Scan x.data.toList d f t)) (fun _ _ dv => 8 - (intOf dv).toNat)
      case atStart => exact ⟨1, 0, 0, by decide, by decide, rfl, rfl, rfl, Lib.hid (Sp.scan_start _)⟩
      case round =>
        obtain ⟨d, f, t, hd1, hd8, rfl, rfl, rfl, HSC⟩ := hrel
        by_cases hd : d ≤ 7
        · have hy1 : (d : Int) ≤ 7 := by omega
          have v2 : IntKind.i64.wrap ((d : Int) + 1) = ((d + 1 : Nat) : Int) := by rw [IntKind.wrap_i64]; omega
          have HDN := Lib.hid (dayname_any d hd1 hd)
          obtain ⟨ND, hND⟩ : ∃ ND, ND = Sp.bts (Sp.dayName (d : Int)) := ⟨_, rfl⟩
          rw [← hND] at HDN
          have HND := Lib.hid hND
          have hns : ND.size ≤ 3 := by
            rw [hND, bts_size]
            exact Sp.dayName_len _
          clear hND
          go_wp2_with fail
          refine (HDN.out _).mono ?_
          rintro z w' ⟨rfl, rfl⟩
          cases hq : (x.toList == ND.toList) with
          | true =>
            have HS2 : Hid (Sp.Scan2 x.data.toList d d d d) := Lib.hid (Sp.scan_eq hd1 hd (bts_eq (by rw [← HND.out]; exact hq)))
            go_wp2_with fail
            go_loop [7, 8, 10] (fun fv tv ev => ∃ (e f t : Nat), d ≤ e ∧ e ≤ 8 ∧ ev = .int .i64 e ∧ fv = .int .i64 f ∧ tv = .int .i64 t ∧ Hid (Sp.Scan2 x.data.toList d e f t)) (fun _ _ ev => 8 - (intOf ev).toNat)
            case atStart => exact ⟨d, _, _, Nat.le_refl _, hd8, rfl, rfl, rfl, HS2⟩
            case round =>
              obtain ⟨e, f, t, hde, he8, rfl, rfl, rfl, HSC2⟩ := hrel
              by_cases he : e ≤ 7
              · have hz1 : (e : Int) ≤ 7 := by omega
                have v3 : IntKind.i64.wrap ((e : Int) + 1) = ((e + 1 : Nat) : Int) := by rw [IntKind.wrap_i64]; omega
                have HDE := Lib.hid (dayname_any e (by omega) he)
                obtain ⟨NE, hNE⟩ : ∃ NE, NE = Sp.bts (Sp.dayName (e : Int)) := ⟨_, rfl⟩
                rw [← hNE] at HDE
                have HNE := Lib.hid hNE
                have hnes : NE.size ≤ 3 := by
                  rw [hNE, bts_size]
                  exact Sp.dayName_len _
                clear hNE
                have HCC : Hid (ND ++ ⟨#[46, 46]⟩ ++ NE = Sp.bts (Sp.dayName (d : Int) ++ ([46, 46] ++ Sp.dayName (e : Int)))) := Lib.hid (by
                  rw [HND.out, HNE.out]
                  have e2 : (⟨#[46, 46]⟩ : ByteArray) = Sp.bts [46, 46] := rfl
                  rw [e2, bts_app, bts_app, List.append_assoc])
                cases hq2 : (x.toList == (ND ++ ⟨#[46, 46]⟩ ++ NE).toList) with
                | true =>
                  have HS3 := Lib.hid (Sp.scan2_hit hd1 hde he (bts_eq (by rw [← HCC.out]; exact hq2)))
                  go_wp2_with fail
                  refine (HDN.out _).mono ?_
                  rintro z w' ⟨rfl, rfl⟩
                  go_wp2_with fail
                  refine (HDE.out _).mono ?_
                  rintro z w' ⟨rfl, rfl⟩
                  go_wp2
                  go_round
                  case rel => exact ⟨e + 1, d, e, by omega, by omega, by first | rfl | go_num, by first | rfl | go_num, by first | rfl | go_num, HS3⟩
                  case measure => simp [intOf]; omega
                | false =>
                  have HS3 := Lib.hid (Sp.scan2_miss HSC2.out (bts_ne (by rw [← HCC.out]; exact hq2)))
                  go_wp2_with fail
                  refine (HDN.out _).mono ?_
                  rintro z w' ⟨rfl, rfl⟩
                  go_wp2_with fail
                  refine (HDE.out _).mono ?_
                  rintro z w' ⟨rfl, rfl⟩
                  go_wp2
                  go_round
                  case rel => exact ⟨e + 1, f, t, by omega, by omega, by first | rfl | go_num, by first | rfl | go_num, by first | rfl | go_num, HS3⟩
                  case measure => simp [intOf]; omega
              · obtain rfl : e = 8 := by omega
                have HSN := Lib.hid (Sp.scan2_end HSC2.out)
                go_wp2
                go_round
                case rel => exact ⟨d + 1, f, t, by omega, by omega, by first | rfl | go_num, rfl, rfl, HSN⟩
                case measure => simp [intOf]; omega
          | false =>
            have HS2 : Hid (Sp.Scan2 x.data.toList d d f t) := Lib.hid (Sp.scan2_start HSC.out (bts_ne (by rw [← HND.out]; exact hq)))
            go_wp2_with fail
            go_loop [7, 8, 10] (fun fv tv ev => ∃ (e f t : Nat), d ≤ e ∧ e ≤ 8 ∧ ev = .int .i64 e ∧ fv = .int .i64 f ∧ tv = .int .i64 t ∧ Hid (Sp.Scan2 x.data.toList d e f t)) (fun _ _ ev => 8 - (intOf ev).toNat)
            case atStart => exact ⟨d, _, _, Nat.le_refl _, hd8, rfl, rfl, rfl, HS2⟩
            case round =>
              obtain ⟨e, f, t, hde, he8, rfl, rfl, rfl, HSC2⟩ := hrel
              by_cases he : e ≤ 7
              · have hz1 : (e : Int) ≤ 7 := by omega
                have v3 : IntKind.i64.wrap ((e : Int) + 1) = ((e + 1 : Nat) : Int) := by rw [IntKind.wrap_i64]; omega
                have HDE := Lib.hid (dayname_any e (by omega) he)
                obtain ⟨NE, hNE⟩ : ∃ NE, NE = Sp.bts (Sp.dayName (e : Int)) := ⟨_, rfl⟩
                rw [← hNE] at HDE
                have HNE := Lib.hid hNE
                have hnes : NE.size ≤ 3 := by
                  rw [hNE, bts_size]
                  exact Sp.dayName_len _
                clear hNE
                have HCC : Hid (ND ++ ⟨#[46, 46]⟩ ++ NE = Sp.bts (Sp.dayName (d : Int) ++ ([46, 46] ++ Sp.dayName (e : Int)))) := Lib.hid (by
                  rw [HND.out, HNE.out]
                  have e2 : (⟨#[46, 46]⟩ : ByteArray) = Sp.bts [46, 46] := rfl
                  rw [e2, bts_app, bts_app, List.append_assoc])
                cases hq2 : (x.toList == (ND ++ ⟨#[46, 46]⟩ ++ NE).toList) with
                | true =>
                  have HS3 := Lib.hid (Sp.scan2_hit hd1 hde he (bts_eq (by rw [← HCC.out]; exact hq2)))
                  go_wp2_with fail
                  refine (HDN.out _).mono ?_
                  rintro z w' ⟨rfl, rfl⟩
                  go_wp2_with fail
                  refine (HDE.out _).mono ?_
                  rintro z w' ⟨rfl, rfl⟩
                  go_wp2
                  go_round
                  case rel => exact ⟨e + 1, d, e, by omega, by omega, by first | rfl | go_num, by first | rfl | go_num, by first | rfl | go_num, HS3⟩
                  case measure => simp [intOf]; omega
                | false =>
                  have HS3 := Lib.hid (Sp.scan2_miss HSC2.out (bts_ne (by rw [← HCC.out]; exact hq2)))
                  go_wp2_with fail
                  refine (HDN.out _).mono ?_
                  rintro z w' ⟨rfl, rfl⟩
                  go_wp2_with fail
                  refine (HDE.out _).mono ?_
                  rintro z w' ⟨rfl, rfl⟩
                  go_wp2
                  go_round
                  case rel => exact ⟨e + 1, f, t, by omega, by omega, by first | rfl | go_num, by first | rfl | go_num, by first | rfl | go_num, HS3⟩
                  case measure => simp [intOf]; omega
              · obtain rfl : e = 8 := by omega
                have HSN := Lib.hid (Sp.scan2_end HSC2.out)
                go_wp2
                go_round
                case rel => exact ⟨d + 1, f, t, by omega, by omega, by first | rfl | go_num, rfl, rfl, HSN⟩
                case measure => simp [intOf]; omega
        · obtain rfl : d = 8 := by omega
          have HSE := Lib.hid (Sp.scan_end HSC.out)
          rcases HSE.out with ⟨rfl, hwd⟩ | ⟨a, b, rfl, rfl, hab1, hb7, hwd⟩
          · have HQ : Hid (Sp.daysP s.data.toList = none) := Lib.hid (Sp.daysP_bad (by rw [HTK.out] at HPX; exact HPX.out) hwd)
            have HZ : Hid (Below w.heap.size w wr) := Lib.hid (HB1.out.grown HG.out (by omega) (fun q e => by injection e with e; omega))
            clear hwd HSE
            go_wp2
            go_ret2
            exact ⟨.inr ⟨HQ.out, rfl⟩, HZ.out⟩
          · have HWD := Lib.hid hwd
            have y0 : ((((a + 1 : Nat) : Int)) == 0) = false := by simp; omega
            clear hwd HSE HSC
            go_wp2_with fail
            go_loopw [7] (fun iv wq => ∃ d : Nat, iv = .int .i64 ((d + 1 : Nat) : Int) ∧ (a ≤ d ∧ d ≤ b + 1) ∧ Hid (AB wq w.heap.size (fun i => Sp.inWs ws i || (decide (a + 1 ≤ i) && decide (i ≤ d)))) ∧ Hid (wr.grownBy wq (some w.heap.size))) (fun iv _ => (b + 2 - intOf iv).toNat)
            case atStart => exact ⟨a, rfl, ⟨Nat.le_refl _, by omega⟩, Lib.hid (HAB.out.eq (fun i _ => Sp.mk_none _ a i)), Lib.hid (grown_none _)⟩
            case round =>
              obtain ⟨d, rfl, hd, HA, HG2⟩ := hrel
              by_cases hlt4 : d ≤ b
              · have hlt2 : ((d + 1 : Nat) : Int) ≤ ((b + 1 : Nat) : Int) := by omega
                have v2 : IntKind.i64.wrap (((d + 1 : Nat) : Int) + 1) = ((d + 1 + 1 : Nat) : Int) := by rw [IntKind.wrap_i64]; omega
                have hd8 : d + 1 < 8 := by omega
                have hd8i : ((d + 1 : Nat) : Int) < 8 := by omega
                have hd0i : (0 : Int) ≤ ((d + 1 : Nat) : Int) := by omega
                have hce := HA.out.cell (d + 1) hd8
                have hfe := HA.out.fz (d + 1)
                go_wp2
                go_roundw
                case rel => exact ⟨d + 1, by first | rfl | go_num, ⟨by omega, by omega⟩, Lib.hid (HA.out.set (d + 1) hd8 (fun i _ => Sp.mk_step _ a d i hd.1)), Lib.hid (grown_t HG2.out (grownBy_setCellAt _ _ _ _))⟩
                case measure => simp [intOf]; omega
              · obtain rfl : d = b + 1 := by omega
                have hlt2 : ¬ (((b + 1 + 1 : Nat) : Int) ≤ ((b + 1 : Nat) : Int)) := by omega
                have HWN : Hid (Sp.wordsB (xs.take (k + 1)) = some (ws ++ [(a, b)])) := Lib.hid (by rw [HTK.out]; exact Sp.wordsB_snoc HWS.out HWD.out)
                have HAN := Lib.hid (HA.out.eq (g := Sp.inWs (ws ++ [(a, b)])) (fun i _ => Sp.inWs_snoc ws (a, b) i))
                have HGN := Lib.hid (grown_t HG.out HG2.out)
                go_wp2
                go_roundw
                case rel => exact ⟨k + 1, ws ++ [(a, b)], by omega, by first | rfl | go_num, HWN, HAN, HGN⟩
                case measure => simp [intOf]; omega
    · obtain rfl : k = n := by omega
      have HPD : Hid (Sp.daysP s.data.toList = some (Sp.daysTo ws 8)) := Lib.hid (by
        have h := HWS.out
        rw [List.take_of_length_le (by rw [HN.out]; omega)] at h
        rw [HPB.out, h, Sp.daysTo_all]; rfl)
      have HZ : Hid (Below w.heap.size w wr) := Lib.hid (HB1.out.grown HG.out (by omega) (fun q e => by injection e with e; omega))
      have hx1 : ¬ (k : Int) < (k : Int) := by omega
      go_wp2_with fail
      obtain ⟨wo, rfl⟩ : ∃ wo : World, wo = wr := ⟨_, rfl⟩
      go_loopw [11, 12] (fun ov dv wr => ∃ k : Nat, dv = .int .i64 k ∧ 1 ≤ k ∧ k ≤ 8 ∧ Hid (wr.ownsRow wo.heap.size 3 1 ov (Sp.daysTo ws k).length (intsC (Sp.daysTo ws k))) ∧ Hid (Below wo.heap.size wo wr)) (fun _ dv _ => 8 - (intOf dv).toNat)
      case atStart =>
        have e1 : Sp.daysTo ws 1 = [] := by
          rw [Sp.daysTo_succ, if_neg (by rw [Sp.inWs_zero]; decide)]
          rfl
        exact ⟨1, rfl, by decide, by decide, Lib.hid (by rw [e1]; exact ⟨rfl, .inl ⟨rfl, rfl⟩⟩), Lib.hid (Below.refl _ _)⟩
      case round =>
        obtain ⟨q, rfl, hq1, hq8, HOW, HB⟩ := hrel
        by_cases hq7 : q ≤ 7
        · have hy1 : (q : Int) ≤ 7 := by omega
          have v2 : IntKind.i64.wrap ((q : Int) + 1) = ((q + 1 : Nat) : Int) := by rw [IntKind.wrap_i64]; omega
          have hq8i : (q : Int) < 8 := by omega
          have hq0i : (0 : Int) ≤ (q : Int) := by omega
          have hlq : q < 8 := by omega
          have hce := (HAB.out.same (HB.out.block _ HAB.out.lt)).cell q hlq
          have HST := Lib.hid (Sp.daysTo_succ ws q)
          have hbs := HB.out.size
          have hlen : (Sp.daysTo ws q).length ≤ 8 := by
            unfold Sp.daysTo
            rw [List.length_map]
            exact Nat.le_trans (List.length_filter_le _ _) (by rw [List.length_range]; omega)
          cases hf : Sp.inWs ws q with
          | false =>
            rw [hf] at hce
            have HF : Hid (Sp.daysTo ws (q + 1) = Sp.daysTo ws q) := Lib.hid (by rw [HST.out, hf]; rfl)
            clear hf
            go_wp2
            go_roundw
            case rel => exact ⟨q + 1, by first | rfl | go_num, by omega, by omega, Lib.hid (by rw [HF.out]; exact HOW.out), HB⟩
            case measure => simp [intOf]; omega
          | true =>
            rw [hf] at hce
            have HF : Hid (Sp.daysTo ws (q + 1) = Sp.daysTo ws q ++ [(q : Int)]) := Lib.hid (by rw [HST.out, hf]; rfl)
            clear hf
            generalize hds : Sp.daysTo ws q = ds at *
            clear hds
            go_wp2_with (at_builtin; refine wpList_append_rd _ rfl _ _ 23 rfl wo.heap.size 3 i0 (.int .i64 0) 1 8 Tryz.underlying23 HI.out HZ0.out HZ1.out HZ2.out rfl (by decide) _ ds.length (intsC ds) rfl (HOW.out.alloc _) (some ⟨wr.heap.size, 0, none⟩) 1 1 _ [.int .i64 q] rfl (rd_one wr _ _) (by simp [Value.oneCell']) (by simp only [maxLen]; omega) (by omega) (by simp; omega) ?_)
            intro v' w4 hown hgr
            have HOW4 : Hid (w4.ownsRow wo.heap.size 3 1 v' (Sp.daysTo ws (q + 1)).length (intsC (Sp.daysTo ws (q + 1)))) := Lib.hid (by
              rw [HF.out, List.length_append, List.length_singleton]
              have e : intsC (ds ++ [(q : Int)]) = intsC ds ++ [.int .i64 q] := by unfold intsC; rw [List.map_append]; rfl
              rw [e]
              exact hown)
            have HB4 : Hid (Below wo.heap.size wo w4) := Lib.hid ((HB.out.alloc HB.out.size _).grown hgr (by simp; omega) (own_base HOW.out))
            clear hown hgr
            go_wp2
            go_roundw
            case rel => exact ⟨q + 1, by first | rfl | go_num, by omega, by omega, HOW4, HB4⟩
            case measure => simp [intOf]; omega
        · obtain rfl : q = 8 := by omega
          have HZ2' := Lib.hid (HZ.out.trans (HB.out.mono HZ.out.size))
          have hlen : (Sp.daysTo ws 8).length ≤ 8 := by
            unfold Sp.daysTo
            rw [List.length_map]
            exact Nat.le_trans (List.length_filter_le _ _) (by rw [List.length_range]; omega)
          obtain ⟨oA, oc, hov⟩ := own_slice HOW.out
          subst hov
          have hrd := (Rd.own HOW.out).1
          have HRD := Lib.hid hrd
          clear hrd
          generalize hds : Sp.daysTo ws 8 = ds at *
          clear hds
          go_wp2
          go_ret2
          exact ⟨.inl ⟨ds, oA, ds.length, oc, HPD.out, rfl, HRD.out, by omega⟩, HZ2'.out⟩
end

section
open Go.RowKit Go.Shelf

/-- six texts in memory -/
def FB (w : World) (b : Nat) (f : Nat → ByteArray) : Prop := w.heap[b]? = some (.cells #[.string (f 0), .string (f 1), .string (f 2), .string (f 3), .string (f 4), .string (f 5)] 9 (0, 0))
theorem FB.lt {w : World} {b : Nat} {f : Nat → ByteArray} (h : FB w b f) : b < w.heap.size := (Array.getElem?_eq_some_iff.1 h).1
theorem FB.same {w w' : World} {b : Nat} {f : Nat → ByteArray} (h : FB w b f) (e : w'.heap[b]? = w.heap[b]?) : FB w' b f := e.trans h
theorem FB.cell {w : World} {b : Nat} {f : Nat → ByteArray} (h : FB w b f) (j : Nat) (hj : j < 6) : w.cell? ⟨b, j, none⟩ = some (.string (f j)) := by
  have e : j = 0 ∨ j = 1 ∨ j = 2 ∨ j = 3 ∨ j = 4 ∨ j = 5 := by omega
  rcases e with rfl | rfl | rfl | rfl | rfl | rfl <;> simp [World.cell?, show w.heap[b]? = _ from h]
theorem FB.row {w : World} {b : Nat} {f g : Nat → ByteArray} (h : FB w b f) (cs : List Value) (e : cs = [.string (g 0), .string (g 1), .string (g 2), .string (g 3), .string (g 4), .string (g 5)]) : FB (w.setRow b cs.toArray) b g := by
  subst e
  exact setRow_heap w b _ _ _ _ h
theorem grown_row (w : World) (b : Nat) (cs : Array Value) : w.grownBy (w.setRow b cs) (some b) := ⟨rfl, rfl, rfl, by simp [World.setRow], fun k _ hk => setRow_other w b k cs (fun e => hk (by rw [e]))⟩
/-- what is read is not one of the cells of a block that is written -/
theorem rd_apart {W W' : World} {n size : Nat} {A : Option Addr} {xs : List Value} {b : Nat} {cs : List Value} {t : TypeId} (hc : W.heap[b]? = some (.cells cs.toArray t (0, 0))) (h : Rd W W.heap.size size A n xs) (hs : 0 < size) (hx : ∀ x ∈ xs, ∀ c ∈ cs, x ≠ c) (hg : W.grownBy W' (some b)) : Rd W' W'.heap.size size A n xs := by
  refine ⟨h.1, fun hn => ?_⟩
  obtain ⟨ad, e, hb, hcc⟩ := h.2 hn
  have hl := h.1
  have hpos : 0 < xs.length := by rw [hl]; exact Nat.mul_pos hn hs
  have h0 := hcc 0 xs[0] (List.getElem?_eq_getElem hpos)
  rw [show ad.add 0 = ad by simp [Addr.add]] at h0
  have hne : ad.block ≠ b := by
    intro e2
    obtain ⟨ab, off, vw⟩ := ad
    dsimp only at e2
    subst e2
    cases vw with
    | some q => simp [World.cell?, hc] at h0
    | none =>
      have h2 : W.cell? ⟨ab, off, none⟩ = cs[off]? := by simp [World.cell?, hc]
      rw [h2] at h0
      exact hx _ (List.getElem_mem hpos) _ (List.mem_of_getElem? h0) rfl
  have hblk := hg.block ad.block hb (fun e => by cases e; exact hne rfl)
  refine ⟨ad, e, Nat.lt_of_lt_of_le hb hg.size, fun k u hu => ?_⟩
  rw [← hcc k u hu]
  exact World.cell?_of_block (by rw [Mem.add_block]; exact hblk)
structure PW (w w3 : World) (b0 b1 bf : Nat) (D : SlA) (days : List Int) (fl : Nat → ByteArray) (wr : World) : Prop where
  hb : Below w.heap.size w wr
  h0 : CV wr b0 nilS (fun _ => nilS)
  h1 : CV wr b1 D (fun _ => nilS)
  hf : FB wr bf fl
  hd : Rd wr wr.heap.size 1 D.A D.n (intsC days)
  hn : D.n ≤ 9223372036854775807
  hk : ∀ k, k < w3.heap.size → k ≠ b1 → k ≠ bf → wr.heap[k]? = w3.heap[k]?
  hs : w3.heap.size ≤ wr.heap.size
  hl : ∀ i, i < 6 → (fl i).size ≤ 1048576
theorem PW.on {w w3 wr w' : World} {b0 b1 bf : Nat} {D : SlA} {days : List Int} {fl : Nat → ByteArray} (h : PW w w3 b0 b1 bf D days fl wr) (hb : Below wr.heap.size wr w') : PW w w3 b0 b1 bf D days fl w' :=
  ⟨h.hb.trans (hb.mono h.hb.size), h.h0.same (hb.block _ h.h0.lt), h.h1.same (hb.block _ h.h1.lt), h.hf.same (hb.block _ h.hf.lt), (h.hd.below hb).more hb.size, h.hn, fun k hk e1 e2 => (hb.block k (Nat.lt_of_lt_of_le hk h.hs)).trans (h.hk k hk e1 e2), Nat.le_trans h.hs hb.size, h.hl⟩
theorem PW.setd {w w3 wr : World} {b0 b1 bf : Nat} {D D' : SlA} {days days' : List Int} {fl : Nat → ByteArray} (h : PW w w3 b0 b1 bf D days fl wr) (hw : w.heap.size ≤ b1) (h01 : b0 ≠ b1) (hf1 : bf ≠ b1) (hr : Rd wr wr.heap.size 1 D'.A D'.n (intsC days')) (hn : D'.n ≤ 9223372036854775807) : PW w w3 b0 b1 bf D' days' fl (wr.setCell ⟨b1, 0, none⟩ (slV D')) :=
  ⟨h.hb.setCell (p := ⟨b1, 0, none⟩) hw _, h.h0.same (Below.heap_setCell _ _ _ _ h01), h.h1.setd D', h.hf.same (Below.heap_setCell _ _ _ _ hf1), rd_setv h.h1 hr (intsC_not _) 0 _, hn, fun k hk e1 e2 => (Below.heap_setCell wr ⟨b1, 0, none⟩ _ k e1).trans (h.hk k hk e1 e2), by simpa using h.hs, h.hl⟩
theorem PW.setf {w w3 wr : World} {b0 b1 bf : Nat} {D : SlA} {days : List Int} {fl g : Nat → ByteArray} (h : PW w w3 b0 b1 bf D days fl wr) (hw : w.heap.size ≤ bf) (h01 : b0 ≠ bf) (hf1 : b1 ≠ bf) (cs : List Value) (e : cs = [.string (g 0), .string (g 1), .string (g 2), .string (g 3), .string (g 4), .string (g 5)]) (hl : ∀ i, i < 6 → (g i).size ≤ 1048576) : PW w w3 b0 b1 bf D days g (wr.setRow bf cs.toArray) := by
  have hg := grown_row wr bf cs.toArray
  refine ⟨below_setRow h.hb hw _, h.h0.same (hg.block _ h.h0.lt (fun e => h01 (by cases e; rfl))), h.h1.same (hg.block _ h.h1.lt (fun e => hf1 (by cases e; rfl))), h.hf.row cs e, ?_, h.hn, fun k hk e1 e2 => (hg.block k (Nat.lt_of_lt_of_le hk h.hs) (fun e => e2 (by cases e; rfl))).trans (h.hk k hk e1 e2), Nat.le_trans h.hs hg.size, hl⟩
  refine rd_apart (cs := [.string (fl 0), .string (fl 1), .string (fl 2), .string (fl 3), .string (fl 4), .string (fl 5)]) h.hf h.hd (by decide) (fun x hx c hc e => ?_) hg
  subst e
  unfold intsC at hx
  obtain ⟨i, _, hi⟩ := List.mem_map.1 hx
  subst hi
  simp at hc
/-- a list of parts as a result, none too -/
def PartV (l : List UInt8) (v : Value) (W : World) : Prop := ∃ (a : SlA) (q : List Sp.PartD), v = slV a ∧ Rd W W.heap.size 3 a.A a.n (partsC q) ∧ a.n ≤ 9223372036854775807 ∧ (Sp.partsP l = some q ∨ (Sp.partsP l = none ∧ q = []))
theorem PartV.on {l : List UInt8} {v : Value} {W W' : World} (h : PartV l v W) (hb : Below W.heap.size W W') : PartV l v W' := by
  obtain ⟨a, q, h1, h2, h3, h4⟩ := h
  exact ⟨a, q, h1, (h2.below hb).more hb.size, h3, h4⟩
theorem rparts_v (s : ByteArray) (w : World) (hs : s.size ≤ 1048576) :
    Calls Tryz.prog 43 #[.string s] w fun e w' => (∃ v, e = .returned v ∧ PartV s.data.toList v w') ∧ Below w.heap.size w w' :=
  (rparts_any s w hs).mono fun e w' ⟨h, hb⟩ => by
    refine ⟨?_, hb⟩
    rcases h with ⟨A, c, ps, h1, h2, h3, h4⟩ | ⟨h1, h2⟩
    · exact ⟨_, h2, ⟨A, ps.length, c⟩, ps, rfl, h3, by dsimp only; omega, .inl h1⟩
    · exact ⟨_, h2, nilS, [], rfl, Rd.empty, Nat.zero_le _, .inr ⟨h1, rfl⟩⟩
theorem rparse_res {tmps : Array Value} {W : World} {b : Nat} {d : SlA} {f : Nat → SlA} {ok : Bool} (hc : CV W b d f) (h2 : tmps.getD 2 undef = .pointer (some ⟨b, 0, none⟩)) (h3 : tmps.getD 3 undef = .bool ok) :
    (results Tryz.f15 tmps).run Tryz.prog W = .ok (.tuple #[.agg #[slV d, slV (f 0), slV (f 1), slV (f 2), slV (f 3), slV (f 4), slV (f 5)], .bool ok]) W := by
  rw [results_cell_tmp (p := 2) (u := 3) (ty := 26) rfl, h2, h3]
  have c0 := hc.cd
  have c1 := hc.cell 0 (by decide)
  have c2 := hc.cell 1 (by decide)
  have c3 := hc.cell 2 (by decide)
  have c4 := hc.cell 3 (by decide)
  have c5 := hc.cell 4 (by decide)
  have c6 := hc.cell 5 (by decide)
  simp [go_sem, c0, c1, c2, c3, c4, c5, c6]
namespace Sp
theorem go_step (st : Nat) (days : List Int) (d t : List (List UInt8)) (w : List UInt8) (r : List (List UInt8)) : refGo st days d t (w :: r) = if (daysP w).isSome = true ∧ st < 1 then refGo 1 ((daysP w).getD []) d t r
    else if (splitC 45 w).length = 3 ∧ st < 2 then refGo 2 days (splitC 45 w) t r
    else if ((splitC 58 w).length = 2 ∨ (splitC 58 w).length = 3) ∧ st < 3 then refGo 3 days d (copyT (splitC 58 w)) r
    else none := by
  rw [refGo]
/-- what is read of the words from one on -/
def refFin (st : Nat) (days : List Int) (d t L : List (List UInt8)) : Option CalD := match refGo st days d t L with
  | none => none
  | some (days, d, t) => fillP days d t
theorem refFin_nil (st : Nat) (days : List Int) (d t : List (List UInt8)) : refFin st days d t [] = fillP days d t := by
  unfold refFin
  rw [refGo]
theorem refFin_step (st : Nat) (days : List Int) (d t : List (List UInt8)) (w : List UInt8) (r : List (List UInt8)) : refFin st days d t (w :: r) = if (daysP w).isSome = true ∧ st < 1 then refFin 1 ((daysP w).getD []) d t r
    else if (splitC 45 w).length = 3 ∧ st < 2 then refFin 2 days (splitC 45 w) t r
    else if ((splitC 58 w).length = 2 ∨ (splitC 58 w).length = 3) ∧ st < 3 then refFin 3 days d (copyT (splitC 58 w)) r
    else none := by
  unfold refFin
  rw [go_step]
  by_cases h1 : (daysP w).isSome = true ∧ st < 1
  · rw [if_pos h1, if_pos h1]
  · rw [if_neg h1, if_neg h1]
    by_cases h2 : (splitC 45 w).length = 3 ∧ st < 2
    · rw [if_pos h2, if_pos h2]
    · rw [if_neg h2, if_neg h2]
      by_cases h3 : ((splitC 58 w).length = 2 ∨ (splitC 58 w).length = 3) ∧ st < 3
      · rw [if_pos h3, if_pos h3]
      · rw [if_neg h3, if_neg h3]
theorem refL_fin (s : List UInt8) : refL s = if 3 < (splitC 32 (namedL s)).length then none else refFin 0 [] star3 nought3 (splitC 32 (namedL s)) := rfl
theorem fill_of (days : List Int) (f : Nat → ByteArray) (q : Nat → List PartD) (h : ∀ i, i < 6 → partsP (tl (f i)) = some (q i) ∨ (partsP (tl (f i)) = none ∧ q i = [])) :
    fillP days [tl (f 0), tl (f 1), tl (f 2)] [tl (f 3), tl (f 4), tl (f 5)] = if mayCal ⟨days, q 0, q 1, q 2, q 3, q 4, q 5⟩ = true then some ⟨days, q 0, q 1, q 2, q 3, q 4, q 5⟩ else none := by
  by_cases hm : mayCal ⟨days, q 0, q 1, q 2, q 3, q 4, q 5⟩ = true
  · rw [if_pos hm]
    have hall : ∀ i, i < 6 → partsP (tl (f i)) = some (q i) := fun i hi => by
      rcases h i hi with h1 | ⟨_, h2⟩
      · exact h1
      · exfalso
        unfold mayCal at hm
        simp only [Bool.and_eq_true] at hm
        obtain ⟨_, ⟨⟨⟨⟨m0, m1⟩, m2⟩, m3⟩, m4⟩, m5⟩ := hm
        have e : i = 0 ∨ i = 1 ∨ i = 2 ∨ i = 3 ∨ i = 4 ∨ i = 5 := by omega
        rcases e with rfl | rfl | rfl | rfl | rfl | rfl
        · rw [h2] at m0; cases m0
        · rw [h2] at m1; cases m1
        · rw [h2] at m2; cases m2
        · rw [h2] at m3; cases m3
        · rw [h2] at m4; cases m4
        · rw [h2] at m5; cases m5
    simp only [fillP, hall 0 (by decide), hall 1 (by decide), hall 2 (by decide), hall 3 (by decide), hall 4 (by decide), hall 5 (by decide), hm, if_true]
  · rw [if_neg hm]
    by_cases ha : ∀ i, i < 6 → partsP (tl (f i)) = some (q i)
    · simp only [fillP, ha 0 (by decide), ha 1 (by decide), ha 2 (by decide), ha 3 (by decide), ha 4 (by decide), ha 5 (by decide)]
      rw [if_neg hm]
    · have hx : ∃ i, i < 6 ∧ partsP (tl (f i)) = none := by
        by_cases hx : ∃ i, i < 6 ∧ partsP (tl (f i)) = none
        · exact hx
        · exact absurd (fun i hi => (h i hi).resolve_right (fun e => hx ⟨i, hi, e.1⟩)) ha
      obtain ⟨i, hi, hn⟩ := hx
      refine fillP_bad _ _ _ ?_
      have e : i = 0 ∨ i = 1 ∨ i = 2 ∨ i = 3 ∨ i = 4 ∨ i = 5 := by omega
      rcases e with rfl | rfl | rfl | rfl | rfl | rfl
      · exact .inl ⟨_, by simp, hn⟩
      · exact .inl ⟨_, by simp, hn⟩
      · exact .inl ⟨_, by simp, hn⟩
      · exact .inr ⟨_, by simp, hn⟩
      · exact .inr ⟨_, by simp, hn⟩
      · exact .inr ⟨_, by simp, hn⟩
end Sp
end

section
open Go.RowKit Go.Shelf

/-- what operation 'k' of the six calls leaves -/
def goodV (V0 : Value) (bf b1 : Nat) (fl : Nat → ByteArray) (k : Nat) (v : Value) (W : World) : Prop :=
  if k = 24 then v = .pointer (some ⟨b1, 1, none⟩) else if k % 4 = 0 then v = V0 else if k % 4 = 1 then v = .pointer (some ⟨bf, k / 4, none⟩) else if k % 4 = 2 then v = .string (fl (k / 4)) else PartV (tl (fl (k / 4))) v W
theorem goodV.on {V0 : Value} {bf b1 : Nat} {fl : Nat → ByteArray} {k : Nat} {v : Value} {W W' : World} (h : goodV V0 bf b1 fl k v W) (hb : Below W.heap.size W W') : goodV V0 bf b1 fl k v W' := by
  unfold goodV at h ⊢
  by_cases h1 : k = 24
  · rw [if_pos h1] at h ⊢; exact h
  · rw [if_neg h1] at h ⊢
    by_cases h2 : k % 4 = 0
    · rw [if_pos h2] at h ⊢; exact h
    · rw [if_neg h2] at h ⊢
      by_cases h3 : k % 4 = 1
      · rw [if_pos h3] at h ⊢; exact h
      · rw [if_neg h3] at h ⊢
        by_cases h4 : k % 4 = 2
        · rw [if_pos h4] at h ⊢; exact h
        · rw [if_neg h4] at h ⊢; exact h.on hb
structure PE0 (wr : World) (V0 : Value) (bf b1 : Nat) (fl : Nat → ByteArray) (D : Nat → Bool) (x : Nat → Value) (W : World) : Prop where
  hb : Below wr.heap.size wr W
  hv : ∀ k, k < 25 → D k = true → goodV V0 bf b1 fl k (x k) W
theorem PE0.upd {wr : World} {V0 : Value} {bf b1 : Nat} {fl : Nat → ByteArray} {D : Nat → Bool} {x : Nat → Value} {W W' : World} (h : PE0 wr V0 bf b1 fl D x W) (hb : Below W.heap.size W W') (k : Nat) (v : Value) (hv : goodV V0 bf b1 fl k v W') : PE0 wr V0 bf b1 fl (updB D k) (updV x k v) W' := by
  refine ⟨h.hb.trans (hb.mono h.hb.size), fun i hi hD => ?_⟩
  unfold updB at hD
  unfold updV
  by_cases e : i = k
  · rw [if_pos e, e]; exact hv
  · rw [if_neg e] at hD ⊢
    exact (h.hv i hi hD).on hb
structure PE1 (w : World) (b0 b1 : Nat) (dd : SlA) (days : List Int) (fl : Nat → ByteArray) (a : Nat → SlA) (D : Nat → Bool) (x : Nat → Value) (W : World) : Prop where
  hb : Below w.heap.size w W
  h0 : CV W b0 nilS (fun _ => nilS)
  h1 : CV W b1 dd (fun i => if D (25 + 2 * i) = true then a i else nilS)
  hd : Rd W W.heap.size 1 dd.A dd.n (intsC days)
  hn : dd.n ≤ 9223372036854775807
  hp : ∀ i, i < 6 → PartV (tl (fl i)) (slV (a i)) W
  hx : ∀ i, i < 6 → x (4 * i + 3) = slV (a i)
  hq : ∀ i, 0 < i → i < 6 → D (24 + 2 * i) = true → x (24 + 2 * i) = .pointer (some ⟨b1, i + 1, none⟩)
theorem grown_set (W : World) (b j : Nat) (u : Value) : W.grownBy (W.setCell ⟨b, j, none⟩ u) (some b) := ⟨rfl, rfl, rfl, by simp, fun k _ hk => Below.heap_setCell W ⟨b, j, none⟩ _ k (fun e => hk (by rw [e]))⟩
theorem PartV.set {l : List UInt8} {v : Value} {W : World} {b : Nat} {d : SlA} {f : Nat → SlA} (h : PartV l v W) (hc : CV W b d f) (j : Nat) (u : Value) : PartV l v (W.setCell ⟨b, j, none⟩ u) := by
  obtain ⟨a, q, h1, h2, h3, h4⟩ := h
  exact ⟨a, q, h1, rd_grown hc h2 (by decide) (partsC_no _) (grown_set W b j u), h3, h4⟩
theorem parts_fn {x : Nat → Value} {W : World} {fl : Nat → ByteArray} (h : ∀ i, i < 6 → PartV (tl (fl i)) (x (4 * i + 3)) W) : ∃ a : Nat → SlA, ∀ i, i < 6 → x (4 * i + 3) = slV (a i) ∧ PartV (tl (fl i)) (slV (a i)) W := by
  have k : ∀ i, ∃ a : SlA, i < 6 → x (4 * i + 3) = slV a ∧ PartV (tl (fl i)) (slV a) W := fun i => by
    by_cases hi : i < 6
    · obtain ⟨a, q, h1, h2, h3, h4⟩ := h i hi
      exact ⟨a, fun _ => ⟨h1, a, q, rfl, h2, h3, h4⟩⟩
    · exact ⟨nilS, fun h => absurd h hi⟩
  exact ⟨fun i => Classical.choose (k i), fun i hi => Classical.choose_spec (k i) hi⟩
theorem PE1.begin {w w3 wr : World} {V0 : Value} {b0 b1 bf : Nat} {dd : SlA} {days : List Int} {fl : Nat → ByteArray} {D : Nat → Bool} {x : Nat → Value} {W : World} (hpw : PW w w3 b0 b1 bf dd days fl wr) (h : PE0 wr V0 bf b1 fl D x W) (hD : ∀ k, k < 25 → D k = true) (hN : ∀ i, D (25 + 2 * i) = true → 6 ≤ i) (hE : ∀ i, 0 < i → i < 6 → D (24 + 2 * i) = false) : ∃ a, PE1 w b0 b1 dd days fl a D x W := by
  obtain ⟨a, ha⟩ := parts_fn (x := x) (W := W) (fl := fl) (fun i hi => by
    have e := h.hv (4 * i + 3) (by omega) (hD _ (by omega))
    unfold goodV at e
    rw [if_neg (by omega), if_neg (by omega), if_neg (by omega), if_neg (by omega), show (4 * i + 3) / 4 = i by omega] at e
    exact e)
  have hp := hpw.on h.hb
  refine ⟨a, hp.hb, hp.h0, hp.h1.eq (fun i hi => ?_), hp.hd, hp.hn, fun i hi => (ha i hi).2, fun i hi => (ha i hi).1, fun i h1 h2 hd => by rw [hE i h1 h2] at hd; cases hd⟩
  rw [if_neg (fun e => absurd (hN i e) (by omega))]
theorem PE1.set {w : World} {b0 b1 : Nat} {dd : SlA} {days : List Int} {fl : Nat → ByteArray} {a : Nat → SlA} {D : Nat → Bool} {x : Nat → Value} {W : World} (h : PE1 w b0 b1 dd days fl a D x W) (hw : w.heap.size ≤ b1) (h01 : b0 ≠ b1) (j : Nat) (hj : j < 6) (v : Value) : PE1 w b0 b1 dd days fl a (updB D (25 + 2 * j)) (updV x (25 + 2 * j) v) (W.setCell ⟨b1, j + 1, none⟩ (slV (a j))) := by
  refine ⟨h.hb.setCell (p := ⟨b1, j + 1, none⟩) hw _, h.h0.same (Below.heap_setCell _ _ _ _ h01), h.h1.set j hj (a j) (fun i hi => ?_), rd_grown h.h1 h.hd (by decide) (intsC_not _) (grown_set _ _ _ _), h.hn, fun i hi => (h.hp i hi).set h.h1 _ _, fun i hi => ?_, fun i h1 h2 hd => ?_⟩
  · unfold updB
    by_cases e : i = j
    · rw [if_pos e, e, if_pos (by rw [if_pos rfl])]
    · rw [if_neg e, if_neg (show ¬ 25 + 2 * i = 25 + 2 * j by omega)]
  · unfold updV
    rw [if_neg (by omega)]
    exact h.hx i hi
  · unfold updB at hd
    unfold updV
    rw [if_neg (by omega)] at hd ⊢
    exact h.hq i h1 h2 hd
theorem PE1.ptr {w : World} {b0 b1 : Nat} {dd : SlA} {days : List Int} {fl : Nat → ByteArray} {a : Nat → SlA} {D : Nat → Bool} {x : Nat → Value} {W : World} (h : PE1 w b0 b1 dd days fl a D x W) (j : Nat) : PE1 w b0 b1 dd days fl a (updB D (24 + 2 * j)) (updV x (24 + 2 * j) (.pointer (some ⟨b1, j + 1, none⟩))) W := by
  refine ⟨h.hb, h.h0, h.h1.eq (fun i hi => ?_), h.hd, h.hn, h.hp, fun i hi => ?_, fun i h1 h2 hd => ?_⟩
  · unfold updB
    rw [if_neg (show ¬ 25 + 2 * i = 24 + 2 * j by omega)]
  · unfold updV
    rw [if_neg (show ¬ 4 * i + 3 = 24 + 2 * j by omega)]
    exact h.hx i hi
  · unfold updB at hd
    unfold updV
    by_cases e : i = j
    · rw [if_pos (by omega), e]
    · rw [if_neg (show ¬ 24 + 2 * i = 24 + 2 * j by omega)] at hd ⊢
      exact h.hq i h1 h2 hd
theorem PE1.close {w : World} {b0 b1 : Nat} {dd : SlA} {days : List Int} {fl : Nat → ByteArray} {a : Nat → SlA} {x : Nat → Value} {W : World} (h : PE1 w b0 b1 dd days fl a (fun i => decide (i < 36)) x W) :
    CV W b1 dd a ∧ ∃ q : Nat → List Sp.PartD, CalGood W ⟨dd, a 0, a 1, a 2, a 3, a 4, a 5, ⟨days, q 0, q 1, q 2, q 3, q 4, q 5⟩⟩ ∧
      Sp.fillP days [tl (fl 0), tl (fl 1), tl (fl 2)] [tl (fl 3), tl (fl 4), tl (fl 5)] = if Sp.mayCal ⟨days, q 0, q 1, q 2, q 3, q 4, q 5⟩ = true then some ⟨days, q 0, q 1, q 2, q 3, q 4, q 5⟩ else none := by
  refine ⟨h.h1.eq (fun i hi => (if_pos (decide_eq_true (by omega))).symm), ?_⟩
  have k : ∀ i, ∃ q : List Sp.PartD, i < 6 → Rd W W.heap.size 3 (a i).A (a i).n (partsC q) ∧ (a i).n ≤ 9223372036854775807 ∧ (Sp.partsP (tl (fl i)) = some q ∨ (Sp.partsP (tl (fl i)) = none ∧ q = [])) := fun i => by
    by_cases hi : i < 6
    · obtain ⟨a', q, h1, h2, h3, h4⟩ := h.hp i hi
      refine ⟨q, fun _ => ?_⟩
      unfold slV at h1
      injection h1 with e1 e2 e3
      rw [e1, e2]
      exact ⟨h2, h3, h4⟩
    · exact ⟨[], fun h => absurd h hi⟩
  obtain ⟨q, hq⟩ : ∃ q : Nat → List Sp.PartD, ∀ i, i < 6 → Rd W W.heap.size 3 (a i).A (a i).n (partsC (q i)) ∧ (a i).n ≤ 9223372036854775807 ∧ (Sp.partsP (tl (fl i)) = some (q i) ∨ (Sp.partsP (tl (fl i)) = none ∧ q i = [])) := ⟨fun i => Classical.choose (k i), fun i hi => Classical.choose_spec (k i) hi⟩
  refine ⟨q, ⟨h.hd, fun i hi => ?_, h.hn, fun i => ?_⟩, Sp.fill_of days fl q (fun i hi => (hq i hi).2.2)⟩
  · have e : i = 0 ∨ i = 1 ∨ i = 2 ∨ i = 3 ∨ i = 4 ∨ i = 5 := by omega
    rcases e with rfl | rfl | rfl | rfl | rfl | rfl
    · exact (hq 0 (by decide)).1
    · exact (hq 1 (by decide)).1
    · exact (hq 2 (by decide)).1
    · exact (hq 3 (by decide)).1
    · exact (hq 4 (by decide)).1
    · exact (hq 5 (by decide)).1
  · match i with
    | 0 => exact (hq 0 (by decide)).2.1
    | 1 => exact (hq 1 (by decide)).2.1
    | 2 => exact (hq 2 (by decide)).2.1
    | 3 => exact (hq 3 (by decide)).2.1
    | 4 => exact (hq 4 (by decide)).2.1
    | n + 5 => exact (hq 5 (by decide)).2.1
def PEJ (w wr : World) (V0 : Value) (b0 b1 bf : Nat) (dd : SlA) (days : List Int) (fl : Nat → ByteArray) (D : Nat → Bool) (x : Nat → Value) (W : World) : Prop :=
  (D 25 = false → PE0 wr V0 bf b1 fl D x W) ∧ (D 25 = true → ∃ a, PE1 w b0 b1 dd days fl a D x W)
end

end Go.Proofs.YtopmdffiikajnaaGreatDoor
