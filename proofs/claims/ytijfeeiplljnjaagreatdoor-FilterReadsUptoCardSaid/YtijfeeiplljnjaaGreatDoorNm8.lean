/-
  The walks of a byte's two digits of sixteen, and back.
-/
import Derived.Test.YtijfeeiplljnjaaGreatDoorNm3
import Derived.Test.YtijfeeiplljnjaaGreatDoorSp2
import Derived.RegionTactic
import Derived.ChangeAlike
namespace Go.Proofs.YtijfeeiplljnjaaGreatDoor
open Go.RowKit

namespace Sp
theorem and15 (c : UInt8) : bits BinOp.and IntKind.u8 (c.toNat : Int) 15 = ((c.toNat % 16 : Nat) : Int) := by
  have h : ∀ n : Fin 256, bits BinOp.and IntKind.u8 (n.val : Int) 15 = ((n.val % 16 : Nat) : Int) := by decide +kernel
  exact h ⟨c.toNat, c.toNat_lt⟩

theorem hex_ext (n : Nat) (h : n < 16) : ((ByteArray.mk #[48, 49, 50, 51, 52, 53, 54, 55, 56, 57, 97, 98, 99, 100, 101, 102]).extract n (n + 1)).data.toList = [hexD n] := by
  have hh : ∀ n : Fin 16, ((ByteArray.mk #[48, 49, 50, 51, 52, 53, 54, 55, 56, 57, 97, 98, 99, 100, 101, 102]).extract n.val (n.val + 1)).data.toList = [hexD n.val] := by decide +kernel
  exact hh ⟨n, h⟩

theorem wrap_u8 (n : Nat) (h : n < 256) : IntKind.u8.wrap (n : Int) = n := by
  have hh : ∀ n : Fin 256, IntKind.u8.wrap (n.val : Int) = n.val := by decide +kernel
  exact hh ⟨n, h⟩
end Sp

set_option maxHeartbeats 400000 in
theorem byte_any (c : UInt8) (w : World) :
    Calls Tryz.prog 84 #[.int .u8 c.toNat] w fun e w' => e = .returned (.string ⟨(Sp.byteL c).toArray⟩) ∧ ∃ n, w' = w.drewN n := by
  have hc := c.toNat_lt
  obtain ⟨h, hh⟩ : ∃ h : Nat, h = c.toNat / 16 := ⟨_, rfl⟩
  obtain ⟨l, hl⟩ : ∃ l : Nat, l = c.toNat % 16 := ⟨_, rfl⟩
  have hlt : h < 16 := by omega
  have llt : l < 16 := by omega
  have HB : Hid (Sp.byteL c = [92, 120, Sp.hexD h, Sp.hexD l]) := Lib.hid (by rw [hh, hl]; rfl)
  have f1 : (c.toNat : Int) / 16 = (h : Int) := by omega
  have f2 : bits BinOp.and IntKind.u8 (c.toNat : Int) 15 = (l : Int) := by rw [Sp.and15, hl]
  have f3 : IntKind.u8.wrap ((h : Int) + 1) = (h : Int) + 1 := Sp.wrap_u8 (h + 1) (by omega)
  have f4 : IntKind.u8.wrap ((l : Int) + 1) = (l : Int) + 1 := Sp.wrap_u8 (l + 1) (by omega)
  have f5 : ((h : Int) + 1).toNat = h + 1 := by omega
  have f6 : ((l : Int) + 1).toNat = l + 1 := by omega
  have g1 : (0 : Int) ≤ h := by omega
  have g2 : (0 : Int) ≤ l := by omega
  have g3 : (h : Int) + 1 ≤ 16 := by omega
  have g4 : (l : Int) + 1 ≤ 16 := by omega
  have g5 : (0 : Int) ≤ (h : Int) + 1 := by omega
  have g6 : (0 : Int) ≤ (l : Int) + 1 := by omega
  have g7 : (h : Int) ≤ (h : Int) + 1 := by omega
  have g8 : (l : Int) ≤ (l : Int) + 1 := by omega
  clear hh hl hc
  go_enter Tryz.func84, Tryz.ntmps84
  go_wp2
  go_region
  go_wp2
  go_ret
  exact ⟨ret_str (by rw [HB.out]; simp only [ByteArray.data_append, Array.toList_append, Sp.hex_ext h hlt, Sp.hex_ext l llt]; rfl), 1, rfl⟩

theorem hexIndex_any (c : UInt8) (v : Int) (hv : Hid (Sp.hexV c = v)) (w : World) :
    Calls Tryz.prog 57 #[.string ⟨#[48, 49, 50, 51, 52, 53, 54, 55, 56, 57, 97, 98, 99, 100, 101, 102]⟩, .int .u8 c.toNat] w fun e w' => e = .returned (.int .i64 v) ∧ w' = w := by
  refine (Tryz.strings_IndexByte ⟨#[48, 49, 50, 51, 52, 53, 54, 55, 56, 57, 97, 98, 99, 100, 101, 102]⟩ c.toNat w).mono fun e w' ⟨h1, h2⟩ => ⟨?_, h2⟩
  rw [h1]
  have e2 : ((c.toNat : Int).toNat).toUInt8 = c := by simp
  rw [e2, ← hv.out]
  rfl

theorem two_or (a b : Nat) (ha : a < 16) (hb : b < 16) : bits BinOp.or IntKind.i64 ((a : Int) * 16) (b : Int) = (a : Int) * 16 + b := by
  have h : ∀ a b : Fin 16, bits BinOp.or IntKind.i64 ((a.val : Int) * 16) (b.val : Int) = (a.val : Int) * 16 + b.val := by decide +kernel
  exact h ⟨a, ha⟩ ⟨b, hb⟩

set_option maxHeartbeats 400000 in
set_option maxRecDepth 100000 in
theorem two_short (s : ByteArray) (w : World) (h : s.size < 2) :
    Calls Tryz.prog 113 #[.string s] w fun e w' => e = .returned (.tuple #[.int .u8 0, .bool false]) ∧ ∃ n, w' = w.drewN n := by
  have h2 : (s.size : Int) < 2 := by omega
  go_enter Tryz.func113, Tryz.ntmps113
  go_wp2
  go_ret2
  exact ⟨rfl, 0, rfl⟩

set_option maxHeartbeats 400000 in
set_option maxRecDepth 100000 in
theorem two_yes (s : ByteArray) (w : World) (h3 : 0 < s.size) (h4 : 1 < s.size) (ha : Sp.isHex s[0] = true) (hb : Sp.isHex s[1] = true) :
    Calls Tryz.prog 113 #[.string s] w fun e w' => e = .returned (.tuple #[.int .u8 (Sp.twoB s[0] s[1]).toNat, .bool true]) ∧ ∃ n, w' = w.drewN n := by
  have h5 : (0 : Int) < (s.size : Int) := by omega
  have h6 : (1 : Int) < (s.size : Int) := by omega
  obtain ⟨a, ea, la⟩ : ∃ a : Nat, Sp.hexV s[0] = a ∧ a < 16 := by
    rcases Sp.hexV_range s[0] with e | ⟨e1, e2⟩
    · simp [Sp.isHex, e] at ha
    · exact ⟨(Sp.hexV s[0]).toNat, by omega, by omega⟩
  obtain ⟨b, eb, lb⟩ : ∃ b : Nat, Sp.hexV s[1] = b ∧ b < 16 := by
    rcases Sp.hexV_range s[1] with e | ⟨e1, e2⟩
    · simp [Sp.isHex, e] at hb
    · exact ⟨(Sp.hexV s[1]).toNat, by omega, by omega⟩
  have HT : Hid (((Sp.twoB s[0] s[1]).toNat : Int) = (a : Int) * 16 + b) := Lib.hid (by
    unfold Sp.twoB; rw [ea, eb]; simp; omega)
  have EA := Lib.hid ea
  have EB := Lib.hid eb
  have o1 := two_or a b la lb
  clear ha hb ea eb
  go_enter Tryz.func113, Tryz.ntmps113
  go_wp2
  go_quiet ((go_at_call 57; (first | exact Calls.quiet_of_same (hexIndex_any _ _ EA _) | exact Calls.quiet_of_same (hexIndex_any _ _ EB _))))
  go_wp2
  go_ret2
  exact ⟨by rw [HT.out]; simp; try omega, nq, rfl⟩

set_option maxHeartbeats 400000 in
set_option maxRecDepth 100000 in
theorem two_no (s : ByteArray) (w : World) (h3 : 0 < s.size) (h4 : 1 < s.size) (ha : (Sp.isHex s[0] && Sp.isHex s[1]) = false) :
    Calls Tryz.prog 113 #[.string s] w fun e w' => e = .returned (.tuple #[.int .u8 0, .bool false]) ∧ ∃ n, w' = w.drewN n := by
  have h5 : (0 : Int) < (s.size : Int) := by omega
  have h6 : (1 : Int) < (s.size : Int) := by omega
  obtain ⟨a, ea⟩ : ∃ a : Int, Sp.hexV s[0] = a := ⟨_, rfl⟩
  obtain ⟨b, eb⟩ : ∃ b : Int, Sp.hexV s[1] = b := ⟨_, rfl⟩
  have hab : a < 0 ∨ b < 0 := by
    simp [Sp.isHex, ea, eb] at ha
    omega
  have EA := Lib.hid ea
  have EB := Lib.hid eb
  clear ha ea eb
  by_cases hn : a < 0
  · clear hab
    go_enter Tryz.func113, Tryz.ntmps113
    go_wp2
    go_quiet ((go_at_call 57; (first | exact Calls.quiet_of_same (hexIndex_any _ _ EA _) | exact Calls.quiet_of_same (hexIndex_any _ _ EB _))))
    go_wp2
    go_ret2
    exact ⟨rfl, nq, rfl⟩
  · have hb : b < 0 := by omega
    clear hab
    go_enter Tryz.func113, Tryz.ntmps113
    go_wp2
    go_quiet ((go_at_call 57; (first | exact Calls.quiet_of_same (hexIndex_any _ _ EA _) | exact Calls.quiet_of_same (hexIndex_any _ _ EB _))))
    go_wp2
    go_ret2
    exact ⟨rfl, nq, rfl⟩

/-- chars.Two, of any text -/
theorem two_any (s : ByteArray) (w : World) :
    Calls Tryz.prog 113 #[.string s] w fun e w' => e = .returned (.tuple #[.int .u8 (Sp.twoL s.data.toList).1.toNat, .bool (Sp.twoL s.data.toList).2]) ∧ ∃ n, w' = w.drewN n := by
  by_cases h : s.size < 2
  · have e : Sp.twoL s.data.toList = (0, false) := by
      have h1 : s.data.toList.length = s.size := by simp
      match hl : s.data.toList with
      | [] => rfl
      | [_] => rfl
      | _ :: _ :: _ => rw [hl] at h1; simp at h1; omega
    rw [e]
    exact two_short s w h
  · have h3 : 0 < s.size := by omega
    have h4 : 1 < s.size := by omega
    have e : Sp.twoL s.data.toList = if Sp.isHex s[0] && Sp.isHex s[1] then (Sp.twoB s[0] s[1], true) else (0, false) := by
      have h1 : s.data.toList.length = s.size := by simp
      have g0 : s[0] = s.data.toList[0]'(by omega) := by simp [ByteArray.getElem_eq_getElem_data]
      have g1 : s[1] = s.data.toList[1]'(by omega) := by simp [ByteArray.getElem_eq_getElem_data]
      rw [g0, g1]
      have gen : ∀ (l : List UInt8) (h : 2 ≤ l.length), Sp.twoL l = if (Sp.isHex (l[0]'(by omega)) && Sp.isHex (l[1]'(by omega))) = true then (Sp.twoB (l[0]'(by omega)) (l[1]'(by omega)), true) else (0, false) := by
        intro l h
        match l, h with
        | a :: b :: r, _ => rfl
        | [], h => simp at h
        | [_], h => simp at h
      exact gen _ (by omega)
    rw [e]
    cases hx : (Sp.isHex s[0] && Sp.isHex s[1])
    · exact two_no s w h3 h4 hx
    · simp only [Bool.and_eq_true] at hx
      exact two_yes s w h3 h4 hx.1 hx.2

theorem hexs_at (k : Nat) (_h : k < (ByteArray.mk #[48, 49, 50, 51, 52, 53, 54, 55, 56, 57, 97, 98, 99, 100, 101, 102]).size) (h2 : k < Sp.hexs.length) : (ByteArray.mk #[48, 49, 50, 51, 52, 53, 54, 55, 56, 57, 97, 98, 99, 100, 101, 102])[k] = Sp.hexs[k] := rfl

set_option maxHeartbeats 400000 in
set_option maxRecDepth 100000 in
theorem rhex_any (c : UInt8) (w : World) :
    Calls Tryz.prog 72 #[.int .u8 c.toNat] w fun e w' => e = .returned (.int .i64 (Sp.hexR c)) ∧ w = w' := by
  have hsz : (ByteArray.mk #[48, 49, 50, 51, 52, 53, 54, 55, 56, 57, 97, 98, 99, 100, 101, 102]).size = 16 := rfl
  have hlen : Sp.hexs.length = 16 := rfl
  rcases Sp.index_spec Sp.hexs c with ⟨e, hn⟩ | ⟨i, e, hi, hl, hn⟩
  · have HR : Hid (Sp.hexR c = 16) := Lib.hid (by unfold Sp.hexR Sp.hexV; rw [e]; rfl)
    have HN : Hid (∀ k, ∀ h : k < (ByteArray.mk #[48, 49, 50, 51, 52, 53, 54, 55, 56, 57, 97, 98, 99, 100, 101, 102]).size, (((ByteArray.mk #[48, 49, 50, 51, 52, 53, 54, 55, 56, 57, 97, 98, 99, 100, 101, 102])[k].toNat : Int) == (c.toNat : Int)) = false) := Lib.hid (fun k h => by
      rw [beq_eq_false_iff_ne]
      intro h2
      have hk : k < Sp.hexs.length := h
      exact hn (Sp.hexs[k]'hk) (List.getElem_mem _) ((hexs_at k h hk).symm.trans (UInt8.toNat.inj (by omega))))
    clear e hn hsz hlen
    go_enter Tryz.func72, Tryz.ntmps72
    go_wp2_with fail
    go_loop [3] (fun i => ∃ k : Nat, k ≤ 16 ∧ i = .int .i64 k) (fun i => 16 - (intOf i).toNat)
    case atStart => exact ⟨0, Nat.zero_le _, rfl⟩
    case round =>
      obtain ⟨k, hk, rfl⟩ := hrel
      by_cases hk2 : k < 16
      · have ht := HN.out k hk2
        go_wp2
        go_round
        case rel => exact ⟨k + 1, by omega, by go_num⟩
        case measure => simp [intOf]; omega
      · go_wp2
        go_ret
        exact ⟨ret_int (by rw [HR.out]), rfl⟩
  · have hni : ∀ k, (h : k < i) → Sp.hexs[k]'(by omega) ≠ c := fun k h => hn _ (by rw [List.mem_take_iff_getElem]; exact ⟨k, by omega, rfl⟩)
    have hii : Sp.hexs[i] = c := by
      have : Sp.hexs[i] = (Sp.hexs.take i ++ c :: Sp.hexs.drop (i + 1))[i]'(by simp; omega) := by
        congr 1
      rw [this]; simp [Nat.le_of_lt hi]
    have HR : Hid (Sp.hexR c = (i : Int)) := Lib.hid (by unfold Sp.hexR Sp.hexV; rw [e, if_neg (by omega)])
    have HN : Hid (∀ k, ∀ h : k < (ByteArray.mk #[48, 49, 50, 51, 52, 53, 54, 55, 56, 57, 97, 98, 99, 100, 101, 102]).size, k < i → (((ByteArray.mk #[48, 49, 50, 51, 52, 53, 54, 55, 56, 57, 97, 98, 99, 100, 101, 102])[k].toNat : Int) == (c.toNat : Int)) = false) := Lib.hid (fun k h h3 => by
      rw [beq_eq_false_iff_ne]
      intro h2
      exact hni k h3 ((hexs_at k h h).symm.trans (UInt8.toNat.inj (by omega))))
    have HY : Hid (∀ h : i < (ByteArray.mk #[48, 49, 50, 51, 52, 53, 54, 55, 56, 57, 97, 98, 99, 100, 101, 102]).size, (((ByteArray.mk #[48, 49, 50, 51, 52, 53, 54, 55, 56, 57, 97, 98, 99, 100, 101, 102])[i].toNat : Int) == (c.toNat : Int)) = true) := Lib.hid (fun h =>
      (congrArg (fun b : UInt8 => ((b.toNat : Int) == (c.toNat : Int))) (hexs_at i h hi)).trans (by rw [hii]; simp))
    have hi2 : i < 16 := by omega
    clear e hn hni hii hl hi hsz hlen
    go_enter Tryz.func72, Tryz.ntmps72
    go_wp2_with fail
    go_loop [3] (fun v => ∃ k : Nat, k ≤ i ∧ v = .int .i64 k) (fun v => 16 - (intOf v).toNat)
    case atStart => exact ⟨0, Nat.zero_le _, rfl⟩
    case round =>
      obtain ⟨k, hk, rfl⟩ := hrel
      have hk3 : k < 16 := by omega
      by_cases hk2 : k < i
      · have ht := HN.out k hk3 hk2
        go_wp2
        go_round
        case rel => exact ⟨k + 1, by omega, by go_num⟩
        case measure => simp [intOf]; omega
      · obtain rfl : k = i := by omega
        have ht := HY.out hk3
        go_wp2
        go_ret
        exact ⟨ret_int (by rw [HR.out]), rfl⟩

end Go.Proofs.YtijfeeiplljnjaaGreatDoor
