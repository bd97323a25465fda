/-
  The walks of names' parts: up to the last point, at the first '@', kinds, templates, instances.
-/
import Derived.Test.YtijfeeiplljnjaaGreatDoorNm2
import Derived.Test.YtijfeeiplljnjaaGreatDoorSp1
import Derived.Deep.QuietTactic
import Derived.BigQuiet
namespace Go.Proofs.YtijfeeiplljnjaaGreatDoor
open Go.RowKit

theorem str_eq {a b : ByteArray} (h : a.data.toList = b.data.toList) : Value.string a = Value.string b := by
  rw [ByteArray.ext (Array.toList_inj.1 h)]

theorem ret_str {a b : ByteArray} (h : a.data.toList = b.data.toList) : Ending.returned (.string a) = .returned (.string b) := by rw [str_eq h]

theorem lastDot_any (s : ByteArray) (k : Int) (hk : Hid (Lib.lastIndexByte s 46 = k)) (hs : s.size ≤ 281474976710656) (w : World) :
    Calls Tryz.prog 98 #[.string s, .string ⟨#[46]⟩] w fun e w' => e = .returned (.int .i64 k) ∧ w' = w := by
  have h := Tryz.strings_LastIndex_one s ⟨#[46]⟩ rfl (by omega) w
  rw [show Lib.lastIndexByte s ((ByteArray.mk #[46])[0].toNat : Int) = k from hk.out] at h
  exact h

theorem ext_take (s : ByteArray) (i : Nat) : s.extract 0 i = ⟨(s.data.toList.take i).toArray⟩ := by
  apply ByteArray.ext
  apply Array.toList_inj.1
  simp

theorem ext_drop (s : ByteArray) (i : Nat) : s.extract i s.size = ⟨(s.data.toList.drop i).toArray⟩ := by
  apply ByteArray.ext
  apply Array.toList_inj.1
  simp
  exact List.take_of_length_le (by simp)

set_option maxHeartbeats 400000 in
theorem cut_any (s : ByteArray) (w : World) (hs : s.size ≤ 281474976710656) :
    Calls Tryz.prog 74 #[.string s] w fun e w' => e = .returned (.tuple #[.string ⟨(Sp.cutDot s.data.toList).1.toArray⟩, .string ⟨(Sp.cutDot s.data.toList).2.toArray⟩]) ∧ ∃ n, w' = w.drewN n := by
  rcases Lib.lastIndexByte_spec s 46 with ⟨e, hn⟩ | ⟨i, hi, e, hc, hn⟩
  · rw [Sp.dot_none s hn]
    have E := Lib.hid e; clear e hn
    go_enter Tryz.func74, Tryz.ntmps74
    go_wp2_with (go_at_call 98; refine (lastDot_any _ _ E hs _).mono ?_; rintro e w' ⟨rfl, rfl⟩)
    go_ret2
    exact ⟨rfl, 0, rfl⟩
  · rw [Sp.dot_at s i hi hc hn]
    have E := Lib.hid e; clear e hn hc
    go_enter Tryz.func74, Tryz.ntmps74
    go_wp2_with (go_at_call 98; refine (lastDot_any _ _ E hs _).mono ?_; rintro e w' ⟨rfl, rfl⟩)
    have c1 : (0 : Int) ≤ ↑i := by omega
    have c2 : (↑i : Int) ≤ ↑s.size := by omega
    have c3 : (0 : Int) ≤ ↑i + 1 := by omega
    have c4 : (↑i + 1 : Int) ≤ ↑s.size := by omega
    go_region
    go_wp2
    go_ret2
    exact ⟨by rw [ext_take, ext_drop]; rfl, 1, rfl⟩

set_option maxHeartbeats 400000 in
theorem slcut_any (s : ByteArray) (w : World) (hs : s.size ≤ 281474976710656) :
    Calls Tryz.prog 67 #[.string s, .string ⟨#[64]⟩] w fun e w' => e = .returned (.tuple #[.string ⟨(Sp.cutAt s.data.toList).1.toArray⟩, .string ⟨(Sp.cutAt s.data.toList).2.1.toArray⟩, .bool (Sp.cutAt s.data.toList).2.2]) ∧ ∃ n, w' = w.drewN n := by
  rcases Sp.index_spec s.data.toList 64 with ⟨e, hn⟩ | ⟨i, e, hi, hl, hn⟩
  · rw [Sp.cutAt_miss _ hn]
    have E := Lib.hid e; clear e hn
    go_enter Tryz.func67, Tryz.ntmps67
    go_wp2_with (go_at_call 77; refine (Tryz.stringslite_Index_one _ _ _).mono ?_; rintro e w' ⟨rfl, rfl⟩; rw [E.out])
    go_ret3
    exact ⟨rfl, 0, rfl⟩
  · have hc := Sp.cutAt_hit _ (s.data.toList.drop (i + 1)) hn
    rw [← hl] at hc
    rw [hc]
    have E := Lib.hid e; clear e hn hc hl
    have hi2 : i < s.size := by simpa using hi
    clear hi
    have c1 : (0 : Int) ≤ ↑i := by omega
    have c2 : (↑i : Int) ≤ ↑s.size := by omega
    have c3 : (0 : Int) ≤ ↑i + 1 := by omega
    have c4 : (↑i + 1 : Int) ≤ ↑s.size := by omega
    go_enter Tryz.func67, Tryz.ntmps67
    go_wp2_with (go_at_call 77; refine (Tryz.stringslite_Index_one _ _ _).mono ?_; rintro e w' ⟨rfl, rfl⟩; rw [E.out])
    go_region
    go_wp2
    go_ret3
    exact ⟨by rw [ext_take, ext_drop]; rfl, 1, rfl⟩

set_option maxHeartbeats 400000 in
theorem scut_any (s : ByteArray) (w : World) (hs : s.size ≤ 281474976710656) :
    Calls Tryz.prog 36 #[.string s, .string ⟨#[64]⟩] w fun e w' => e = .returned (.tuple #[.string ⟨(Sp.cutAt s.data.toList).1.toArray⟩, .string ⟨(Sp.cutAt s.data.toList).2.1.toArray⟩, .bool (Sp.cutAt s.data.toList).2.2]) ∧ ∃ n, w' = w.drewN n := by
  go_enter Tryz.func36, Tryz.ntmps36
  go_wp2_with (go_at_call 67; refine (slcut_any _ _ hs).mono ?_; rintro e w' ⟨rfl, n, rfl⟩)
  go_ret3
  exact ⟨rfl, n, rfl⟩

end Go.Proofs.YtijfeeiplljnjaaGreatDoor
