/-
  The walks of a text's words and of units, both in the code and in the reference.
-/
import Derived.Test.YtnfbhhffclahjaaDoorTsF
import Derived.Test.YtnfbhhffclahjaaDoorNm1
import Derived.Test.YtnfbhhffclahjaaDoorMem
import Derived.Test.YtnfbhhffclahjaaDoorShelf
import Derived.Shelf.GgClosure.Gives
import Derived.Lib.Hide
import Derived.Lib.AtoiErrMem
namespace Go.Proofs.YtnfbhhffclahjaaDoor
open Go.RowKit Go.Lib

theorem ba_of (s : ByteArray) (l : List UInt8) (h : s.data.toList = l) : s = ⟨l.toArray⟩ := by
  obtain ⟨d⟩ := s
  subst h
  simp
theorem eq_no (s : ByteArray) (l : List UInt8) (h : s.data.toList ≠ l) : (s.toList == l) = false := by
  rw [Lib.toList_data]; simpa using h

theorem seconds_l0 (w : World) : Calls Tryd.prog 28 #[.string ⟨#[]⟩] w fun e w' => e = .returned (.int .i64 (Sp.secs [] : Nat)) ∧ w = w' := by
  go_enter Tryd.func28, Tryd.ntmps28
  go_wp2
  go_ret
  exact ⟨rfl, rfl⟩

theorem seconds_l1 (w : World) : Calls Tryd.prog 28 #[.string ⟨#[115]⟩] w fun e w' => e = .returned (.int .i64 (Sp.secs [115] : Nat)) ∧ w = w' := by
  go_enter Tryd.func28, Tryd.ntmps28
  go_wp2
  go_ret
  exact ⟨rfl, rfl⟩

theorem seconds_l2 (w : World) : Calls Tryd.prog 28 #[.string ⟨#[115, 101, 99]⟩] w fun e w' => e = .returned (.int .i64 (Sp.secs [115, 101, 99] : Nat)) ∧ w = w' := by
  go_enter Tryd.func28, Tryd.ntmps28
  go_wp2
  go_ret
  exact ⟨rfl, rfl⟩

theorem seconds_l3 (w : World) : Calls Tryd.prog 28 #[.string ⟨#[109]⟩] w fun e w' => e = .returned (.int .i64 (Sp.secs [109] : Nat)) ∧ w = w' := by
  go_enter Tryd.func28, Tryd.ntmps28
  go_wp2
  go_ret
  exact ⟨rfl, rfl⟩

theorem seconds_l4 (w : World) : Calls Tryd.prog 28 #[.string ⟨#[109, 105, 110]⟩] w fun e w' => e = .returned (.int .i64 (Sp.secs [109, 105, 110] : Nat)) ∧ w = w' := by
  go_enter Tryd.func28, Tryd.ntmps28
  go_wp2
  go_ret
  exact ⟨rfl, rfl⟩

theorem seconds_l5 (w : World) : Calls Tryd.prog 28 #[.string ⟨#[104]⟩] w fun e w' => e = .returned (.int .i64 (Sp.secs [104] : Nat)) ∧ w = w' := by
  go_enter Tryd.func28, Tryd.ntmps28
  go_wp2
  go_ret
  exact ⟨rfl, rfl⟩

theorem seconds_l6 (w : World) : Calls Tryd.prog 28 #[.string ⟨#[104, 114]⟩] w fun e w' => e = .returned (.int .i64 (Sp.secs [104, 114] : Nat)) ∧ w = w' := by
  go_enter Tryd.func28, Tryd.ntmps28
  go_wp2
  go_ret
  exact ⟨rfl, rfl⟩

theorem seconds_l7 (w : World) : Calls Tryd.prog 28 #[.string ⟨#[100]⟩] w fun e w' => e = .returned (.int .i64 (Sp.secs [100] : Nat)) ∧ w = w' := by
  go_enter Tryd.func28, Tryd.ntmps28
  go_wp2
  go_ret
  exact ⟨rfl, rfl⟩

theorem seconds_l8 (w : World) : Calls Tryd.prog 28 #[.string ⟨#[100, 97, 121]⟩] w fun e w' => e = .returned (.int .i64 (Sp.secs [100, 97, 121] : Nat)) ∧ w = w' := by
  go_enter Tryd.func28, Tryd.ntmps28
  go_wp2
  go_ret
  exact ⟨rfl, rfl⟩

theorem seconds_l9 (w : World) : Calls Tryd.prog 28 #[.string ⟨#[119]⟩] w fun e w' => e = .returned (.int .i64 (Sp.secs [119] : Nat)) ∧ w = w' := by
  go_enter Tryd.func28, Tryd.ntmps28
  go_wp2
  go_ret
  exact ⟨rfl, rfl⟩

theorem seconds_l10 (w : World) : Calls Tryd.prog 28 #[.string ⟨#[119, 101, 101, 107]⟩] w fun e w' => e = .returned (.int .i64 (Sp.secs [119, 101, 101, 107] : Nat)) ∧ w = w' := by
  go_enter Tryd.func28, Tryd.ntmps28
  go_wp2
  go_ret
  exact ⟨rfl, rfl⟩

set_option maxHeartbeats 1000000 in
theorem seconds_any (s : ByteArray) (w : World) : Calls Tryd.prog 28 #[.string s] w fun e w' => e = .returned (.int .i64 (Sp.secs s.data.toList : Nat)) ∧ w = w' := by
  by_cases h0 : s.data.toList = []
  · rw [h0, ba_of s _ h0]; exact seconds_l0 w
  by_cases h1 : s.data.toList = [115]
  · rw [h1, ba_of s _ h1]; exact seconds_l1 w
  by_cases h2 : s.data.toList = [115, 101, 99]
  · rw [h2, ba_of s _ h2]; exact seconds_l2 w
  by_cases h3 : s.data.toList = [109]
  · rw [h3, ba_of s _ h3]; exact seconds_l3 w
  by_cases h4 : s.data.toList = [109, 105, 110]
  · rw [h4, ba_of s _ h4]; exact seconds_l4 w
  by_cases h5 : s.data.toList = [104]
  · rw [h5, ba_of s _ h5]; exact seconds_l5 w
  by_cases h6 : s.data.toList = [104, 114]
  · rw [h6, ba_of s _ h6]; exact seconds_l6 w
  by_cases h7 : s.data.toList = [100]
  · rw [h7, ba_of s _ h7]; exact seconds_l7 w
  by_cases h8 : s.data.toList = [100, 97, 121]
  · rw [h8, ba_of s _ h8]; exact seconds_l8 w
  by_cases h9 : s.data.toList = [119]
  · rw [h9, ba_of s _ h9]; exact seconds_l9 w
  by_cases h10 : s.data.toList = [119, 101, 101, 107]
  · rw [h10, ba_of s _ h10]; exact seconds_l10 w
  have hz : Sp.secs s.data.toList = 0 := by simp [Sp.secs, h0, h1, h2, h3, h4, h5, h6, h7, h8, h9, h10]
  rw [hz]
  have e0 : s.toList.isEmpty = false := by rw [Lib.toList_data]; simpa using h0
  have e1 := eq_no s [115] h1
  have e2 := eq_no s [115, 101, 99] h2
  have e3 := eq_no s [109] h3
  have e4 := eq_no s [109, 105, 110] h4
  have e5 := eq_no s [104] h5
  have e6 := eq_no s [104, 114] h6
  have e7 := eq_no s [100] h7
  have e8 := eq_no s [100, 97, 121] h8
  have e9 := eq_no s [119] h9
  have e10 := eq_no s [119, 101, 101, 107] h10
  clear hz h0 h1 h2 h3 h4 h5 h6 h7 h8 h9 h10
  go_enter Tryd.func28, Tryd.ntmps28
  go_wp2
  go_ret
  exact ⟨rfl, rfl⟩

theorem unit_l0 (w : World) : Calls Tryd.prog 18 #[.string ⟨#[]⟩] w fun e w' => e = .returned (.int .i64 (Sp.secs [] : Nat)) ∧ w = w' := by
  go_enter Tryd.func18, Tryd.ntmps18
  go_wp2
  go_ret
  exact ⟨rfl, rfl⟩

theorem unit_l1 (w : World) : Calls Tryd.prog 18 #[.string ⟨#[115]⟩] w fun e w' => e = .returned (.int .i64 (Sp.secs [115] : Nat)) ∧ w = w' := by
  go_enter Tryd.func18, Tryd.ntmps18
  go_wp2
  go_ret
  exact ⟨rfl, rfl⟩

theorem unit_l2 (w : World) : Calls Tryd.prog 18 #[.string ⟨#[115, 101, 99]⟩] w fun e w' => e = .returned (.int .i64 (Sp.secs [115, 101, 99] : Nat)) ∧ w = w' := by
  go_enter Tryd.func18, Tryd.ntmps18
  go_wp2
  go_ret
  exact ⟨rfl, rfl⟩

theorem unit_l3 (w : World) : Calls Tryd.prog 18 #[.string ⟨#[109]⟩] w fun e w' => e = .returned (.int .i64 (Sp.secs [109] : Nat)) ∧ w = w' := by
  go_enter Tryd.func18, Tryd.ntmps18
  go_wp2
  go_ret
  exact ⟨rfl, rfl⟩

theorem unit_l4 (w : World) : Calls Tryd.prog 18 #[.string ⟨#[109, 105, 110]⟩] w fun e w' => e = .returned (.int .i64 (Sp.secs [109, 105, 110] : Nat)) ∧ w = w' := by
  go_enter Tryd.func18, Tryd.ntmps18
  go_wp2
  go_ret
  exact ⟨rfl, rfl⟩

theorem unit_l5 (w : World) : Calls Tryd.prog 18 #[.string ⟨#[104]⟩] w fun e w' => e = .returned (.int .i64 (Sp.secs [104] : Nat)) ∧ w = w' := by
  go_enter Tryd.func18, Tryd.ntmps18
  go_wp2
  go_ret
  exact ⟨rfl, rfl⟩

theorem unit_l6 (w : World) : Calls Tryd.prog 18 #[.string ⟨#[104, 114]⟩] w fun e w' => e = .returned (.int .i64 (Sp.secs [104, 114] : Nat)) ∧ w = w' := by
  go_enter Tryd.func18, Tryd.ntmps18
  go_wp2
  go_ret
  exact ⟨rfl, rfl⟩

theorem unit_l7 (w : World) : Calls Tryd.prog 18 #[.string ⟨#[100]⟩] w fun e w' => e = .returned (.int .i64 (Sp.secs [100] : Nat)) ∧ w = w' := by
  go_enter Tryd.func18, Tryd.ntmps18
  go_wp2
  go_ret
  exact ⟨rfl, rfl⟩

theorem unit_l8 (w : World) : Calls Tryd.prog 18 #[.string ⟨#[100, 97, 121]⟩] w fun e w' => e = .returned (.int .i64 (Sp.secs [100, 97, 121] : Nat)) ∧ w = w' := by
  go_enter Tryd.func18, Tryd.ntmps18
  go_wp2
  go_ret
  exact ⟨rfl, rfl⟩

theorem unit_l9 (w : World) : Calls Tryd.prog 18 #[.string ⟨#[119]⟩] w fun e w' => e = .returned (.int .i64 (Sp.secs [119] : Nat)) ∧ w = w' := by
  go_enter Tryd.func18, Tryd.ntmps18
  go_wp2
  go_ret
  exact ⟨rfl, rfl⟩

theorem unit_l10 (w : World) : Calls Tryd.prog 18 #[.string ⟨#[119, 101, 101, 107]⟩] w fun e w' => e = .returned (.int .i64 (Sp.secs [119, 101, 101, 107] : Nat)) ∧ w = w' := by
  go_enter Tryd.func18, Tryd.ntmps18
  go_wp2
  go_ret
  exact ⟨rfl, rfl⟩

set_option maxHeartbeats 1000000 in
theorem unit_any (s : ByteArray) (w : World) : Calls Tryd.prog 18 #[.string s] w fun e w' => e = .returned (.int .i64 (Sp.secs s.data.toList : Nat)) ∧ w = w' := by
  by_cases h0 : s.data.toList = []
  · rw [h0, ba_of s _ h0]; exact unit_l0 w
  by_cases h1 : s.data.toList = [115]
  · rw [h1, ba_of s _ h1]; exact unit_l1 w
  by_cases h2 : s.data.toList = [115, 101, 99]
  · rw [h2, ba_of s _ h2]; exact unit_l2 w
  by_cases h3 : s.data.toList = [109]
  · rw [h3, ba_of s _ h3]; exact unit_l3 w
  by_cases h4 : s.data.toList = [109, 105, 110]
  · rw [h4, ba_of s _ h4]; exact unit_l4 w
  by_cases h5 : s.data.toList = [104]
  · rw [h5, ba_of s _ h5]; exact unit_l5 w
  by_cases h6 : s.data.toList = [104, 114]
  · rw [h6, ba_of s _ h6]; exact unit_l6 w
  by_cases h7 : s.data.toList = [100]
  · rw [h7, ba_of s _ h7]; exact unit_l7 w
  by_cases h8 : s.data.toList = [100, 97, 121]
  · rw [h8, ba_of s _ h8]; exact unit_l8 w
  by_cases h9 : s.data.toList = [119]
  · rw [h9, ba_of s _ h9]; exact unit_l9 w
  by_cases h10 : s.data.toList = [119, 101, 101, 107]
  · rw [h10, ba_of s _ h10]; exact unit_l10 w
  have hz : Sp.secs s.data.toList = 0 := by simp [Sp.secs, h0, h1, h2, h3, h4, h5, h6, h7, h8, h9, h10]
  rw [hz]
  have e0 : s.toList.isEmpty = false := by rw [Lib.toList_data]; simpa using h0
  have e1 := eq_no s [115] h1
  have e2 := eq_no s [115, 101, 99] h2
  have e3 := eq_no s [109] h3
  have e4 := eq_no s [109, 105, 110] h4
  have e5 := eq_no s [104] h5
  have e6 := eq_no s [104, 114] h6
  have e7 := eq_no s [100] h7
  have e8 := eq_no s [100, 97, 121] h8
  have e9 := eq_no s [119] h9
  have e10 := eq_no s [119, 101, 101, 107] h10
  clear hz h0 h1 h2 h3 h4 h5 h6 h7 h8 h9 h10
  go_enter Tryd.func18, Tryd.ntmps18
  go_wp2
  go_ret
  exact ⟨rfl, rfl⟩

set_option maxHeartbeats 400000 in
theorem words1_any (x : Nat) (hx : x ≤ 1114111) (w : World) :
    Calls Tryd.prog 26 #[.int .i32 x] w fun e w' => e = .returned (.bool (Sp.blankR x)) ∧ w = w' := by
  have e2 : Sp.blankR x = ((x : Int) == 32) := by
    unfold Sp.blankR
    by_cases h : x = 32
    · subst h; rfl
    · have h1 : ¬ (x : Int) = 32 := by omega
      simp [h1]
  rw [e2]
  go_enter Tryd.func26, Tryd.ntmps26
  go_wp2
  go_ret
  exact ⟨rfl, rfl⟩

/-- texts as cells -/
def strCells (l : List ByteArray) : List Value := l.map Value.string

set_option maxHeartbeats 400000 in
theorem words_row (s : ByteArray) (w : World) (hs : s.size ≤ 4294967296) :
    Calls Tryd.prog 14 #[.string s] w fun e w' => ∃ (A : Option Addr) (l : List ByteArray), e = .returned (.slice A l.length l.length) ∧ l.map (fun b => b.data.toList) = Sp.partsOf s.data.toList ∧
      Rd w' w'.heap.size 1 A l.length (strCells l) ∧ Below w.heap.size w w' := by
  go_enter Tryd.func14, Tryd.ntmps14
  go_wp2_with fail
  refine (Tryd.strings_FieldsFunc_runes 26 #[] (enters_of Tryd.func26 (by kernel_rfl) rfl) Sp.blankR s w hs ?_).mono ?_
  · intro W x hx _
    refine (words1_any x hx W).mono ?_
    rintro e w' ⟨rfl, rfl⟩
    exact ⟨rfl, 0, rfl⟩
  · rintro e w' ⟨A, rfl, hA, hown, hb⟩
    go_wp2
    go_ret
    exact ⟨some ⟨A, 0, none⟩, Lib.goFieldsP Sp.blankR s, rfl, Sp.fields_eq s, Rd.of_own hown, hb⟩

end Go.Proofs.YtnfbhhffclahjaaDoor
