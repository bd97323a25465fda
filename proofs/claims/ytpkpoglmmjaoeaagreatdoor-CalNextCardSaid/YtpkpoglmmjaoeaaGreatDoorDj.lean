/-
  The words of a calendar's text: the program's walks.
-/
import Derived.Test.YtpkpoglmmjaoeaaGreatDoorDi
import Derived.Lib.SplitLaws
import Derived.Lib.CountLaws
namespace Go.Proofs.YtpkpoglmmjaoeaaGreatDoor
open Go.RowKit Go.Shelf

namespace Sp
theorem splitK_at (c : UInt8) : ∀ (n : Nat) (l : List UInt8), l.length ≤ n → Lib.splitK [c] 0 (Lib.count l [c]) l = splitC c l
  | 0, l, h => by
    obtain rfl : l = [] := List.eq_nil_of_length_eq_zero (by omega)
    rfl
  | n + 1, l, h => by
    have hge := Lib.indexByte_ge l c
    have h1 := Lib.index_one l c
    by_cases hm : Lib.indexByte l c = -1
    · rw [Lib.count_miss (h1.trans hm), split_none c l hm]; rfl
    · obtain ⟨o, ho⟩ : ∃ o : Nat, Lib.indexByte l c = o := ⟨(Lib.indexByte l c).toNat, by omega⟩
      obtain ⟨hlt, hs⟩ := split_at c l o ho
      rw [Lib.count_hit (by simp) (h1.trans ho), hs, Nat.add_comm 1, Lib.splitK]
      rw [if_neg (by rw [h1, ho]; simp), h1, ho]
      have e : ((o : Int)).toNat = o := by omega
      rw [e]
      congr 1
      exact splitK_at c n _ (by rw [List.length_drop]; simp only [List.length_singleton]; omega)
theorem splitB_at (c : UInt8) (s : ByteArray) : (Lib.splitB ⟨#[c]⟩ 0 (Lib.countB s ⟨#[c]⟩) s).map (fun x => x.data.toList) = splitC c s.data.toList := by
  rw [Lib.splitB_data]
  exact splitK_at c _ s.data.toList (Nat.le_refl _)
end Sp
def strsC (xs : List ByteArray) : List Value := xs.map Value.string
theorem strsC_len (xs : List ByteArray) : (strsC xs).length = xs.length := by simp [strsC]
theorem split_any (s : ByteArray) (c : UInt8) (w : World) (hs : s.size ≤ 1048576) (E : Env w) :
    Calls Tryz.prog 22 #[.string s, .string ⟨#[c]⟩] w fun e w' => (∃ A xs, (xs.map fun x => x.data.toList) = Sp.splitC c s.data.toList ∧ (e = .returned (.slice A xs.length xs.length) ∧ Rd w' w'.heap.size 1 A xs.length (strsC xs)) ∧ xs.length ≤ 1048577) ∧ Below w.heap.size w w' := by
  obtain ⟨m, hm⟩ := E.here.max
  refine (Tryz.strings_Split s ⟨#[c]⟩ m w (by omega) hm (by simp [ByteArray.size])).mono ?_
  rintro e w' ⟨rfl, rfl⟩
  have hl := Lib.splitB_all ⟨#[c]⟩ (by simp [ByteArray.size]) 0 _ s rfl
  have hS := Sp.splitB_at c s
  have hn := Sp.split_most c s.data.toList
  rw [← hS, List.length_map] at hn
  have hz := bytes_size s
  generalize Lib.countB s ⟨#[c]⟩ = n at *
  generalize Lib.splitB ⟨#[c]⟩ 0 n s = L at *
  refine ⟨⟨some ⟨w.heap.size, 0, none⟩, L, hS, ⟨by rw [hl], ⟨by simp [strsC], fun _ => ⟨_, rfl, by simp, ?_⟩⟩⟩, by omega⟩, (Below.refl _ _).alloc (Nat.le_refl _) _⟩
  intro j u hu
  have hx : ((L.map Value.string).toArray)[j]? = some u := by rw [List.getElem?_toArray]; exact hu
  by_cases hj : j = 0
  · subst hj; simpa [Addr.add] using hx
  · simpa [Addr.add, hj] using hx
theorem toL_eq (s : ByteArray) (l : List UInt8) : (s.toList == l) = decide (s.data.toList = l) := by
  rw [Lib.toList_data, Bool.eq_iff_iff]; simp
theorem named_any (s N : ByteArray) (w : World) (hN : N.data.toList = Sp.namedL s.data.toList) :
    Calls Tryz.prog 23 #[.string s] w fun e w' => e = .returned (.string N) ∧ w' = w := by
  cases h0 : (s.toList == [109, 105, 110, 117, 116, 101, 108, 121]) with
  | true =>
    have hl : s.data.toList = [109, 105, 110, 117, 116, 101, 108, 121] := by rw [toL_eq] at h0; exact of_decide_eq_true h0
    have e : N = ⟨#[42, 45, 42, 45, 42, 32, 42, 58, 42, 58, 48, 48]⟩ := WideShapes.bytes_inj (by rw [hN, hl]; decide)
    rw [e]
    clear hN e hl
    go_enter Tryz.func23, Tryz.ntmps23
    go_wp2
    go_ret
    exact ⟨rfl, rfl⟩
  | false =>
    cases h1 : (s.toList == [104, 111, 117, 114, 108, 121]) with
    | true =>
      have hl : s.data.toList = [104, 111, 117, 114, 108, 121] := by rw [toL_eq] at h1; exact of_decide_eq_true h1
      have e : N = ⟨#[42, 45, 42, 45, 42, 32, 42, 58, 48, 48, 58, 48, 48]⟩ := WideShapes.bytes_inj (by rw [hN, hl]; decide)
      rw [e]
      clear hN e hl
      go_enter Tryz.func23, Tryz.ntmps23
      go_wp2
      go_ret
      exact ⟨rfl, rfl⟩
    | false =>
      cases h2 : (s.toList == [100, 97, 105, 108, 121]) with
      | true =>
        have hl : s.data.toList = [100, 97, 105, 108, 121] := by rw [toL_eq] at h2; exact of_decide_eq_true h2
        have e : N = ⟨#[42, 45, 42, 45, 42, 32, 48, 48, 58, 48, 48, 58, 48, 48]⟩ := WideShapes.bytes_inj (by rw [hN, hl]; decide)
        rw [e]
        clear hN e hl
        go_enter Tryz.func23, Tryz.ntmps23
        go_wp2
        go_ret
        exact ⟨rfl, rfl⟩
      | false =>
        cases h3 : (s.toList == [119, 101, 101, 107, 108, 121]) with
        | true =>
          have hl : s.data.toList = [119, 101, 101, 107, 108, 121] := by rw [toL_eq] at h3; exact of_decide_eq_true h3
          have e : N = ⟨#[77, 111, 110, 32, 42, 45, 42, 45, 42, 32, 48, 48, 58, 48, 48, 58, 48, 48]⟩ := WideShapes.bytes_inj (by rw [hN, hl]; decide)
          rw [e]
          clear hN e hl
          go_enter Tryz.func23, Tryz.ntmps23
          go_wp2
          go_ret
          exact ⟨rfl, rfl⟩
        | false =>
          cases h4 : (s.toList == [109, 111, 110, 116, 104, 108, 121]) with
          | true =>
            have hl : s.data.toList = [109, 111, 110, 116, 104, 108, 121] := by rw [toL_eq] at h4; exact of_decide_eq_true h4
            have e : N = ⟨#[42, 45, 42, 45, 48, 49, 32, 48, 48, 58, 48, 48, 58, 48, 48]⟩ := WideShapes.bytes_inj (by rw [hN, hl]; decide)
            rw [e]
            clear hN e hl
            go_enter Tryz.func23, Tryz.ntmps23
            go_wp2
            go_ret
            exact ⟨rfl, rfl⟩
          | false =>
            cases h5 : (s.toList == [121, 101, 97, 114, 108, 121]) with
            | true =>
              have hl : s.data.toList = [121, 101, 97, 114, 108, 121] := by rw [toL_eq] at h5; exact of_decide_eq_true h5
              have e : N = ⟨#[42, 45, 48, 49, 45, 48, 49, 32, 48, 48, 58, 48, 48, 58, 48, 48]⟩ := WideShapes.bytes_inj (by rw [hN, hl]; decide)
              rw [e]
              clear hN e hl
              go_enter Tryz.func23, Tryz.ntmps23
              go_wp2
              go_ret
              exact ⟨rfl, rfl⟩
            | false =>
              have e : N = s := WideShapes.bytes_inj (by
                rw [hN]
                unfold Sp.namedL
                rw [if_neg (fun e => by rw [toL_eq] at h0; exact of_decide_eq_false h0 e)]
                rw [if_neg (fun e => by rw [toL_eq] at h1; exact of_decide_eq_false h1 e)]
                rw [if_neg (fun e => by rw [toL_eq] at h2; exact of_decide_eq_false h2 e)]
                rw [if_neg (fun e => by rw [toL_eq] at h3; exact of_decide_eq_false h3 e)]
                rw [if_neg (fun e => by rw [toL_eq] at h4; exact of_decide_eq_false h4 e)]
                rw [if_neg (fun e => by rw [toL_eq] at h5; exact of_decide_eq_false h5 e)])
              rw [e]
              clear hN e
              go_enter Tryz.func23, Tryz.ntmps23
              go_wp2
              go_ret
              exact ⟨rfl, rfl⟩
theorem has1_index (c : UInt8) (l : List UInt8) : decide (0 ≤ Lib.indexByte l c) = Sp.has1 c l := by
  have hge := Lib.indexByte_ge l c
  unfold Sp.has1
  by_cases h : Lib.indexByte l c = -1
  · have h1 : ∀ x ∈ l, x ≠ c := fun x hx e => by
      obtain ⟨k, hk⟩ := List.mem_iff_getElem?.1 hx
      exact Lib.indexByte_none h k (by rw [hk, e])
    rw [decide_eq_false (by omega)]
    refine Eq.symm (List.any_eq_false.2 ?_)
    intro x hx
    simpa using h1 x hx
  · obtain ⟨o, ho⟩ : ∃ o : Nat, Lib.indexByte l c = o := ⟨(Lib.indexByte l c).toNat, by omega⟩
    obtain ⟨h1, _⟩ := Lib.indexByte_some ho
    obtain ⟨hlt, he⟩ := List.getElem?_eq_some_iff.1 h1
    rw [decide_eq_true (by omega)]
    refine Eq.symm (List.any_eq_true.2 ?_)
    exact ⟨c, by rw [← he]; exact List.getElem_mem hlt, by simp⟩
/-- what take asks of a word -/
def Asks (g : FuncId) (f : List UInt8 → Bool) : Prop := ∀ (x : ByteArray) (w : World), Calls Tryz.prog g #[.string x] w fun e w' => e = .returned (.bool (f x.data.toList)) ∧ w = w'
theorem asks_day : Asks 25 Sp.headLet := by
  intro x w
  cases he : x.toList.isEmpty with
  | true =>
    have hx : x.data.toList = [] := by rw [Lib.toList_data] at he; simpa using he
    rw [hx]
    have hz : x.size = 0 := by rw [← bytes_size, hx]; rfl
    show Calls _ _ _ _ fun e w' => e = .returned (.bool false) ∧ w = w'
    clear hx
    go_enter Tryz.func25, Tryz.ntmps25
    go_wp2
    go_ret
    exact ⟨rfl, rfl⟩
  | false =>
    have hx : x.data.toList ≠ [] := by rw [Lib.toList_data] at he; simpa using he
    have hz : 0 < x.size := by rw [← bytes_size]; exact List.length_pos_iff.2 hx
    have hf : Sp.headLet x.data.toList = Sp.letC x[0] := by
      have e : x.data.toList = x[0] :: x.data.toList.drop 1 := by
        have h1 : 0 < x.data.toList.length := by rw [bytes_size]; exact hz
        have h2 := List.drop_eq_getElem_cons h1
        exact h2
      rw [e]; rfl
    rw [hf]
    have HL := Lib.hid (letter_any x[0] w)
    generalize Sp.letC x[0] = b at *
    clear hf hx
    go_enter Tryz.func25, Tryz.ntmps25
    go_wp2_with fail
    refine HL.out.mono ?_
    rintro e w' ⟨rfl, rfl⟩
    go_wp2
    all_goals
      go_ret
      exact ⟨rfl, rfl⟩
theorem asks_2 : Asks 28 (Sp.has1 45) := by
  intro x w
  have HC := Lib.hid (Tryz.strings_Contains_one x 45 w)
  rw [has1_index] at HC
  generalize Sp.has1 45 x.data.toList = b at *
  go_enter Tryz.func28, Tryz.ntmps28
  go_wp2_with fail
  refine HC.out.mono ?_
  rintro e w' ⟨rfl, rfl⟩
  go_wp2
  go_ret
  exact ⟨rfl, rfl⟩
theorem asks_3 : Asks 30 (Sp.has1 58) := by
  intro x w
  have HC := Lib.hid (Tryz.strings_Contains_one x 58 w)
  rw [has1_index] at HC
  generalize Sp.has1 58 x.data.toList = b at *
  go_enter Tryz.func30, Tryz.ntmps30
  go_wp2_with fail
  refine HC.out.mono ?_
  rintro e w' ⟨rfl, rfl⟩
  go_wp2
  go_ret
  exact ⟨rfl, rfl⟩
theorem take_none (g : FuncId) (A : Option Addr) (w : World) :
    Calls Tryz.prog 24 #[.slice A 0 0, .func (.func g) #[] #[]] w fun e w' => e = .returned (.tuple #[.string ⟨#[]⟩, .slice A 0 0, .bool false]) ∧ w' = w := by
  go_enter Tryz.func24, Tryz.ntmps24
  go_wp2
  go_ret3
  exact ⟨rfl, rfl⟩
theorem take_not (g : FuncId) (f : List UInt8 → Bool) (hg : Asks g f) (eg : ∀ args w, (callFunc g args).run Tryz.prog w = .ok (.enter g args) w) (ad : Addr) (n : Nat) (x : ByteArray) (w : World) (hn : 0 < n) (hc : w.cell? ad = some (.string x)) (hf : f x.data.toList = false) :
    Calls Tryz.prog 24 #[.slice (some ad) n n, .func (.func g) #[] #[]] w fun e w' => e = .returned (.tuple #[.string ⟨#[]⟩, .slice (some ad) n n, .bool false]) ∧ w' = w := by
  have HG := Lib.hid (hg x w)
  rw [hf] at HG
  clear hg hf
  have hn0 : ((n : Int) == 0) = false := by simp; omega
  have hc0 : w.cell? (ad.add 0) = some (.string x) := by rw [show ad.add 0 = ad by simp [Addr.add]]; exact hc
  go_enter Tryz.func24, Tryz.ntmps24
  go_wp2_with (go_at_fn g; refine HG.out.mono ?_; rintro e w2 ⟨rfl, rfl⟩)
  go_ret3
  exact ⟨rfl, rfl⟩
def dropA (ad : Addr) (n : Nat) : Option Addr := if n = 0 then some ad else some (ad.add 1)
theorem take_yes (g : FuncId) (f : List UInt8 → Bool) (hg : Asks g f) (eg : ∀ args w, (callFunc g args).run Tryz.prog w = .ok (.enter g args) w) (ad : Addr) (n : Nat) (x : ByteArray) (w : World) (hc : w.cell? ad = some (.string x)) (hf : f x.data.toList = true) :
    Calls Tryz.prog 24 #[.slice (some ad) (n + 1) (n + 1), .func (.func g) #[] #[]] w fun e w' => e = .returned (.tuple #[.string x, .slice (dropA ad n) n n, .bool true]) ∧ ∃ k, w' = w.drewN k := by
  have HG := Lib.hid (hg x w)
  rw [hf] at HG
  clear hg hf
  have hc0 : w.cell? (ad.add 0) = some (.string x) := by rw [show ad.add 0 = ad by simp [Addr.add]]; exact hc
  cases n with
  | zero =>
    go_enter Tryz.func24, Tryz.ntmps24
    go_wp2_with (go_at_fn g; refine HG.out.mono ?_; rintro e w2 ⟨rfl, rfl⟩)
    go_quiet (fail)
    go_wp2
    go_ret3
    exact ⟨rfl, _, rfl⟩
  | succ m =>
    have hn0 : (((m + 1 + 1 : Nat) : Int) == 0) = false := by simp; omega
    go_enter Tryz.func24, Tryz.ntmps24
    go_wp2_with (go_at_fn g; refine HG.out.mono ?_; rintro e w2 ⟨rfl, rfl⟩)
    go_quiet (fail)
    go_wp2
    go_ret3
    exact ⟨rfl, _, rfl⟩

end Go.Proofs.YtpkpoglmmjaoeaaGreatDoor
