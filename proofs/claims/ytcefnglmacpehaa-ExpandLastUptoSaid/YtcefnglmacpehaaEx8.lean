/-
  The walks of the reference's braces and of whether two rows are alike.
-/
import Derived.Test.YtcefnglmacpehaaEx7
namespace Go.Proofs.Ytcefnglmacpehaa
open Go.RowKit

namespace Sp
/-- the name that stands between braces at the beginning -/
def bracedL (l : List UInt8) : List UInt8 :=
  match l with
  | 123 :: r => if (cutBr r).2.2 && varL (cutBr r).1 then (cutBr r).1 else []
  | _ => []
theorem bracedL_no (l : List UInt8) (h : ∀ c ∈ l, c ≠ 125) : bracedL l = [] := by
  match l with
  | [] => rfl
  | c :: r =>
    by_cases hc : c = 123
    · subst hc
      have := cutBr_miss r (fun d hd => h d (by simp [hd]))
      simp [bracedL, this]
    · unfold bracedL
      split
      · rename_i hh; simp at hh; exact absurd hh.1 hc
      · rfl
theorem bracedL_other (s : ByteArray) (h0 : 0 < s.size) (h : (s[0].toNat : Int) ≠ 123) : bracedL s.data.toList = [] := by
  have hc : s.data.toList = s[0] :: s.data.toList.drop 1 := by
    rw [← List.drop_zero (l := s.data.toList), List.drop_eq_getElem_cons (by simpa using h0)]
    simp [ByteArray.getElem_eq_getElem_data]
  rw [hc]
  unfold bracedL
  split
  · rename_i hh
    simp at hh
    exact absurd (by rw [hh.1]; rfl) h
  · rfl
theorem bracedL_hit (s : ByteArray) (i : Nat) (hi : i < s.size) (h1 : 1 ≤ i) (h : (s[0].toNat : Int) = 123) (hl : s.data.toList = s.data.toList.take i ++ 125 :: s.data.toList.drop (i + 1)) (hn : ∀ x ∈ s.data.toList.take i, x ≠ 125) :
    bracedL s.data.toList = if varL (s.extract 1 i).data.toList then (s.extract 1 i).data.toList else [] := by
  have hc : s.data.toList.take i = 123 :: (s.data.toList.drop 1).take (i - 1) := by
    have h0 : s[0] = 123 := UInt8.toNat_inj.1 (by simpa using (by omega : s[0].toNat = 123))
    have : s.data.toList = s[0] :: s.data.toList.drop 1 := by
      rw [← List.drop_zero (l := s.data.toList), List.drop_eq_getElem_cons (by simp; omega)]
      simp [ByteArray.getElem_eq_getElem_data]
    conv => lhs; rw [this, h0]
    rw [show i = (i - 1) + 1 from by omega]
    simp
  have he : (s.extract 1 i).data.toList = (s.data.toList.drop 1).take (i - 1) := by rw [Lib.extract_data]
  rw [he]
  have hn2 : ∀ x ∈ (s.data.toList.drop 1).take (i - 1), x ≠ 125 := fun x hx => hn x (by rw [hc]; exact List.mem_cons_of_mem _ hx)
  conv => lhs; rw [hl, hc]
  simp only [List.cons_append, bracedL]
  rw [cutBr_hit _ _ hn2]
  simp
end Sp

set_option maxHeartbeats 400000 in
theorem rbraced_any (s : ByteArray) (w : World) (hs : s.size ≤ 281474976710656) :
    Calls Try.prog 30 #[.string s] w fun e w' => e = .returned (.string ⟨(Sp.bracedL s.data.toList).toArray⟩) ∧ w = w' := by
  rcases Sp.index_spec s.data.toList 125 with ⟨_, hn⟩ | ⟨i, _, hi, hl, hn⟩
  · rw [Sp.bracedL_no _ hn]
    have HN : Hid (∀ k, ∀ h : k < s.size, ((s[k].toNat : Int) == 125) = false) := Lib.hid (by
      intro k h
      have := hn s[k] (by simp [ByteArray.getElem_eq_getElem_data])
      simp; intro hh
      exact this (UInt8.toNat_inj.1 (by simpa using (by omega : s[k].toNat = 125))))
    clear hn
    go_enter Try.func30, Try.ntmps30
    go_wp2_with fail
    go_loop [3] (fun v => ∃ k : Nat, k ≤ s.size ∧ v = .int .i64 k) (fun v => s.size - (intOf v).toNat)
    case atStart => exact ⟨0, Nat.zero_le _, rfl⟩
    case round =>
      obtain ⟨k, hk, rfl⟩ := hrel
      by_cases hlt : k < s.size
      · have hb := HN.out k hlt
        go_wp2
        go_round
        case rel => exact ⟨k + 1, by omega, by go_num⟩
        case measure => simp [intOf]; omega
      · go_wp2
        go_ret
        exact ⟨rfl, rfl⟩
  · have hi2 : i < s.size := by simpa using hi
    have HN : Hid (∀ k, ∀ h : k < s.size, k < i → ((s[k].toNat : Int) == 125) = false) := Lib.hid (by
      intro k h hki
      have := hn s[k] (by
        rw [List.mem_iff_getElem]
        exact ⟨k, by simp; omega, by simp [ByteArray.getElem_eq_getElem_data]⟩)
      simp; intro hh
      exact this (UInt8.toNat_inj.1 (by simpa using (by omega : s[k].toNat = 125))))
    have HI : Hid (((s[i].toNat : Int) == 125) = true) := Lib.hid (by
      have : s[i] = 125 := by
        have h3 := congrArg (fun l => l[i]?) hl
        simp only [List.getElem?_append_right (by simp; omega : (s.data.toList.take i).length ≤ i)] at h3
        simp [Nat.min_eq_left (Nat.le_of_lt hi2)] at h3
        simp [ByteArray.getElem_eq_getElem_data] at h3 ⊢
        rw [Array.getElem?_eq_getElem (by exact hi2)] at h3
        simpa using h3
      rw [this]; rfl)
    have HB : Hid (∀ h0 : 0 < s.size, (s[0].toNat : Int) = 123 → 1 ≤ i → Sp.bracedL s.data.toList = if Sp.varL (s.extract 1 i).data.toList then (s.extract 1 i).data.toList else []) :=
      Lib.hid (fun h0 h1 h2 => Sp.bracedL_hit s i hi2 h2 h1 hl hn)
    have HO : Hid (∀ h0 : 0 < s.size, ((s[0].toNat : Int) ≠ 123 ∨ i = 0) → Sp.bracedL s.data.toList = []) := Lib.hid (by
      intro h0 h1
      rcases h1 with h1 | h1
      · exact Sp.bracedL_other s h0 h1
      · subst h1
        refine Sp.bracedL_other s h0 ?_
        have := HI.out
        simp at this; omega)
    clear hl hn hi
    go_enter Try.func30, Try.ntmps30
    go_wp2_with fail
    go_loop [3] (fun v => ∃ k : Nat, k ≤ i ∧ v = .int .i64 k) (fun v => s.size - (intOf v).toNat)
    case atStart => exact ⟨0, Nat.zero_le _, rfl⟩
    case round =>
      obtain ⟨k, hk, rfl⟩ := hrel
      have hlt : k < s.size := by omega
      by_cases hki : k < i
      · have hb := HN.out k hlt hki
        go_wp2
        go_round
        case rel => exact ⟨k + 1, by omega, by go_num⟩
        case measure => simp [intOf]; omega
      · obtain rfl : k = i := by omega
        have hb := HI.out
        have h0 : 0 < s.size := by omega
        have h0i : (0 : Int) < (s.size : Int) := by omega
        by_cases h1 : 1 < s.size
        · have h1i : 1 < (s.size : Int) := by omega
          by_cases h2 : (s[0].toNat : Int) = 123
          · have h2b : ((s[0].toNat : Int) == 123) = true := by simpa using h2
            have hk1 : 1 ≤ k := by
              rcases Nat.eq_zero_or_pos k with h | h
              · subst h; simp at hb; omega
              · exact h
            have hk1i : (1 : Int) ≤ (k : Int) := by omega
            have hk2i : (k : Int) ≤ (s.size : Int) := by omega
            have hbb := HB.out h0 h2 hk1
            cases hv : Sp.varL (s.extract 1 k).data.toList with
            | true =>
              have HV := Lib.hid hv
              have HBB : Hid (Sp.bracedL s.data.toList = (s.extract 1 k).data.toList) := Lib.hid (by rw [hbb, hv]; rfl)
              clear hbb hv h2
              go_wp2_with (go_at_call 15; refine (rvarName_any _ _ (by simp; omega)).mono ?_; rintro e w' ⟨rfl, rfl⟩; rw [HV.out])
              go_ret
              exact ⟨ret_str (by rw [HBB.out]), rfl⟩
            | false =>
              have HV := Lib.hid hv
              have HBB : Hid (Sp.bracedL s.data.toList = []) := Lib.hid (by rw [hbb, hv]; rfl)
              clear hbb hv h2
              go_wp2_with (go_at_call 15; refine (rvarName_any _ _ (by simp; omega)).mono ?_; rintro e w' ⟨rfl, rfl⟩; rw [HV.out])
              go_ret
              exact ⟨ret_str (by rw [HBB.out]), rfl⟩
          · have h2b : ((s[0].toNat : Int) == 123) = false := by simpa using h2
            have HBB : Hid (Sp.bracedL s.data.toList = []) := Lib.hid (HO.out h0 (.inl h2))
            clear h2
            go_wp2
            go_ret
            exact ⟨ret_str (by rw [HBB.out]), rfl⟩
        · have h1i : ¬ 1 < (s.size : Int) := by omega
          have HBB : Hid (Sp.bracedL s.data.toList = []) := Lib.hid (HO.out h0 (.inr (by omega)))
          go_wp2
          go_ret
          exact ⟨ret_str (by rw [HBB.out]), rfl⟩

/-- two rows of texts are alike -/
def sameB (a b : List ByteArray) : Bool := decide (a.map (fun x => x.data.toList) = b.map (fun x => x.data.toList))

set_option maxHeartbeats 1000000 in
theorem rsame_any (A1 A2 : Option Addr) (n1 n2 c1 c2 B : Nat) (a b : List ByteArray) (w : World) (h1 : Rd w B 1 A1 n1 (strCells a)) (h2 : Rd w B 1 A2 n2 (strCells b)) (hn1 : n1 ≤ 140737488355328) (hn2 : n2 ≤ 140737488355328) :
    Calls Try.prog 11 #[.slice A1 n1 c1, .slice A2 n2 c2] w fun e w' => e = .returned (.bool (sameB a b)) ∧ ∃ n, w' = w.drewN n := by
  have la : a.length = n1 := by have := h1.len; simpa [strCells] using this
  have lb : b.length = n2 := by have := h2.len; simpa [strCells] using this
  by_cases hne : n1 = n2
  · subst hne
    have hq : ((n1 : Int) != (n1 : Int)) = false := by simp
    go_enter Try.func11, Try.ntmps11
    go_wp2_with fail
    go_loopw [13] (fun v wr => ∃ k q : Nat, k ≤ n1 ∧ v = .int .i64 k ∧ wr = w.drewN q ∧ Hid ((a.take k).map (fun x => x.data.toList) = (b.take k).map (fun x => x.data.toList))) (fun v _ => n1 - (intOf v).toNat)
    case atStart => exact ⟨0, 0, Nat.zero_le _, rfl, rfl, Lib.hid (by simp)⟩
    case round =>
      obtain ⟨k, q, hk, rfl, rfl, HE⟩ := hrel
      by_cases hlt : k < n1
      · obtain ⟨ad1, rfl, _, hc1⟩ := h1.here (by omega)
        obtain ⟨ad2, rfl, _, hc2⟩ := h2.here (by omega)
        have e1 := hc1 k (.string (a[k]'(by omega))) (by simp [strCells, la, hlt])
        have e2 := hc2 k (.string (b[k]'(by omega))) (by simp [strCells, lb, hlt])
        have x1 : (0 : Int) ≤ (k : Int) := by omega
        have x2 : (k : Int) < (n1 : Int) := by omega
        have ta : a.take (k + 1) = a.take k ++ [a[k]'(by omega)] := List.take_succ_eq_append_getElem (by omega)
        have tb : b.take (k + 1) = b.take k ++ [b[k]'(by omega)] := List.take_succ_eq_append_getElem (by omega)
        have hd : (a[k]'(by omega)).data.toList ≠ (b[k]'(by omega)).data.toList → sameB a b = false := by
          intro hx
          unfold sameB
          simp only [decide_eq_false_iff_not]
          intro hh
          have h5 := congrArg (fun l => l[k]?) hh
          simp only [List.getElem?_map] at h5
          rw [List.getElem?_eq_getElem (by omega), List.getElem?_eq_getElem (by omega)] at h5
          simp only [Option.map_some, Option.some.injEq] at h5
          exact hx h5
        generalize a[k]'(by omega) = ak at *
        generalize b[k]'(by omega) = bk at *
        by_cases he : ak.data.toList = bk.data.toList
        · have heb : (ak.toList == bk.toList) = true := by rw [Lib.toList_data, Lib.toList_data, he]; simp
          have HS : Hid ((a.take (k + 1)).map (fun x => x.data.toList) = (b.take (k + 1)).map (fun x => x.data.toList)) := Lib.hid (by rw [ta, tb, List.map_append, List.map_append, HE.out]; simp only [List.map_cons, List.map_nil, he])
          clear he ta tb hd
          go_wp2_with fail
          go_region
          go_wp2
          go_roundw
          case rel => exact ⟨k + 1, _, by omega, by go_num, rfl, HS⟩
          case measure => simp [intOf]; omega
        · have heb : (ak.toList == bk.toList) = false := by rw [Lib.toList_data, Lib.toList_data]; exact beq_eq_false_iff_ne.2 he
          have HS : Hid (sameB a b = false) := Lib.hid (hd he)
          clear he ta tb hd
          go_wp2_with fail
          go_region
          go_wp2
          go_ret
          exact ⟨ret_bool HS.out.symm, _, rfl⟩
      · go_wp2
        go_ret
        refine ⟨ret_bool ?_, q, rfl⟩
        have := HE.out
        rw [List.take_of_length_le (by omega), List.take_of_length_le (by omega)] at this
        simp [sameB, this]
  · have hq : ((n1 : Int) != (n2 : Int)) = true := by simp; omega
    have e : sameB a b = false := by
      unfold sameB
      simp only [decide_eq_false_iff_not]
      intro hh
      have := congrArg List.length hh
      simp at this; omega
    rw [e]
    go_enter Try.func11, Try.ntmps11
    go_wp2
    go_ret
    exact ⟨rfl, 0, rfl⟩

end Go.Proofs.Ytcefnglmacpehaa
