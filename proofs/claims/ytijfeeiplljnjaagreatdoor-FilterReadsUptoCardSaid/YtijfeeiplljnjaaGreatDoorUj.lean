/-
  Words are put together as a command: the program's walks.
-/
import Derived.Test.YtijfeeiplljnjaaGreatDoorUi
import Derived.Test.YtijfeeiplljnjaaGreatDoorRb
namespace Go.Proofs.YtijfeeiplljnjaaGreatDoor
open Go.RowKit

namespace Sp
theorem joinS_eq : ∀ ws : List (List UInt8), Lib.join (ws.map wordW) [32] = joinS ws
  | [] => rfl
  | [x] => by simp [Lib.join, joinS, List.intercalate]
  | x :: y :: r => by
    have ih := joinS_eq (y :: r)
    unfold Lib.join at ih ⊢
    rw [joinS, ← ih]
    simp [List.intercalate]
theorem quoteC_len (c : UInt8) : (quoteC c).length ≤ 4 := by
  unfold quoteC byteL
  split
  · simp
  · split <;> simp
theorem quotes_len : ∀ l : List UInt8, (l.flatMap quoteC).length ≤ 4 * l.length
  | [] => by simp
  | c :: r => by
    have h1 := quoteC_len c
    have h2 := quotes_len r
    rw [List.flatMap_cons, List.length_append, List.length_cons]; omega
theorem wordW_len (w : List UInt8) : (wordW w).length ≤ 4 * w.length + 2 := by
  unfold wordW quoteW
  have := quotes_len w
  split
  · omega
  · simp only [List.length_cons, List.length_append, List.length_nil]; omega
theorem joinS_len (m : Nat) : ∀ ws : List (List UInt8), (∀ w ∈ ws, w.length ≤ m) → (joinS ws).length ≤ ws.length * (4 * m + 3)
  | [], _ => by simp [joinS]
  | [x], h => by
    have := h x (by simp)
    have := wordW_len x
    simp only [joinS, List.length_singleton]; omega
  | x :: y :: r, h => by
    have ih := joinS_len m (y :: r) (fun z hz => h z (by simp [hz]))
    have h1 := h x (by simp)
    have h2 := wordW_len x
    rw [joinS, List.length_append, List.length_cons, List.length_cons, Nat.add_mul]
    simp only [List.length_cons] at ih ⊢
    omega
def allP (l : List UInt8) : Bool := l.all plainC
theorem allP_next (s : ByteArray) (k : Nat) (h : k < s.size) : allP (s.data.toList.take (k + 1)) = (allP (s.data.toList.take k) && plainC s[k]) := all_take_succ _ s k h
theorem allP_false (s : ByteArray) (k : Nat) (h : k < s.size) (hb : plainC s[k] = false) : allP s.data.toList = false := all_false _ s k h hb
theorem zero_index (l : List UInt8) : decide (0 ≤ Lib.indexByte l 0) = hasZero l := by
  have hge := Lib.indexByte_ge l 0
  unfold hasZero
  by_cases h : Lib.indexByte l 0 = -1
  · have h1 : ∀ x ∈ l, x ≠ 0 := fun x hx e => by
      obtain ⟨k, hk⟩ := List.mem_iff_getElem?.1 hx
      exact Lib.indexByte_none h k (by rw [hk, e])
    rw [decide_eq_false (by omega)]
    refine Eq.symm (List.any_eq_false.2 ?_)
    intro x hx
    simpa using h1 x hx
  · obtain ⟨o, ho⟩ : ∃ o : Nat, Lib.indexByte l 0 = o := ⟨(Lib.indexByte l 0).toNat, by omega⟩
    obtain ⟨h1, _⟩ := Lib.indexByte_some ho
    obtain ⟨hlt, he⟩ := List.getElem?_eq_some_iff.1 h1
    rw [decide_eq_true (by omega)]
    refine Eq.symm (List.any_eq_true.2 ?_)
    exact ⟨0, by rw [← he]; exact List.getElem_mem hlt, by simp⟩
end Sp

set_option maxHeartbeats 1000000 in
set_option maxRecDepth 100000 in
theorem plainC_any (c : UInt8) (b : Bool) (hb : Sp.plainC c = b) (w : World) :
    Calls Tryz.prog 81 #[.int .u8 c.toNat] w fun e w' => e = .returned (.bool b) ∧ w' = w := by
  have h1 : decide ((32 : Int) < (c.toNat : Int)) = decide (32 < c.toNat) := decide_eq_decide.2 (by omega)
  have h2 : decide ((c.toNat : Int) < 127) = decide (c.toNat < 127) := decide_eq_decide.2 (by omega)
  have HB : Hid ((decide ((32 : Int) < (c.toNat : Int)) && decide ((c.toNat : Int) < 127) && !((c.toNat : Int) == 39) && !((c.toNat : Int) == 34) && !((c.toNat : Int) == 92)) = b) := Lib.hid (by
    rw [← hb, show ((c.toNat : Int) == 39) = decide (c = 39) from byte_is c 39, show ((c.toNat : Int) == 34) = decide (c = 34) from byte_is c 34, show ((c.toNat : Int) == 92) = decide (c = 92) from byte_is c 92, h1, h2]; rfl)
  clear h1 h2 hb
  go_enter Tryz.func81, Tryz.ntmps81
  go_wp2
  all_goals
    go_ret
    exact ⟨ret_bool (by rw [← HB.out, Bool.eq_iff_iff]; simp; try omega), rfl⟩

set_option maxHeartbeats 1000000 in
theorem allp_any (s : ByteArray) (b : Bool) (hb : Sp.allP s.data.toList = b) (w : World) (hs : s.size ≤ 140737488355328) :
    Calls Tryz.prog 80 #[.string s, .func (.func 81) #[] #[]] w fun e w' => e = .returned (.bool b) ∧ w' = w := by
  have hz : s.data.toList.length = s.size := by simp
  have HF := Lib.hid (Sp.allP_false s)
  have HT := Lib.hid (Sp.allP_next s)
  have HE : Hid (s.data.toList.take s.size = s.data.toList) := Lib.hid (List.take_of_length_le (by omega))
  have HB := Lib.hid hb
  clear hb
  go_enter Tryz.func80, Tryz.ntmps80
  go_wp2_with fail
  go_loop [8] (fun i => ∃ k : Nat, k ≤ s.size ∧ i = .int .i64 k ∧ Hid (Sp.allP (s.data.toList.take k) = true)) (fun i => s.size - (intOf i).toNat)
  case atStart => exact ⟨0, Nat.zero_le _, rfl, Lib.hid rfl⟩
  case round =>
    obtain ⟨k, hk, rfl, HA⟩ := hrel
    by_cases hlt : k < s.size
    · cases hc : Sp.plainC s[k] with
      | false =>
        have HR := Lib.hid (HF.out k hlt hc)
        have HD := Lib.hid (plainC_any s[k] false hc w)
        go_wp2_with (go_at_call 81; refine HD.out.mono ?_; rintro e w' ⟨rfl, rfl⟩)
        go_ret
        exact ⟨ret_bool (by rw [← HB.out, HR.out]), rfl⟩
      | true =>
        have HR := Lib.hid (HT.out k hlt)
        have HD := Lib.hid (plainC_any s[k] true hc w)
        rw [hc] at HR
        go_wp2_with (go_at_call 81; refine HD.out.mono ?_; rintro e w' ⟨rfl, rfl⟩)
        go_round
        case rel => exact ⟨k + 1, by omega, by go_num, Lib.hid (by rw [HR.out, HA.out]; rfl)⟩
        case measure => simp [intOf]; omega
    · obtain rfl : k = s.size := by omega
      have HR := Lib.hid HE.out
      go_wp2
      go_ret
      exact ⟨ret_bool (by rw [← HB.out, ← HR.out]; exact HA.out.symm), rfl⟩

theorem plainW_any (s : ByteArray) (b : Bool) (hb : Sp.plainW s.data.toList = b) (w : World) (hs : s.size ≤ 140737488355328) :
    Calls Tryz.prog 58 #[.string s] w fun e w' => e = .returned (.bool b) ∧ w' = w := by
  match hl : s.data.toList with
  | [] =>
    have he : s.toList.isEmpty = true := by rw [Lib.toList_data, hl]; rfl
    rw [hl] at hb
    have e : b = false := by rw [← hb]; rfl
    subst e
    clear hb hl
    go_enter Tryz.func58, Tryz.ntmps58
    go_wp2
    go_ret
    exact ⟨rfl, rfl⟩
  | c :: r =>
    have he : s.toList.isEmpty = false := by rw [Lib.toList_data, hl]; rfl
    obtain ⟨h0, hc0⟩ := head_of s c r hl
    have hi0 : (0 : Int) < (s.size : Int) := by omega
    have hp : Sp.plainW s.data.toList = (!decide (c = 45) && Sp.allP s.data.toList) := by
      rw [hl]; unfold Sp.plainW Sp.allP
      have : decide ((c :: r).head? = some 45) = decide (c = 45) := by simp
      rw [this]; rfl
    rw [hp] at hb
    by_cases h45 : c = 45
    · have t1 : ((s[0].toNat : Int) == 45) = true := by rw [hc0]; exact (byte_is c 45).trans (decide_eq_true h45)
      rw [decide_eq_true h45] at hb
      have e : b = false := by rw [← hb]; rfl
      subst e
      have u1 : ((s[0].toNat : Int) != 45) = false := by rw [bne, t1]; rfl
      clear hb hp hl hc0 h45 t1
      go_enter Tryz.func58, Tryz.ntmps58
      go_wp2
      go_ret
      exact ⟨rfl, rfl⟩
    · have t1 : ((s[0].toNat : Int) == 45) = false := by rw [hc0]; exact (byte_is c 45).trans (decide_eq_false h45)
      rw [decide_eq_false h45] at hb
      have HA := Lib.hid (allp_any s b (by rw [← hb]; rfl) w hs)
      have u1 : ((s[0].toNat : Int) != 45) = true := by rw [bne, t1]; rfl
      clear hb hp hl hc0 h45 t1
      go_enter Tryz.func58, Tryz.ntmps58
      go_wp2_with (go_at_call 80; refine HA.out.mono ?_; rintro e w' ⟨rfl, rfl⟩)
      go_ret
      exact ⟨rfl, rfl⟩

set_option maxHeartbeats 4000000 in
theorem quote_any (s : ByteArray) (w : World) (hs : s.size ≤ 35184372088000) :
    Calls Tryz.prog 59 #[.string s] w fun e w' => e = .returned (.string ⟨(Sp.quoteW s.data.toList).toArray⟩) ∧ Below w.heap.size w w' := by
  have HF := Lib.hid (bu_fresh w w.heap.size (Nat.le_refl _))
  have HTK : Hid (∀ k (h : k < s.size), s.data.toList.take (k + 1) = s.data.toList.take k ++ [s[k]]) := Lib.hid (fun k h => Sp.take_succ s k h)
  have HTE : Hid (s.data.toList.take s.size = s.data.toList) := Lib.hid (List.take_of_length_le (by simp))
  have HLN : Hid (∀ k, k ≤ s.size → ((34 : UInt8) :: (s.data.toList.take k).flatMap Sp.quoteC).length ≤ 4 * k + 1) := Lib.hid (fun k hk => by
    have h1 := Sp.quotes_len (s.data.toList.take k)
    rw [List.length_take] at h1
    simp only [List.length_cons]
    omega)
  go_enter Tryz.func59, Tryz.ntmps59
  go_wp2_with fail
  refine (bu_wb w.heap.size w.heap.size [] 34 34 (by decide) _ HF.out (by decide) (by simp)).mono ?_
  rintro e w1 ⟨rfl, hbu1, hb1, _⟩
  have H1 := Lib.hid (⟨hbu1, ((Below.refl w.heap.size w).alloc (Nat.le_refl _) _).trans hb1⟩ : Bu w.heap.size w.heap.size ([] ++ [34]) w1 ∧ Below w.heap.size w w1)
  clear hbu1 hb1
  go_wp2_with fail
  go_loopw [9] (fun iv wr => ∃ k : Nat, k ≤ s.size ∧ iv = .int .i64 k ∧ Hid (Bu w.heap.size w.heap.size (34 :: (s.data.toList.take k).flatMap Sp.quoteC) wr ∧ Below w.heap.size w wr)) (fun iv _ => s.size - (intOf iv).toNat)
  case atStart => exact ⟨0, Nat.zero_le _, rfl, H1⟩
  case round =>
    obtain ⟨k, hk, rfl, HR⟩ := hrel
    clear H1
    by_cases hlt : k < s.size
    · have hl4 := HLN.out k hk
      have HB := Lib.hid HR.out.1.base
      have HTK1 := Lib.hid (HTK.out k hlt)
      by_cases hq : s[k] = 34 ∨ s[k] = 92
      · have hq1 : ((s[k].toNat : Int) == 34) = true ∨ (((s[k].toNat : Int) == 34) = false ∧ ((s[k].toNat : Int) == 92) = true) := by
          by_cases h39 : s[k] = 34
          · exact .inl ((byte_is s[k] 34).trans (decide_eq_true h39))
          · exact .inr ⟨(byte_is s[k] 34).trans (decide_eq_false h39), (byte_is s[k] 92).trans (decide_eq_true (hq.resolve_left h39))⟩
        have HQ : Hid (Sp.quoteC s[k] = [92, s[k]]) := Lib.hid (by rw [Sp.quoteC, if_pos hq])
        have HREL : Hid (∀ wz, Bu w.heap.size w.heap.size (((34 :: (s.data.toList.take k).flatMap Sp.quoteC) ++ [92]) ++ [s[k]]) wz → Bu w.heap.size w.heap.size (34 :: (s.data.toList.take (k + 1)).flatMap Sp.quoteC) wz) := Lib.hid (fun wz h => by
          rw [HTK1.out, List.flatMap_append, List.flatMap_singleton, HQ.out]
          simpa using h)
        clear hq
        generalize (34 : UInt8) :: (s.data.toList.take k).flatMap Sp.quoteC = L at *
        rcases hq1 with t1 | ⟨t1, t2⟩
        · go_wp2_with fail
          refine (bu_wb _ _ _ 92 92 (by decide) _ HR.out.1 (by omega) HB.out).mono ?_
          rintro e w2 ⟨rfl, hbu2, hb2, _⟩
          go_wp2_with fail
          refine (bu_wb _ _ _ s[k] _ rfl _ hbu2 (by simp; omega) (Nat.le_trans HB.out hb2.size)).mono ?_
          rintro e w3 ⟨rfl, hbu3, hb3, _⟩
          have HB3 := Lib.hid ((HR.out.2.trans hb2).trans hb3)
          have HU3 := Lib.hid (HREL.out _ hbu3)
          clear hbu2 hbu3 hb2 hb3
          go_wp2
          go_roundw
          case rel => exact ⟨k + 1, by omega, by go_num, Lib.hid ⟨HU3.out, HB3.out⟩⟩
          case measure => simp [intOf]; omega
        · go_wp2_with fail
          refine (bu_wb _ _ _ 92 92 (by decide) _ HR.out.1 (by omega) HB.out).mono ?_
          rintro e w2 ⟨rfl, hbu2, hb2, _⟩
          go_wp2_with fail
          refine (bu_wb _ _ _ s[k] _ rfl _ hbu2 (by simp; omega) (Nat.le_trans HB.out hb2.size)).mono ?_
          rintro e w3 ⟨rfl, hbu3, hb3, _⟩
          have HB3 := Lib.hid ((HR.out.2.trans hb2).trans hb3)
          have HU3 := Lib.hid (HREL.out _ hbu3)
          clear hbu2 hbu3 hb2 hb3
          go_wp2
          go_roundw
          case rel => exact ⟨k + 1, by omega, by go_num, Lib.hid ⟨HU3.out, HB3.out⟩⟩
          case measure => simp [intOf]; omega
      · have t1 : ((s[k].toNat : Int) == 34) = false := (byte_is s[k] 34).trans (decide_eq_false (fun e => hq (.inl e)))
        have t2 : ((s[k].toNat : Int) == 92) = false := (byte_is s[k] 92).trans (decide_eq_false (fun e => hq (.inr e)))
        by_cases hp : 32 ≤ s[k].toNat ∧ s[k].toNat < 127
        · have t3 : (32 : Int) ≤ (s[k].toNat : Int) := by omega
          have t4 : (s[k].toNat : Int) < 127 := by omega
          have HQ : Hid (Sp.quoteC s[k] = [s[k]]) := Lib.hid (by rw [Sp.quoteC, if_neg hq, if_pos hp])
          have HREL : Hid (∀ wz, Bu w.heap.size w.heap.size ((34 :: (s.data.toList.take k).flatMap Sp.quoteC) ++ [s[k]]) wz → Bu w.heap.size w.heap.size (34 :: (s.data.toList.take (k + 1)).flatMap Sp.quoteC) wz) := Lib.hid (fun wz h => by
            rw [HTK1.out, List.flatMap_append, List.flatMap_singleton, HQ.out]
            simpa using h)
          clear hq hp
          generalize (34 : UInt8) :: (s.data.toList.take k).flatMap Sp.quoteC = L at *
          go_wp2_with fail
          refine (bu_wb _ _ _ s[k] _ rfl _ HR.out.1 (by omega) HB.out).mono ?_
          rintro e w3 ⟨rfl, hbu3, hb3, _⟩
          have HB3 := Lib.hid (HR.out.2.trans hb3)
          have HU3 := Lib.hid (HREL.out _ hbu3)
          clear hbu3 hb3
          go_wp2
          go_roundw
          case rel => exact ⟨k + 1, by omega, by go_num, Lib.hid ⟨HU3.out, HB3.out⟩⟩
          case measure => simp [intOf]; omega
        · have t3 : (32 : Int) ≤ (s[k].toNat : Int) → ¬ (s[k].toNat : Int) < 127 := by omega
          have HQ : Hid (Sp.quoteC s[k] = Sp.byteL s[k]) := Lib.hid (by rw [Sp.quoteC, if_neg hq, if_neg hp])
          have HREL : Hid (∀ wz, Bu w.heap.size w.heap.size ((34 :: (s.data.toList.take k).flatMap Sp.quoteC) ++ Sp.byteL s[k]) wz → Bu w.heap.size w.heap.size (34 :: (s.data.toList.take (k + 1)).flatMap Sp.quoteC) wz) := Lib.hid (fun wz h => by
            rw [HTK1.out, List.flatMap_append, List.flatMap_singleton, HQ.out]
            simpa using h)
          have hd : decide ((32 : Int) ≤ (s[k].toNat : Int)) = false ∨ (decide ((32 : Int) ≤ (s[k].toNat : Int)) = true ∧ decide ((s[k].toNat : Int) < 127) = false) := by
            by_cases h : (32 : Int) ≤ (s[k].toNat : Int)
            · exact .inr ⟨decide_eq_true h, decide_eq_false (t3 h)⟩
            · exact .inl (decide_eq_false h)
          clear hq hp t3
          have HBY := Lib.hid (byte_any s[k])
          have hby : (Sp.byteL s[k]).length = 4 := rfl
          generalize (34 : UInt8) :: (s.data.toList.take k).flatMap Sp.quoteC = L at *
          generalize Sp.byteL s[k] = Y at *
          rcases hd with t3 | ⟨t3, t4⟩
          · have t3' : ¬ (32 : Int) ≤ (s[k].toNat : Int) := of_decide_eq_false t3
            clear t3
            go_wp2_with fail
            refine (HBY.out _).mono ?_
            rintro e w2 ⟨rfl, n2, rfl⟩
            go_wp2_with fail
            refine (bu_writeString _ _ L ⟨Y.toArray⟩ _ (HR.out.1.drewN n2) (by rw [show (ByteArray.mk Y.toArray).size = Y.length by simp [ByteArray.size]]; omega) HB.out).mono ?_
            rintro e w3 ⟨rfl, hbu3, hb3, _⟩
            have HB3 := Lib.hid ((belowQ HR.out.2 n2).trans hb3)
            have HU3 := Lib.hid (HREL.out _ (by simpa using hbu3))
            clear hbu3 hb3
            go_wp2
            go_roundw
            case rel => exact ⟨k + 1, by omega, by go_num, Lib.hid ⟨HU3.out, HB3.out⟩⟩
            case measure => simp [intOf]; omega
          · have t3' : (32 : Int) ≤ (s[k].toNat : Int) := of_decide_eq_true t3
            have t4' : ¬ (s[k].toNat : Int) < 127 := of_decide_eq_false t4
            clear t3 t4
            go_wp2_with fail
            refine (HBY.out _).mono ?_
            rintro e w2 ⟨rfl, n2, rfl⟩
            go_wp2_with fail
            refine (bu_writeString _ _ L ⟨Y.toArray⟩ _ (HR.out.1.drewN n2) (by rw [show (ByteArray.mk Y.toArray).size = Y.length by simp [ByteArray.size]]; omega) HB.out).mono ?_
            rintro e w3 ⟨rfl, hbu3, hb3, _⟩
            have HB3 := Lib.hid ((belowQ HR.out.2 n2).trans hb3)
            have HU3 := Lib.hid (HREL.out _ (by simpa using hbu3))
            clear hbu3 hb3
            go_wp2
            go_roundw
            case rel => exact ⟨k + 1, by omega, by go_num, Lib.hid ⟨HU3.out, HB3.out⟩⟩
            case measure => simp [intOf]; omega
    · have hke : k = s.size := by omega
      have hl4 := HLN.out k hk
      have HEQ : Hid ((34 :: (s.data.toList.take k).flatMap Sp.quoteC) ++ [34] = Sp.quoteW s.data.toList) := Lib.hid (by rw [hke, HTE.out]; rfl)
      have HB := Lib.hid HR.out.1.base
      generalize (34 : UInt8) :: (s.data.toList.take k).flatMap Sp.quoteC = L at *
      have HLE := Lib.hid hl4
      clear hke
      go_wp2_with fail
      refine (bu_wb _ _ L 34 34 (by decide) _ HR.out.1 (by omega) HB.out).mono ?_
      rintro e w2 ⟨rfl, hbu2, hb2, _⟩
      go_wp2_with fail
      refine (bu_string _ _ _ _ hbu2 (Nat.le_trans HB.out hb2.size)).mono ?_
      rintro e w3 ⟨rfl, hbu3, hb3, _⟩
      go_wp2
      go_ret
      exact ⟨by rw [HEQ.out]; rfl, (HR.out.2.trans hb2).trans hb3⟩

end Go.Proofs.YtijfeeiplljnjaaGreatDoor
