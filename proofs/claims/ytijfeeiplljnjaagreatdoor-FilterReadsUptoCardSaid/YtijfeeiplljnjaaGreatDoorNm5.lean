/-
  The walk of the reference's Of: a name in its pieces.
-/
import Derived.Test.YtijfeeiplljnjaaGreatDoorNm3
import Derived.RegionTactic
import Derived.ChangeAlike
namespace Go.Proofs.YtijfeeiplljnjaaGreatDoor
open Go.RowKit

set_option maxHeartbeats 400000 in
theorem of_long (s : ByteArray) (w : World) (hl : 60 < s.size) :
    Calls Tryz.prog 73 #[.string s] w fun e w' => e = .returned (.agg #[.int .i64 0, .string ⟨#[]⟩, .string ⟨#[]⟩, .bool false]) ∧ Below w.heap.size w w' := by
  have hl2 : (60 : Int) < s.size := by omega
  go_enter Tryz.func73, Tryz.ntmps73
  go_wp2_with fail
  exact bodyPost_ret (v := .agg #[.int .i64 0, .string ⟨#[]⟩, .string ⟨#[]⟩, .bool false]) (by simp [results, Tryz.results73, go_sem]) rfl ⟨rfl, (Below.refl _ _).alloc (Nat.le_refl _) _⟩

/-- the value that the reference's pieces are -/
def cutV (c : Int × List UInt8 × List UInt8 × Bool) : Value := .agg #[.int .i64 c.1, .string ⟨c.2.1.toArray⟩, .string ⟨c.2.2.1.toArray⟩, .bool c.2.2.2]

set_option maxHeartbeats 400000 in
theorem of_short (s : ByteArray) (w : World) (hl : s.size ≤ 60) :
    Calls Tryz.prog 73 #[.string s] w fun e w' => e = .returned (cutV (Sp.ofL s.data.toList)) ∧ Below w.heap.size w w' := by
  have hsz : s.data.toList.length = s.size := by simp
  have HZ := Lib.hid hsz; clear hsz
  go_enter Tryz.func73, Tryz.ntmps73
  go_wp2_with fail
  go_loopw [4, 5] (fun r i wr => ∃ (k n : Nat) (rb : ByteArray), k ≤ 4 ∧ i = .int .i64 (k + 1) ∧ r = .string rb ∧ Hid (rb.data.toList = (Sp.sufTo s.data.toList k).2) ∧
      wr = ((w.alloc (.cells #[.int .i64 0, .string ⟨#[]⟩, .string ⟨#[]⟩, .bool false] 103)).alloc (.cells #[.int .i64 (Sp.sufTo s.data.toList k).1, .string ⟨#[]⟩, .string ⟨#[]⟩, .bool false] 103)).drewN n)
    (fun _ i _ => 6 - (intOf i).toNat)
  case atStart => exact ⟨0, 0, ⟨#[]⟩, by omega, rfl, rfl, Lib.hid rfl, rfl⟩
  case round =>
    obtain ⟨k, n, rb, hk, rfl, rfl, HB, rfl⟩ := hrel
    by_cases hk4 : k < 4
    · have hsl := Sp.suffix_len ((k : Int) + 1)
      generalize hen : Sp.suffix ((k : Int) + 1) = suf at hsl
      have HS := Lib.hid (Sp.sufTo_succ s k suf hen)
      have HE := Lib.hid hen
      clear hen
      go_wp2_with (go_at_call 96; refine (rsuffix_any _ _).mono ?_; rintro e w' ⟨rfl, rfl⟩; rw [HE.out])
      · have t1 : 1 + (suf.length : Int) < s.size := by assumption
        have t2 : ((s.extract (s.size - (1 + suf.length)) s.size).toList == (ByteArray.mk #[46] ++ ByteArray.mk suf.toArray).toList) = true := by assumption
        have HX : Hid (Sp.sufTo s.data.toList (k + 1) = ((k : Int) + 1, s.data.toList.take (s.size - (1 + suf.length)))) := Lib.hid (by rw [HS.out, if_pos ⟨t1, t2⟩])
        clear t2
        go_region
        all_goals
          go_wp2
          go_roundw
          case rel => exact ⟨k + 1, n + 1, _, by omega, by go_num, rfl, Lib.hid (by rw [HX.out]; simp), by rw [HX.out]⟩
          case measure => simp [intOf]; omega
      · have t1 : 1 + (suf.length : Int) < s.size := by assumption
        have t2 : ((s.extract (s.size - (1 + suf.length)) s.size).toList == (ByteArray.mk #[46] ++ ByteArray.mk suf.toArray).toList) = false := by assumption
        go_roundw
        case rel => exact ⟨k + 1, n, rb, by omega, by go_num, rfl, Lib.hid (by rw [HS.out, if_neg (by rw [t2]; simp)]; exact HB.out), by rw [HS.out, if_neg (by rw [t2]; simp)]⟩
        case measure => simp [intOf]; omega
      · have t1 : ¬ 1 + (suf.length : Int) < s.size := by assumption
        go_roundw
        case rel => exact ⟨k + 1, n, rb, by omega, by go_num, rfl, Lib.hid (by rw [HS.out, if_neg (fun h => t1 h.1)]; exact HB.out), by rw [HS.out, if_neg (fun h => t1 h.1)]⟩
        case measure => simp [intOf]; omega
    · have hk5 : k = 4 := by omega
      subst hk5
      have HO : Hid (Sp.ofL s.data.toList = if (Sp.sufTo s.data.toList 4).1 = 0 then (0, [], [], false)
          else if (Sp.cutAt (Sp.sufTo s.data.toList 4).2).1 = [] then (0, [], [], false)
          else if Sp.allName ((Sp.cutAt (Sp.sufTo s.data.toList 4).2).1 ++ (Sp.cutAt (Sp.sufTo s.data.toList 4).2).2.1) = false then (0, [], [], false)
          else ((Sp.sufTo s.data.toList 4).1, Sp.cutAt (Sp.sufTo s.data.toList 4).2)) := Lib.hid (by unfold Sp.ofL; rw [if_neg (by rw [HZ.out]; omega)])
      have hrl : rb.size ≤ 60 := by
        have h1 := Sp.sufTo_len s.data.toList 4
        rw [HZ.out, ← HB.out] at h1
        have h2 : rb.data.toList.length = rb.size := by simp
        omega
      generalize (Sp.sufTo s.data.toList 4).1 = kk at HO ⊢
      rw [← HB.out] at HO
      clear HB
      go_wp2
      · refine bodyPost_ret (v := .agg #[.int .i64 0, .string ⟨#[]⟩, .string ⟨#[]⟩, .bool false]) (by simp [results, Tryz.results73, go_sem]) rfl ⟨?_, ?_⟩
        · rw [HO.out, if_pos (by simp_all)]; rfl
        · exact belowQ (((Below.refl _ _).alloc (Nat.le_refl _) _).alloc (by simp) _) _
      · rcases Sp.cutAt_spec rb.data.toList with ⟨hc, hno⟩ | ⟨pre, ins, hc, hl2, hno⟩
        · rw [hc] at HO
          have HN := Lib.hid hno
          clear hc hno
          go_loop [7] (fun i => ∃ j : Nat, j ≤ rb.size ∧ i = .int .i64 j) (fun i => rb.size - (intOf i).toNat)
          case atStart => exact ⟨0, Nat.zero_le _, rfl⟩
          case round =>
            obtain ⟨j, hj, rfl⟩ := hrel
            by_cases hjl : j < rb.size
            · have hne : ((rb[j].toNat : Int) == 64) = false := Sp.at_ne rb j hjl 64 (HN.out _ (Sp.mem_at rb j hjl))
              go_wp2
              go_round
              case rel => exact ⟨j + 1, by omega, by go_num⟩
              case measure => simp [intOf]; omega
            · go_wp2
              · refine bodyPost_ret (v := .agg #[.int .i64 0, .string ⟨#[]⟩, .string ⟨#[]⟩, .bool false]) (by simp [results, Tryz.results73, go_sem]) rfl ⟨?_, ?_⟩
                · rw [HO.out, if_neg (by simp_all), if_pos (by simp_all [Lib.toList_data])]; rfl
                · exact belowQ (((Below.refl _ _).alloc (Nat.le_refl _) _).alloc (by simp) _) _
              · have hrne : ¬ rb.data.toList = [] := by simp_all [Lib.toList_data]
                have HRN := Lib.hid hrne
                clear hrne
                generalize hall : (rb ++ ByteArray.mk #[] : ByteArray) = all
                have HAL : Hid (all.data.toList = rb.data.toList ++ []) := Lib.hid (by rw [← hall]; simp)
                have hal : all.size ≤ 60 := by
                  have h1 : all.data.toList.length = all.size := by simp
                  rw [← h1, ← hall]; simp; omega
                clear hall
                go_loop [9] (fun i => ∃ j : Nat, j ≤ all.size ∧ i = .int .i64 j ∧ Hid (Sp.allName (all.data.toList.take j) = true)) (fun i => all.size - (intOf i).toNat)
                case atStart => exact ⟨0, Nat.zero_le _, rfl, Lib.hid (Sp.allName_nil _)⟩
                case round =>
                  obtain ⟨j3, hj3, rfl, HA3⟩ := hrel
                  by_cases hjl3 : j3 < all.size
                  · by_cases hb : Sp.nameByte all[j3] = true
                    · go_wp2_with (go_at_call 97; refine (nameByte_any _ _).mono ?_; rintro e w' ⟨rfl, rfl⟩)
                      go_round
                      case rel => exact ⟨j3 + 1, by omega, by go_num, Lib.hid (by rw [Sp.allName_succ all j3 hjl3, HA3.out, hb]; rfl)⟩
                      case measure => simp [intOf]; omega
                    · have hb2 : Sp.nameByte all[j3] = false := by simpa using hb
                      clear hb
                      go_wp2_with (go_at_call 97; refine (nameByte_any _ _).mono ?_; rintro e w' ⟨rfl, rfl⟩)
                      refine bodyPost_ret (v := .agg #[.int .i64 0, .string ⟨#[]⟩, .string ⟨#[]⟩, .bool false]) (by simp [results, Tryz.results73, go_sem]) rfl ⟨?_, ?_⟩
                      · rw [HO.out, if_neg (by simp_all), if_neg (by exact HRN.out), if_pos (by rw [← HAL.out]; exact Sp.allName_false all j3 hjl3 hb2)]; rfl
                      · exact belowQ (((Below.refl _ _).alloc (Nat.le_refl _) _).alloc (by simp) _) _
                  · have hf : Sp.allName all.data.toList = true := by rw [← Sp.take_all all j3 hj3 hjl3]; exact HA3.out
                    have HF := Lib.hid hf
                    clear hf
                    go_wp2
                    refine bodyPost_ret (v := .agg #[.int .i64 kk, .string rb, .string ⟨#[]⟩, .bool false]) (by simp [results, Tryz.results73, go_sem]) rfl ⟨?_, ?_⟩
                    · rw [HO.out, if_neg (by simp_all), if_neg (by exact HRN.out), if_neg (by rw [← HAL.out, HF.out]; simp)]; rfl
                    · exact belowQ (((Below.refl _ _).alloc (Nat.le_refl _) _).alloc (by simp) _) _
        · rw [hc] at HO
          have hpl : pre.length < rb.size := by
            have h1 : rb.data.toList.length = rb.size := by simp
            rw [← h1, hl2]; simp
          have hpre : rb.data.toList.take pre.length = pre := by rw [hl2]; simp
          have hins : rb.data.toList.drop (pre.length + 1) = ins := by rw [hl2]; simp
          have hat : rb[pre.length] = 64 := by
            have h1 : rb[pre.length] = rb.data.toList[pre.length]'(by simpa using hpl) := by simp [ByteArray.getElem_eq_getElem_data]
            rw [h1]; simp [hl2]
          have HT := Lib.hid hat
          have HPR := Lib.hid hpre
          have HIN := Lib.hid hins
          have HN : Hid (∀ j, ∀ h : j < rb.size, j < pre.length → rb[j] ≠ 64) := by
            refine Lib.hid ?_
            intro j h1 h2
            have h3 : rb[j] = pre[j] := by
              have h1 : rb[j] = rb.data.toList[j]'(by simpa using h1) := by simp [ByteArray.getElem_eq_getElem_data]
              rw [h1]; simp [hl2, List.getElem_append_left h2]
            rw [h3]
            exact hno _ (List.getElem_mem _)
          clear hc hno hl2 hat hpre hins
          go_loop [7] (fun i => ∃ j : Nat, j ≤ pre.length ∧ i = .int .i64 j) (fun i => rb.size - (intOf i).toNat)
          case atStart => exact ⟨0, Nat.zero_le _, rfl⟩
          case round =>
            obtain ⟨j, hj, rfl⟩ := hrel
            have hjl : j < rb.size := by omega
            by_cases hjp : j < pre.length
            · have hne : ((rb[j].toNat : Int) == 64) = false := Sp.at_ne rb j hjl 64 (HN.out j hjl hjp)
              go_wp2
              go_round
              case rel => exact ⟨j + 1, by omega, by go_num⟩
              case measure => simp [intOf]; omega
            · have hje : j = pre.length := by omega
              subst hje
              have hne : ((rb[pre.length].toNat : Int) == 64) = true := Sp.at_eq rb _ hjl 64 HT.out
              have c1 : (0 : Int) ≤ ↑pre.length := by omega
              have c2 : (↑pre.length : Int) ≤ ↑rb.size := by omega
              have c3 : (0 : Int) ≤ ↑pre.length + 1 := by omega
              have c4 : (↑pre.length + 1 : Int) ≤ ↑rb.size := by omega
              go_wp2
              go_region
              generalize hpb : rb.extract 0 pre.length = pb
              generalize hib : rb.extract (pre.length + 1) rb.size = ib
              have HPB : Hid (pb.data.toList = pre) := Lib.hid (by rw [← hpb, ext_take]; exact HPR.out)
              have HIB : Hid (ib.data.toList = ins) := Lib.hid (by rw [← hib, ext_drop]; exact HIN.out)
              have hs2 : pb.size + ib.size ≤ 60 := by rw [← hpb, ← hib]; simp; omega
              clear hpb hib
              by_cases hpe : pre = []
              · have hpe2 : pb.toList.isEmpty = true := by rw [Lib.toList_data, HPB.out, hpe]; rfl
                have HPE := Lib.hid hpe
                clear hpe
                go_wp2
                refine bodyPost_ret (v := .agg #[.int .i64 0, .string ⟨#[]⟩, .string ⟨#[]⟩, .bool false]) (by simp [results, Tryz.results73, go_sem]) rfl ⟨?_, ?_⟩
                · rw [HO.out, if_neg (by simp_all), if_pos HPE.out]; rfl
                · exact belowQ (((Below.refl _ _).alloc (Nat.le_refl _) _).alloc (by simp) _) _
              · have hpe2 : pb.toList.isEmpty = false := by rw [Lib.toList_data, HPB.out]; simpa using hpe
                have HPN := Lib.hid hpe
                clear hpe
                go_wp2
                generalize hall : (pb ++ ib : ByteArray) = all
                have HAL : Hid (all.data.toList = pre ++ ins) := Lib.hid (by rw [← hall, ← HPB.out, ← HIB.out]; simp)
                have hal : all.size ≤ 60 := by
                  have h1 : all.data.toList.length = all.size := by simp
                  rw [← h1, ← hall]; simp; omega
                clear hall
                go_loop [9] (fun i => ∃ j : Nat, j ≤ all.size ∧ i = .int .i64 j ∧ Hid (Sp.allName (all.data.toList.take j) = true)) (fun i => all.size - (intOf i).toNat)
                case atStart => exact ⟨0, Nat.zero_le _, rfl, Lib.hid (Sp.allName_nil _)⟩
                case round =>
                  obtain ⟨j3, hj3, rfl, HA3⟩ := hrel
                  by_cases hjl3 : j3 < all.size
                  · by_cases hb : Sp.nameByte all[j3] = true
                    · go_wp2_with (go_at_call 97; refine (nameByte_any _ _).mono ?_; rintro e w' ⟨rfl, rfl⟩)
                      go_round
                      case rel =>
                        exact ⟨j3 + 1, by omega, by go_num, Lib.hid (by rw [Sp.allName_succ all j3 hjl3, HA3.out, hb]; rfl)⟩
                      case measure => simp [intOf]; omega
                    · have hb2 : Sp.nameByte all[j3] = false := by simpa using hb
                      clear hb
                      go_wp2_with (go_at_call 97; refine (nameByte_any _ _).mono ?_; rintro e w' ⟨rfl, rfl⟩)
                      refine bodyPost_ret (v := .agg #[.int .i64 0, .string ⟨#[]⟩, .string ⟨#[]⟩, .bool false]) (by simp [results, Tryz.results73, go_sem]) rfl ⟨?_, ?_⟩
                      · rw [HO.out, if_neg (by simp_all), if_neg (by exact HPN.out), if_pos (by rw [← HAL.out]; exact Sp.allName_false all j3 hjl3 hb2)]; rfl
                      · exact belowQ (((Below.refl _ _).alloc (Nat.le_refl _) _).alloc (by simp) _) _
                  · have hf : Sp.allName all.data.toList = true := by rw [← Sp.take_all all j3 hj3 hjl3]; exact HA3.out
                    have HF := Lib.hid hf
                    clear hf
                    go_wp2
                    refine bodyPost_ret (v := .agg #[.int .i64 kk, .string pb, .string ib, .bool true]) (by simp [results, Tryz.results73, go_sem]) rfl ⟨?_, ?_⟩
                    · rw [HO.out, if_neg (by simp_all), if_neg (by exact HPN.out), if_neg (by rw [← HAL.out, HF.out]; simp), ← HPB.out, ← HIB.out]; rfl
                    · exact belowQ (((Below.refl _ _).alloc (Nat.le_refl _) _).alloc (by simp) _) _

/-- the reference's pieces of a name, of any text -/
theorem of_any (s : ByteArray) (w : World) :
    Calls Tryz.prog 73 #[.string s] w fun e w' => e = .returned (cutV (Sp.ofL s.data.toList)) ∧ Below w.heap.size w w' := by
  by_cases h : 60 < s.size
  · refine (of_long s w h).mono fun e w' ⟨h1, h2⟩ => ⟨?_, h2⟩
    rw [h1]
    have e2 : s.data.toList.length = s.size := by simp
    rw [show Sp.ofL s.data.toList = (0, [], [], false) by unfold Sp.ofL; rw [if_pos (by rw [e2]; exact h)]]
    rfl
  · exact of_short s w (by omega)

end Go.Proofs.YtijfeeiplljnjaaGreatDoor
