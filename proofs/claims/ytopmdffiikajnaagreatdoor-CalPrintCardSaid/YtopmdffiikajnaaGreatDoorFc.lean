/-
  The reference: numbers, parts, weekdays as texts.
-/
import Derived.Test.YtopmdffiikajnaaGreatDoorDn
namespace Go.Proofs.YtopmdffiikajnaaGreatDoor
open Go.RowKit Go.Shelf

theorem rdig_piece (d : Nat) (h : d < 10) : ((⟨#[48, 49, 50, 51, 52, 53, 54, 55, 56, 57]⟩ : ByteArray).extract d (d + 1)) = Sp.bts [UInt8.ofNat (48 + d)] := by
  refine WideShapes.bytes_inj ?_
  rw [bts_list]
  have : ∀ d : Fin 10, ((⟨#[48, 49, 50, 51, 52, 53, 54, 55, 56, 57]⟩ : ByteArray).extract d.val (d.val + 1)).data.toList = [UInt8.ofNat (48 + d.val)] := by decide +kernel
  exact this ⟨d, h⟩
theorem rret_str {a b : ByteArray} (h : a = b) : Ending.returned (.string a) = .returned (.string b) := by rw [h]
set_option maxHeartbeats 1000000 in
theorem rdec_nat (n : Nat) (hn : n ≤ 9999) (w : World) :
    Calls Tryz.prog 84 #[.int .i64 n] w fun e w' => e = .returned (.string (Sp.bts (Lib.decDigits n))) ∧ w' = w := by
  induction n using Nat.strongRecOn generalizing w with
  | ind n ih =>
    have hm : n % 10 < 10 := Nat.mod_lt _ (by omega)
    have HP := Lib.hid (rdig_piece (n % 10) hm)
    by_cases h : n < 10
    · have HD : Hid (Lib.decDigits n = [UInt8.ofNat (48 + n % 10)]) := Lib.hid (by rw [Lib.decDigits_one h, Nat.mod_eq_of_lt h])
      clear ih
      go_enter Tryz.func84, Tryz.ntmps84
      go_wp2
      go_ret
      exact ⟨rret_str (by rw [HP.out, HD.out]), rfl⟩
    · have HD : Hid (Lib.decDigits n = Lib.decDigits (n / 10) ++ [UInt8.ofNat (48 + n % 10)]) := Lib.hid (by conv => lhs; rw [Lib.decDigits, dif_neg h])
      have ih' := ih (n / 10) (by omega) (by omega) w
      have hc : ((n / 10 : Nat) : Int) = (n : Int) / 10 := by omega
      rw [hc] at ih'
      have HI := Lib.hid ih'
      have hl : (Sp.bts (Lib.decDigits (n / 10))).size ≤ 10 := by
        rw [bts_size]
        exact Nat.le_trans (Sp.decLong 3 (n / 10) (by omega)) (by decide)
      have hx : ((⟨#[48, 49, 50, 51, 52, 53, 54, 55, 56, 57]⟩ : ByteArray).extract (n % 10) (n % 10 + 1)).size ≤ 10 := by rw [HP.out, bts_size]; show 1 ≤ 10; omega
      clear ih ih' hc
      go_enter Tryz.func84, Tryz.ntmps84
      go_wp2_with fail
      refine HI.out.mono ?_
      rintro e w' ⟨rfl, rfl⟩
      go_wp2
      go_ret
      exact ⟨rret_str (by rw [HP.out, HD.out, bts_app]), rfl⟩
theorem rdec_any (n : Int) (h0 : 0 ≤ n) (h1 : n ≤ 9999) (w : World) :
    Calls Tryz.prog 84 #[.int .i64 n] w fun e w' => e = .returned (.string (Sp.bts (Sp.decN n))) ∧ w' = w := by
  have h := rdec_nat n.toNat (by omega) w
  rw [show ((n.toNat : Nat) : Int) = n by omega] at h
  exact h
def lenOf : Value → Nat
  | .string b => b.size
  | _ => 0
theorem dec_year (n : Int) (h0 : 1000 ≤ n) (h1 : n ≤ 9999) : (Sp.decN n).length = 4 := by
  unfold Sp.decN
  have e1 : Lib.decDigits n.toNat = Lib.decDigits (n.toNat / 10) ++ [UInt8.ofNat (48 + n.toNat % 10)] := by conv => lhs; rw [Lib.decDigits, dif_neg (by omega)]
  have e2 : Lib.decDigits (n.toNat / 10) = Lib.decDigits (n.toNat / 10 / 10) ++ [UInt8.ofNat (48 + n.toNat / 10 % 10)] := by conv => lhs; rw [Lib.decDigits, dif_neg (by omega)]
  rw [e1, e2, Lib.decDigits_two (by omega) (by omega)]
  rfl
set_option maxHeartbeats 1000000 in
theorem rpad_any (n : Int) (f g : Nat) (h0 : 0 ≤ n) (h1 : n ≤ 9999) (hg : (f = 0 ∧ g = 4 ∧ 1000 ≤ n) ∨ (f ≠ 0 ∧ g = 2)) (w : World) :
    Calls Tryz.prog 83 #[.int .i64 n, .int .i64 g] w fun e w' => e = .returned (.string (Sp.bts (Sp.padL n f))) ∧ w' = w := by
  obtain ⟨D, hD⟩ : ∃ D, D = Sp.decN n := ⟨_, rfl⟩
  have hl := dec_len n h0 h1
  obtain ⟨k, hk⟩ : ∃ k, k = g - D.length := ⟨_, rfl⟩
  have HP : Hid (Sp.padL n f = List.replicate k 48 ++ D) := Lib.hid (by
    unfold Sp.padL
    rcases hg with ⟨rfl, rfl, h⟩ | ⟨hf, rfl⟩
    · rw [if_pos rfl, hk, hD, dec_year n h h1]; rfl
    · rw [if_neg hf, hk, hD])
  rw [← hD] at hl
  have hg4 : g ≤ 4 := by rcases hg with ⟨_, rfl, _⟩ | ⟨_, rfl⟩ <;> decide
  have HDEC := rdec_any n h0 h1 w
  rw [← hD] at HDEC
  have HDC := Lib.hid HDEC
  have HK := Lib.hid hk
  have hk4 : k + D.length ≤ 8 := by omega
  clear HDEC hD hk hg
  go_enter Tryz.func83, Tryz.ntmps83
  go_wp2_with fail
  refine HDC.out.mono ?_
  rintro e w' ⟨rfl, rfl⟩
  go_wp2_with fail
  go_loopw [5] (fun sv wr => ∃ (c : Nat) (x : ByteArray), c ≤ k ∧ sv = .string x ∧ Hid (x = Sp.bts (List.replicate c 48 ++ D)) ∧ x.size = c + D.length ∧ wr = w') (fun sv _ => 8 - lenOf sv)
  case atStart => exact ⟨0, _, Nat.zero_le _, rfl, Lib.hid rfl, by rw [bts_size]; simp, rfl⟩
  case round =>
    obtain ⟨c, x, hc, rfl, HX, hz, rfl⟩ := hrel
    have HZ := Lib.hid hz
    by_cases hck : c < k
    · have x1 : (x.size : Int) < (g : Int) := by have := HK.out; omega
      have x2 : x.size ≤ 10 := by omega
      have HX2 : Hid ((⟨#[48]⟩ : ByteArray) ++ x = Sp.bts (List.replicate (c + 1) 48 ++ D)) := Lib.hid (by
        rw [HX.out, show (⟨#[48]⟩ : ByteArray) = Sp.bts [48] from rfl, bts_app, List.replicate_succ]
        rfl)
      clear hz
      go_wp2
      go_roundw
      case rel => exact ⟨c + 1, _, by omega, rfl, HX2, by rw [ByteArray.size_append, HZ.out]; show 1 + _ = _; omega, by trivial⟩
      case measure =>
        have h9 : ((⟨#[48]⟩ : ByteArray) ++ x).size = 1 + x.size := by rw [ByteArray.size_append]; rfl
        simp only [lenOf, h9]
        omega
    · obtain rfl : c = k := by omega
      have x1 : ¬ (x.size : Int) < (g : Int) := by have := HK.out; omega
      clear hz
      go_wp2
      go_ret
      exact ⟨rret_str (by rw [HX.out, HP.out]), rfl⟩
theorem rdayName_any (d : Int) (h : 1 ≤ d ∧ d ≤ 7) (w : World) :
    Calls Tryz.prog 53 #[.int .i64 d] w fun e w' => e = .returned (.string (Sp.bts (Sp.dayName d))) ∧ w' = w := by
  have e : d = 1 ∨ d = 2 ∨ d = 3 ∨ d = 4 ∨ d = 5 ∨ d = 6 ∨ d = 7 := by omega
  rcases e with rfl | rfl | rfl | rfl | rfl | rfl | rfl
  all_goals
    go_enter Tryz.func53, Tryz.ntmps53
    go_wp2
    go_ret
    exact ⟨rret_str (by kernel_rfl), rfl⟩
theorem part_year {q : Sp.PartD} (h : Sp.mayPartB q 0 = true) : (0 ≤ q.fr → 1000 ≤ q.fr) ∧ (0 ≤ q.to → 1000 ≤ q.to) := by
  unfold Sp.mayPartB at h
  split at h
  · cases h
  · split at h
    · have := of_decide_eq_true h
      omega
    · split at h
      · cases h
      · simp only [Bool.and_eq_true, Bool.or_eq_true, decide_eq_true_eq, Sp.lowF, Sp.highF] at *
        omega
set_option maxRecDepth 100000 in
set_option maxHeartbeats 4000000 in
theorem rpartText_any (q : Sp.PartD) (f : Nat) (hf : f < 6) (hm : Sp.mayPartB q f = true) (w : World) :
    Calls Tryz.prog 54 #[.agg #[.int .i64 q.fr, .int .i64 q.to, .int .i64 q.st], .int .i64 f] w fun e w' => e = .returned (.string (Sp.bts (Sp.partL q f))) ∧ Below w.heap.size w w' := by
  obtain ⟨s1, s2, s3⟩ := Sp.part_small hm
  have hy : f = 0 → (0 ≤ q.fr → 1000 ≤ q.fr) ∧ (0 ≤ q.to → 1000 ≤ q.to) := fun e => by subst e; exact part_year hm
  obtain ⟨fr, to1, st⟩ := q
  dsimp only at s1 s2 s3 hy ⊢
  clear hm
  obtain ⟨g, hg⟩ : ∃ g : Nat, (f = 0 ∧ g = 4) ∨ (f ≠ 0 ∧ g = 2) := by
    by_cases e : f = 0
    · exact ⟨4, .inl ⟨e, rfl⟩⟩
    · exact ⟨2, .inr ⟨e, rfl⟩⟩
  have HA : Hid (0 ≤ fr → ∀ W : World, Calls Tryz.prog 83 #[.int .i64 fr, .int .i64 g] W fun e w' => e = .returned (.string (Sp.bts (Sp.padL fr f))) ∧ w' = W) := Lib.hid (fun h W => rpad_any fr f g h s1 (by
    rcases hg with ⟨e1, e2⟩ | ⟨e1, e2⟩
    · exact .inl ⟨e1, e2, (hy e1).1 h⟩
    · exact .inr ⟨e1, e2⟩) W)
  have HB : Hid (0 ≤ to1 → ∀ W : World, Calls Tryz.prog 83 #[.int .i64 to1, .int .i64 g] W fun e w' => e = .returned (.string (Sp.bts (Sp.padL to1 f))) ∧ w' = W) := Lib.hid (fun h W => rpad_any to1 f g h s2 (by
    rcases hg with ⟨e1, e2⟩ | ⟨e1, e2⟩
    · exact .inl ⟨e1, e2, (hy e1).2 h⟩
    · exact .inr ⟨e1, e2⟩) W)
  have HT : Hid (Sp.partL ⟨fr, to1, st⟩ f = (if 0 ≤ fr then Sp.padL fr f else [42]) ++ ((if 0 ≤ to1 then 46 :: 46 :: Sp.padL to1 f else []) ++ (if 0 < st then 47 :: Sp.decN st else []))) := Lib.hid rfl
  have lA : 0 ≤ fr → (Sp.padL fr f).length ≤ 4 := fun h => Sp.pad_len fr f h s1
  have lB : 0 ≤ to1 → (Sp.padL to1 f).length ≤ 4 := fun h => Sp.pad_len to1 f h s2
  obtain ⟨padA, HPA⟩ : ∃ x, Hid (x = Sp.bts (Sp.padL fr f)) := ⟨_, Lib.hid rfl⟩
  obtain ⟨padB, HPB⟩ : ∃ x, Hid (x = Sp.bts (Sp.padL to1 f)) := ⟨_, Lib.hid rfl⟩
  obtain ⟨padC, HPC⟩ : ∃ x, Hid (x = Sp.bts (Sp.decN st)) := ⟨_, Lib.hid rfl⟩
  have zA : 0 ≤ fr → padA.size ≤ 4 := fun h => by rw [HPA.out, bts_size]; exact lA h
  have zB : 0 ≤ to1 → padB.size ≤ 4 := fun h => by rw [HPB.out, bts_size]; exact lB h
  have zC : 0 < st → padC.size ≤ 4 := fun h => by rw [HPC.out, bts_size]; exact (dec_len st (by omega) s3).2
  have HC : Hid (0 < st → ∀ W : World, Calls Tryz.prog 84 #[.int .i64 st] W fun e w' => e = .returned (.string padC) ∧ w' = W) := Lib.hid (fun h W => by rw [HPC.out]; exact rdec_any st (by omega) s3 W)
  rw [← HPA.out] at HA
  rw [← HPB.out] at HB
  have HBX := Lib.hid ((Below.refl w.heap.size w).alloc (Nat.le_refl _) (.cells #[.int .i64 fr, .int .i64 to1, .int .i64 st] 43))
  clear lA lB hy
  have key : ∀ (hgg : (f = 0 ∧ g = 4) ∨ (f ≠ 0 ∧ g = 2)), Calls Tryz.prog 54 #[.agg #[.int .i64 fr, .int .i64 to1, .int .i64 st], .int .i64 f] w fun e w' => e = .returned (.string (Sp.bts (Sp.partL ⟨fr, to1, st⟩ f))) ∧ Below w.heap.size w w' := by
    intro hgg
    rcases hgg with ⟨rfl, rfl⟩ | ⟨hf0, rfl⟩
    · clear hg
      by_cases ha : 0 ≤ fr
      · by_cases hb : 0 ≤ to1
        · by_cases hc : 0 < st
          · go_enter Tryz.func54, Tryz.ntmps54
            go_wp2_with fail
            refine (HA.out ha _).mono ?_
            rintro e w1 ⟨rfl, rfl⟩
            go_wp2_with fail
            refine (HB.out hb _).mono ?_
            rintro e w1 ⟨rfl, rfl⟩
            go_wp2_with fail
            refine (HC.out hc _).mono ?_
            rintro e w1 ⟨rfl, rfl⟩
            go_wp2
            go_ret
            refine ⟨rret_str ?_, HBX.out⟩
            rw [HT.out, if_pos ha, if_pos hb, if_pos hc]
            simp only [HPA.out, HPB.out, show (⟨#[46, 46]⟩ : ByteArray) = Sp.bts [46, 46] from rfl, HPC.out, show (⟨#[47]⟩ : ByteArray) = Sp.bts [47] from rfl, bts_app]
            simp
          · go_enter Tryz.func54, Tryz.ntmps54
            go_wp2_with fail
            refine (HA.out ha _).mono ?_
            rintro e w1 ⟨rfl, rfl⟩
            go_wp2_with fail
            refine (HB.out hb _).mono ?_
            rintro e w1 ⟨rfl, rfl⟩
            go_wp2
            go_ret
            refine ⟨rret_str ?_, HBX.out⟩
            rw [HT.out, if_pos ha, if_pos hb, if_neg (by omega)]
            simp only [HPA.out, HPB.out, show (⟨#[46, 46]⟩ : ByteArray) = Sp.bts [46, 46] from rfl, bts_app]
            simp
        · by_cases hc : 0 < st
          · go_enter Tryz.func54, Tryz.ntmps54
            go_wp2_with fail
            refine (HA.out ha _).mono ?_
            rintro e w1 ⟨rfl, rfl⟩
            go_wp2_with fail
            refine (HC.out hc _).mono ?_
            rintro e w1 ⟨rfl, rfl⟩
            go_wp2
            go_ret
            refine ⟨rret_str ?_, HBX.out⟩
            rw [HT.out, if_pos ha, if_neg (by omega), if_pos hc]
            simp only [HPA.out, HPC.out, show (⟨#[47]⟩ : ByteArray) = Sp.bts [47] from rfl, bts_app]
            simp
          · go_enter Tryz.func54, Tryz.ntmps54
            go_wp2_with fail
            refine (HA.out ha _).mono ?_
            rintro e w1 ⟨rfl, rfl⟩
            go_wp2
            go_ret
            refine ⟨rret_str ?_, HBX.out⟩
            rw [HT.out, if_pos ha, if_neg (by omega), if_neg (by omega)]
            simp only [HPA.out]
            simp
      · by_cases hb : 0 ≤ to1
        · by_cases hc : 0 < st
          · go_enter Tryz.func54, Tryz.ntmps54
            go_wp2_with fail
            refine (HB.out hb _).mono ?_
            rintro e w1 ⟨rfl, rfl⟩
            go_wp2_with fail
            refine (HC.out hc _).mono ?_
            rintro e w1 ⟨rfl, rfl⟩
            go_wp2
            go_ret
            refine ⟨rret_str ?_, HBX.out⟩
            rw [HT.out, if_neg (by omega), if_pos hb, if_pos hc]
            simp only [show (⟨#[42]⟩ : ByteArray) = Sp.bts [42] from rfl, HPB.out, show (⟨#[46, 46]⟩ : ByteArray) = Sp.bts [46, 46] from rfl, HPC.out, show (⟨#[47]⟩ : ByteArray) = Sp.bts [47] from rfl, bts_app]
            simp
          · go_enter Tryz.func54, Tryz.ntmps54
            go_wp2_with fail
            refine (HB.out hb _).mono ?_
            rintro e w1 ⟨rfl, rfl⟩
            go_wp2
            go_ret
            refine ⟨rret_str ?_, HBX.out⟩
            rw [HT.out, if_neg (by omega), if_pos hb, if_neg (by omega)]
            simp only [show (⟨#[42]⟩ : ByteArray) = Sp.bts [42] from rfl, HPB.out, show (⟨#[46, 46]⟩ : ByteArray) = Sp.bts [46, 46] from rfl, bts_app]
            simp
        · by_cases hc : 0 < st
          · go_enter Tryz.func54, Tryz.ntmps54
            go_wp2_with fail
            refine (HC.out hc _).mono ?_
            rintro e w1 ⟨rfl, rfl⟩
            go_wp2
            go_ret
            refine ⟨rret_str ?_, HBX.out⟩
            rw [HT.out, if_neg (by omega), if_neg (by omega), if_pos hc]
            simp only [show (⟨#[42]⟩ : ByteArray) = Sp.bts [42] from rfl, HPC.out, show (⟨#[47]⟩ : ByteArray) = Sp.bts [47] from rfl, bts_app]
            simp
          · go_enter Tryz.func54, Tryz.ntmps54
            go_wp2
            go_ret
            refine ⟨rret_str ?_, HBX.out⟩
            rw [HT.out, if_neg (by omega), if_neg (by omega), if_neg (by omega)]
            simp only [show (⟨#[42]⟩ : ByteArray) = Sp.bts [42] from rfl]
            simp
    · have f0 : ¬ (f : Int) = 0 := by omega
      have f1 : ((f : Int) == 0) = false := by simp; omega
      clear hg
      by_cases ha : 0 ≤ fr
      · by_cases hb : 0 ≤ to1
        · by_cases hc : 0 < st
          · go_enter Tryz.func54, Tryz.ntmps54
            go_wp2_with fail
            refine (HA.out ha _).mono ?_
            rintro e w1 ⟨rfl, rfl⟩
            go_wp2_with fail
            refine (HB.out hb _).mono ?_
            rintro e w1 ⟨rfl, rfl⟩
            go_wp2_with fail
            refine (HC.out hc _).mono ?_
            rintro e w1 ⟨rfl, rfl⟩
            go_wp2
            go_ret
            refine ⟨rret_str ?_, HBX.out⟩
            rw [HT.out, if_pos ha, if_pos hb, if_pos hc]
            simp only [HPA.out, HPB.out, show (⟨#[46, 46]⟩ : ByteArray) = Sp.bts [46, 46] from rfl, HPC.out, show (⟨#[47]⟩ : ByteArray) = Sp.bts [47] from rfl, bts_app]
            simp
          · go_enter Tryz.func54, Tryz.ntmps54
            go_wp2_with fail
            refine (HA.out ha _).mono ?_
            rintro e w1 ⟨rfl, rfl⟩
            go_wp2_with fail
            refine (HB.out hb _).mono ?_
            rintro e w1 ⟨rfl, rfl⟩
            go_wp2
            go_ret
            refine ⟨rret_str ?_, HBX.out⟩
            rw [HT.out, if_pos ha, if_pos hb, if_neg (by omega)]
            simp only [HPA.out, HPB.out, show (⟨#[46, 46]⟩ : ByteArray) = Sp.bts [46, 46] from rfl, bts_app]
            simp
        · by_cases hc : 0 < st
          · go_enter Tryz.func54, Tryz.ntmps54
            go_wp2_with fail
            refine (HA.out ha _).mono ?_
            rintro e w1 ⟨rfl, rfl⟩
            go_wp2_with fail
            refine (HC.out hc _).mono ?_
            rintro e w1 ⟨rfl, rfl⟩
            go_wp2
            go_ret
            refine ⟨rret_str ?_, HBX.out⟩
            rw [HT.out, if_pos ha, if_neg (by omega), if_pos hc]
            simp only [HPA.out, HPC.out, show (⟨#[47]⟩ : ByteArray) = Sp.bts [47] from rfl, bts_app]
            simp
          · go_enter Tryz.func54, Tryz.ntmps54
            go_wp2_with fail
            refine (HA.out ha _).mono ?_
            rintro e w1 ⟨rfl, rfl⟩
            go_wp2
            go_ret
            refine ⟨rret_str ?_, HBX.out⟩
            rw [HT.out, if_pos ha, if_neg (by omega), if_neg (by omega)]
            simp only [HPA.out]
            simp
      · by_cases hb : 0 ≤ to1
        · by_cases hc : 0 < st
          · go_enter Tryz.func54, Tryz.ntmps54
            go_wp2_with fail
            refine (HB.out hb _).mono ?_
            rintro e w1 ⟨rfl, rfl⟩
            go_wp2_with fail
            refine (HC.out hc _).mono ?_
            rintro e w1 ⟨rfl, rfl⟩
            go_wp2
            go_ret
            refine ⟨rret_str ?_, HBX.out⟩
            rw [HT.out, if_neg (by omega), if_pos hb, if_pos hc]
            simp only [show (⟨#[42]⟩ : ByteArray) = Sp.bts [42] from rfl, HPB.out, show (⟨#[46, 46]⟩ : ByteArray) = Sp.bts [46, 46] from rfl, HPC.out, show (⟨#[47]⟩ : ByteArray) = Sp.bts [47] from rfl, bts_app]
            simp
          · go_enter Tryz.func54, Tryz.ntmps54
            go_wp2_with fail
            refine (HB.out hb _).mono ?_
            rintro e w1 ⟨rfl, rfl⟩
            go_wp2
            go_ret
            refine ⟨rret_str ?_, HBX.out⟩
            rw [HT.out, if_neg (by omega), if_pos hb, if_neg (by omega)]
            simp only [show (⟨#[42]⟩ : ByteArray) = Sp.bts [42] from rfl, HPB.out, show (⟨#[46, 46]⟩ : ByteArray) = Sp.bts [46, 46] from rfl, bts_app]
            simp
        · by_cases hc : 0 < st
          · go_enter Tryz.func54, Tryz.ntmps54
            go_wp2_with fail
            refine (HC.out hc _).mono ?_
            rintro e w1 ⟨rfl, rfl⟩
            go_wp2
            go_ret
            refine ⟨rret_str ?_, HBX.out⟩
            rw [HT.out, if_neg (by omega), if_neg (by omega), if_pos hc]
            simp only [show (⟨#[42]⟩ : ByteArray) = Sp.bts [42] from rfl, HPC.out, show (⟨#[47]⟩ : ByteArray) = Sp.bts [47] from rfl, bts_app]
            simp
          · go_enter Tryz.func54, Tryz.ntmps54
            go_wp2
            go_ret
            refine ⟨rret_str ?_, HBX.out⟩
            rw [HT.out, if_neg (by omega), if_neg (by omega), if_neg (by omega)]
            simp only [show (⟨#[42]⟩ : ByteArray) = Sp.bts [42] from rfl]
            simp
  exact key hg

end Go.Proofs.YtopmdffiikajnaaGreatDoor
