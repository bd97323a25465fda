/-
  The walk of the reference's span that a text says.
-/
import Derived.Test.YtnfbhhffclahjaaDoorTsB
namespace Go.Proofs.YtnfbhhffclahjaaDoor
open Go.RowKit Go.Lib Go.Sort

theorem take_one (s : ByteArray) (k : Nat) (h : k < s.size) : s.data.toList.take (k + 1) = s.data.toList.take k ++ [s[k]] := by
  rw [List.take_succ_eq_append_getElem (by simpa using h)]; simp [ByteArray.getElem_eq_getElem_data]
theorem decV_step (s : ByteArray) (k : Nat) (h : k < s.size) : Sp.decV (s.data.toList.take (k + 1)) = 10 * Sp.decV (s.data.toList.take k) + (s[k].toNat - 48) := by
  rw [take_one s k h, Sp.decV_snoc]
theorem div_no (n u : Nat) (hu : 0 < u) (h : n * u ≤ 6311433600) : ¬ (6311433600 : Int) / (u : Int) < (n : Int) := by
  have h1 : n ≤ 6311433600 / u := (Nat.le_div_iff_mul_le hu).2 h
  have h2 : ((6311433600 : Int) / (u : Int)) = ((6311433600 / u : Nat) : Int) := by simp
  rw [h2]
  omega
theorem div_cases (n u : Nat) (hu : 0 < u) : (6311433600 : Int) / (u : Int) < (n : Int) ∨ (¬ (6311433600 : Int) / (u : Int) < (n : Int) ∧ n * u ≤ 6311433600) := by
  have h2 : ((6311433600 : Int) / (u : Int)) = ((6311433600 / u : Nat) : Int) := by simp
  rw [h2]
  by_cases h : n ≤ 6311433600 / u
  · exact .inr ⟨by omega, (Nat.le_div_iff_mul_le hu).1 h⟩
  · exact .inl (by omega)

set_option maxHeartbeats 4000000 in
theorem rspan_any (s : ByteArray) (w : World) (hs : s.size ≤ 4294967296) :
    Calls Tryd.prog 9 #[.string s] w fun e w' => e = .returned (spanE (Sp.parseL s.data.toList)) ∧ Below w.heap.size w w' := by
  by_cases hE : s.data.toList = Sp.endless
  · rw [parse_ev _ hE, ba_of s _ hE]
    go_enter Tryd.func9, Tryd.ntmps9
    go_wp2
    go_ret2
    exact ⟨rfl, Below.refl _ _⟩
  have hEb := eq_no s Sp.endless hE
  have HNO := Lib.hid (parse_no _ hE)
  have HSOME := Lib.hid (parse_some _ hE)
  have HEB : Hid ((s.toList == [105, 110, 102, 105, 110, 105, 116, 121]) = false) := Lib.hid hEb
  clear hE hEb
  have hEb := HEB.out
  go_enter Tryd.func9, Tryd.ntmps9
  go_wp2_with fail
  refine (rblanks_row s w hs).mono ?_
  rintro e w1 ⟨A, c, l, rfl, hl, hr, hb1⟩
  have hlp : l.length = (Sp.partsOf s.data.toList).length := by have := congrArg List.length hl; simpa using this
  have hpl := Sp.partsOf_len s.data.toList
  have hz : s.data.toList.length = s.size := by simp
  have hln : l.length ≤ 4294967296 := by omega
  have HBY : Hid (∀ b ∈ l, b.size ≤ 4294967296) := Lib.hid (by
    intro b hb
    have h1 : b.data.toList ∈ Sp.partsOf s.data.toList := by rw [← hl]; exact List.mem_map.2 ⟨b, hb, rfl⟩
    have h2 := Sp.partsOf_bytes _ _ h1
    have h3 : b.data.toList.length = b.size := by simp
    omega)
  generalize Sp.partsOf s.data.toList = p at *
  have HL := Lib.hid hl
  have HLP := Lib.hid hlp
  clear hl hlp hpl hz hEb
  go_wp2_with fail
  go_loop [5, 17] (fun tv i => ∃ (k t : Nat), k ≤ l.length ∧ tv = .int .i64 t ∧ i = .int .i64 k ∧ t ≤ 6311433600 ∧ Hid (SumAt p k t)) (fun _ i => l.length - (intOf i).toNat)
  case atStart => exact ⟨0, 0, Nat.zero_le _, rfl, rfl, by omega, Lib.hid (SumAt.start _)⟩
  case round =>
    obtain ⟨k, t, hk, rfl, rfl, ht, HS⟩ := hrel
    by_cases hlt : k < l.length
    · obtain ⟨ad, rfl, hc⟩ := rd_at hr k hlt
      have HDR := Lib.hid (drop_at l p HL.out k hlt)
      have hsz : l[k].size ≤ 4294967296 := HBY.out _ (List.getElem_mem hlt)
      generalize l[k] = x at *
      have x1 : (0 : Int) ≤ (k : Int) := by omega
      have x2 : (k : Int) < (l.length : Int) := by omega
      have hdl := Sp.digs_le x.data.toList
      have hz : x.data.toList.length = x.size := by simp
      rw [hz] at hdl
      have HAT := Lib.hid (Sp.digs_at x)
      have HEND := Lib.hid (Sp.digs_end x)
      have HDT := Lib.hid (Sp.digs_take x.data.toList)
      have HWD : Hid (Sp.wordS x.data.toList = if Sp.digs x.data.toList = 0 ∨ 10 < Sp.digs x.data.toList ∨ Sp.secs (x.data.toList.drop (Sp.digs x.data.toList)) = 0 then none else some (Sp.decV (x.data.toList.take (Sp.digs x.data.toList)) * Sp.secs (x.data.toList.drop (Sp.digs x.data.toList)))) := Lib.hid rfl
      generalize Sp.digs x.data.toList = d at *
      clear hz
      go_wp2_with fail
      go_loop [8, 9] (fun jv nv => ∃ (j n : Nat), j ≤ d ∧ j ≤ 10 ∧ jv = .int .i64 j ∧ nv = .int .i64 n ∧ n < 10 ^ j ∧ Hid (n = Sp.decV (x.data.toList.take j))) (fun jv _ => x.size - (intOf jv).toNat)
      case atStart => exact ⟨0, 0, Nat.zero_le _, Nat.zero_le _, rfl, rfl, by decide, Lib.hid rfl⟩
      case round =>
        obtain ⟨j, n, hj, hj10, rfl, rfl, hn10, HN⟩ := hrel
        have hpow : 10 ^ j ≤ 10 ^ 10 := Nat.pow_le_pow_right (by omega) hj10
        have hn : n < 10000000000 := by omega
        by_cases hjd : j < d
        · obtain ⟨hjs, hdg⟩ := HAT.out j hjd
          have HG := Lib.hid hdg
          have hdv : 48 ≤ x[j].toNat ∧ x[j].toNat ≤ 57 := by simpa [Sp.digit] using hdg
          by_cases hj9 : j < 10
          · have HD := Lib.hid (decV_step x j hjs)
            have e48 : (48 : Int) ≤ (x[j].toNat : Int) := by omega
            have e57 : (x[j].toNat : Int) ≤ 57 := by omega
            have hnx : 10 * n + (x[j].toNat - 48) < 10 ^ (j + 1) := by rw [Nat.pow_succ]; omega
            clear hdg hdv hpow hn10
            go_wp2_with (go_at_call 17; refine (rdigit_any _ _).mono ?_; rintro e w' ⟨rfl, rfl⟩; rw [HG.out])
            go_round
            case rel => exact ⟨j + 1, 10 * n + (x[j].toNat - 48), by omega, by omega, by go_num, by go_num, hnx, Lib.hid (by rw [HD.out, ← HN.out])⟩
            case measure => first | (simp [intOf]; done) | (simp [intOf]; omega)
          · have hnone : Sp.wordS x.data.toList = none := by rw [HWD.out, if_pos (.inr (.inl (by omega)))]
            have HF := Lib.hid (HNO.out (HS.out.none HDR.out hnone))
            clear hdg hdv hpow hn10 hnone
            go_wp2_with (go_at_call 17; refine (rdigit_any _ _).mono ?_; rintro e w' ⟨rfl, rfl⟩; rw [HG.out])
            go_ret2
            exact ⟨by rw [HF.out]; rfl, hb1⟩
        · skip
          obtain rfl : j = d := by omega
          have hu2 := Sp.secs_le (x.data.toList.drop j)
          generalize hDU : Sp.secs (x.data.toList.drop j) = u at *
          have HDU := Lib.hid hDU
          have HDP : Hid (Sp.secs (x.extract j x.size).data.toList = u) := Lib.hid (by rw [ext_drop]; exact hDU)
          clear hDU hpow hn10
          by_cases hjs : j < x.size
          · have HE := Lib.hid (HEND.out hjs)
            go_wp2_with (go_at_call 17; refine (rdigit_any _ _).mono ?_; rintro e w' ⟨rfl, rfl⟩; rw [HE.out])
            refine (unit_any (x.extract j x.size) _).mono ?_
            rintro e w' ⟨rfl, rfl⟩
            rw [HDP.out]
            by_cases c1 : j = 0
            · have HF := Lib.hid (HNO.out (HS.out.none HDR.out (by rw [HWD.out, if_pos (.inl c1)])))
              subst c1
              go_wp2
              go_ret2
              exact ⟨by rw [HF.out]; rfl, hb1⟩
            by_cases c3 : u = 0
            · have HF := Lib.hid (HNO.out (HS.out.none HDR.out (by rw [HWD.out, if_pos (.inr (.inr c3))])))
              subst c3
              go_wp2
              go_ret2
              exact ⟨by rw [HF.out]; rfl, hb1⟩
            have c1b : ((j : Int) == 0) = false := by simpa using c1
            have c3b : ((u : Int) == 0) = false := by simpa using c3
            have HW2 : Hid (Sp.wordS x.data.toList = some (n * u)) := Lib.hid (by rw [HWD.out, if_neg (by omega), HN.out])
            rcases div_cases n u (by omega) with g1 | ⟨g1, g2⟩
            · have hover : 6311433600 < t + n * u := by
                rcases Nat.lt_or_ge 6311433600 (n * u) with h | h
                · omega
                · exact absurd g1 (div_no n u (by omega) h)
              have HF := Lib.hid (HNO.out (HS.out.over HDR.out HW2.out hover))
              clear hover
              go_wp2
              go_ret2
              exact ⟨by rw [HF.out]; rfl, hb1⟩
            · have g2i : (n : Int) * (u : Int) ≤ 6311433600 := by rw [← Int.natCast_mul]; exact Int.ofNat_le.2 g2
              have g0i : (0 : Int) ≤ (n : Int) * (u : Int) := by rw [← Int.natCast_mul]; exact Int.natCast_nonneg _
              by_cases hov : 6311433600 < t + n * u
              · have HF := Lib.hid (HNO.out (HS.out.over HDR.out HW2.out hov))
                have g3 : (6311433600 : Int) - (t : Int) < (n : Int) * (u : Int) := by rw [← Int.natCast_mul]; omega
                clear hov g2
                go_wp2
                go_ret2
                exact ⟨by rw [HF.out]; rfl, hb1⟩
              · have HM := Lib.hid (HS.out.more HDR.out HW2.out hov)
                have g3 : ¬ (6311433600 : Int) - (t : Int) < (n : Int) * (u : Int) := by rw [← Int.natCast_mul]; omega
                have hnew : t + n * u ≤ 6311433600 := by omega
                have hcast : ((t + n * u : Nat) : Int) = (t : Int) + (n : Int) * (u : Int) := by rw [Int.natCast_add, Int.natCast_mul]
                have HCA := Lib.hid hcast
                clear hov g2 hcast
                go_wp2
                go_round
                case rel => exact ⟨k + 1, t + n * u, by omega, by rw [HCA.out], by go_num, hnew, HM⟩
                case measure => first | (simp [intOf]; done) | (simp [intOf]; omega)
          · go_wp2_with fail
            refine (unit_any (x.extract j x.size) _).mono ?_
            rintro e w' ⟨rfl, rfl⟩
            rw [HDP.out]
            by_cases c1 : j = 0
            · have HF := Lib.hid (HNO.out (HS.out.none HDR.out (by rw [HWD.out, if_pos (.inl c1)])))
              subst c1
              go_wp2
              go_ret2
              exact ⟨by rw [HF.out]; rfl, hb1⟩
            by_cases c3 : u = 0
            · have HF := Lib.hid (HNO.out (HS.out.none HDR.out (by rw [HWD.out, if_pos (.inr (.inr c3))])))
              subst c3
              go_wp2
              go_ret2
              exact ⟨by rw [HF.out]; rfl, hb1⟩
            have c1b : ((j : Int) == 0) = false := by simpa using c1
            have c3b : ((u : Int) == 0) = false := by simpa using c3
            have HW2 : Hid (Sp.wordS x.data.toList = some (n * u)) := Lib.hid (by rw [HWD.out, if_neg (by omega), HN.out])
            rcases div_cases n u (by omega) with g1 | ⟨g1, g2⟩
            · have hover : 6311433600 < t + n * u := by
                rcases Nat.lt_or_ge 6311433600 (n * u) with h | h
                · omega
                · exact absurd g1 (div_no n u (by omega) h)
              have HF := Lib.hid (HNO.out (HS.out.over HDR.out HW2.out hover))
              clear hover
              go_wp2
              go_ret2
              exact ⟨by rw [HF.out]; rfl, hb1⟩
            · have g2i : (n : Int) * (u : Int) ≤ 6311433600 := by rw [← Int.natCast_mul]; exact Int.ofNat_le.2 g2
              have g0i : (0 : Int) ≤ (n : Int) * (u : Int) := by rw [← Int.natCast_mul]; exact Int.natCast_nonneg _
              by_cases hov : 6311433600 < t + n * u
              · have HF := Lib.hid (HNO.out (HS.out.over HDR.out HW2.out hov))
                have g3 : (6311433600 : Int) - (t : Int) < (n : Int) * (u : Int) := by rw [← Int.natCast_mul]; omega
                clear hov g2
                go_wp2
                go_ret2
                exact ⟨by rw [HF.out]; rfl, hb1⟩
              · have HM := Lib.hid (HS.out.more HDR.out HW2.out hov)
                have g3 : ¬ (6311433600 : Int) - (t : Int) < (n : Int) * (u : Int) := by rw [← Int.natCast_mul]; omega
                have hnew : t + n * u ≤ 6311433600 := by omega
                have hcast : ((t + n * u : Nat) : Int) = (t : Int) + (n : Int) * (u : Int) := by rw [Int.natCast_add, Int.natCast_mul]
                have HCA := Lib.hid hcast
                clear hov g2 hcast
                go_wp2
                go_round
                case rel => exact ⟨k + 1, t + n * u, by omega, by rw [HCA.out], by go_num, hnew, HM⟩
                case measure => first | (simp [intOf]; done) | (simp [intOf]; omega)
    · have x1 : ¬ (k : Int) < (l.length : Int) := by omega
      have HN := Lib.hid (HSOME.out t (HS.out.done (by rw [← HLP.out]; exact hlt)))
      have hem : (!p.isEmpty) = decide (0 < (l.length : Int)) := by
        rw [← HL.out]
        cases l <;> simp
      have HEM := Lib.hid hem
      clear hem
      go_wp2
      go_ret2
      exact ⟨by rw [HN.out]; simp [spanE, HEM.out], hb1⟩

end Go.Proofs.YtnfbhhffclahjaaDoor
