/-
  The reference: two graphs compared.
-/
import Derived.Test.YtkgkipohalekmaaDoorBk2
namespace Go.Proofs.YtkgkipohalekmaaDoor
open Go.RowKit

theorem eq_Node (x0 y0 : ByteArray) (x1 y1 : Int) (x2 y2 : Int) (w : World) : (Op.equalIn 10000 86 (.agg #[.string x0, .int .i64 x1, .int .i64 x2]) (.agg #[.string y0, .int .i64 y1, .int .i64 y2])).run Tryd.prog w = .ok (decide (x0.toList = y0.toList ∧ x1 = y1 ∧ x2 = y2)) w := by
  have u3 := Tryd.underlying3
  have us := Tryd.underlying9
  have ub := Tryd.underlying4
  have hS : Tryd.prog.underlying 86 = some (.struct (Tryd.prog.fieldsOf 86)) := by kernel_rfl
  have hp : Tryd.prog.stoodInHeld 86 = false := by kernel_rfl
  rw [show (10000 : Nat) = 9999 + 1 from rfl, run_equalIn_agg w 9999 86 _ _ hS hp]
  simp only [Program.fieldsOf, Tryd.underlying86]
  go_simp
  clear u3 us ub hS hp
  repeat' split
  all_goals simp_all
@[go_sem] theorem guard_Node (x y : Operand) (xs ys : Array Value) (w : World) : (eqGuard .neq 86 x y (.agg xs) (.agg ys)).run Tryd.prog w = .ok () w := run_eqGuard_agg w _ _ _ _ _ _ (by kernel_rfl)

theorem open_Node {w : World} {B : Nat} {ee : List Ce} {ue : List Value} (ho : Ce.Oks ee [.s, .i, .i]) (ha : Ce.Ats w B ee ue) : ∃ (x0 : ByteArray) (x1 : Int) (x2 : Int), ee = [.s x0, .i x1, .i x2] ∧ ue = [.string x0, .int .i64 x1, .int .i64 x2] := by
  obtain ⟨x0, r0, u0, rfl, rfl, ho, ha⟩ := cons_s ho ha
  obtain ⟨x1, r1, u1, rfl, rfl, ho, ha⟩ := cons_i ho ha
  obtain ⟨x2, r2, u2, rfl, rfl, ho, ha⟩ := cons_i ho ha
  obtain ⟨rfl, rfl⟩ := cons_nil ho ha
  exact ⟨x0, x1, x2, rfl, rfl⟩

theorem eq_Edge (x0 y0 : ByteArray) (x1 y1 : ByteArray) (x2 y2 : Int) (w : World) : (Op.equalIn 10000 88 (.agg #[.string x0, .string x1, .int .i64 x2]) (.agg #[.string y0, .string y1, .int .i64 y2])).run Tryd.prog w = .ok (decide (x0.toList = y0.toList ∧ x1.toList = y1.toList ∧ x2 = y2)) w := by
  have u3 := Tryd.underlying3
  have us := Tryd.underlying9
  have ub := Tryd.underlying4
  have hS : Tryd.prog.underlying 88 = some (.struct (Tryd.prog.fieldsOf 88)) := by kernel_rfl
  have hp : Tryd.prog.stoodInHeld 88 = false := by kernel_rfl
  rw [show (10000 : Nat) = 9999 + 1 from rfl, run_equalIn_agg w 9999 88 _ _ hS hp]
  simp only [Program.fieldsOf, Tryd.underlying88]
  go_simp
  clear u3 us ub hS hp
  repeat' split
  all_goals simp_all
@[go_sem] theorem guard_Edge (x y : Operand) (xs ys : Array Value) (w : World) : (eqGuard .neq 88 x y (.agg xs) (.agg ys)).run Tryd.prog w = .ok () w := run_eqGuard_agg w _ _ _ _ _ _ (by kernel_rfl)

theorem open_Edge {w : World} {B : Nat} {ee : List Ce} {ue : List Value} (ho : Ce.Oks ee [.s, .s, .i]) (ha : Ce.Ats w B ee ue) : ∃ (x0 : ByteArray) (x1 : ByteArray) (x2 : Int), ee = [.s x0, .s x1, .i x2] ∧ ue = [.string x0, .string x1, .int .i64 x2] := by
  obtain ⟨x0, r0, u0, rfl, rfl, ho, ha⟩ := cons_s ho ha
  obtain ⟨x1, r1, u1, rfl, rfl, ho, ha⟩ := cons_s ho ha
  obtain ⟨x2, r2, u2, rfl, rfl, ho, ha⟩ := cons_i ho ha
  obtain ⟨rfl, rfl⟩ := cons_nil ho ha
  exact ⟨x0, x1, x2, rfl, rfl⟩

set_option maxRecDepth 100000 in
set_option maxHeartbeats 8000000 in
theorem same_graph {W0 w : World} {v0 v1 v0' v1' : Value} {n0 n0' n1 n1' nb0 nb1 : Nat} {e0 e0' e1 e1' : List Ce} (hb0 : Below W0.heap.size W0 w) (ha0 : (Ce.l n0 e0).At W0 W0.heap.size v0) (ha0' : (Ce.l n0' e0').At W0 W0.heap.size v0') (hk0 : (Ce.l n0 e0).Ok (.l nb0 [.s, .i, .i])) (hk0' : (Ce.l n0' e0').Ok (.l nb0 [.s, .i, .i]))
    (ha1 : (Ce.l n1 e1).At W0 W0.heap.size v1) (ha1' : (Ce.l n1' e1').At W0 W0.heap.size v1') (hk1 : (Ce.l n1 e1).Ok (.l nb1 [.s, .s, .i])) (hk1' : (Ce.l n1' e1').Ok (.l nb1 [.s, .s, .i])) :
    Calls Tryd.prog 15 #[.agg #[v0, v1], .agg #[v0', v1']] w fun e w' => SameP ([Ce.l n0 e0, Ce.l n1 e1] = [Ce.l n0' e0', Ce.l n1' e1']) e ∧ Below w.heap.size w w' := by
  have hx1 := heap_alloc2_old w (.cells #[v0, v1] 26) (.cells #[v0', v1'] 26)
  have hx2 := heap_alloc2_new w (.cells #[v0, v1] 26) (.cells #[v0', v1'] 26)
  have hb2 : Below w.heap.size w ((w.alloc (.cells #[v0, v1] 26)).alloc (.cells #[v0', v1'] 26)) := ((Below.refl _ _).alloc (Nat.le_refl _) _).alloc (by simp) _
  have HG : Hid (∀ W, Below ((w.alloc (.cells #[v0, v1] 26)).alloc (.cells #[v0', v1'] 26)).heap.size ((w.alloc (.cells #[v0, v1] 26)).alloc (.cells #[v0', v1'] 26)) W → ∀ (b : Bool) (j : Nat) v, (if b then [v0', v1'] else [v0, v1])[j]? = some v → W.cell? ⟨if b then w.heap.size + 1 else w.heap.size, j, none⟩ = some v) := Lib.hid (fun W hW b j v hv => by
    have hsz : ((w.alloc (.cells #[v0, v1] 26)).alloc (.cells #[v0', v1'] 26)).heap.size = w.heap.size + 2 := by simp
    cases b with
    | false =>
      show W.cell? ⟨w.heap.size, j, none⟩ = some v
      rw [cell_of_row W _ j _ _ _ ((hW.block _ (by rw [hsz]; omega)).trans hx1), ← Array.getElem?_toList]
      exact hv
    | true =>
      show W.cell? ⟨w.heap.size + 1, j, none⟩ = some v
      rw [cell_of_row W _ j _ _ _ ((hW.block _ (by rw [hsz]; omega)).trans hx2), ← Array.getElem?_toList]
      exact hv)
  clear hx1 hx2
  obtain ⟨A0, cp0, k0, xs0, rfl, _, hr0, hat0⟩ : ∃ A cp k1 xs, v0 = .slice A n0 cp ∧ n0 ≤ cp ∧ Rd W0 W0.heap.size k1 A n0 xs ∧ Ce.Ats W0 W0.heap.size e0 xs := by unfold Ce.At at ha0; exact ha0
  unfold Ce.Ok at hk0
  have hn0 := hk0.1.1
  have HOK0 := Lib.hid hk0.2
  have HAT0 := Lib.hid hat0
  have HR0 := Lib.hid hr0.2
  obtain ⟨A0', cp0', k0', xs0', rfl, _, hr0', hat0'⟩ : ∃ A cp k1 xs, v0' = .slice A n0' cp ∧ n0' ≤ cp ∧ Rd W0 W0.heap.size k1 A n0' xs ∧ Ce.Ats W0 W0.heap.size e0' xs := by unfold Ce.At at ha0'; exact ha0'
  unfold Ce.Ok at hk0'
  have hn0' := hk0'.1.1
  have HOK0' := Lib.hid hk0'.2
  have HAT0' := Lib.hid hat0'
  have HR0' := Lib.hid hr0'.2
  obtain ⟨A1, cp1, k1, xs1, rfl, _, hr1, hat1⟩ : ∃ A cp k1 xs, v1 = .slice A n1 cp ∧ n1 ≤ cp ∧ Rd W0 W0.heap.size k1 A n1 xs ∧ Ce.Ats W0 W0.heap.size e1 xs := by unfold Ce.At at ha1; exact ha1
  unfold Ce.Ok at hk1
  have hn1 := hk1.1.1
  have HOK1 := Lib.hid hk1.2
  have HAT1 := Lib.hid hat1
  have HR1 := Lib.hid hr1.2
  obtain ⟨A1', cp1', k1', xs1', rfl, _, hr1', hat1'⟩ : ∃ A cp k1 xs, v1' = .slice A n1' cp ∧ n1' ≤ cp ∧ Rd W0 W0.heap.size k1 A n1' xs ∧ Ce.Ats W0 W0.heap.size e1' xs := by unfold Ce.At at ha1'; exact ha1'
  unfold Ce.Ok at hk1'
  have hn1' := hk1'.1.1
  have HOK1' := Lib.hid hk1'.2
  have HAT1' := Lib.hid hat1'
  have HR1' := Lib.hid hr1'.2
  have HB0 := Lib.hid hb0
  clear ha0 ha0' ha1 ha1' hk0 hk0' hk1 hk1' hr0 hr0' hr1 hr1' hat0 hat0' hat1 hat1' hb0
  obtain ⟨PP, hPP⟩ : ∃ PP, PP = ([Ce.l n0 e0, Ce.l n1 e1] = [Ce.l n0' e0', Ce.l n1' e1']) := ⟨_, rfl⟩
  rw [← hPP]
  have HN : Hid (PP → n0 = n0' ∧ n1 = n1') := Lib.hid (fun h => by rw [hPP] at h; injection h with h1 h2; injection h2 with h2 _; injection h1 with a b; injection h2 with c d; exact ⟨a, c⟩)
  have HX : Hid (¬ (e0 = e0' ∧ e1 = e1') → ¬ PP) := Lib.hid (fun hh h => by rw [hPP] at h; injection h with h1 h2; injection h2 with h2 _; injection h1 with a b; injection h2 with c d; exact hh ⟨b, d⟩)
  have HY : Hid (n0 = n0' → n1 = n1' → e0 = e0' → e1 = e1' → PP) := Lib.hid (fun a b c d => by rw [hPP, a, b, c, d])
  clear hPP
  go_enter Tryd.func15, Tryd.ntmps15
  go_upto_region 1 with fail
  generalize (w.alloc (.cells #[.slice A0 n0 cp0, .slice A1 n1 cp1] 26)).alloc (.cells #[.slice A0' n0' cp0', .slice A1' n1' cp1'] 26) = w2 at *
  have HB2 := Lib.hid hb2
  clear hb2
  have g1 := HG.out w2 (Below.refl _ _) false 0 _ rfl
  have g2 := HG.out w2 (Below.refl _ _) true 0 _ rfl
  have g3 := HG.out w2 (Below.refl _ _) false 1 _ rfl
  have g4 := HG.out w2 (Below.refl _ _) true 1 _ rfl
  simp only [if_true, if_false, Bool.false_eq_true] at g1 g2 g3 g4
  by_cases hnn : n0 = n0'
  · subst hnn
    by_cases hmm : n1 = n1'
    · subst hmm
      have HW0 : Hid (Below w2.heap.size w2 w2) := Lib.hid (Below.refl _ _)
      go_upto_region 3 with fail
      go_wp2_with fail
      clear g1 g2 g3 g4
      go_loopw [26] (fun kv wr => ∃ k : Nat, k ≤ n0 ∧ kv = .int .i64 k ∧ Hid (e0.take (k * 3) = e0'.take (k * 3)) ∧ Hid (Below w2.heap.size w2 wr)) (fun kv _ => n0 - (intOf kv).toNat)
      case atStart => exact ⟨0, Nat.zero_le _, rfl, Lib.hid (by simp), HW0⟩
      case round =>
        obtain ⟨k, hkn, rfl, HTK, HBW⟩ := hrel
        by_cases hlt : k < n0
        · have x1 : (0 : Int) ≤ (k : Int) := by omega
          have x2 : (k : Int) < (n0 : Int) := by omega
          have v1 : IntKind.i64.wrap ((k : Int) + 1) = ((k + 1 : Nat) : Int) := by rw [IntKind.wrap_i64]; omega
          obtain ⟨ad, rfl, hadb, hc⟩ := HR0.out (by omega)
          obtain ⟨ad', rfl, hadb', hc'⟩ := HR0'.out (by omega)
          have HB := Lib.hid (HB0.out.trans ((HB2.out.trans (HBW.out.mono HB2.out.size)).mono HB0.out.size))
          obtain ⟨ee, hee⟩ : ∃ ee, ee = (e0.drop (k * 3)).take 3 := ⟨_, rfl⟩
          obtain ⟨ee', hee'⟩ : ∃ ee, ee = (e0'.drop (k * 3)).take 3 := ⟨_, rfl⟩
          have ho : Ce.Oks ee [.s, .i, .i] := by rw [hee]; exact elem_oks (qE := [.s, .i, .i]) n0 e0 HOK0.out k hlt
          have ho' : Ce.Oks ee' [.s, .i, .i] := by rw [hee']; exact elem_oks (qE := [.s, .i, .i]) n0 e0' HOK0'.out k hlt
          have hu := elem_ats HAT0.out (k * 3) 3
          have hu' := elem_ats HAT0'.out (k * 3) 3
          rw [← hee] at hu
          rw [← hee'] at hu'
          obtain ⟨x0, x1, x2, rfl, hxs⟩ := open_Node ho hu
          obtain ⟨y0, y1, y2, rfl, hys⟩ := open_Node ho' hu'
          have HS : Hid (e0.take ((k + 1) * 3) = e0'.take ((k + 1) * 3) ↔ x0.toList = y0.toList ∧ x1 = y1 ∧ x2 = y2) := Lib.hid (by
            rw [take_step, take_step, HTK.out, ← hee, ← hee', List.append_cancel_left_eq]
            simp [bt_inj])
          have c0 := HB.out.cell (p := ad.add (k * 3 + 0)) (by rw [add_block]; exact hadb)
          rw [hc _ _ (elem_at hxs 0 _ (by decide) rfl)] at c0
          have d0 := HB.out.cell (p := ad'.add (k * 3 + 0)) (by rw [add_block]; exact hadb')
          rw [hc' _ _ (elem_at hys 0 _ (by decide) rfl)] at d0
          rw [Nat.add_zero] at c0 d0
          have c1 := HB.out.cell (p := ad.add (k * 3 + 1)) (by rw [add_block]; exact hadb)
          rw [hc _ _ (elem_at hxs 1 _ (by decide) rfl)] at c1
          have d1 := HB.out.cell (p := ad'.add (k * 3 + 1)) (by rw [add_block]; exact hadb')
          rw [hc' _ _ (elem_at hys 1 _ (by decide) rfl)] at d1
          rw [Mem.add_field _ _ 1 (by omega)] at c1 d1
          have c2 := HB.out.cell (p := ad.add (k * 3 + 2)) (by rw [add_block]; exact hadb)
          rw [hc _ _ (elem_at hxs 2 _ (by decide) rfl)] at c2
          have d2 := HB.out.cell (p := ad'.add (k * 3 + 2)) (by rw [add_block]; exact hadb')
          rw [hc' _ _ (elem_at hys 2 _ (by decide) rfl)] at d2
          rw [Mem.add_field _ _ 2 (by omega)] at c2 d2
          have HNE : Hid ((e0.take ((k + 1) * 3) ≠ e0'.take ((k + 1) * 3)) → ¬ PP) := Lib.hid (fun h => HX.out (fun e => h (by rw [e.1])))
          have g1 := HG.out wr HBW.out false 0 (.slice (some ad) n0 cp0) rfl
          have g2 := HG.out wr HBW.out true 0 (.slice (some ad') n0 cp0') rfl
          simp only [if_true, if_false, Bool.false_eq_true] at g1 g2
          clear hc hc' hee hee' ho ho' hu hu' hxs hys
          by_cases hP : x0.toList = y0.toList ∧ x1 = y1 ∧ x2 = y2
          · have HS2 := Lib.hid (HS.out.2 hP)
            have hq : ∀ w, (Op.equalIn 10000 86 (.agg #[.string x0, .int .i64 x1, .int .i64 x2]) (.agg #[.string y0, .int .i64 y1, .int .i64 y2])).run Tryd.prog w = .ok true w := fun w => by rw [eq_Node, decide_eq_true hP]
            clear hP HS HNE
            go_wp2_with fail
            go_quiet (fail)
            go_wp2
            go_roundw
            case rel => exact ⟨k + 1, by omega, by first | rfl | go_num, HS2, Lib.hid (belowQ HBW.out _)⟩
            case measure => first | (simp [intOf]; done) | (simp [intOf]; omega)
          · have HS2 := Lib.hid (HNE.out (fun h => hP (HS.out.1 h)))
            have hq : ∀ w, (Op.equalIn 10000 86 (.agg #[.string x0, .int .i64 x1, .int .i64 x2]) (.agg #[.string y0, .int .i64 y1, .int .i64 y2])).run Tryd.prog w = .ok false w := fun w => by rw [eq_Node, decide_eq_false hP]
            clear hP HS HNE
            go_wp2_with fail
            go_quiet (fail)
            go_wp2
            go_ret
            exact ⟨SameP.no HS2.out, HB2.out.trans ((belowQ HBW.out _).mono HB2.out.size)⟩
        · obtain rfl : k = n0 := by omega
          have x1 : ¬ (k : Int) < (k : Int) := by omega
          have HEQ0 : Hid (e0 = e0') := Lib.hid (by
            have h1 := Ce.oks_length _ _ HOK0.out
            have h2 := Ce.oks_length _ _ HOK0'.out
            have h3 : (List.replicate k ([.s, .i, .i] : List Ty)).flatten.length = k * 3 := by simp
            have h4 := HTK.out
            rw [List.take_of_length_le (by omega), List.take_of_length_le (by omega)] at h4
            exact h4)
          have HW1 := HBW
          clear HBW HTK
          have g3 := HG.out wr HW1.out false 1 _ rfl
          simp only [if_false, Bool.false_eq_true] at g3
          go_upto_region 9 with fail
          go_wp2_with fail
          clear g3
          go_loopw [44] (fun kv wr => ∃ k : Nat, k ≤ n1 ∧ kv = .int .i64 k ∧ Hid (e1.take (k * 3) = e1'.take (k * 3)) ∧ Hid (Below w2.heap.size w2 wr)) (fun kv _ => n1 - (intOf kv).toNat)
          case atStart => exact ⟨0, Nat.zero_le _, rfl, Lib.hid (by simp), HW1⟩
          case round =>
            obtain ⟨k, hkn, rfl, HTK, HBW⟩ := hrel
            by_cases hlt : k < n1
            · have x1 : (0 : Int) ≤ (k : Int) := by omega
              have x2 : (k : Int) < (n1 : Int) := by omega
              have v1 : IntKind.i64.wrap ((k : Int) + 1) = ((k + 1 : Nat) : Int) := by rw [IntKind.wrap_i64]; omega
              obtain ⟨ad, rfl, hadb, hc⟩ := HR1.out (by omega)
              obtain ⟨ad', rfl, hadb', hc'⟩ := HR1'.out (by omega)
              have HB := Lib.hid (HB0.out.trans ((HB2.out.trans (HBW.out.mono HB2.out.size)).mono HB0.out.size))
              obtain ⟨ee, hee⟩ : ∃ ee, ee = (e1.drop (k * 3)).take 3 := ⟨_, rfl⟩
              obtain ⟨ee', hee'⟩ : ∃ ee, ee = (e1'.drop (k * 3)).take 3 := ⟨_, rfl⟩
              have ho : Ce.Oks ee [.s, .s, .i] := by rw [hee]; exact elem_oks (qE := [.s, .s, .i]) n1 e1 HOK1.out k hlt
              have ho' : Ce.Oks ee' [.s, .s, .i] := by rw [hee']; exact elem_oks (qE := [.s, .s, .i]) n1 e1' HOK1'.out k hlt
              have hu := elem_ats HAT1.out (k * 3) 3
              have hu' := elem_ats HAT1'.out (k * 3) 3
              rw [← hee] at hu
              rw [← hee'] at hu'
              obtain ⟨x0, x1, x2, rfl, hxs⟩ := open_Edge ho hu
              obtain ⟨y0, y1, y2, rfl, hys⟩ := open_Edge ho' hu'
              have HS : Hid (e1.take ((k + 1) * 3) = e1'.take ((k + 1) * 3) ↔ x0.toList = y0.toList ∧ x1.toList = y1.toList ∧ x2 = y2) := Lib.hid (by
                rw [take_step, take_step, HTK.out, ← hee, ← hee', List.append_cancel_left_eq]
                simp [bt_inj])
              have c0 := HB.out.cell (p := ad.add (k * 3 + 0)) (by rw [add_block]; exact hadb)
              rw [hc _ _ (elem_at hxs 0 _ (by decide) rfl)] at c0
              have d0 := HB.out.cell (p := ad'.add (k * 3 + 0)) (by rw [add_block]; exact hadb')
              rw [hc' _ _ (elem_at hys 0 _ (by decide) rfl)] at d0
              rw [Nat.add_zero] at c0 d0
              have c1 := HB.out.cell (p := ad.add (k * 3 + 1)) (by rw [add_block]; exact hadb)
              rw [hc _ _ (elem_at hxs 1 _ (by decide) rfl)] at c1
              have d1 := HB.out.cell (p := ad'.add (k * 3 + 1)) (by rw [add_block]; exact hadb')
              rw [hc' _ _ (elem_at hys 1 _ (by decide) rfl)] at d1
              rw [Mem.add_field _ _ 1 (by omega)] at c1 d1
              have c2 := HB.out.cell (p := ad.add (k * 3 + 2)) (by rw [add_block]; exact hadb)
              rw [hc _ _ (elem_at hxs 2 _ (by decide) rfl)] at c2
              have d2 := HB.out.cell (p := ad'.add (k * 3 + 2)) (by rw [add_block]; exact hadb')
              rw [hc' _ _ (elem_at hys 2 _ (by decide) rfl)] at d2
              rw [Mem.add_field _ _ 2 (by omega)] at c2 d2
              have HNE : Hid ((e1.take ((k + 1) * 3) ≠ e1'.take ((k + 1) * 3)) → ¬ PP) := Lib.hid (fun h => HX.out (fun e => h (by rw [e.2])))
              have g1 := HG.out wr HBW.out false 1 (.slice (some ad) n1 cp1) rfl
              have g2 := HG.out wr HBW.out true 1 (.slice (some ad') n1 cp1') rfl
              simp only [if_true, if_false, Bool.false_eq_true] at g1 g2
              clear hc hc' hee hee' ho ho' hu hu' hxs hys
              by_cases hP : x0.toList = y0.toList ∧ x1.toList = y1.toList ∧ x2 = y2
              · have HS2 := Lib.hid (HS.out.2 hP)
                have hq : ∀ w, (Op.equalIn 10000 88 (.agg #[.string x0, .string x1, .int .i64 x2]) (.agg #[.string y0, .string y1, .int .i64 y2])).run Tryd.prog w = .ok true w := fun w => by rw [eq_Edge, decide_eq_true hP]
                clear hP HS HNE
                go_wp2_with fail
                go_quiet (fail)
                go_wp2
                go_roundw
                case rel => exact ⟨k + 1, by omega, by first | rfl | go_num, HS2, Lib.hid (belowQ HBW.out _)⟩
                case measure => first | (simp [intOf]; done) | (simp [intOf]; omega)
              · have HS2 := Lib.hid (HNE.out (fun h => hP (HS.out.1 h)))
                have hq : ∀ w, (Op.equalIn 10000 88 (.agg #[.string x0, .string x1, .int .i64 x2]) (.agg #[.string y0, .string y1, .int .i64 y2])).run Tryd.prog w = .ok false w := fun w => by rw [eq_Edge, decide_eq_false hP]
                clear hP HS HNE
                go_wp2_with fail
                go_quiet (fail)
                go_wp2
                go_ret
                exact ⟨SameP.no HS2.out, HB2.out.trans ((belowQ HBW.out _).mono HB2.out.size)⟩
            · obtain rfl : k = n1 := by omega
              have x1 : ¬ (k : Int) < (k : Int) := by omega
              have HEQ1 : Hid (e1 = e1') := Lib.hid (by
                have h1 := Ce.oks_length _ _ HOK1.out
                have h2 := Ce.oks_length _ _ HOK1'.out
                have h3 : (List.replicate k ([.s, .s, .i] : List Ty)).flatten.length = k * 3 := by simp
                have h4 := HTK.out
                rw [List.take_of_length_le (by omega), List.take_of_length_le (by omega)] at h4
                exact h4)
              have HW2 := HBW
              clear HBW HTK
              go_wp2
              go_ret
              exact ⟨SameP.yes (HY.out (by trivial) (by trivial) HEQ0.out HEQ1.out), HB2.out.trans (HW2.out.mono HB2.out.size)⟩
    · have hz : ((n1 : Int) != (n1' : Int)) = true := by
        rw [bne_iff_ne]
        omega
      have HNO : Hid (¬ PP) := Lib.hid (fun h => hmm (HN.out h).2)
      go_wp2
      go_ret
      exact ⟨SameP.no HNO.out, HB2.out⟩
  · have hz : ((n0 : Int) != (n0' : Int)) = true := by
      rw [bne_iff_ne]
      omega
    have HNO : Hid (¬ PP) := Lib.hid (fun h => hnn (HN.out h).1)
    go_wp2
    go_ret
    exact ⟨SameP.no HNO.out, HB2.out⟩

end Go.Proofs.YtkgkipohalekmaaDoor
