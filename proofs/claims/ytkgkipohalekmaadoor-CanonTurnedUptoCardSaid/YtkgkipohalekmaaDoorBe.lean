/-
  The reference's comparison of commands' lists.
-/
import Derived.Test.YtkgkipohalekmaaDoorBd
import Derived.Deep.Cut
namespace Go.Proofs.YtkgkipohalekmaaDoor
open Go.RowKit
/-- a world behind a region that draws -/
structure Since (B : Nat) (w : World) where
  w' : World
  hb : Below B w w'
instance {B : Nat} {w : World} : Inhabited (Since B w) := ⟨⟨w, Below.refl _ _⟩⟩
theorem wp_region_since {P : Program} {id : Nat} {Q : Exit → Act → World → Prop} {a : Act} {w : World} {l : List Oper} (B : Nat) (hm : P.follows .mixedOrders = true) (hB : Region.lexB .any l.toArray = true)
    (h : wpQuiet P l.toArray (fun w' => ∃ p : Since B w, w' = p.w') (fun a' => ∀ w', (∃ p : Since B w, w' = p.w') → Q .normal a' w') l a) : (Code.region id l.toArray true).wp P Q a w :=
  wp_region_quiet (C := fun w' => ∃ p : Since B w, w' = p.w') hm hB ⟨⟨w.drewN 1, belowQ (Below.refl _ _) _⟩, rfl⟩ (by simpa using h)
theorem Calls.since_of {P : Program} {f : FuncId} {args : Array Value} {B : Nat} {w : World} {p : Since B w} {v : Value} (hw : B ≤ w.heap.size)
    (h : Calls P f args p.w' fun e w' => e = .returned v ∧ Below p.w'.heap.size p.w' w') : Calls P f args p.w' fun e w'' => e = .returned v ∧ ∃ q : Since B w, w'' = q.w' :=
  h.mono fun _ _ ⟨he, hb⟩ => ⟨he, ⟨⟨_, p.hb.trans (hb.mono (Nat.le_trans hw p.hb.size))⟩, rfl⟩⟩
/-- a truth value of what is so -/
noncomputable def dB (P : Prop) : Bool := @decide P (Classical.propDecidable P)
theorem dB_iff (P : Prop) : dB P = true ↔ P := @decide_eq_true_iff P (Classical.propDecidable P)
theorem SameP.eq {P : Prop} {e : Ending} (h : SameP P e) : e = .returned (.bool (dB P)) := by
  obtain ⟨b, rfl, hb⟩ := h
  have : b = dB P := by
    rw [Bool.eq_iff_iff, dB_iff]
    exact hb
  rw [this]
theorem SameP.of {P : Prop} : SameP P (.returned (.bool (dB P))) := ⟨dB P, rfl, dB_iff P⟩
theorem bool_ne {a b : Bool} (h : (a != b) = true) : (a = true ∧ b = false) ∨ (a = false ∧ b = true) := by
  cases a <;> cases b <;> simp at h ⊢
theorem dB_yes {P : Prop} (h : P) : dB P = true := (dB_iff P).2 h
theorem dB_no {P : Prop} (h : ¬ P) : dB P = false := by
  cases hx : dB P with
  | false => rfl
  | true => exact absurd ((dB_iff P).1 hx) h

set_option maxRecDepth 100000 in
set_option maxHeartbeats 8000000 in
theorem same_Execs {W0 w : World} {v v' : Value} {n n' nb : Nat} {es es' : List Ce} (hb0 : Below W0.heap.size W0 w) (ha : (Ce.l n es).At W0 W0.heap.size v) (ha' : (Ce.l n' es').At W0 W0.heap.size v') (hk : (Ce.l n es).Ok (.l nb [.b, .l (Tryd.prog.bytesOf 9) [.s]])) (hk' : (Ce.l n' es').Ok (.l nb [.b, .l (Tryd.prog.bytesOf 9) [.s]])) :
    Calls Tryd.prog 52 #[v, v'] w fun e w' => SameP (Ce.l n es = Ce.l n' es') e ∧ Below w.heap.size w w' := by
  obtain ⟨A, cp, k1, xs, rfl, _, hr, hat⟩ : ∃ A cp k1 xs, v = .slice A n cp ∧ n ≤ cp ∧ Rd W0 W0.heap.size k1 A n xs ∧ Ce.Ats W0 W0.heap.size es xs := by unfold Ce.At at ha; exact ha
  obtain ⟨A', cp', k2, ys, rfl, _, hr', hat'⟩ : ∃ A cp k1 xs, v' = .slice A n' cp ∧ n' ≤ cp ∧ Rd W0 W0.heap.size k1 A n' xs ∧ Ce.Ats W0 W0.heap.size es' xs := by unfold Ce.At at ha'; exact ha'
  unfold Ce.Ok at hk hk'
  have hn := hk.1.1
  have hn' := hk'.1.1
  have HOK := Lib.hid hk.2
  have HOK' := Lib.hid hk'.2
  have HAT := Lib.hid hat
  have HAT' := Lib.hid hat'
  have HR := Lib.hid hr.2
  have HR' := Lib.hid hr'.2
  have HB0 := Lib.hid hb0
  clear ha ha' hk hk' hr hr' hat hat' hb0
  obtain ⟨PP, hPP⟩ : ∃ PP, PP = (Ce.l n es = Ce.l n' es') := ⟨_, rfl⟩
  rw [← hPP]
  have HY : Hid (Ce.l n es = Ce.l n' es' → PP) := Lib.hid (fun h => by rw [hPP]; exact h)
  have HX : Hid (Ce.l n es ≠ Ce.l n' es' → ¬ PP) := Lib.hid (fun h => by rw [hPP]; exact h)
  clear hPP
  by_cases hnn : n = n'
  · subst hnn
    go_enter Tryd.func52, Tryd.ntmps52
    go_wp2_with fail
    go_loopw [13] (fun kv wr => ∃ k : Nat, k ≤ n ∧ kv = .int .i64 k ∧ Hid (es.take (k * 2) = es'.take (k * 2)) ∧ Hid (Below w.heap.size w wr)) (fun kv _ => n - (intOf kv).toNat)
    case atStart => exact ⟨0, Nat.zero_le _, rfl, Lib.hid (by simp), Lib.hid (Below.refl _ _)⟩
    case round =>
      obtain ⟨k, hkn, rfl, HTK, HBW⟩ := hrel
      by_cases hlt : k < n
      · have x1 : (0 : Int) ≤ (k : Int) := by omega
        have x2 : (k : Int) < (n : Int) := by omega
        have v1 : IntKind.i64.wrap ((k : Int) + 1) = ((k + 1 : Nat) : Int) := by rw [IntKind.wrap_i64]; omega
        obtain ⟨ad, rfl, hadb, hc⟩ := HR.out (by omega)
        obtain ⟨ad', rfl, hadb', hc'⟩ := HR'.out (by omega)
        have HB := Lib.hid (HB0.out.trans (HBW.out.mono HB0.out.size))
        obtain ⟨ee, hee⟩ : ∃ ee, ee = (es.drop (k * 2)).take 2 := ⟨_, rfl⟩
        obtain ⟨ee', hee'⟩ : ∃ ee, ee = (es'.drop (k * 2)).take 2 := ⟨_, rfl⟩
        have ho : Ce.Oks ee [.b, .l (Tryd.prog.bytesOf 9) [.s]] := by rw [hee]; exact elem_oks (qE := [.b, .l (Tryd.prog.bytesOf 9) [.s]]) n es HOK.out k hlt
        have ho' : Ce.Oks ee' [.b, .l (Tryd.prog.bytesOf 9) [.s]] := by rw [hee']; exact elem_oks (qE := [.b, .l (Tryd.prog.bytesOf 9) [.s]]) n es' HOK'.out k hlt
        have hu := elem_ats HAT.out (k * 2) 2
        have hu' := elem_ats HAT'.out (k * 2) 2
        rw [← hee] at hu
        rw [← hee'] at hu'
        obtain ⟨x0, r0, u0, hx0, hx1, ho, hu⟩ := cons_b ho hu
        obtain ⟨m1, f1, r1, q1, u1, rfl, rfl, hok1, hat1, ho, hu⟩ := cons_l ho hu
        obtain ⟨rfl, rfl⟩ := cons_nil ho hu
        obtain ⟨y0, r0', u0', hy0, hy1, ho', hu'⟩ := cons_b ho' hu'
        obtain ⟨m2, f2, r2, q2, u2, rfl, rfl, hok2, hat2, ho', hu'⟩ := cons_l ho' hu'
        obtain ⟨rfl, rfl⟩ := cons_nil ho' hu'
        have HS : Hid (es.take ((k + 1) * 2) = es'.take ((k + 1) * 2) ↔ x0 = y0 ∧ Ce.l m1 f1 = Ce.l m2 f2) := Lib.hid (by
          rw [take_step, take_step, HTK.out, ← hee, ← hee', hx0, hy0, List.append_cancel_left_eq]
          simp)
        have HNE : Hid ((es.take ((k + 1) * 2) ≠ es'.take ((k + 1) * 2)) → Ce.l n es ≠ Ce.l n es') := Lib.hid (fun h e => h (by injection e with _ e; rw [e]))
        have c0 : ∀ p : Since wr.heap.size wr, p.w'.cell? (ad.add (k * 2)) = some (.bool x0) := fun p => by
          have c := (HB.out.trans (p.hb.mono HB.out.size)).cell (p := ad.add (k * 2 + 0)) (by rw [add_block]; exact hadb)
          rw [hc _ _ (elem_at hx1 0 _ (by decide) rfl), Nat.add_zero] at c
          exact c
        have c1 : ∀ p : Since wr.heap.size wr, p.w'.cell? ⟨(ad.add (k * 2)).block, (ad.add (k * 2)).off + 1, none⟩ = some q1 := fun p => by
          have c := (HB.out.trans (p.hb.mono HB.out.size)).cell (p := ad.add (k * 2 + 1)) (by rw [add_block]; exact hadb)
          rw [hc _ _ (elem_at hx1 1 _ (by decide) rfl), Mem.add_field _ _ 1 (by omega)] at c
          exact c
        have d0 : ∀ p : Since wr.heap.size wr, p.w'.cell? (ad'.add (k * 2)) = some (.bool y0) := fun p => by
          have c := (HB.out.trans (p.hb.mono HB.out.size)).cell (p := ad'.add (k * 2 + 0)) (by rw [add_block]; exact hadb')
          rw [hc' _ _ (elem_at hy1 0 _ (by decide) rfl), Nat.add_zero] at c
          exact c
        have d1 : ∀ p : Since wr.heap.size wr, p.w'.cell? ⟨(ad'.add (k * 2)).block, (ad'.add (k * 2)).off + 1, none⟩ = some q2 := fun p => by
          have c := (HB.out.trans (p.hb.mono HB.out.size)).cell (p := ad'.add (k * 2 + 1)) (by rw [add_block]; exact hadb')
          rw [hc' _ _ (elem_at hy1 1 _ (by decide) rfl), Mem.add_field _ _ 1 (by omega)] at c
          exact c
        have HC : Hid (∀ p : Since wr.heap.size wr, Calls Tryd.prog 14 #[q1, q2] p.w' fun e w' => e = .returned (.bool (dB (Ce.l m1 f1 = Ce.l m2 f2))) ∧ ∃ q : Since wr.heap.size wr, w' = q.w') := Lib.hid (fun p => Calls.since_of (Nat.le_refl _) ((same_Strs (HB.out.trans (p.hb.mono HB.out.size)) hat1 hat2 hok1 hok2).mono fun e w' ⟨h1, h2⟩ => ⟨h1.eq, h2⟩))
        obtain ⟨A1, cp1, hq1⟩ : ∃ A1 cp1, q1 = .slice A1 m1 cp1 := by
          unfold Ce.At at hat1
          obtain ⟨A1, cp1, _, _, h, _⟩ := hat1
          exact ⟨A1, cp1, h⟩
        obtain ⟨A2, cp2, hq2⟩ : ∃ A2 cp2, q2 = .slice A2 m2 cp2 := by
          unfold Ce.At at hat2
          obtain ⟨A2, cp2, _, _, h, _⟩ := hat2
          exact ⟨A2, cp2, h⟩
        subst hq1 hq2
        have HP : Hid (dB (Ce.l m1 f1 = Ce.l m2 f2) = true ↔ Ce.l m1 f1 = Ce.l m2 f2) := Lib.hid (dB_iff _)
        generalize dB (Ce.l m1 f1 = Ce.l m2 f2) = z at *
        clear hc hc' hee hee' ho ho' hu hu' hx0 hx1 hy0 hy1 hat1 hat2 hok1 hok2
        cases hxy : (x0 != y0) with
        | true =>
          have HS2 := Lib.hid (HX.out (HNE.out (fun h => by have e := (HS.out.1 h).1; rw [e] at hxy; simp at hxy)))
          rcases bool_ne hxy with ⟨rfl, rfl⟩ | ⟨rfl, rfl⟩
          all_goals
            clear hxy
            go_upto_region 6 with fail
            refine wp_region_since wr.heap.size (by kernel_rfl) (by kernel_rfl) ?_
            repeat (go_big_quiet_step (fail))
            refine wpQuiet_nil ?_
            intro _ hw'
            obtain ⟨pz, hw''⟩ := hw'
            subst hw''
            have HZ := Lib.hid (HBW.out.trans (pz.hb.mono HBW.out.size))
            generalize pz.w' = w2 at *
            clear c0 c1 d0 d1
            go_wp2
            go_ret
            exact ⟨SameP.no HS2.out, HZ.out⟩
        | false =>
          have hx0y : x0 = y0 := by simpa using hxy
          go_upto_region 6 with fail
          refine wp_region_since wr.heap.size (by kernel_rfl) (by kernel_rfl) ?_
          repeat (go_big_quiet_step (first | (go_at_call 14; exact HC.out _)))
          refine wpQuiet_nil ?_
          intro _ hw'
          obtain ⟨pz, hw''⟩ := hw'
          subst hw''
          have HZ := Lib.hid (HBW.out.trans (pz.hb.mono HBW.out.size))
          generalize pz.w' = w2 at *
          clear c0 c1 d0 d1 HC
          have HXY := Lib.hid hx0y
          clear hx0y
          cases z with
          | true =>
            have HS2 := Lib.hid (HS.out.2 ⟨HXY.out, HP.out.1 rfl⟩)
            go_wp2
            go_roundw
            case rel => exact ⟨k + 1, by omega, by first | rfl | go_num, HS2, HZ⟩
            case measure => first | (simp [intOf]; done) | (simp [intOf]; omega)
          | false =>
            have HS2 := Lib.hid (HX.out (HNE.out (fun h => by have e := HP.out.2 (HS.out.1 h).2; cases e)))
            go_wp2
            go_ret
            exact ⟨SameP.no HS2.out, HZ.out⟩
      · obtain rfl : k = n := by omega
        have x1 : ¬ (k : Int) < (k : Int) := by omega
        have HEQ : Hid (Ce.l k es = Ce.l k es') := Lib.hid (by
          have h1 := Ce.oks_length _ _ HOK.out
          have h2 := Ce.oks_length _ _ HOK'.out
          have h3 : (List.replicate k ([.b, .l (Tryd.prog.bytesOf 9) [.s]] : List Ty)).flatten.length = k * 2 := by simp
          have h4 := HTK.out
          rw [List.take_of_length_le (by omega), List.take_of_length_le (by omega)] at h4
          rw [h4])
        go_wp2
        go_ret
        exact ⟨SameP.yes (HY.out HEQ.out), HBW.out⟩
  · have hz : ((n : Int) != (n' : Int)) = true := by
      rw [bne_iff_ne]
      omega
    have HNE : Hid (Ce.l n es ≠ Ce.l n' es') := Lib.hid (fun e => hnn (by injection e))
    have HBR : Hid (Below w.heap.size w w) := Lib.hid (Below.refl _ _)
    go_enter Tryd.func52, Tryd.ntmps52
    go_wp2
    go_ret
    exact ⟨SameP.no (HX.out HNE.out), HBR.out⟩

end Go.Proofs.YtkgkipohalekmaaDoor
