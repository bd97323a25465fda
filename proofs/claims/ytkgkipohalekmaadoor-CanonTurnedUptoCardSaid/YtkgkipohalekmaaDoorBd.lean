/-
  The reference's comparisons of lists.
-/
import Derived.Test.YtkgkipohalekmaaDoorBm
import Derived.Test.YtkgkipohalekmaaDoorBp
import Derived.Laws.StructEq
import Derived.BigQuiet
namespace Go.Proofs.YtkgkipohalekmaaDoor
open Go.RowKit
/-- a comparison's answer -/
def SameP (P : Prop) (e : Ending) : Prop := ∃ b : Bool, e = .returned (.bool b) ∧ (b = true ↔ P)
theorem SameP.yes {P : Prop} (h : P) : SameP P (.returned (.bool true)) := ⟨true, rfl, ⟨fun _ => h, fun _ => rfl⟩⟩
theorem SameP.no {P : Prop} (h : ¬ P) : SameP P (.returned (.bool false)) := ⟨false, rfl, ⟨fun e => (by cases e), fun e => absurd e h⟩⟩
theorem belowQ {B : Nat} {a w : World} (h : Below B a w) (n : Nat) : Below B a (w.drewN n) := ⟨h.os, h.tape, h.output, h.size, h.block⟩
theorem bt_inj (x y : ByteArray) : x = y ↔ x.toList = y.toList := ⟨fun h => by rw [h], fun h => by
  rw [ByteArray.toList_eq, ByteArray.toList_eq] at h
  exact ByteArray.ext (Array.toList_inj.1 h)⟩
theorem cons_i {w : World} {B : Nat} {ee : List Ce} {ue : List Value} {q : List Ty} (ho : Ce.Oks ee (.i :: q)) (ha : Ce.Ats w B ee ue) : ∃ x r u, ee = .i x :: r ∧ ue = .int .i64 x :: u ∧ Ce.Oks r q ∧ Ce.Ats w B r u := by
  match ee, ho, ha with
  | .i x :: r, ho, ha =>
    unfold Ce.Oks at ho
    unfold Ce.Ats at ha
    obtain ⟨v, u, rfl, h1, h2⟩ := ha
    unfold Ce.At at h1
    exact ⟨x, r, u, rfl, by rw [h1], ho.2, h2⟩
  | .b _ :: _, h4, _ => unfold Ce.Oks Ce.Ok at h4; exact h4.1.elim
  | .s _ :: _, h4, _ => unfold Ce.Oks Ce.Ok at h4; exact h4.1.elim
  | .l _ _ :: _, h4, _ => unfold Ce.Oks Ce.Ok at h4; exact h4.1.elim
  | [], h4, _ => unfold Ce.Oks at h4; exact h4.elim
theorem cons_s {w : World} {B : Nat} {ee : List Ce} {ue : List Value} {q : List Ty} (ho : Ce.Oks ee (.s :: q)) (ha : Ce.Ats w B ee ue) : ∃ x r u, ee = .s x :: r ∧ ue = .string x :: u ∧ Ce.Oks r q ∧ Ce.Ats w B r u := by
  match ee, ho, ha with
  | .s x :: r, ho, ha =>
    unfold Ce.Oks at ho
    unfold Ce.Ats at ha
    obtain ⟨v, u, rfl, h1, h2⟩ := ha
    unfold Ce.At at h1
    exact ⟨x, r, u, rfl, by rw [h1], ho.2, h2⟩
  | .b _ :: _, h4, _ => unfold Ce.Oks Ce.Ok at h4; exact h4.1.elim
  | .i _ :: _, h4, _ => unfold Ce.Oks Ce.Ok at h4; exact h4.1.elim
  | .l _ _ :: _, h4, _ => unfold Ce.Oks Ce.Ok at h4; exact h4.1.elim
  | [], h4, _ => unfold Ce.Oks at h4; exact h4.elim
theorem cons_b {w : World} {B : Nat} {ee : List Ce} {ue : List Value} {q : List Ty} (ho : Ce.Oks ee (.b :: q)) (ha : Ce.Ats w B ee ue) : ∃ x r u, ee = .b x :: r ∧ ue = .bool x :: u ∧ Ce.Oks r q ∧ Ce.Ats w B r u := by
  match ee, ho, ha with
  | .b x :: r, ho, ha =>
    unfold Ce.Oks at ho
    unfold Ce.Ats at ha
    obtain ⟨v, u, rfl, h1, h2⟩ := ha
    unfold Ce.At at h1
    exact ⟨x, r, u, rfl, by rw [h1], ho.2, h2⟩
  | .s _ :: _, h4, _ => unfold Ce.Oks Ce.Ok at h4; exact h4.1.elim
  | .i _ :: _, h4, _ => unfold Ce.Oks Ce.Ok at h4; exact h4.1.elim
  | .l _ _ :: _, h4, _ => unfold Ce.Oks Ce.Ok at h4; exact h4.1.elim
  | [], h4, _ => unfold Ce.Oks at h4; exact h4.elim
theorem cons_l {w : World} {B : Nat} {ee : List Ce} {ue : List Value} {q e : List Ty} {nb : Nat} (ho : Ce.Oks ee (.l nb e :: q)) (ha : Ce.Ats w B ee ue) : ∃ n es r v u, ee = .l n es :: r ∧ ue = v :: u ∧ (Ce.l n es).Ok (.l nb e) ∧ (Ce.l n es).At w B v ∧ Ce.Oks r q ∧ Ce.Ats w B r u := by
  match ee, ho, ha with
  | .l n es :: r, ho, ha =>
    unfold Ce.Oks at ho
    unfold Ce.Ats at ha
    obtain ⟨v, u, rfl, h1, h2⟩ := ha
    exact ⟨n, es, r, v, u, rfl, rfl, ho.1, h1, ho.2, h2⟩
  | .s _ :: _, h4, _ => unfold Ce.Oks Ce.Ok at h4; exact h4.1.elim
  | .i _ :: _, h4, _ => unfold Ce.Oks Ce.Ok at h4; exact h4.1.elim
  | .b _ :: _, h4, _ => unfold Ce.Oks Ce.Ok at h4; exact h4.1.elim
  | [], h4, _ => unfold Ce.Oks at h4; exact h4.elim
theorem cons_nil {w : World} {B : Nat} {ee : List Ce} {ue : List Value} (ho : Ce.Oks ee []) (ha : Ce.Ats w B ee ue) : ee = [] ∧ ue = [] := by
  have h := Ce.oks_length _ _ ho
  have e : ee = [] := List.eq_nil_of_length_eq_zero h
  subst e
  unfold Ce.Ats at ha
  exact ⟨rfl, ha⟩
theorem elem_at {xs ue : List Value} {a k : Nat} (h : (xs.drop a).take k = ue) (j : Nat) (u : Value) (hj : j < k) (hu : ue[j]? = some u) : xs[a + j]? = some u := by
  rw [← h, List.getElem?_take, if_pos hj, List.getElem?_drop] at hu
  exact hu

theorem eq_Conn (x0 y0 : ByteArray) (x1 y1 : Int) (x2 y2 : Int) (x3 y3 : Int) (x4 y4 : Int) (w : World) : (Op.equalIn 10000 79 (.agg #[.string x0, .int .i64 x1, .int .i64 x2, .int .i64 x3, .int .i64 x4]) (.agg #[.string y0, .int .i64 y1, .int .i64 y2, .int .i64 y3, .int .i64 y4])).run Tryd.prog w = .ok (decide (x0.toList = y0.toList ∧ x1 = y1 ∧ x2 = y2 ∧ x3 = y3 ∧ x4 = y4)) w := by
  have u3 := Tryd.underlying3
  have us := Tryd.underlying9
  have ub := Tryd.underlying4
  have hS : Tryd.prog.underlying 79 = some (.struct (Tryd.prog.fieldsOf 79)) := by kernel_rfl
  have hp : Tryd.prog.stoodInHeld 79 = false := by kernel_rfl
  rw [show (10000 : Nat) = 9999 + 1 from rfl, run_equalIn_agg w 9999 79 _ _ hS hp]
  simp only [Program.fieldsOf, Tryd.underlying79]
  go_simp
  clear u3 us ub hS hp
  repeat' split
  all_goals simp_all
@[go_sem] theorem guard_Conn (x y : Operand) (xs ys : Array Value) (w : World) : (eqGuard .neq 79 x y (.agg xs) (.agg ys)).run Tryd.prog w = .ok () w := run_eqGuard_agg w _ _ _ _ _ _ (by kernel_rfl)

theorem open_Conn {w : World} {B : Nat} {ee : List Ce} {ue : List Value} (ho : Ce.Oks ee [.s, .i, .i, .i, .i]) (ha : Ce.Ats w B ee ue) : ∃ (x0 : ByteArray) (x1 : Int) (x2 : Int) (x3 : Int) (x4 : Int), ee = [.s x0, .i x1, .i x2, .i x3, .i x4] ∧ ue = [.string x0, .int .i64 x1, .int .i64 x2, .int .i64 x3, .int .i64 x4] := by
  obtain ⟨x0, r0, u0, rfl, rfl, ho, ha⟩ := cons_s ho ha
  obtain ⟨x1, r1, u1, rfl, rfl, ho, ha⟩ := cons_i ho ha
  obtain ⟨x2, r2, u2, rfl, rfl, ho, ha⟩ := cons_i ho ha
  obtain ⟨x3, r3, u3, rfl, rfl, ho, ha⟩ := cons_i ho ha
  obtain ⟨x4, r4, u4, rfl, rfl, ho, ha⟩ := cons_i ho ha
  obtain ⟨rfl, rfl⟩ := cons_nil ho ha
  exact ⟨x0, x1, x2, x3, x4, rfl, rfl⟩

set_option maxRecDepth 100000 in
set_option maxHeartbeats 8000000 in
theorem same_Conn {W0 w : World} {v v' : Value} {n n' nb : Nat} {es es' : List Ce} (hb0 : Below W0.heap.size W0 w) (ha : (Ce.l n es).At W0 W0.heap.size v) (ha' : (Ce.l n' es').At W0 W0.heap.size v') (hk : (Ce.l n es).Ok (.l nb [.s, .i, .i, .i, .i])) (hk' : (Ce.l n' es').Ok (.l nb [.s, .i, .i, .i, .i])) :
    Calls Tryd.prog 20 #[v, v'] w fun e w' => SameP (Ce.l n es = Ce.l n' es') e ∧ Below w.heap.size w w' := by
  obtain ⟨A, cp, k1, xs, rfl, _, hr, hat⟩ : ∃ A cp k1 xs, v = .slice A n cp ∧ n ≤ cp ∧ Rd W0 W0.heap.size k1 A n xs ∧ Ce.Ats W0 W0.heap.size es xs := by unfold Ce.At at ha; exact ha
  obtain ⟨A', cp', k2, ys, rfl, _, hr', hat'⟩ : ∃ A cp k1 xs, v' = .slice A n' cp ∧ n' ≤ cp ∧ Rd W0 W0.heap.size k1 A n' xs ∧ Ce.Ats W0 W0.heap.size es' xs := by unfold Ce.At at ha'; exact ha'
  unfold Ce.Ok at hk hk'
  have hn := hk.1.1
  have hn' := hk'.1.1
  have HOK := Lib.hid hk.2
  have HOK' := Lib.hid hk'.2
  have HAT := Lib.hid hat
  have HAT' := Lib.hid hat'
  have HR := Lib.hid hr.2
  have HR' := Lib.hid hr'.2
  have HB0 := Lib.hid hb0
  clear ha ha' hk hk' hr hr' hat hat' hb0
  obtain ⟨PP, hPP⟩ : ∃ PP, PP = (Ce.l n es = Ce.l n' es') := ⟨_, rfl⟩
  rw [← hPP]
  have HY : Hid (Ce.l n es = Ce.l n' es' → PP) := Lib.hid (fun h => by rw [hPP]; exact h)
  have HX : Hid (Ce.l n es ≠ Ce.l n' es' → ¬ PP) := Lib.hid (fun h => by rw [hPP]; exact h)
  clear hPP
  by_cases hnn : n = n'
  · subst hnn
    go_enter Tryd.func20, Tryd.ntmps20
    go_wp2_with fail
    go_loopw [13] (fun kv wr => ∃ k : Nat, k ≤ n ∧ kv = .int .i64 k ∧ Hid (es.take (k * 5) = es'.take (k * 5)) ∧ Hid (Below w.heap.size w wr)) (fun kv _ => n - (intOf kv).toNat)
    case atStart => exact ⟨0, Nat.zero_le _, rfl, Lib.hid (by simp), Lib.hid (Below.refl _ _)⟩
    case round =>
      obtain ⟨k, hkn, rfl, HTK, HBW⟩ := hrel
      by_cases hlt : k < n
      · have x1 : (0 : Int) ≤ (k : Int) := by omega
        have x2 : (k : Int) < (n : Int) := by omega
        have v1 : IntKind.i64.wrap ((k : Int) + 1) = ((k + 1 : Nat) : Int) := by rw [IntKind.wrap_i64]; omega
        obtain ⟨ad, rfl, hadb, hc⟩ := HR.out (by omega)
        obtain ⟨ad', rfl, hadb', hc'⟩ := HR'.out (by omega)
        have HB := Lib.hid (HB0.out.trans (HBW.out.mono HB0.out.size))
        obtain ⟨ee, hee⟩ : ∃ ee, ee = (es.drop (k * 5)).take 5 := ⟨_, rfl⟩
        obtain ⟨ee', hee'⟩ : ∃ ee, ee = (es'.drop (k * 5)).take 5 := ⟨_, rfl⟩
        have ho : Ce.Oks ee [.s, .i, .i, .i, .i] := by rw [hee]; exact elem_oks (qE := [.s, .i, .i, .i, .i]) n es HOK.out k hlt
        have ho' : Ce.Oks ee' [.s, .i, .i, .i, .i] := by rw [hee']; exact elem_oks (qE := [.s, .i, .i, .i, .i]) n es' HOK'.out k hlt
        have hu := elem_ats HAT.out (k * 5) 5
        have hu' := elem_ats HAT'.out (k * 5) 5
        rw [← hee] at hu
        rw [← hee'] at hu'
        obtain ⟨x0, x1, x2, x3, x4, rfl, hxs⟩ := open_Conn ho hu
        obtain ⟨y0, y1, y2, y3, y4, rfl, hys⟩ := open_Conn ho' hu'
        have HS : Hid (es.take ((k + 1) * 5) = es'.take ((k + 1) * 5) ↔ x0.toList = y0.toList ∧ x1 = y1 ∧ x2 = y2 ∧ x3 = y3 ∧ x4 = y4) := Lib.hid (by
          rw [take_step, take_step, HTK.out, ← hee, ← hee', List.append_cancel_left_eq]
          simp [bt_inj])
        have c0 := HB.out.cell (p := ad.add (k * 5 + 0)) (by rw [add_block]; exact hadb)
        rw [hc _ _ (elem_at hxs 0 _ (by decide) rfl)] at c0
        have d0 := HB.out.cell (p := ad'.add (k * 5 + 0)) (by rw [add_block]; exact hadb')
        rw [hc' _ _ (elem_at hys 0 _ (by decide) rfl)] at d0
        rw [Nat.add_zero] at c0 d0
        have c1 := HB.out.cell (p := ad.add (k * 5 + 1)) (by rw [add_block]; exact hadb)
        rw [hc _ _ (elem_at hxs 1 _ (by decide) rfl)] at c1
        have d1 := HB.out.cell (p := ad'.add (k * 5 + 1)) (by rw [add_block]; exact hadb')
        rw [hc' _ _ (elem_at hys 1 _ (by decide) rfl)] at d1
        rw [Mem.add_field _ _ 1 (by omega)] at c1 d1
        have c2 := HB.out.cell (p := ad.add (k * 5 + 2)) (by rw [add_block]; exact hadb)
        rw [hc _ _ (elem_at hxs 2 _ (by decide) rfl)] at c2
        have d2 := HB.out.cell (p := ad'.add (k * 5 + 2)) (by rw [add_block]; exact hadb')
        rw [hc' _ _ (elem_at hys 2 _ (by decide) rfl)] at d2
        rw [Mem.add_field _ _ 2 (by omega)] at c2 d2
        have c3 := HB.out.cell (p := ad.add (k * 5 + 3)) (by rw [add_block]; exact hadb)
        rw [hc _ _ (elem_at hxs 3 _ (by decide) rfl)] at c3
        have d3 := HB.out.cell (p := ad'.add (k * 5 + 3)) (by rw [add_block]; exact hadb')
        rw [hc' _ _ (elem_at hys 3 _ (by decide) rfl)] at d3
        rw [Mem.add_field _ _ 3 (by omega)] at c3 d3
        have c4 := HB.out.cell (p := ad.add (k * 5 + 4)) (by rw [add_block]; exact hadb)
        rw [hc _ _ (elem_at hxs 4 _ (by decide) rfl)] at c4
        have d4 := HB.out.cell (p := ad'.add (k * 5 + 4)) (by rw [add_block]; exact hadb')
        rw [hc' _ _ (elem_at hys 4 _ (by decide) rfl)] at d4
        rw [Mem.add_field _ _ 4 (by omega)] at c4 d4
        have HNE : Hid ((es.take ((k + 1) * 5) ≠ es'.take ((k + 1) * 5)) → Ce.l n es ≠ Ce.l n es') := Lib.hid (fun h e => h (by injection e with _ e; rw [e]))
        clear hc hc' hee hee' ho ho' hu hu' hxs hys
        by_cases hP : x0.toList = y0.toList ∧ x1 = y1 ∧ x2 = y2 ∧ x3 = y3 ∧ x4 = y4
        · have HS2 := Lib.hid (HS.out.2 hP)
          have hq : ∀ w, (Op.equalIn 10000 79 (.agg #[.string x0, .int .i64 x1, .int .i64 x2, .int .i64 x3, .int .i64 x4]) (.agg #[.string y0, .int .i64 y1, .int .i64 y2, .int .i64 y3, .int .i64 y4])).run Tryd.prog w = .ok true w := fun w => by rw [eq_Conn, decide_eq_true hP]
          clear hP HS HNE
          go_wp2_with fail
          go_quiet (fail)
          go_wp2
          go_roundw
          case rel => exact ⟨k + 1, by omega, by first | rfl | go_num, HS2, Lib.hid (belowQ HBW.out _)⟩
          case measure => first | (simp [intOf]; done) | (simp [intOf]; omega)
        · have HS2 := Lib.hid (HNE.out (fun h => hP (HS.out.1 h)))
          have hq : ∀ w, (Op.equalIn 10000 79 (.agg #[.string x0, .int .i64 x1, .int .i64 x2, .int .i64 x3, .int .i64 x4]) (.agg #[.string y0, .int .i64 y1, .int .i64 y2, .int .i64 y3, .int .i64 y4])).run Tryd.prog w = .ok false w := fun w => by rw [eq_Conn, decide_eq_false hP]
          clear hP HS HNE
          go_wp2_with fail
          go_quiet (fail)
          go_wp2
          go_ret
          exact ⟨SameP.no (HX.out HS2.out), belowQ HBW.out _⟩
      · obtain rfl : k = n := by omega
        have x1 : ¬ (k : Int) < (k : Int) := by omega
        have HEQ : Hid (Ce.l k es = Ce.l k es') := Lib.hid (by
          have h1 := Ce.oks_length _ _ HOK.out
          have h2 := Ce.oks_length _ _ HOK'.out
          have h3 : (List.replicate k ([.s, .i, .i, .i, .i] : List Ty)).flatten.length = k * 5 := by simp
          have h4 := HTK.out
          rw [List.take_of_length_le (by omega), List.take_of_length_le (by omega)] at h4
          rw [h4])
        go_wp2
        go_ret
        exact ⟨SameP.yes (HY.out HEQ.out), HBW.out⟩
  · have hz : ((n : Int) != (n' : Int)) = true := by
      rw [bne_iff_ne]
      omega
    have HNE : Hid (Ce.l n es ≠ Ce.l n' es') := Lib.hid (fun e => hnn (by injection e))
    have HBR : Hid (Below w.heap.size w w) := Lib.hid (Below.refl _ _)
    go_enter Tryd.func20, Tryd.ntmps20
    go_wp2
    go_ret
    exact ⟨SameP.no (HX.out HNE.out), HBR.out⟩

theorem eq_Row (x0 y0 : Int) (x1 y1 : ByteArray) (x2 y2 : Int) (x3 y3 : Int) (x4 y4 : ByteArray) (w : World) : (Op.equalIn 10000 77 (.agg #[.int .i64 x0, .string x1, .int .i64 x2, .int .i64 x3, .string x4]) (.agg #[.int .i64 y0, .string y1, .int .i64 y2, .int .i64 y3, .string y4])).run Tryd.prog w = .ok (decide (x0 = y0 ∧ x1.toList = y1.toList ∧ x2 = y2 ∧ x3 = y3 ∧ x4.toList = y4.toList)) w := by
  have u3 := Tryd.underlying3
  have us := Tryd.underlying9
  have ub := Tryd.underlying4
  have hS : Tryd.prog.underlying 77 = some (.struct (Tryd.prog.fieldsOf 77)) := by kernel_rfl
  have hp : Tryd.prog.stoodInHeld 77 = false := by kernel_rfl
  rw [show (10000 : Nat) = 9999 + 1 from rfl, run_equalIn_agg w 9999 77 _ _ hS hp]
  simp only [Program.fieldsOf, Tryd.underlying77]
  go_simp
  clear u3 us ub hS hp
  repeat' split
  all_goals simp_all
@[go_sem] theorem guard_Row (x y : Operand) (xs ys : Array Value) (w : World) : (eqGuard .neq 77 x y (.agg xs) (.agg ys)).run Tryd.prog w = .ok () w := run_eqGuard_agg w _ _ _ _ _ _ (by kernel_rfl)

theorem open_Row {w : World} {B : Nat} {ee : List Ce} {ue : List Value} (ho : Ce.Oks ee [.i, .s, .i, .i, .s]) (ha : Ce.Ats w B ee ue) : ∃ (x0 : Int) (x1 : ByteArray) (x2 : Int) (x3 : Int) (x4 : ByteArray), ee = [.i x0, .s x1, .i x2, .i x3, .s x4] ∧ ue = [.int .i64 x0, .string x1, .int .i64 x2, .int .i64 x3, .string x4] := by
  obtain ⟨x0, r0, u0, rfl, rfl, ho, ha⟩ := cons_i ho ha
  obtain ⟨x1, r1, u1, rfl, rfl, ho, ha⟩ := cons_s ho ha
  obtain ⟨x2, r2, u2, rfl, rfl, ho, ha⟩ := cons_i ho ha
  obtain ⟨x3, r3, u3, rfl, rfl, ho, ha⟩ := cons_i ho ha
  obtain ⟨x4, r4, u4, rfl, rfl, ho, ha⟩ := cons_s ho ha
  obtain ⟨rfl, rfl⟩ := cons_nil ho ha
  exact ⟨x0, x1, x2, x3, x4, rfl, rfl⟩

set_option maxRecDepth 100000 in
set_option maxHeartbeats 8000000 in
theorem same_Row {W0 w : World} {v v' : Value} {n n' nb : Nat} {es es' : List Ce} (hb0 : Below W0.heap.size W0 w) (ha : (Ce.l n es).At W0 W0.heap.size v) (ha' : (Ce.l n' es').At W0 W0.heap.size v') (hk : (Ce.l n es).Ok (.l nb [.i, .s, .i, .i, .s])) (hk' : (Ce.l n' es').Ok (.l nb [.i, .s, .i, .i, .s])) :
    Calls Tryd.prog 21 #[v, v'] w fun e w' => SameP (Ce.l n es = Ce.l n' es') e ∧ Below w.heap.size w w' := by
  obtain ⟨A, cp, k1, xs, rfl, _, hr, hat⟩ : ∃ A cp k1 xs, v = .slice A n cp ∧ n ≤ cp ∧ Rd W0 W0.heap.size k1 A n xs ∧ Ce.Ats W0 W0.heap.size es xs := by unfold Ce.At at ha; exact ha
  obtain ⟨A', cp', k2, ys, rfl, _, hr', hat'⟩ : ∃ A cp k1 xs, v' = .slice A n' cp ∧ n' ≤ cp ∧ Rd W0 W0.heap.size k1 A n' xs ∧ Ce.Ats W0 W0.heap.size es' xs := by unfold Ce.At at ha'; exact ha'
  unfold Ce.Ok at hk hk'
  have hn := hk.1.1
  have hn' := hk'.1.1
  have HOK := Lib.hid hk.2
  have HOK' := Lib.hid hk'.2
  have HAT := Lib.hid hat
  have HAT' := Lib.hid hat'
  have HR := Lib.hid hr.2
  have HR' := Lib.hid hr'.2
  have HB0 := Lib.hid hb0
  clear ha ha' hk hk' hr hr' hat hat' hb0
  obtain ⟨PP, hPP⟩ : ∃ PP, PP = (Ce.l n es = Ce.l n' es') := ⟨_, rfl⟩
  rw [← hPP]
  have HY : Hid (Ce.l n es = Ce.l n' es' → PP) := Lib.hid (fun h => by rw [hPP]; exact h)
  have HX : Hid (Ce.l n es ≠ Ce.l n' es' → ¬ PP) := Lib.hid (fun h => by rw [hPP]; exact h)
  clear hPP
  by_cases hnn : n = n'
  · subst hnn
    go_enter Tryd.func21, Tryd.ntmps21
    go_wp2_with fail
    go_loopw [13] (fun kv wr => ∃ k : Nat, k ≤ n ∧ kv = .int .i64 k ∧ Hid (es.take (k * 5) = es'.take (k * 5)) ∧ Hid (Below w.heap.size w wr)) (fun kv _ => n - (intOf kv).toNat)
    case atStart => exact ⟨0, Nat.zero_le _, rfl, Lib.hid (by simp), Lib.hid (Below.refl _ _)⟩
    case round =>
      obtain ⟨k, hkn, rfl, HTK, HBW⟩ := hrel
      by_cases hlt : k < n
      · have x1 : (0 : Int) ≤ (k : Int) := by omega
        have x2 : (k : Int) < (n : Int) := by omega
        have v1 : IntKind.i64.wrap ((k : Int) + 1) = ((k + 1 : Nat) : Int) := by rw [IntKind.wrap_i64]; omega
        obtain ⟨ad, rfl, hadb, hc⟩ := HR.out (by omega)
        obtain ⟨ad', rfl, hadb', hc'⟩ := HR'.out (by omega)
        have HB := Lib.hid (HB0.out.trans (HBW.out.mono HB0.out.size))
        obtain ⟨ee, hee⟩ : ∃ ee, ee = (es.drop (k * 5)).take 5 := ⟨_, rfl⟩
        obtain ⟨ee', hee'⟩ : ∃ ee, ee = (es'.drop (k * 5)).take 5 := ⟨_, rfl⟩
        have ho : Ce.Oks ee [.i, .s, .i, .i, .s] := by rw [hee]; exact elem_oks (qE := [.i, .s, .i, .i, .s]) n es HOK.out k hlt
        have ho' : Ce.Oks ee' [.i, .s, .i, .i, .s] := by rw [hee']; exact elem_oks (qE := [.i, .s, .i, .i, .s]) n es' HOK'.out k hlt
        have hu := elem_ats HAT.out (k * 5) 5
        have hu' := elem_ats HAT'.out (k * 5) 5
        rw [← hee] at hu
        rw [← hee'] at hu'
        obtain ⟨x0, x1, x2, x3, x4, rfl, hxs⟩ := open_Row ho hu
        obtain ⟨y0, y1, y2, y3, y4, rfl, hys⟩ := open_Row ho' hu'
        have HS : Hid (es.take ((k + 1) * 5) = es'.take ((k + 1) * 5) ↔ x0 = y0 ∧ x1.toList = y1.toList ∧ x2 = y2 ∧ x3 = y3 ∧ x4.toList = y4.toList) := Lib.hid (by
          rw [take_step, take_step, HTK.out, ← hee, ← hee', List.append_cancel_left_eq]
          simp [bt_inj])
        have c0 := HB.out.cell (p := ad.add (k * 5 + 0)) (by rw [add_block]; exact hadb)
        rw [hc _ _ (elem_at hxs 0 _ (by decide) rfl)] at c0
        have d0 := HB.out.cell (p := ad'.add (k * 5 + 0)) (by rw [add_block]; exact hadb')
        rw [hc' _ _ (elem_at hys 0 _ (by decide) rfl)] at d0
        rw [Nat.add_zero] at c0 d0
        have c1 := HB.out.cell (p := ad.add (k * 5 + 1)) (by rw [add_block]; exact hadb)
        rw [hc _ _ (elem_at hxs 1 _ (by decide) rfl)] at c1
        have d1 := HB.out.cell (p := ad'.add (k * 5 + 1)) (by rw [add_block]; exact hadb')
        rw [hc' _ _ (elem_at hys 1 _ (by decide) rfl)] at d1
        rw [Mem.add_field _ _ 1 (by omega)] at c1 d1
        have c2 := HB.out.cell (p := ad.add (k * 5 + 2)) (by rw [add_block]; exact hadb)
        rw [hc _ _ (elem_at hxs 2 _ (by decide) rfl)] at c2
        have d2 := HB.out.cell (p := ad'.add (k * 5 + 2)) (by rw [add_block]; exact hadb')
        rw [hc' _ _ (elem_at hys 2 _ (by decide) rfl)] at d2
        rw [Mem.add_field _ _ 2 (by omega)] at c2 d2
        have c3 := HB.out.cell (p := ad.add (k * 5 + 3)) (by rw [add_block]; exact hadb)
        rw [hc _ _ (elem_at hxs 3 _ (by decide) rfl)] at c3
        have d3 := HB.out.cell (p := ad'.add (k * 5 + 3)) (by rw [add_block]; exact hadb')
        rw [hc' _ _ (elem_at hys 3 _ (by decide) rfl)] at d3
        rw [Mem.add_field _ _ 3 (by omega)] at c3 d3
        have c4 := HB.out.cell (p := ad.add (k * 5 + 4)) (by rw [add_block]; exact hadb)
        rw [hc _ _ (elem_at hxs 4 _ (by decide) rfl)] at c4
        have d4 := HB.out.cell (p := ad'.add (k * 5 + 4)) (by rw [add_block]; exact hadb')
        rw [hc' _ _ (elem_at hys 4 _ (by decide) rfl)] at d4
        rw [Mem.add_field _ _ 4 (by omega)] at c4 d4
        have HNE : Hid ((es.take ((k + 1) * 5) ≠ es'.take ((k + 1) * 5)) → Ce.l n es ≠ Ce.l n es') := Lib.hid (fun h e => h (by injection e with _ e; rw [e]))
        clear hc hc' hee hee' ho ho' hu hu' hxs hys
        by_cases hP : x0 = y0 ∧ x1.toList = y1.toList ∧ x2 = y2 ∧ x3 = y3 ∧ x4.toList = y4.toList
        · have HS2 := Lib.hid (HS.out.2 hP)
          have hq : ∀ w, (Op.equalIn 10000 77 (.agg #[.int .i64 x0, .string x1, .int .i64 x2, .int .i64 x3, .string x4]) (.agg #[.int .i64 y0, .string y1, .int .i64 y2, .int .i64 y3, .string y4])).run Tryd.prog w = .ok true w := fun w => by rw [eq_Row, decide_eq_true hP]
          clear hP HS HNE
          go_wp2_with fail
          go_quiet (fail)
          go_wp2
          go_roundw
          case rel => exact ⟨k + 1, by omega, by first | rfl | go_num, HS2, Lib.hid (belowQ HBW.out _)⟩
          case measure => first | (simp [intOf]; done) | (simp [intOf]; omega)
        · have HS2 := Lib.hid (HNE.out (fun h => hP (HS.out.1 h)))
          have hq : ∀ w, (Op.equalIn 10000 77 (.agg #[.int .i64 x0, .string x1, .int .i64 x2, .int .i64 x3, .string x4]) (.agg #[.int .i64 y0, .string y1, .int .i64 y2, .int .i64 y3, .string y4])).run Tryd.prog w = .ok false w := fun w => by rw [eq_Row, decide_eq_false hP]
          clear hP HS HNE
          go_wp2_with fail
          go_quiet (fail)
          go_wp2
          go_ret
          exact ⟨SameP.no (HX.out HS2.out), belowQ HBW.out _⟩
      · obtain rfl : k = n := by omega
        have x1 : ¬ (k : Int) < (k : Int) := by omega
        have HEQ : Hid (Ce.l k es = Ce.l k es') := Lib.hid (by
          have h1 := Ce.oks_length _ _ HOK.out
          have h2 := Ce.oks_length _ _ HOK'.out
          have h3 : (List.replicate k ([.i, .s, .i, .i, .s] : List Ty)).flatten.length = k * 5 := by simp
          have h4 := HTK.out
          rw [List.take_of_length_le (by omega), List.take_of_length_le (by omega)] at h4
          rw [h4])
        go_wp2
        go_ret
        exact ⟨SameP.yes (HY.out HEQ.out), HBW.out⟩
  · have hz : ((n : Int) != (n' : Int)) = true := by
      rw [bne_iff_ne]
      omega
    have HNE : Hid (Ce.l n es ≠ Ce.l n' es') := Lib.hid (fun e => hnn (by injection e))
    have HBR : Hid (Below w.heap.size w w) := Lib.hid (Below.refl _ _)
    go_enter Tryd.func21, Tryd.ntmps21
    go_wp2
    go_ret
    exact ⟨SameP.no (HX.out HNE.out), HBR.out⟩

theorem eq_Ask (x0 y0 : Int) (x1 y1 : ByteArray) (x2 y2 : Int) (w : World) : (Op.equalIn 10000 73 (.agg #[.int .i64 x0, .string x1, .int .i64 x2]) (.agg #[.int .i64 y0, .string y1, .int .i64 y2])).run Tryd.prog w = .ok (decide (x0 = y0 ∧ x1.toList = y1.toList ∧ x2 = y2)) w := by
  have u3 := Tryd.underlying3
  have us := Tryd.underlying9
  have ub := Tryd.underlying4
  have hS : Tryd.prog.underlying 73 = some (.struct (Tryd.prog.fieldsOf 73)) := by kernel_rfl
  have hp : Tryd.prog.stoodInHeld 73 = false := by kernel_rfl
  rw [show (10000 : Nat) = 9999 + 1 from rfl, run_equalIn_agg w 9999 73 _ _ hS hp]
  simp only [Program.fieldsOf, Tryd.underlying73]
  go_simp
  clear u3 us ub hS hp
  repeat' split
  all_goals simp_all
@[go_sem] theorem guard_Ask (x y : Operand) (xs ys : Array Value) (w : World) : (eqGuard .neq 73 x y (.agg xs) (.agg ys)).run Tryd.prog w = .ok () w := run_eqGuard_agg w _ _ _ _ _ _ (by kernel_rfl)

theorem open_Ask {w : World} {B : Nat} {ee : List Ce} {ue : List Value} (ho : Ce.Oks ee [.i, .s, .i]) (ha : Ce.Ats w B ee ue) : ∃ (x0 : Int) (x1 : ByteArray) (x2 : Int), ee = [.i x0, .s x1, .i x2] ∧ ue = [.int .i64 x0, .string x1, .int .i64 x2] := by
  obtain ⟨x0, r0, u0, rfl, rfl, ho, ha⟩ := cons_i ho ha
  obtain ⟨x1, r1, u1, rfl, rfl, ho, ha⟩ := cons_s ho ha
  obtain ⟨x2, r2, u2, rfl, rfl, ho, ha⟩ := cons_i ho ha
  obtain ⟨rfl, rfl⟩ := cons_nil ho ha
  exact ⟨x0, x1, x2, rfl, rfl⟩

set_option maxRecDepth 100000 in
set_option maxHeartbeats 8000000 in
theorem same_Ask {W0 w : World} {v v' : Value} {n n' nb : Nat} {es es' : List Ce} (hb0 : Below W0.heap.size W0 w) (ha : (Ce.l n es).At W0 W0.heap.size v) (ha' : (Ce.l n' es').At W0 W0.heap.size v') (hk : (Ce.l n es).Ok (.l nb [.i, .s, .i])) (hk' : (Ce.l n' es').Ok (.l nb [.i, .s, .i])) :
    Calls Tryd.prog 19 #[v, v'] w fun e w' => SameP (Ce.l n es = Ce.l n' es') e ∧ Below w.heap.size w w' := by
  obtain ⟨A, cp, k1, xs, rfl, _, hr, hat⟩ : ∃ A cp k1 xs, v = .slice A n cp ∧ n ≤ cp ∧ Rd W0 W0.heap.size k1 A n xs ∧ Ce.Ats W0 W0.heap.size es xs := by unfold Ce.At at ha; exact ha
  obtain ⟨A', cp', k2, ys, rfl, _, hr', hat'⟩ : ∃ A cp k1 xs, v' = .slice A n' cp ∧ n' ≤ cp ∧ Rd W0 W0.heap.size k1 A n' xs ∧ Ce.Ats W0 W0.heap.size es' xs := by unfold Ce.At at ha'; exact ha'
  unfold Ce.Ok at hk hk'
  have hn := hk.1.1
  have hn' := hk'.1.1
  have HOK := Lib.hid hk.2
  have HOK' := Lib.hid hk'.2
  have HAT := Lib.hid hat
  have HAT' := Lib.hid hat'
  have HR := Lib.hid hr.2
  have HR' := Lib.hid hr'.2
  have HB0 := Lib.hid hb0
  clear ha ha' hk hk' hr hr' hat hat' hb0
  obtain ⟨PP, hPP⟩ : ∃ PP, PP = (Ce.l n es = Ce.l n' es') := ⟨_, rfl⟩
  rw [← hPP]
  have HY : Hid (Ce.l n es = Ce.l n' es' → PP) := Lib.hid (fun h => by rw [hPP]; exact h)
  have HX : Hid (Ce.l n es ≠ Ce.l n' es' → ¬ PP) := Lib.hid (fun h => by rw [hPP]; exact h)
  clear hPP
  by_cases hnn : n = n'
  · subst hnn
    go_enter Tryd.func19, Tryd.ntmps19
    go_wp2_with fail
    go_loopw [13] (fun kv wr => ∃ k : Nat, k ≤ n ∧ kv = .int .i64 k ∧ Hid (es.take (k * 3) = es'.take (k * 3)) ∧ Hid (Below w.heap.size w wr)) (fun kv _ => n - (intOf kv).toNat)
    case atStart => exact ⟨0, Nat.zero_le _, rfl, Lib.hid (by simp), Lib.hid (Below.refl _ _)⟩
    case round =>
      obtain ⟨k, hkn, rfl, HTK, HBW⟩ := hrel
      by_cases hlt : k < n
      · have x1 : (0 : Int) ≤ (k : Int) := by omega
        have x2 : (k : Int) < (n : Int) := by omega
        have v1 : IntKind.i64.wrap ((k : Int) + 1) = ((k + 1 : Nat) : Int) := by rw [IntKind.wrap_i64]; omega
        obtain ⟨ad, rfl, hadb, hc⟩ := HR.out (by omega)
        obtain ⟨ad', rfl, hadb', hc'⟩ := HR'.out (by omega)
        have HB := Lib.hid (HB0.out.trans (HBW.out.mono HB0.out.size))
        obtain ⟨ee, hee⟩ : ∃ ee, ee = (es.drop (k * 3)).take 3 := ⟨_, rfl⟩
        obtain ⟨ee', hee'⟩ : ∃ ee, ee = (es'.drop (k * 3)).take 3 := ⟨_, rfl⟩
        have ho : Ce.Oks ee [.i, .s, .i] := by rw [hee]; exact elem_oks (qE := [.i, .s, .i]) n es HOK.out k hlt
        have ho' : Ce.Oks ee' [.i, .s, .i] := by rw [hee']; exact elem_oks (qE := [.i, .s, .i]) n es' HOK'.out k hlt
        have hu := elem_ats HAT.out (k * 3) 3
        have hu' := elem_ats HAT'.out (k * 3) 3
        rw [← hee] at hu
        rw [← hee'] at hu'
        obtain ⟨x0, x1, x2, rfl, hxs⟩ := open_Ask ho hu
        obtain ⟨y0, y1, y2, rfl, hys⟩ := open_Ask ho' hu'
        have HS : Hid (es.take ((k + 1) * 3) = es'.take ((k + 1) * 3) ↔ x0 = y0 ∧ x1.toList = y1.toList ∧ x2 = y2) := Lib.hid (by
          rw [take_step, take_step, HTK.out, ← hee, ← hee', List.append_cancel_left_eq]
          simp [bt_inj])
        have c0 := HB.out.cell (p := ad.add (k * 3 + 0)) (by rw [add_block]; exact hadb)
        rw [hc _ _ (elem_at hxs 0 _ (by decide) rfl)] at c0
        have d0 := HB.out.cell (p := ad'.add (k * 3 + 0)) (by rw [add_block]; exact hadb')
        rw [hc' _ _ (elem_at hys 0 _ (by decide) rfl)] at d0
        rw [Nat.add_zero] at c0 d0
        have c1 := HB.out.cell (p := ad.add (k * 3 + 1)) (by rw [add_block]; exact hadb)
        rw [hc _ _ (elem_at hxs 1 _ (by decide) rfl)] at c1
        have d1 := HB.out.cell (p := ad'.add (k * 3 + 1)) (by rw [add_block]; exact hadb')
        rw [hc' _ _ (elem_at hys 1 _ (by decide) rfl)] at d1
        rw [Mem.add_field _ _ 1 (by omega)] at c1 d1
        have c2 := HB.out.cell (p := ad.add (k * 3 + 2)) (by rw [add_block]; exact hadb)
        rw [hc _ _ (elem_at hxs 2 _ (by decide) rfl)] at c2
        have d2 := HB.out.cell (p := ad'.add (k * 3 + 2)) (by rw [add_block]; exact hadb')
        rw [hc' _ _ (elem_at hys 2 _ (by decide) rfl)] at d2
        rw [Mem.add_field _ _ 2 (by omega)] at c2 d2
        have HNE : Hid ((es.take ((k + 1) * 3) ≠ es'.take ((k + 1) * 3)) → Ce.l n es ≠ Ce.l n es') := Lib.hid (fun h e => h (by injection e with _ e; rw [e]))
        clear hc hc' hee hee' ho ho' hu hu' hxs hys
        by_cases hP : x0 = y0 ∧ x1.toList = y1.toList ∧ x2 = y2
        · have HS2 := Lib.hid (HS.out.2 hP)
          have hq : ∀ w, (Op.equalIn 10000 73 (.agg #[.int .i64 x0, .string x1, .int .i64 x2]) (.agg #[.int .i64 y0, .string y1, .int .i64 y2])).run Tryd.prog w = .ok true w := fun w => by rw [eq_Ask, decide_eq_true hP]
          clear hP HS HNE
          go_wp2_with fail
          go_quiet (fail)
          go_wp2
          go_roundw
          case rel => exact ⟨k + 1, by omega, by first | rfl | go_num, HS2, Lib.hid (belowQ HBW.out _)⟩
          case measure => first | (simp [intOf]; done) | (simp [intOf]; omega)
        · have HS2 := Lib.hid (HNE.out (fun h => hP (HS.out.1 h)))
          have hq : ∀ w, (Op.equalIn 10000 73 (.agg #[.int .i64 x0, .string x1, .int .i64 x2]) (.agg #[.int .i64 y0, .string y1, .int .i64 y2])).run Tryd.prog w = .ok false w := fun w => by rw [eq_Ask, decide_eq_false hP]
          clear hP HS HNE
          go_wp2_with fail
          go_quiet (fail)
          go_wp2
          go_ret
          exact ⟨SameP.no (HX.out HS2.out), belowQ HBW.out _⟩
      · obtain rfl : k = n := by omega
        have x1 : ¬ (k : Int) < (k : Int) := by omega
        have HEQ : Hid (Ce.l k es = Ce.l k es') := Lib.hid (by
          have h1 := Ce.oks_length _ _ HOK.out
          have h2 := Ce.oks_length _ _ HOK'.out
          have h3 : (List.replicate k ([.i, .s, .i] : List Ty)).flatten.length = k * 3 := by simp
          have h4 := HTK.out
          rw [List.take_of_length_le (by omega), List.take_of_length_le (by omega)] at h4
          rw [h4])
        go_wp2
        go_ret
        exact ⟨SameP.yes (HY.out HEQ.out), HBW.out⟩
  · have hz : ((n : Int) != (n' : Int)) = true := by
      rw [bne_iff_ne]
      omega
    have HNE : Hid (Ce.l n es ≠ Ce.l n' es') := Lib.hid (fun e => hnn (by injection e))
    have HBR : Hid (Below w.heap.size w w) := Lib.hid (Below.refl _ _)
    go_enter Tryd.func19, Tryd.ntmps19
    go_wp2
    go_ret
    exact ⟨SameP.no (HX.out HNE.out), HBR.out⟩

theorem eq_Job (x0 y0 : ByteArray) (x1 y1 : Int) (x2 y2 : Int) (x3 y3 : Int) (w : World) : (Op.equalIn 10000 71 (.agg #[.string x0, .int .i64 x1, .int .i64 x2, .int .i64 x3]) (.agg #[.string y0, .int .i64 y1, .int .i64 y2, .int .i64 y3])).run Tryd.prog w = .ok (decide (x0.toList = y0.toList ∧ x1 = y1 ∧ x2 = y2 ∧ x3 = y3)) w := by
  have u3 := Tryd.underlying3
  have us := Tryd.underlying9
  have ub := Tryd.underlying4
  have hS : Tryd.prog.underlying 71 = some (.struct (Tryd.prog.fieldsOf 71)) := by kernel_rfl
  have hp : Tryd.prog.stoodInHeld 71 = false := by kernel_rfl
  rw [show (10000 : Nat) = 9999 + 1 from rfl, run_equalIn_agg w 9999 71 _ _ hS hp]
  simp only [Program.fieldsOf, Tryd.underlying71]
  go_simp
  clear u3 us ub hS hp
  repeat' split
  all_goals simp_all
@[go_sem] theorem guard_Job (x y : Operand) (xs ys : Array Value) (w : World) : (eqGuard .neq 71 x y (.agg xs) (.agg ys)).run Tryd.prog w = .ok () w := run_eqGuard_agg w _ _ _ _ _ _ (by kernel_rfl)

theorem open_Job {w : World} {B : Nat} {ee : List Ce} {ue : List Value} (ho : Ce.Oks ee [.s, .i, .i, .i]) (ha : Ce.Ats w B ee ue) : ∃ (x0 : ByteArray) (x1 : Int) (x2 : Int) (x3 : Int), ee = [.s x0, .i x1, .i x2, .i x3] ∧ ue = [.string x0, .int .i64 x1, .int .i64 x2, .int .i64 x3] := by
  obtain ⟨x0, r0, u0, rfl, rfl, ho, ha⟩ := cons_s ho ha
  obtain ⟨x1, r1, u1, rfl, rfl, ho, ha⟩ := cons_i ho ha
  obtain ⟨x2, r2, u2, rfl, rfl, ho, ha⟩ := cons_i ho ha
  obtain ⟨x3, r3, u3, rfl, rfl, ho, ha⟩ := cons_i ho ha
  obtain ⟨rfl, rfl⟩ := cons_nil ho ha
  exact ⟨x0, x1, x2, x3, rfl, rfl⟩

set_option maxRecDepth 100000 in
set_option maxHeartbeats 8000000 in
theorem same_Job {W0 w : World} {v v' : Value} {n n' nb : Nat} {es es' : List Ce} (hb0 : Below W0.heap.size W0 w) (ha : (Ce.l n es).At W0 W0.heap.size v) (ha' : (Ce.l n' es').At W0 W0.heap.size v') (hk : (Ce.l n es).Ok (.l nb [.s, .i, .i, .i])) (hk' : (Ce.l n' es').Ok (.l nb [.s, .i, .i, .i])) :
    Calls Tryd.prog 18 #[v, v'] w fun e w' => SameP (Ce.l n es = Ce.l n' es') e ∧ Below w.heap.size w w' := by
  obtain ⟨A, cp, k1, xs, rfl, _, hr, hat⟩ : ∃ A cp k1 xs, v = .slice A n cp ∧ n ≤ cp ∧ Rd W0 W0.heap.size k1 A n xs ∧ Ce.Ats W0 W0.heap.size es xs := by unfold Ce.At at ha; exact ha
  obtain ⟨A', cp', k2, ys, rfl, _, hr', hat'⟩ : ∃ A cp k1 xs, v' = .slice A n' cp ∧ n' ≤ cp ∧ Rd W0 W0.heap.size k1 A n' xs ∧ Ce.Ats W0 W0.heap.size es' xs := by unfold Ce.At at ha'; exact ha'
  unfold Ce.Ok at hk hk'
  have hn := hk.1.1
  have hn' := hk'.1.1
  have HOK := Lib.hid hk.2
  have HOK' := Lib.hid hk'.2
  have HAT := Lib.hid hat
  have HAT' := Lib.hid hat'
  have HR := Lib.hid hr.2
  have HR' := Lib.hid hr'.2
  have HB0 := Lib.hid hb0
  clear ha ha' hk hk' hr hr' hat hat' hb0
  obtain ⟨PP, hPP⟩ : ∃ PP, PP = (Ce.l n es = Ce.l n' es') := ⟨_, rfl⟩
  rw [← hPP]
  have HY : Hid (Ce.l n es = Ce.l n' es' → PP) := Lib.hid (fun h => by rw [hPP]; exact h)
  have HX : Hid (Ce.l n es ≠ Ce.l n' es' → ¬ PP) := Lib.hid (fun h => by rw [hPP]; exact h)
  clear hPP
  by_cases hnn : n = n'
  · subst hnn
    go_enter Tryd.func18, Tryd.ntmps18
    go_wp2_with fail
    go_loopw [13] (fun kv wr => ∃ k : Nat, k ≤ n ∧ kv = .int .i64 k ∧ Hid (es.take (k * 4) = es'.take (k * 4)) ∧ Hid (Below w.heap.size w wr)) (fun kv _ => n - (intOf kv).toNat)
    case atStart => exact ⟨0, Nat.zero_le _, rfl, Lib.hid (by simp), Lib.hid (Below.refl _ _)⟩
    case round =>
      obtain ⟨k, hkn, rfl, HTK, HBW⟩ := hrel
      by_cases hlt : k < n
      · have x1 : (0 : Int) ≤ (k : Int) := by omega
        have x2 : (k : Int) < (n : Int) := by omega
        have v1 : IntKind.i64.wrap ((k : Int) + 1) = ((k + 1 : Nat) : Int) := by rw [IntKind.wrap_i64]; omega
        obtain ⟨ad, rfl, hadb, hc⟩ := HR.out (by omega)
        obtain ⟨ad', rfl, hadb', hc'⟩ := HR'.out (by omega)
        have HB := Lib.hid (HB0.out.trans (HBW.out.mono HB0.out.size))
        obtain ⟨ee, hee⟩ : ∃ ee, ee = (es.drop (k * 4)).take 4 := ⟨_, rfl⟩
        obtain ⟨ee', hee'⟩ : ∃ ee, ee = (es'.drop (k * 4)).take 4 := ⟨_, rfl⟩
        have ho : Ce.Oks ee [.s, .i, .i, .i] := by rw [hee]; exact elem_oks (qE := [.s, .i, .i, .i]) n es HOK.out k hlt
        have ho' : Ce.Oks ee' [.s, .i, .i, .i] := by rw [hee']; exact elem_oks (qE := [.s, .i, .i, .i]) n es' HOK'.out k hlt
        have hu := elem_ats HAT.out (k * 4) 4
        have hu' := elem_ats HAT'.out (k * 4) 4
        rw [← hee] at hu
        rw [← hee'] at hu'
        obtain ⟨x0, x1, x2, x3, rfl, hxs⟩ := open_Job ho hu
        obtain ⟨y0, y1, y2, y3, rfl, hys⟩ := open_Job ho' hu'
        have HS : Hid (es.take ((k + 1) * 4) = es'.take ((k + 1) * 4) ↔ x0.toList = y0.toList ∧ x1 = y1 ∧ x2 = y2 ∧ x3 = y3) := Lib.hid (by
          rw [take_step, take_step, HTK.out, ← hee, ← hee', List.append_cancel_left_eq]
          simp [bt_inj])
        have c0 := HB.out.cell (p := ad.add (k * 4 + 0)) (by rw [add_block]; exact hadb)
        rw [hc _ _ (elem_at hxs 0 _ (by decide) rfl)] at c0
        have d0 := HB.out.cell (p := ad'.add (k * 4 + 0)) (by rw [add_block]; exact hadb')
        rw [hc' _ _ (elem_at hys 0 _ (by decide) rfl)] at d0
        rw [Nat.add_zero] at c0 d0
        have c1 := HB.out.cell (p := ad.add (k * 4 + 1)) (by rw [add_block]; exact hadb)
        rw [hc _ _ (elem_at hxs 1 _ (by decide) rfl)] at c1
        have d1 := HB.out.cell (p := ad'.add (k * 4 + 1)) (by rw [add_block]; exact hadb')
        rw [hc' _ _ (elem_at hys 1 _ (by decide) rfl)] at d1
        rw [Mem.add_field _ _ 1 (by omega)] at c1 d1
        have c2 := HB.out.cell (p := ad.add (k * 4 + 2)) (by rw [add_block]; exact hadb)
        rw [hc _ _ (elem_at hxs 2 _ (by decide) rfl)] at c2
        have d2 := HB.out.cell (p := ad'.add (k * 4 + 2)) (by rw [add_block]; exact hadb')
        rw [hc' _ _ (elem_at hys 2 _ (by decide) rfl)] at d2
        rw [Mem.add_field _ _ 2 (by omega)] at c2 d2
        have c3 := HB.out.cell (p := ad.add (k * 4 + 3)) (by rw [add_block]; exact hadb)
        rw [hc _ _ (elem_at hxs 3 _ (by decide) rfl)] at c3
        have d3 := HB.out.cell (p := ad'.add (k * 4 + 3)) (by rw [add_block]; exact hadb')
        rw [hc' _ _ (elem_at hys 3 _ (by decide) rfl)] at d3
        rw [Mem.add_field _ _ 3 (by omega)] at c3 d3
        have HNE : Hid ((es.take ((k + 1) * 4) ≠ es'.take ((k + 1) * 4)) → Ce.l n es ≠ Ce.l n es') := Lib.hid (fun h e => h (by injection e with _ e; rw [e]))
        clear hc hc' hee hee' ho ho' hu hu' hxs hys
        by_cases hP : x0.toList = y0.toList ∧ x1 = y1 ∧ x2 = y2 ∧ x3 = y3
        · have HS2 := Lib.hid (HS.out.2 hP)
          have hq : ∀ w, (Op.equalIn 10000 71 (.agg #[.string x0, .int .i64 x1, .int .i64 x2, .int .i64 x3]) (.agg #[.string y0, .int .i64 y1, .int .i64 y2, .int .i64 y3])).run Tryd.prog w = .ok true w := fun w => by rw [eq_Job, decide_eq_true hP]
          clear hP HS HNE
          go_wp2_with fail
          go_quiet (fail)
          go_wp2
          go_roundw
          case rel => exact ⟨k + 1, by omega, by first | rfl | go_num, HS2, Lib.hid (belowQ HBW.out _)⟩
          case measure => first | (simp [intOf]; done) | (simp [intOf]; omega)
        · have HS2 := Lib.hid (HNE.out (fun h => hP (HS.out.1 h)))
          have hq : ∀ w, (Op.equalIn 10000 71 (.agg #[.string x0, .int .i64 x1, .int .i64 x2, .int .i64 x3]) (.agg #[.string y0, .int .i64 y1, .int .i64 y2, .int .i64 y3])).run Tryd.prog w = .ok false w := fun w => by rw [eq_Job, decide_eq_false hP]
          clear hP HS HNE
          go_wp2_with fail
          go_quiet (fail)
          go_wp2
          go_ret
          exact ⟨SameP.no (HX.out HS2.out), belowQ HBW.out _⟩
      · obtain rfl : k = n := by omega
        have x1 : ¬ (k : Int) < (k : Int) := by omega
        have HEQ : Hid (Ce.l k es = Ce.l k es') := Lib.hid (by
          have h1 := Ce.oks_length _ _ HOK.out
          have h2 := Ce.oks_length _ _ HOK'.out
          have h3 : (List.replicate k ([.s, .i, .i, .i] : List Ty)).flatten.length = k * 4 := by simp
          have h4 := HTK.out
          rw [List.take_of_length_le (by omega), List.take_of_length_le (by omega)] at h4
          rw [h4])
        go_wp2
        go_ret
        exact ⟨SameP.yes (HY.out HEQ.out), HBW.out⟩
  · have hz : ((n : Int) != (n' : Int)) = true := by
      rw [bne_iff_ne]
      omega
    have HNE : Hid (Ce.l n es ≠ Ce.l n' es') := Lib.hid (fun e => hnn (by injection e))
    have HBR : Hid (Below w.heap.size w w) := Lib.hid (Below.refl _ _)
    go_enter Tryd.func18, Tryd.ntmps18
    go_wp2
    go_ret
    exact ⟨SameP.no (HX.out HNE.out), HBR.out⟩

theorem eq_Pair (x0 y0 : ByteArray) (x1 y1 : ByteArray) (w : World) : (Op.equalIn 10000 153 (.agg #[.string x0, .string x1]) (.agg #[.string y0, .string y1])).run Tryd.prog w = .ok (decide (x0.toList = y0.toList ∧ x1.toList = y1.toList)) w := by
  have u3 := Tryd.underlying3
  have us := Tryd.underlying9
  have ub := Tryd.underlying4
  have hS : Tryd.prog.underlying 153 = some (.struct (Tryd.prog.fieldsOf 153)) := by kernel_rfl
  have hp : Tryd.prog.stoodInHeld 153 = false := by kernel_rfl
  rw [show (10000 : Nat) = 9999 + 1 from rfl, run_equalIn_agg w 9999 153 _ _ hS hp]
  simp only [Program.fieldsOf, Tryd.underlying153]
  go_simp
  clear u3 us ub hS hp
  repeat' split
  all_goals simp_all
@[go_sem] theorem guard_Pair (x y : Operand) (xs ys : Array Value) (w : World) : (eqGuard .neq 153 x y (.agg xs) (.agg ys)).run Tryd.prog w = .ok () w := run_eqGuard_agg w _ _ _ _ _ _ (by kernel_rfl)

theorem open_Pair {w : World} {B : Nat} {ee : List Ce} {ue : List Value} (ho : Ce.Oks ee [.s, .s]) (ha : Ce.Ats w B ee ue) : ∃ (x0 : ByteArray) (x1 : ByteArray), ee = [.s x0, .s x1] ∧ ue = [.string x0, .string x1] := by
  obtain ⟨x0, r0, u0, rfl, rfl, ho, ha⟩ := cons_s ho ha
  obtain ⟨x1, r1, u1, rfl, rfl, ho, ha⟩ := cons_s ho ha
  obtain ⟨rfl, rfl⟩ := cons_nil ho ha
  exact ⟨x0, x1, rfl, rfl⟩

set_option maxRecDepth 100000 in
set_option maxHeartbeats 8000000 in
theorem same_Pair {W0 w : World} {v v' : Value} {n n' nb : Nat} {es es' : List Ce} (hb0 : Below W0.heap.size W0 w) (ha : (Ce.l n es).At W0 W0.heap.size v) (ha' : (Ce.l n' es').At W0 W0.heap.size v') (hk : (Ce.l n es).Ok (.l nb [.s, .s])) (hk' : (Ce.l n' es').Ok (.l nb [.s, .s])) :
    Calls Tryd.prog 54 #[v, v'] w fun e w' => SameP (Ce.l n es = Ce.l n' es') e ∧ Below w.heap.size w w' := by
  obtain ⟨A, cp, k1, xs, rfl, _, hr, hat⟩ : ∃ A cp k1 xs, v = .slice A n cp ∧ n ≤ cp ∧ Rd W0 W0.heap.size k1 A n xs ∧ Ce.Ats W0 W0.heap.size es xs := by unfold Ce.At at ha; exact ha
  obtain ⟨A', cp', k2, ys, rfl, _, hr', hat'⟩ : ∃ A cp k1 xs, v' = .slice A n' cp ∧ n' ≤ cp ∧ Rd W0 W0.heap.size k1 A n' xs ∧ Ce.Ats W0 W0.heap.size es' xs := by unfold Ce.At at ha'; exact ha'
  unfold Ce.Ok at hk hk'
  have hn := hk.1.1
  have hn' := hk'.1.1
  have HOK := Lib.hid hk.2
  have HOK' := Lib.hid hk'.2
  have HAT := Lib.hid hat
  have HAT' := Lib.hid hat'
  have HR := Lib.hid hr.2
  have HR' := Lib.hid hr'.2
  have HB0 := Lib.hid hb0
  clear ha ha' hk hk' hr hr' hat hat' hb0
  obtain ⟨PP, hPP⟩ : ∃ PP, PP = (Ce.l n es = Ce.l n' es') := ⟨_, rfl⟩
  rw [← hPP]
  have HY : Hid (Ce.l n es = Ce.l n' es' → PP) := Lib.hid (fun h => by rw [hPP]; exact h)
  have HX : Hid (Ce.l n es ≠ Ce.l n' es' → ¬ PP) := Lib.hid (fun h => by rw [hPP]; exact h)
  clear hPP
  by_cases hnn : n = n'
  · subst hnn
    go_enter Tryd.func54, Tryd.ntmps54
    go_wp2_with fail
    go_loopw [13] (fun kv wr => ∃ k : Nat, k ≤ n ∧ kv = .int .i64 k ∧ Hid (es.take (k * 2) = es'.take (k * 2)) ∧ Hid (Below w.heap.size w wr)) (fun kv _ => n - (intOf kv).toNat)
    case atStart => exact ⟨0, Nat.zero_le _, rfl, Lib.hid (by simp), Lib.hid (Below.refl _ _)⟩
    case round =>
      obtain ⟨k, hkn, rfl, HTK, HBW⟩ := hrel
      by_cases hlt : k < n
      · have x1 : (0 : Int) ≤ (k : Int) := by omega
        have x2 : (k : Int) < (n : Int) := by omega
        have v1 : IntKind.i64.wrap ((k : Int) + 1) = ((k + 1 : Nat) : Int) := by rw [IntKind.wrap_i64]; omega
        obtain ⟨ad, rfl, hadb, hc⟩ := HR.out (by omega)
        obtain ⟨ad', rfl, hadb', hc'⟩ := HR'.out (by omega)
        have HB := Lib.hid (HB0.out.trans (HBW.out.mono HB0.out.size))
        obtain ⟨ee, hee⟩ : ∃ ee, ee = (es.drop (k * 2)).take 2 := ⟨_, rfl⟩
        obtain ⟨ee', hee'⟩ : ∃ ee, ee = (es'.drop (k * 2)).take 2 := ⟨_, rfl⟩
        have ho : Ce.Oks ee [.s, .s] := by rw [hee]; exact elem_oks (qE := [.s, .s]) n es HOK.out k hlt
        have ho' : Ce.Oks ee' [.s, .s] := by rw [hee']; exact elem_oks (qE := [.s, .s]) n es' HOK'.out k hlt
        have hu := elem_ats HAT.out (k * 2) 2
        have hu' := elem_ats HAT'.out (k * 2) 2
        rw [← hee] at hu
        rw [← hee'] at hu'
        obtain ⟨x0, x1, rfl, hxs⟩ := open_Pair ho hu
        obtain ⟨y0, y1, rfl, hys⟩ := open_Pair ho' hu'
        have HS : Hid (es.take ((k + 1) * 2) = es'.take ((k + 1) * 2) ↔ x0.toList = y0.toList ∧ x1.toList = y1.toList) := Lib.hid (by
          rw [take_step, take_step, HTK.out, ← hee, ← hee', List.append_cancel_left_eq]
          simp [bt_inj])
        have c0 := HB.out.cell (p := ad.add (k * 2 + 0)) (by rw [add_block]; exact hadb)
        rw [hc _ _ (elem_at hxs 0 _ (by decide) rfl)] at c0
        have d0 := HB.out.cell (p := ad'.add (k * 2 + 0)) (by rw [add_block]; exact hadb')
        rw [hc' _ _ (elem_at hys 0 _ (by decide) rfl)] at d0
        rw [Nat.add_zero] at c0 d0
        have c1 := HB.out.cell (p := ad.add (k * 2 + 1)) (by rw [add_block]; exact hadb)
        rw [hc _ _ (elem_at hxs 1 _ (by decide) rfl)] at c1
        have d1 := HB.out.cell (p := ad'.add (k * 2 + 1)) (by rw [add_block]; exact hadb')
        rw [hc' _ _ (elem_at hys 1 _ (by decide) rfl)] at d1
        rw [Mem.add_field _ _ 1 (by omega)] at c1 d1
        have HNE : Hid ((es.take ((k + 1) * 2) ≠ es'.take ((k + 1) * 2)) → Ce.l n es ≠ Ce.l n es') := Lib.hid (fun h e => h (by injection e with _ e; rw [e]))
        clear hc hc' hee hee' ho ho' hu hu' hxs hys
        by_cases hP : x0.toList = y0.toList ∧ x1.toList = y1.toList
        · have HS2 := Lib.hid (HS.out.2 hP)
          have hq : ∀ w, (Op.equalIn 10000 153 (.agg #[.string x0, .string x1]) (.agg #[.string y0, .string y1])).run Tryd.prog w = .ok true w := fun w => by rw [eq_Pair, decide_eq_true hP]
          clear hP HS HNE
          go_wp2_with fail
          go_quiet (fail)
          go_wp2
          go_roundw
          case rel => exact ⟨k + 1, by omega, by first | rfl | go_num, HS2, Lib.hid (belowQ HBW.out _)⟩
          case measure => first | (simp [intOf]; done) | (simp [intOf]; omega)
        · have HS2 := Lib.hid (HNE.out (fun h => hP (HS.out.1 h)))
          have hq : ∀ w, (Op.equalIn 10000 153 (.agg #[.string x0, .string x1]) (.agg #[.string y0, .string y1])).run Tryd.prog w = .ok false w := fun w => by rw [eq_Pair, decide_eq_false hP]
          clear hP HS HNE
          go_wp2_with fail
          go_quiet (fail)
          go_wp2
          go_ret
          exact ⟨SameP.no (HX.out HS2.out), belowQ HBW.out _⟩
      · obtain rfl : k = n := by omega
        have x1 : ¬ (k : Int) < (k : Int) := by omega
        have HEQ : Hid (Ce.l k es = Ce.l k es') := Lib.hid (by
          have h1 := Ce.oks_length _ _ HOK.out
          have h2 := Ce.oks_length _ _ HOK'.out
          have h3 : (List.replicate k ([.s, .s] : List Ty)).flatten.length = k * 2 := by simp
          have h4 := HTK.out
          rw [List.take_of_length_le (by omega), List.take_of_length_le (by omega)] at h4
          rw [h4])
        go_wp2
        go_ret
        exact ⟨SameP.yes (HY.out HEQ.out), HBW.out⟩
  · have hz : ((n : Int) != (n' : Int)) = true := by
      rw [bne_iff_ne]
      omega
    have HNE : Hid (Ce.l n es ≠ Ce.l n' es') := Lib.hid (fun e => hnn (by injection e))
    have HBR : Hid (Below w.heap.size w w) := Lib.hid (Below.refl _ _)
    go_enter Tryd.func54, Tryd.ntmps54
    go_wp2
    go_ret
    exact ⟨SameP.no (HX.out HNE.out), HBR.out⟩

theorem eq_Rel (x0 y0 : Int) (x1 y1 : ByteArray) (w : World) : (Op.equalIn 10000 144 (.agg #[.int .i64 x0, .string x1]) (.agg #[.int .i64 y0, .string y1])).run Tryd.prog w = .ok (decide (x0 = y0 ∧ x1.toList = y1.toList)) w := by
  have u3 := Tryd.underlying3
  have us := Tryd.underlying9
  have ub := Tryd.underlying4
  have hS : Tryd.prog.underlying 144 = some (.struct (Tryd.prog.fieldsOf 144)) := by kernel_rfl
  have hp : Tryd.prog.stoodInHeld 144 = false := by kernel_rfl
  rw [show (10000 : Nat) = 9999 + 1 from rfl, run_equalIn_agg w 9999 144 _ _ hS hp]
  simp only [Program.fieldsOf, Tryd.underlying144]
  go_simp
  clear u3 us ub hS hp
  repeat' split
  all_goals simp_all
@[go_sem] theorem guard_Rel (x y : Operand) (xs ys : Array Value) (w : World) : (eqGuard .neq 144 x y (.agg xs) (.agg ys)).run Tryd.prog w = .ok () w := run_eqGuard_agg w _ _ _ _ _ _ (by kernel_rfl)

theorem open_Rel {w : World} {B : Nat} {ee : List Ce} {ue : List Value} (ho : Ce.Oks ee [.i, .s]) (ha : Ce.Ats w B ee ue) : ∃ (x0 : Int) (x1 : ByteArray), ee = [.i x0, .s x1] ∧ ue = [.int .i64 x0, .string x1] := by
  obtain ⟨x0, r0, u0, rfl, rfl, ho, ha⟩ := cons_i ho ha
  obtain ⟨x1, r1, u1, rfl, rfl, ho, ha⟩ := cons_s ho ha
  obtain ⟨rfl, rfl⟩ := cons_nil ho ha
  exact ⟨x0, x1, rfl, rfl⟩

set_option maxRecDepth 100000 in
set_option maxHeartbeats 8000000 in
theorem same_Rel {W0 w : World} {v v' : Value} {n n' nb : Nat} {es es' : List Ce} (hb0 : Below W0.heap.size W0 w) (ha : (Ce.l n es).At W0 W0.heap.size v) (ha' : (Ce.l n' es').At W0 W0.heap.size v') (hk : (Ce.l n es).Ok (.l nb [.i, .s])) (hk' : (Ce.l n' es').Ok (.l nb [.i, .s])) :
    Calls Tryd.prog 55 #[v, v'] w fun e w' => SameP (Ce.l n es = Ce.l n' es') e ∧ Below w.heap.size w w' := by
  obtain ⟨A, cp, k1, xs, rfl, _, hr, hat⟩ : ∃ A cp k1 xs, v = .slice A n cp ∧ n ≤ cp ∧ Rd W0 W0.heap.size k1 A n xs ∧ Ce.Ats W0 W0.heap.size es xs := by unfold Ce.At at ha; exact ha
  obtain ⟨A', cp', k2, ys, rfl, _, hr', hat'⟩ : ∃ A cp k1 xs, v' = .slice A n' cp ∧ n' ≤ cp ∧ Rd W0 W0.heap.size k1 A n' xs ∧ Ce.Ats W0 W0.heap.size es' xs := by unfold Ce.At at ha'; exact ha'
  unfold Ce.Ok at hk hk'
  have hn := hk.1.1
  have hn' := hk'.1.1
  have HOK := Lib.hid hk.2
  have HOK' := Lib.hid hk'.2
  have HAT := Lib.hid hat
  have HAT' := Lib.hid hat'
  have HR := Lib.hid hr.2
  have HR' := Lib.hid hr'.2
  have HB0 := Lib.hid hb0
  clear ha ha' hk hk' hr hr' hat hat' hb0
  obtain ⟨PP, hPP⟩ : ∃ PP, PP = (Ce.l n es = Ce.l n' es') := ⟨_, rfl⟩
  rw [← hPP]
  have HY : Hid (Ce.l n es = Ce.l n' es' → PP) := Lib.hid (fun h => by rw [hPP]; exact h)
  have HX : Hid (Ce.l n es ≠ Ce.l n' es' → ¬ PP) := Lib.hid (fun h => by rw [hPP]; exact h)
  clear hPP
  by_cases hnn : n = n'
  · subst hnn
    go_enter Tryd.func55, Tryd.ntmps55
    go_wp2_with fail
    go_loopw [13] (fun kv wr => ∃ k : Nat, k ≤ n ∧ kv = .int .i64 k ∧ Hid (es.take (k * 2) = es'.take (k * 2)) ∧ Hid (Below w.heap.size w wr)) (fun kv _ => n - (intOf kv).toNat)
    case atStart => exact ⟨0, Nat.zero_le _, rfl, Lib.hid (by simp), Lib.hid (Below.refl _ _)⟩
    case round =>
      obtain ⟨k, hkn, rfl, HTK, HBW⟩ := hrel
      by_cases hlt : k < n
      · have x1 : (0 : Int) ≤ (k : Int) := by omega
        have x2 : (k : Int) < (n : Int) := by omega
        have v1 : IntKind.i64.wrap ((k : Int) + 1) = ((k + 1 : Nat) : Int) := by rw [IntKind.wrap_i64]; omega
        obtain ⟨ad, rfl, hadb, hc⟩ := HR.out (by omega)
        obtain ⟨ad', rfl, hadb', hc'⟩ := HR'.out (by omega)
        have HB := Lib.hid (HB0.out.trans (HBW.out.mono HB0.out.size))
        obtain ⟨ee, hee⟩ : ∃ ee, ee = (es.drop (k * 2)).take 2 := ⟨_, rfl⟩
        obtain ⟨ee', hee'⟩ : ∃ ee, ee = (es'.drop (k * 2)).take 2 := ⟨_, rfl⟩
        have ho : Ce.Oks ee [.i, .s] := by rw [hee]; exact elem_oks (qE := [.i, .s]) n es HOK.out k hlt
        have ho' : Ce.Oks ee' [.i, .s] := by rw [hee']; exact elem_oks (qE := [.i, .s]) n es' HOK'.out k hlt
        have hu := elem_ats HAT.out (k * 2) 2
        have hu' := elem_ats HAT'.out (k * 2) 2
        rw [← hee] at hu
        rw [← hee'] at hu'
        obtain ⟨x0, x1, rfl, hxs⟩ := open_Rel ho hu
        obtain ⟨y0, y1, rfl, hys⟩ := open_Rel ho' hu'
        have HS : Hid (es.take ((k + 1) * 2) = es'.take ((k + 1) * 2) ↔ x0 = y0 ∧ x1.toList = y1.toList) := Lib.hid (by
          rw [take_step, take_step, HTK.out, ← hee, ← hee', List.append_cancel_left_eq]
          simp [bt_inj])
        have c0 := HB.out.cell (p := ad.add (k * 2 + 0)) (by rw [add_block]; exact hadb)
        rw [hc _ _ (elem_at hxs 0 _ (by decide) rfl)] at c0
        have d0 := HB.out.cell (p := ad'.add (k * 2 + 0)) (by rw [add_block]; exact hadb')
        rw [hc' _ _ (elem_at hys 0 _ (by decide) rfl)] at d0
        rw [Nat.add_zero] at c0 d0
        have c1 := HB.out.cell (p := ad.add (k * 2 + 1)) (by rw [add_block]; exact hadb)
        rw [hc _ _ (elem_at hxs 1 _ (by decide) rfl)] at c1
        have d1 := HB.out.cell (p := ad'.add (k * 2 + 1)) (by rw [add_block]; exact hadb')
        rw [hc' _ _ (elem_at hys 1 _ (by decide) rfl)] at d1
        rw [Mem.add_field _ _ 1 (by omega)] at c1 d1
        have HNE : Hid ((es.take ((k + 1) * 2) ≠ es'.take ((k + 1) * 2)) → Ce.l n es ≠ Ce.l n es') := Lib.hid (fun h e => h (by injection e with _ e; rw [e]))
        clear hc hc' hee hee' ho ho' hu hu' hxs hys
        by_cases hP : x0 = y0 ∧ x1.toList = y1.toList
        · have HS2 := Lib.hid (HS.out.2 hP)
          have hq : ∀ w, (Op.equalIn 10000 144 (.agg #[.int .i64 x0, .string x1]) (.agg #[.int .i64 y0, .string y1])).run Tryd.prog w = .ok true w := fun w => by rw [eq_Rel, decide_eq_true hP]
          clear hP HS HNE
          go_wp2_with fail
          go_quiet (fail)
          go_wp2
          go_roundw
          case rel => exact ⟨k + 1, by omega, by first | rfl | go_num, HS2, Lib.hid (belowQ HBW.out _)⟩
          case measure => first | (simp [intOf]; done) | (simp [intOf]; omega)
        · have HS2 := Lib.hid (HNE.out (fun h => hP (HS.out.1 h)))
          have hq : ∀ w, (Op.equalIn 10000 144 (.agg #[.int .i64 x0, .string x1]) (.agg #[.int .i64 y0, .string y1])).run Tryd.prog w = .ok false w := fun w => by rw [eq_Rel, decide_eq_false hP]
          clear hP HS HNE
          go_wp2_with fail
          go_quiet (fail)
          go_wp2
          go_ret
          exact ⟨SameP.no (HX.out HS2.out), belowQ HBW.out _⟩
      · obtain rfl : k = n := by omega
        have x1 : ¬ (k : Int) < (k : Int) := by omega
        have HEQ : Hid (Ce.l k es = Ce.l k es') := Lib.hid (by
          have h1 := Ce.oks_length _ _ HOK.out
          have h2 := Ce.oks_length _ _ HOK'.out
          have h3 : (List.replicate k ([.i, .s] : List Ty)).flatten.length = k * 2 := by simp
          have h4 := HTK.out
          rw [List.take_of_length_le (by omega), List.take_of_length_le (by omega)] at h4
          rw [h4])
        go_wp2
        go_ret
        exact ⟨SameP.yes (HY.out HEQ.out), HBW.out⟩
  · have hz : ((n : Int) != (n' : Int)) = true := by
      rw [bne_iff_ne]
      omega
    have HNE : Hid (Ce.l n es ≠ Ce.l n' es') := Lib.hid (fun e => hnn (by injection e))
    have HBR : Hid (Below w.heap.size w w) := Lib.hid (Below.refl _ _)
    go_enter Tryd.func55, Tryd.ntmps55
    go_wp2
    go_ret
    exact ⟨SameP.no (HX.out HNE.out), HBR.out⟩

theorem open_Int {w : World} {B : Nat} {ee : List Ce} {ue : List Value} (ho : Ce.Oks ee [.i]) (ha : Ce.Ats w B ee ue) : ∃ (x0 : Int), ee = [.i x0] ∧ ue = [.int .i64 x0] := by
  obtain ⟨x0, r0, u0, rfl, rfl, ho, ha⟩ := cons_i ho ha
  obtain ⟨rfl, rfl⟩ := cons_nil ho ha
  exact ⟨x0, rfl, rfl⟩

theorem open_Str {w : World} {B : Nat} {ee : List Ce} {ue : List Value} (ho : Ce.Oks ee [.s]) (ha : Ce.Ats w B ee ue) : ∃ (x0 : ByteArray), ee = [.s x0] ∧ ue = [.string x0] := by
  obtain ⟨x0, r0, u0, rfl, rfl, ho, ha⟩ := cons_s ho ha
  obtain ⟨rfl, rfl⟩ := cons_nil ho ha
  exact ⟨x0, rfl, rfl⟩

set_option maxRecDepth 100000 in
set_option maxHeartbeats 8000000 in
theorem same_Ints10 {W0 w : World} {v v' : Value} {n n' nb : Nat} {es es' : List Ce} (hb0 : Below W0.heap.size W0 w) (ha : (Ce.l n es).At W0 W0.heap.size v) (ha' : (Ce.l n' es').At W0 W0.heap.size v') (hk : (Ce.l n es).Ok (.l nb [.i])) (hk' : (Ce.l n' es').Ok (.l nb [.i])) :
    Calls Tryd.prog 53 #[v, v'] w fun e w' => SameP (Ce.l n es = Ce.l n' es') e ∧ Below w.heap.size w w' := by
  obtain ⟨A, cp, k1, xs, rfl, _, hr, hat⟩ : ∃ A cp k1 xs, v = .slice A n cp ∧ n ≤ cp ∧ Rd W0 W0.heap.size k1 A n xs ∧ Ce.Ats W0 W0.heap.size es xs := by unfold Ce.At at ha; exact ha
  obtain ⟨A', cp', k2, ys, rfl, _, hr', hat'⟩ : ∃ A cp k1 xs, v' = .slice A n' cp ∧ n' ≤ cp ∧ Rd W0 W0.heap.size k1 A n' xs ∧ Ce.Ats W0 W0.heap.size es' xs := by unfold Ce.At at ha'; exact ha'
  unfold Ce.Ok at hk hk'
  have hn := hk.1.1
  have hn' := hk'.1.1
  have HOK := Lib.hid hk.2
  have HOK' := Lib.hid hk'.2
  have HAT := Lib.hid hat
  have HAT' := Lib.hid hat'
  have HR := Lib.hid hr.2
  have HR' := Lib.hid hr'.2
  have HB0 := Lib.hid hb0
  clear ha ha' hk hk' hr hr' hat hat' hb0
  obtain ⟨PP, hPP⟩ : ∃ PP, PP = (Ce.l n es = Ce.l n' es') := ⟨_, rfl⟩
  rw [← hPP]
  have HY : Hid (Ce.l n es = Ce.l n' es' → PP) := Lib.hid (fun h => by rw [hPP]; exact h)
  have HX : Hid (Ce.l n es ≠ Ce.l n' es' → ¬ PP) := Lib.hid (fun h => by rw [hPP]; exact h)
  clear hPP
  by_cases hnn : n = n'
  · subst hnn
    go_enter Tryd.func53, Tryd.ntmps53
    go_wp2_with fail
    go_loopw [13] (fun kv wr => ∃ k : Nat, k ≤ n ∧ kv = .int .i64 k ∧ Hid (es.take (k * 1) = es'.take (k * 1)) ∧ Hid (Below w.heap.size w wr)) (fun kv _ => n - (intOf kv).toNat)
    case atStart => exact ⟨0, Nat.zero_le _, rfl, Lib.hid (by simp), Lib.hid (Below.refl _ _)⟩
    case round =>
      obtain ⟨k, hkn, rfl, HTK, HBW⟩ := hrel
      by_cases hlt : k < n
      · have x1 : (0 : Int) ≤ (k : Int) := by omega
        have x2 : (k : Int) < (n : Int) := by omega
        have v1 : IntKind.i64.wrap ((k : Int) + 1) = ((k + 1 : Nat) : Int) := by rw [IntKind.wrap_i64]; omega
        obtain ⟨ad, rfl, hadb, hc⟩ := HR.out (by omega)
        obtain ⟨ad', rfl, hadb', hc'⟩ := HR'.out (by omega)
        have HB := Lib.hid (HB0.out.trans (HBW.out.mono HB0.out.size))
        obtain ⟨ee, hee⟩ : ∃ ee, ee = (es.drop (k * 1)).take 1 := ⟨_, rfl⟩
        obtain ⟨ee', hee'⟩ : ∃ ee, ee = (es'.drop (k * 1)).take 1 := ⟨_, rfl⟩
        have ho : Ce.Oks ee [.i] := by rw [hee]; exact elem_oks (qE := [.i]) n es HOK.out k hlt
        have ho' : Ce.Oks ee' [.i] := by rw [hee']; exact elem_oks (qE := [.i]) n es' HOK'.out k hlt
        have hu := elem_ats HAT.out (k * 1) 1
        have hu' := elem_ats HAT'.out (k * 1) 1
        rw [← hee] at hu
        rw [← hee'] at hu'
        obtain ⟨x0, rfl, hxs⟩ := open_Int ho hu
        obtain ⟨y0, rfl, hys⟩ := open_Int ho' hu'
        have HS : Hid (es.take ((k + 1) * 1) = es'.take ((k + 1) * 1) ↔ x0 = y0) := Lib.hid (by
          rw [take_step, take_step, HTK.out, ← hee, ← hee', List.append_cancel_left_eq]
          simp)
        have c0 := HB.out.cell (p := ad.add k) (by rw [add_block]; exact hadb)
        rw [hc _ _ (show _ = some (.int .i64 x0) from by have h := elem_at hxs 0 _ (by decide) rfl; rw [Nat.add_zero, Nat.mul_one] at h; exact h)] at c0
        have d0 := HB.out.cell (p := ad'.add k) (by rw [add_block]; exact hadb')
        rw [hc' _ _ (show _ = some (.int .i64 y0) from by have h := elem_at hys 0 _ (by decide) rfl; rw [Nat.add_zero, Nat.mul_one] at h; exact h)] at d0
        have HNE : Hid ((es.take ((k + 1) * 1) ≠ es'.take ((k + 1) * 1)) → Ce.l n es ≠ Ce.l n es') := Lib.hid (fun h e => h (by injection e with _ e; rw [e]))
        clear hc hc' hee hee' ho ho' hu hu' hxs hys
        by_cases hP : x0 = y0
        · have HS2 := Lib.hid (HS.out.2 hP)
          have hq : (x0 == y0) = true := by simp [hP]
          have hq2 : (x0 != y0) = false := by simp [hP]
          clear hP HS HNE
          go_wp2_with fail
          go_quiet (fail)
          go_wp2
          go_roundw
          case rel => exact ⟨k + 1, by omega, by first | rfl | go_num, HS2, Lib.hid (belowQ HBW.out _)⟩
          case measure => first | (simp [intOf]; done) | (simp [intOf]; omega)
        · have HS2 := Lib.hid (HNE.out (fun h => hP (HS.out.1 h)))
          have hq : (x0 == y0) = false := by simp [hP]
          have hq2 : (x0 != y0) = true := by simp [hP]
          clear hP HS HNE
          go_wp2_with fail
          go_quiet (fail)
          go_wp2
          go_ret
          exact ⟨SameP.no (HX.out HS2.out), belowQ HBW.out _⟩
      · obtain rfl : k = n := by omega
        have x1 : ¬ (k : Int) < (k : Int) := by omega
        have HEQ : Hid (Ce.l k es = Ce.l k es') := Lib.hid (by
          have h1 := Ce.oks_length _ _ HOK.out
          have h2 := Ce.oks_length _ _ HOK'.out
          have h3 : (List.replicate k ([.i] : List Ty)).flatten.length = k * 1 := by simp
          have h4 := HTK.out
          rw [List.take_of_length_le (by omega), List.take_of_length_le (by omega)] at h4
          rw [h4])
        go_wp2
        go_ret
        exact ⟨SameP.yes (HY.out HEQ.out), HBW.out⟩
  · have hz : ((n : Int) != (n' : Int)) = true := by
      rw [bne_iff_ne]
      omega
    have HNE : Hid (Ce.l n es ≠ Ce.l n' es') := Lib.hid (fun e => hnn (by injection e))
    have HBR : Hid (Below w.heap.size w w) := Lib.hid (Below.refl _ _)
    go_enter Tryd.func53, Tryd.ntmps53
    go_wp2
    go_ret
    exact ⟨SameP.no (HX.out HNE.out), HBR.out⟩

set_option maxRecDepth 100000 in
set_option maxHeartbeats 8000000 in
theorem same_Ints22 {W0 w : World} {v v' : Value} {n n' nb : Nat} {es es' : List Ce} (hb0 : Below W0.heap.size W0 w) (ha : (Ce.l n es).At W0 W0.heap.size v) (ha' : (Ce.l n' es').At W0 W0.heap.size v') (hk : (Ce.l n es).Ok (.l nb [.i])) (hk' : (Ce.l n' es').Ok (.l nb [.i])) :
    Calls Tryd.prog 56 #[v, v'] w fun e w' => SameP (Ce.l n es = Ce.l n' es') e ∧ Below w.heap.size w w' := by
  obtain ⟨A, cp, k1, xs, rfl, _, hr, hat⟩ : ∃ A cp k1 xs, v = .slice A n cp ∧ n ≤ cp ∧ Rd W0 W0.heap.size k1 A n xs ∧ Ce.Ats W0 W0.heap.size es xs := by unfold Ce.At at ha; exact ha
  obtain ⟨A', cp', k2, ys, rfl, _, hr', hat'⟩ : ∃ A cp k1 xs, v' = .slice A n' cp ∧ n' ≤ cp ∧ Rd W0 W0.heap.size k1 A n' xs ∧ Ce.Ats W0 W0.heap.size es' xs := by unfold Ce.At at ha'; exact ha'
  unfold Ce.Ok at hk hk'
  have hn := hk.1.1
  have hn' := hk'.1.1
  have HOK := Lib.hid hk.2
  have HOK' := Lib.hid hk'.2
  have HAT := Lib.hid hat
  have HAT' := Lib.hid hat'
  have HR := Lib.hid hr.2
  have HR' := Lib.hid hr'.2
  have HB0 := Lib.hid hb0
  clear ha ha' hk hk' hr hr' hat hat' hb0
  obtain ⟨PP, hPP⟩ : ∃ PP, PP = (Ce.l n es = Ce.l n' es') := ⟨_, rfl⟩
  rw [← hPP]
  have HY : Hid (Ce.l n es = Ce.l n' es' → PP) := Lib.hid (fun h => by rw [hPP]; exact h)
  have HX : Hid (Ce.l n es ≠ Ce.l n' es' → ¬ PP) := Lib.hid (fun h => by rw [hPP]; exact h)
  clear hPP
  by_cases hnn : n = n'
  · subst hnn
    go_enter Tryd.func56, Tryd.ntmps56
    go_wp2_with fail
    go_loopw [13] (fun kv wr => ∃ k : Nat, k ≤ n ∧ kv = .int .i64 k ∧ Hid (es.take (k * 1) = es'.take (k * 1)) ∧ Hid (Below w.heap.size w wr)) (fun kv _ => n - (intOf kv).toNat)
    case atStart => exact ⟨0, Nat.zero_le _, rfl, Lib.hid (by simp), Lib.hid (Below.refl _ _)⟩
    case round =>
      obtain ⟨k, hkn, rfl, HTK, HBW⟩ := hrel
      by_cases hlt : k < n
      · have x1 : (0 : Int) ≤ (k : Int) := by omega
        have x2 : (k : Int) < (n : Int) := by omega
        have v1 : IntKind.i64.wrap ((k : Int) + 1) = ((k + 1 : Nat) : Int) := by rw [IntKind.wrap_i64]; omega
        obtain ⟨ad, rfl, hadb, hc⟩ := HR.out (by omega)
        obtain ⟨ad', rfl, hadb', hc'⟩ := HR'.out (by omega)
        have HB := Lib.hid (HB0.out.trans (HBW.out.mono HB0.out.size))
        obtain ⟨ee, hee⟩ : ∃ ee, ee = (es.drop (k * 1)).take 1 := ⟨_, rfl⟩
        obtain ⟨ee', hee'⟩ : ∃ ee, ee = (es'.drop (k * 1)).take 1 := ⟨_, rfl⟩
        have ho : Ce.Oks ee [.i] := by rw [hee]; exact elem_oks (qE := [.i]) n es HOK.out k hlt
        have ho' : Ce.Oks ee' [.i] := by rw [hee']; exact elem_oks (qE := [.i]) n es' HOK'.out k hlt
        have hu := elem_ats HAT.out (k * 1) 1
        have hu' := elem_ats HAT'.out (k * 1) 1
        rw [← hee] at hu
        rw [← hee'] at hu'
        obtain ⟨x0, rfl, hxs⟩ := open_Int ho hu
        obtain ⟨y0, rfl, hys⟩ := open_Int ho' hu'
        have HS : Hid (es.take ((k + 1) * 1) = es'.take ((k + 1) * 1) ↔ x0 = y0) := Lib.hid (by
          rw [take_step, take_step, HTK.out, ← hee, ← hee', List.append_cancel_left_eq]
          simp)
        have c0 := HB.out.cell (p := ad.add k) (by rw [add_block]; exact hadb)
        rw [hc _ _ (show _ = some (.int .i64 x0) from by have h := elem_at hxs 0 _ (by decide) rfl; rw [Nat.add_zero, Nat.mul_one] at h; exact h)] at c0
        have d0 := HB.out.cell (p := ad'.add k) (by rw [add_block]; exact hadb')
        rw [hc' _ _ (show _ = some (.int .i64 y0) from by have h := elem_at hys 0 _ (by decide) rfl; rw [Nat.add_zero, Nat.mul_one] at h; exact h)] at d0
        have HNE : Hid ((es.take ((k + 1) * 1) ≠ es'.take ((k + 1) * 1)) → Ce.l n es ≠ Ce.l n es') := Lib.hid (fun h e => h (by injection e with _ e; rw [e]))
        clear hc hc' hee hee' ho ho' hu hu' hxs hys
        by_cases hP : x0 = y0
        · have HS2 := Lib.hid (HS.out.2 hP)
          have hq : (x0 == y0) = true := by simp [hP]
          have hq2 : (x0 != y0) = false := by simp [hP]
          clear hP HS HNE
          go_wp2_with fail
          go_quiet (fail)
          go_wp2
          go_roundw
          case rel => exact ⟨k + 1, by omega, by first | rfl | go_num, HS2, Lib.hid (belowQ HBW.out _)⟩
          case measure => first | (simp [intOf]; done) | (simp [intOf]; omega)
        · have HS2 := Lib.hid (HNE.out (fun h => hP (HS.out.1 h)))
          have hq : (x0 == y0) = false := by simp [hP]
          have hq2 : (x0 != y0) = true := by simp [hP]
          clear hP HS HNE
          go_wp2_with fail
          go_quiet (fail)
          go_wp2
          go_ret
          exact ⟨SameP.no (HX.out HS2.out), belowQ HBW.out _⟩
      · obtain rfl : k = n := by omega
        have x1 : ¬ (k : Int) < (k : Int) := by omega
        have HEQ : Hid (Ce.l k es = Ce.l k es') := Lib.hid (by
          have h1 := Ce.oks_length _ _ HOK.out
          have h2 := Ce.oks_length _ _ HOK'.out
          have h3 : (List.replicate k ([.i] : List Ty)).flatten.length = k * 1 := by simp
          have h4 := HTK.out
          rw [List.take_of_length_le (by omega), List.take_of_length_le (by omega)] at h4
          rw [h4])
        go_wp2
        go_ret
        exact ⟨SameP.yes (HY.out HEQ.out), HBW.out⟩
  · have hz : ((n : Int) != (n' : Int)) = true := by
      rw [bne_iff_ne]
      omega
    have HNE : Hid (Ce.l n es ≠ Ce.l n' es') := Lib.hid (fun e => hnn (by injection e))
    have HBR : Hid (Below w.heap.size w w) := Lib.hid (Below.refl _ _)
    go_enter Tryd.func56, Tryd.ntmps56
    go_wp2
    go_ret
    exact ⟨SameP.no (HX.out HNE.out), HBR.out⟩

set_option maxRecDepth 100000 in
set_option maxHeartbeats 8000000 in
theorem same_Strs {W0 w : World} {v v' : Value} {n n' nb : Nat} {es es' : List Ce} (hb0 : Below W0.heap.size W0 w) (ha : (Ce.l n es).At W0 W0.heap.size v) (ha' : (Ce.l n' es').At W0 W0.heap.size v') (hk : (Ce.l n es).Ok (.l nb [.s])) (hk' : (Ce.l n' es').Ok (.l nb [.s])) :
    Calls Tryd.prog 14 #[v, v'] w fun e w' => SameP (Ce.l n es = Ce.l n' es') e ∧ Below w.heap.size w w' := by
  obtain ⟨A, cp, k1, xs, rfl, _, hr, hat⟩ : ∃ A cp k1 xs, v = .slice A n cp ∧ n ≤ cp ∧ Rd W0 W0.heap.size k1 A n xs ∧ Ce.Ats W0 W0.heap.size es xs := by unfold Ce.At at ha; exact ha
  obtain ⟨A', cp', k2, ys, rfl, _, hr', hat'⟩ : ∃ A cp k1 xs, v' = .slice A n' cp ∧ n' ≤ cp ∧ Rd W0 W0.heap.size k1 A n' xs ∧ Ce.Ats W0 W0.heap.size es' xs := by unfold Ce.At at ha'; exact ha'
  unfold Ce.Ok at hk hk'
  have hn := hk.1.1
  have hn' := hk'.1.1
  have HOK := Lib.hid hk.2
  have HOK' := Lib.hid hk'.2
  have HAT := Lib.hid hat
  have HAT' := Lib.hid hat'
  have HR := Lib.hid hr.2
  have HR' := Lib.hid hr'.2
  have HB0 := Lib.hid hb0
  clear ha ha' hk hk' hr hr' hat hat' hb0
  obtain ⟨PP, hPP⟩ : ∃ PP, PP = (Ce.l n es = Ce.l n' es') := ⟨_, rfl⟩
  rw [← hPP]
  have HY : Hid (Ce.l n es = Ce.l n' es' → PP) := Lib.hid (fun h => by rw [hPP]; exact h)
  have HX : Hid (Ce.l n es ≠ Ce.l n' es' → ¬ PP) := Lib.hid (fun h => by rw [hPP]; exact h)
  clear hPP
  by_cases hnn : n = n'
  · subst hnn
    go_enter Tryd.func14, Tryd.ntmps14
    go_wp2_with fail
    go_loopw [13] (fun kv wr => ∃ k : Nat, k ≤ n ∧ kv = .int .i64 k ∧ Hid (es.take (k * 1) = es'.take (k * 1)) ∧ Hid (Below w.heap.size w wr)) (fun kv _ => n - (intOf kv).toNat)
    case atStart => exact ⟨0, Nat.zero_le _, rfl, Lib.hid (by simp), Lib.hid (Below.refl _ _)⟩
    case round =>
      obtain ⟨k, hkn, rfl, HTK, HBW⟩ := hrel
      by_cases hlt : k < n
      · have x1 : (0 : Int) ≤ (k : Int) := by omega
        have x2 : (k : Int) < (n : Int) := by omega
        have v1 : IntKind.i64.wrap ((k : Int) + 1) = ((k + 1 : Nat) : Int) := by rw [IntKind.wrap_i64]; omega
        obtain ⟨ad, rfl, hadb, hc⟩ := HR.out (by omega)
        obtain ⟨ad', rfl, hadb', hc'⟩ := HR'.out (by omega)
        have HB := Lib.hid (HB0.out.trans (HBW.out.mono HB0.out.size))
        obtain ⟨ee, hee⟩ : ∃ ee, ee = (es.drop (k * 1)).take 1 := ⟨_, rfl⟩
        obtain ⟨ee', hee'⟩ : ∃ ee, ee = (es'.drop (k * 1)).take 1 := ⟨_, rfl⟩
        have ho : Ce.Oks ee [.s] := by rw [hee]; exact elem_oks (qE := [.s]) n es HOK.out k hlt
        have ho' : Ce.Oks ee' [.s] := by rw [hee']; exact elem_oks (qE := [.s]) n es' HOK'.out k hlt
        have hu := elem_ats HAT.out (k * 1) 1
        have hu' := elem_ats HAT'.out (k * 1) 1
        rw [← hee] at hu
        rw [← hee'] at hu'
        obtain ⟨x0, rfl, hxs⟩ := open_Str ho hu
        obtain ⟨y0, rfl, hys⟩ := open_Str ho' hu'
        have HS : Hid (es.take ((k + 1) * 1) = es'.take ((k + 1) * 1) ↔ x0.toList = y0.toList) := Lib.hid (by
          rw [take_step, take_step, HTK.out, ← hee, ← hee', List.append_cancel_left_eq]
          simp [bt_inj])
        have c0 := HB.out.cell (p := ad.add k) (by rw [add_block]; exact hadb)
        rw [hc _ _ (show _ = some (.string x0) from by have h := elem_at hxs 0 _ (by decide) rfl; rw [Nat.add_zero, Nat.mul_one] at h; exact h)] at c0
        have d0 := HB.out.cell (p := ad'.add k) (by rw [add_block]; exact hadb')
        rw [hc' _ _ (show _ = some (.string y0) from by have h := elem_at hys 0 _ (by decide) rfl; rw [Nat.add_zero, Nat.mul_one] at h; exact h)] at d0
        have HNE : Hid ((es.take ((k + 1) * 1) ≠ es'.take ((k + 1) * 1)) → Ce.l n es ≠ Ce.l n es') := Lib.hid (fun h e => h (by injection e with _ e; rw [e]))
        clear hc hc' hee hee' ho ho' hu hu' hxs hys
        by_cases hP : x0.toList = y0.toList
        · have HS2 := Lib.hid (HS.out.2 hP)
          have hq : (x0.toList == y0.toList) = true := by simp [hP]
          have hq2 : (x0.toList != y0.toList) = false := by simp [hP]
          clear hP HS HNE
          go_wp2_with fail
          go_quiet (fail)
          go_wp2
          go_roundw
          case rel => exact ⟨k + 1, by omega, by first | rfl | go_num, HS2, Lib.hid (belowQ HBW.out _)⟩
          case measure => first | (simp [intOf]; done) | (simp [intOf]; omega)
        · have HS2 := Lib.hid (HNE.out (fun h => hP (HS.out.1 h)))
          have hq : (x0.toList == y0.toList) = false := by simp [hP]
          have hq2 : (x0.toList != y0.toList) = true := by simp [hP]
          clear hP HS HNE
          go_wp2_with fail
          go_quiet (fail)
          go_wp2
          go_ret
          exact ⟨SameP.no (HX.out HS2.out), belowQ HBW.out _⟩
      · obtain rfl : k = n := by omega
        have x1 : ¬ (k : Int) < (k : Int) := by omega
        have HEQ : Hid (Ce.l k es = Ce.l k es') := Lib.hid (by
          have h1 := Ce.oks_length _ _ HOK.out
          have h2 := Ce.oks_length _ _ HOK'.out
          have h3 : (List.replicate k ([.s] : List Ty)).flatten.length = k * 1 := by simp
          have h4 := HTK.out
          rw [List.take_of_length_le (by omega), List.take_of_length_le (by omega)] at h4
          rw [h4])
        go_wp2
        go_ret
        exact ⟨SameP.yes (HY.out HEQ.out), HBW.out⟩
  · have hz : ((n : Int) != (n' : Int)) = true := by
      rw [bne_iff_ne]
      omega
    have HNE : Hid (Ce.l n es ≠ Ce.l n' es') := Lib.hid (fun e => hnn (by injection e))
    have HBR : Hid (Below w.heap.size w w) := Lib.hid (Below.refl _ _)
    go_enter Tryd.func14, Tryd.ntmps14
    go_wp2
    go_ret
    exact ⟨SameP.no (HX.out HNE.out), HBR.out⟩

end Go.Proofs.YtkgkipohalekmaaDoor
