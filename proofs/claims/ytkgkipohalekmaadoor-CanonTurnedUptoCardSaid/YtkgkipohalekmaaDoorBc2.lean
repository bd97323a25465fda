/-
  A machine in short: a cell's line.
-/
import Derived.Test.YtkgkipohalekmaaDoorBc1
import Derived.Test.YtkgkipohalekmaaDoorBk
import Derived.Deep.DeepCutAuto
namespace Go.Proofs.YtkgkipohalekmaaDoor
open Go.RowKit Go.Shelf
def Ce.num : Ce → Int
  | .i n => n
  | _ => 0
def Ce.cnt : Ce → Nat
  | .l n _ => n
  | _ => 0
def Ce.str : Ce → List UInt8
  | .s t => t.data.toList
  | _ => []
/-- a cell's line -/
def lineT (name : List UInt8) (kind state att res : Int) (nw ns : Nat) (next : Int) : List UInt8 :=
  name ++ [32] ++ stateW state ++ [32] ++ Lib.itoa att ++ (if resW res = [] then [] else [32] ++ resW res) ++ (if 0 < nw then [32, 119, 97, 105, 116, 115, 32] ++ Lib.itoa nw else [])
    ++ (if 0 < ns then [32, 115, 101, 114, 118, 101, 115, 32] ++ Lib.itoa ns else []) ++ (if kind = 3 ∧ next < 6311433600 then [32, 110, 101, 120, 116, 32] ++ Lib.itoa next else []) ++ [10]
def lineC (e : List Ce) : List UInt8 :=
  lineT (e.getD 0 (.i 0)).str (e.getD 1 (.i 0)).num (e.getD 35 (.i 0)).num (e.getD 37 (.i 0)).num (e.getD 39 (.i 0)).num (e.getD 56 (.i 0)).cnt (e.getD 55 (.i 0)).cnt (e.getD 60 (.i 0)).num
theorem stateW_len (n : Int) : (stateW n).length ≤ 6 := by
  unfold stateW
  split
  · exact Nat.zero_le _
  · cases h : stateL[n.toNat]? with
    | none => exact Nat.zero_le _
    | some l =>
      have hm := List.mem_of_getElem? h
      have : ∀ l ∈ stateL, l.length ≤ 6 := by decide
      exact this l hm
theorem resW_len (n : Int) : (resW n).length ≤ 5 := by
  unfold resW
  repeat' split
  all_goals decide
theorem typeW_len (n : Int) : (typeW n).length ≤ 7 := by
  unfold typeW
  repeat' split
  all_goals decide
theorem by_size (l : List UInt8) : (⟨l.toArray⟩ : ByteArray).size = l.length := by
  show l.toArray.size = _
  simp
theorem lineT_len (name : List UInt8) (kind state att res : Int) (nw ns : Nat) (next : Int) (h1 : -9223372036854775808 ≤ att ∧ att ≤ 9223372036854775807) (h2 : nw ≤ 140737488351232) (h3 : ns ≤ 140737488351232) (h4 : -9223372036854775808 ≤ next ∧ next ≤ 9223372036854775807) : (lineT name kind state att res nw ns next).length ≤ name.length + 200 := by
  have a1 := itoa_len att h1.1 h1.2
  have a2 := itoa_len (nw : Int) (by omega) (by omega)
  have a3 := itoa_len (ns : Int) (by omega) (by omega)
  have a4 := itoa_len next h4.1 h4.2
  have a5 := stateW_len state
  have a6 := resW_len res
  unfold lineT
  simp only [List.length_append]
  have b1 : (if resW res = [] then [] else [32] ++ resW res).length ≤ 6 := by
    split
    · exact Nat.zero_le _
    · simp; omega
  have b2 : (if 0 < nw then [32, 119, 97, 105, 116, 115, 32] ++ Lib.itoa nw else []).length ≤ 28 := by
    split
    · simp; omega
    · exact Nat.zero_le _
  have b3 : (if 0 < ns then [32, 115, 101, 114, 118, 101, 115, 32] ++ Lib.itoa ns else []).length ≤ 29 := by
    split
    · simp; omega
    · exact Nat.zero_le _
  have b4 : (if kind = 3 ∧ next < 6311433600 then [32, 110, 101, 120, 116, 32] ++ Lib.itoa next else []).length ≤ 27 := by
    split
    · simp; omega
    · exact Nat.zero_le _
  simp only [List.length_cons, List.length_nil]
  omega
/-- what a cell's line is made of -/
structure LineIs (w : World) (B : Nat) (cs : List Ce) (us : List Value) (name : ByteArray) (kind state att res : Int) (nw ns : Nat) (next : Int) (vw vs : Value) : Prop where
  len : us.length = 62
  c0 : us[0]? = some (.string name)
  c1 : us[1]? = some (.int .i64 kind)
  c35 : us[35]? = some (.int .i64 state)
  c37 : us[37]? = some (.int .i64 att)
  c39 : us[39]? = some (.int .i64 res)
  c55 : us[55]? = some vs
  c56 : us[56]? = some vw
  c60 : us[60]? = some (.int .i64 next)
  sw : ∃ A c, vw = .slice A nw c
  ss : ∃ A c, vs = .slice A ns c
  line : lineC cs = lineT name.data.toList kind state att res nw ns next
  natt : -9223372036854775808 ≤ att ∧ att ≤ 9223372036854775807
  nnext : -9223372036854775808 ≤ next ∧ next ≤ 9223372036854775807
  nnw : nw ≤ 140737488351232
  nns : ns ≤ 140737488351232
  nm : name.size ≤ Ce.bulks cs
set_option maxRecDepth 100000 in
theorem line_is {w : World} {B : Nat} {cs : List Ce} {us : List Value} (ho : Ce.Oks cs qCell) (ha : Ce.Ats w B cs us) : ∃ name kind state att res nw ns next vw vs, LineIs w B cs us name kind state att res nw ns next vw vs := by
  unfold qCell at ho
  simp only [List.cons_append, List.nil_append] at ho
  obtain ⟨xf, xr, xfu, xu, rfl, xfh, xfk, xfa, ho, ha⟩ := open_app ho ha
  obtain ⟨x35, xr35, xu35, rfl, xh35, ho, ha⟩ := cons_i ho ha
  obtain ⟨x36, xr36, xu36, rfl, xh36, ho, ha⟩ := cons_i ho ha
  have hk37 := ho
  obtain ⟨x37, xr37, xu37, rfl, xh37, ho, ha⟩ := cons_i ho ha
  obtain ⟨xn38, xe38, xr38, xv38, xu38, rfl, xh38, xk38, xa38, ho, ha⟩ := cons_l ho ha
  obtain ⟨x39, xr39, xu39, rfl, xh39, ho, ha⟩ := cons_i ho ha
  obtain ⟨x40, xr40, xu40, rfl, xh40, ho, ha⟩ := cons_i ho ha
  obtain ⟨x41, xr41, xu41, rfl, xh41, ho, ha⟩ := cons_i ho ha
  obtain ⟨x42, xr42, xu42, rfl, xh42, ho, ha⟩ := cons_i ho ha
  obtain ⟨x43, xr43, xu43, rfl, xh43, ho, ha⟩ := cons_i ho ha
  obtain ⟨x44, xr44, xu44, rfl, xh44, ho, ha⟩ := cons_i ho ha
  obtain ⟨x45, xr45, xu45, rfl, xh45, ho, ha⟩ := cons_b ho ha
  obtain ⟨x46, xr46, xu46, rfl, xh46, ho, ha⟩ := cons_i ho ha
  obtain ⟨x47, xr47, xu47, rfl, xh47, ho, ha⟩ := cons_i ho ha
  obtain ⟨x48, xr48, xu48, rfl, xh48, ho, ha⟩ := cons_i ho ha
  obtain ⟨x49, xr49, xu49, rfl, xh49, ho, ha⟩ := cons_i ho ha
  obtain ⟨x50, xr50, xu50, rfl, xh50, ho, ha⟩ := cons_i ho ha
  obtain ⟨x51, xr51, xu51, rfl, xh51, ho, ha⟩ := cons_b ho ha
  obtain ⟨x52, xr52, xu52, rfl, xh52, ho, ha⟩ := cons_i ho ha
  obtain ⟨x53, xr53, xu53, rfl, xh53, ho, ha⟩ := cons_b ho ha
  obtain ⟨x54, xr54, xu54, rfl, xh54, ho, ha⟩ := cons_b ho ha
  obtain ⟨xn55, xe55, xr55, xv55, xu55, rfl, xh55, xk55, xa55, ho, ha⟩ := cons_l ho ha
  obtain ⟨xn56, xe56, xr56, xv56, xu56, rfl, xh56, xk56, xa56, ho, ha⟩ := cons_l ho ha
  obtain ⟨x57, xr57, xu57, rfl, xh57, ho, ha⟩ := cons_i ho ha
  obtain ⟨x58, xr58, xu58, rfl, xh58, ho, ha⟩ := cons_i ho ha
  obtain ⟨x59, xr59, xu59, rfl, xh59, ho, ha⟩ := cons_i ho ha
  have hk60 := ho
  obtain ⟨x60, xr60, xu60, rfl, xh60, ho, ha⟩ := cons_i ho ha
  obtain ⟨x61, xr61, xu61, rfl, xh61, ho, ha⟩ := cons_i ho ha
  obtain ⟨rfl, xhz⟩ := cons_nil ho ha
  have hl : xf.length = 35 := (Ce.oks_length _ _ xfk).trans rfl
  have hu : xfu.length = 35 := (Ce.ats_length _ _ xfa).trans hl
  unfold qUnit at xfk
  obtain ⟨x0, xr0, xu0, rfl, xh0, xfk, xfa⟩ := cons_s xfk xfa
  obtain ⟨x1, xr1, xu1, rfl, xh1, xfk, xfa⟩ := cons_i xfk xfa
  have HU : us = xfu ++ [.int .i64 x35, .int .i64 x36, .int .i64 x37, xv38, .int .i64 x39, .int .i64 x40, .int .i64 x41, .int .i64 x42, .int .i64 x43, .int .i64 x44, .bool x45, .int .i64 x46, .int .i64 x47, .int .i64 x48, .int .i64 x49, .int .i64 x50, .bool x51, .int .i64 x52, .bool x53, .bool x54, xv55, xv56, .int .i64 x57, .int .i64 x58, .int .i64 x59, .int .i64 x60, .int .i64 x61] := by rw [xfh, xh35, xh36, xh37, xh38, xh39, xh40, xh41, xh42, xh43, xh44, xh45, xh46, xh47, xh48, xh49, xh50, xh51, xh52, xh53, xh54, xh55, xh56, xh57, xh58, xh59, xh60, xh61, xhz]
  have sw : ∃ A c, xv56 = .slice A xn56 c := by
    unfold Ce.At at xa56
    obtain ⟨A, c, _, _, h, _⟩ := xa56
    exact ⟨A, c, h⟩
  have ss : ∃ A c, xv55 = .slice A xn55 c := by
    unfold Ce.At at xa55
    obtain ⟨A, c, _, _, h, _⟩ := xa55
    exact ⟨A, c, h⟩
  have hn1 := xk56
  have hn2 := xk55
  unfold Ce.Ok at hn1 hn2
  unfold Ce.Oks at hk37 hk60
  have h37 := hk37.1
  have h60 := hk60.1
  unfold Ce.Ok at h37 h60
  refine ⟨x0, x1, x35, x37, x39, xn56, xn55, x60, xv56, xv55, ⟨?_, ?_, ?_, ?_, ?_, ?_, ?_, ?_, ?_, sw, ss, ?_, h37, h60, hn1.1.1, hn2.1.1, ?_⟩⟩
  · rw [HU, List.length_append, hu]; rfl
  · rw [HU, List.getElem?_append_left (by omega), xh0]; rfl
  · rw [HU, List.getElem?_append_left (by omega), xh0, xh1]; rfl
  · rw [HU]; exact get_front hu 0
  · rw [HU]; exact get_front hu 2
  · rw [HU]; exact get_front hu 4
  · rw [HU]; exact get_front hu 20
  · rw [HU]; exact get_front hu 21
  · rw [HU]; exact get_front hu 25
  · have e : ∀ (l : List Ce) (k : Nat), (((Ce.s x0 :: Ce.i x1 :: xr1) ++ l).getD (35 + k) (.i 0)) = l.getD k (.i 0) := fun l k => by
      rw [List.getD_eq_getElem?_getD, List.getD_eq_getElem?_getD, List.getElem?_append_right (by rw [hl]; omega), hl, Nat.add_sub_cancel_left]
    unfold lineC
    rw [e _ 0, e _ 2, e _ 4, e _ 20, e _ 21, e _ 25]
    rfl
  · rw [Ce.bulks_append]
    simp only [Ce.bulks, Ce.bulk]
    omega
theorem bt_size (T : ByteArray) : T.size = T.data.toList.length := by
  show T.data.size = _
  simp
theorem by_empty (S : ByteArray) : S ++ ⟨#[]⟩ = S := by
  apply ByteArray.ext
  rw [ByteArray.data_append]
  simp
theorem bt_eq {T : ByteArray} {l : List UInt8} (h : T.data.toList = l) : T = ⟨l.toArray⟩ := by
  apply ByteArray.ext
  rw [← h]
set_option maxRecDepth 100000 in
set_option maxHeartbeats 8000000 in
theorem line_any {W0 w : World} {cs : List Ce} {vs : Array Value} (E : Env W0) (hb0 : Below W0.heap.size W0 w) (ha : Ce.Ats W0 W0.heap.size cs vs.toList) (ho : Ce.Oks cs qCell) (hl : Ce.bulks cs ≤ 2097152) :
    Calls Tryd.prog 24 #[.agg vs] w fun e w' => e = .returned (.string ⟨(lineC cs).toArray⟩) ∧ Below w.heap.size w w' := by
  obtain ⟨name, kind, state, att, res, nw, ns, next, vw, vz, H⟩ := line_is ho ha
  obtain ⟨Aw, cw, rfl⟩ := H.sw
  obtain ⟨As, cz, rfl⟩ := H.ss
  rw [H.line]
  have hx2 := heap_alloc_new w (.cells vs 51)
  have hb2 : Below w.heap.size w (w.alloc (.cells vs 51)) := (Below.refl _ _).alloc (Nat.le_refl _) _
  have hs2 : w.heap.size < (w.alloc (.cells vs 51)).heap.size := by simp
  have HI : Hid (∀ n : Int, -9223372036854775808 ≤ n → n ≤ 9223372036854775807 → ∀ W, Below (w.alloc (.cells vs 51)).heap.size (w.alloc (.cells vs 51)) W → Calls Tryd.prog 23 #[.int .i64 n] W fun e w' => e = .returned (.string ⟨(Lib.itoa n).toArray⟩) ∧ Below W.heap.size W w') := Lib.hid (fun n h0 h1 W hW => itoa_any n W0 W h0 h1 E (hb0.trans ((hb2.trans (hW.mono hb2.size)).mono hb0.size)))
  have HC : Hid (∀ W, Below (w.alloc (.cells vs 51)).heap.size (w.alloc (.cells vs 51)) W → ∀ j v, vs.toList[j]? = some v → W.cell? ⟨w.heap.size, j, none⟩ = some v) := Lib.hid (fun W hW j v hv => by
    rw [cell_of_row W _ j _ _ _ ((hW.block _ hs2).trans hx2), ← Array.getElem?_toList]
    exact hv)
  have hnm := H.nm
  obtain ⟨ha1, ha2⟩ := H.natt
  obtain ⟨hb3, hb4⟩ := H.nnext
  have hn1 := H.nnw
  have hn2 := H.nns
  obtain ⟨T1, hT1⟩ : ∃ T : ByteArray, T = ⟨(stateW state).toArray⟩ := ⟨_, rfl⟩
  obtain ⟨T2, hT2⟩ : ∃ T : ByteArray, T = ⟨(Lib.itoa att).toArray⟩ := ⟨_, rfl⟩
  obtain ⟨T3, hT3⟩ : ∃ T : ByteArray, T = ⟨(resW res).toArray⟩ := ⟨_, rfl⟩
  obtain ⟨T4, hT4⟩ : ∃ T : ByteArray, T = ⟨(Lib.itoa (nw : Int)).toArray⟩ := ⟨_, rfl⟩
  obtain ⟨T5, hT5⟩ : ∃ T : ByteArray, T = ⟨(Lib.itoa (ns : Int)).toArray⟩ := ⟨_, rfl⟩
  obtain ⟨T6, hT6⟩ : ∃ T : ByteArray, T = ⟨(Lib.itoa next).toArray⟩ := ⟨_, rfl⟩
  have z1 : T1.size ≤ 6 := by rw [hT1, by_size]; exact stateW_len _
  have z2 : T2.size ≤ 21 := by rw [hT2, by_size]; exact itoa_len _ ha1 ha2
  have z3 : T3.size ≤ 5 := by rw [hT3, by_size]; exact resW_len _
  have z4 : T4.size ≤ 21 := by rw [hT4, by_size]; exact itoa_len _ (by omega) (by omega)
  have z5 : T5.size ≤ 21 := by rw [hT5, by_size]; exact itoa_len _ (by omega) (by omega)
  have z6 : T6.size ≤ 21 := by rw [hT6, by_size]; exact itoa_len _ hb3 hb4
  have K1 : Hid (∀ W, Calls Tryd.prog 27 #[.int .i64 state] W fun e w' => e = .returned (.string T1) ∧ Below W.heap.size W w') := Lib.hid (fun W => by rw [hT1]; exact state_any state W)
  have K2 := Lib.hid (fun W hW => by have h := HI.out att ha1 ha2 W hW; rw [← hT2] at h; exact h)
  have K3 : Hid (∀ W, Calls Tryd.prog 33 #[.int .i64 res] W fun e w' => e = .returned (.string T3) ∧ Below W.heap.size W w') := Lib.hid (fun W => by rw [hT3]; exact res_any res W)
  have K4 := Lib.hid (fun W hW => by have h := HI.out (nw : Int) (by omega) (by omega) W hW; rw [← hT4] at h; exact h)
  have K5 := Lib.hid (fun W hW => by have h := HI.out (ns : Int) (by omega) (by omega) W hW; rw [← hT5] at h; exact h)
  have K6 := Lib.hid (fun W hW => by have h := HI.out next hb3 hb4 W hW; rw [← hT6] at h; exact h)
  obtain ⟨P3, hP3⟩ : ∃ P : ByteArray, P = (if T3.data.toList = [] then ⟨#[]⟩ else ⟨#[32]⟩ ++ T3) := ⟨_, rfl⟩
  obtain ⟨P4, hP4⟩ : ∃ P : ByteArray, P = (if 0 < nw then ⟨#[32, 119, 97, 105, 116, 115, 32]⟩ ++ T4 else ⟨#[]⟩) := ⟨_, rfl⟩
  obtain ⟨P5, hP5⟩ : ∃ P : ByteArray, P = (if 0 < ns then ⟨#[32, 115, 101, 114, 118, 101, 115, 32]⟩ ++ T5 else ⟨#[]⟩) := ⟨_, rfl⟩
  obtain ⟨P6, hP6⟩ : ∃ P : ByteArray, P = (if kind = 3 ∧ next < 6311433600 then ⟨#[32, 110, 101, 120, 116, 32]⟩ ++ T6 else ⟨#[]⟩) := ⟨_, rfl⟩
  have hR : (name ++ ⟨#[32]⟩ ++ T1 ++ ⟨#[32]⟩ ++ T2 ++ P3 ++ P4 ++ P5 ++ P6 ++ ⟨#[10]⟩ : ByteArray) = ⟨(lineT name.data.toList kind state att res nw ns next).toArray⟩ := by
    apply bt_eq
    rw [hP3, hP4, hP5, hP6, hT1, hT2, hT3, hT4, hT5, hT6]
    simp only [ByteArray.data_append, Array.toList_append]
    unfold lineT
    congr 1
    congr 1
    · congr 1
      · congr 1
        · congr 1
          · split <;> simp_all
        · split <;> simp
      · split <;> simp
    · split <;> simp
  have HR := Lib.hid hR
  have q1 : P3.size ≤ 6 := by
    rw [hP3]
    split
    · exact Nat.zero_le _
    · rw [ByteArray.size_append]; show 1 + T3.size ≤ 6; omega
  have q2 : P4.size ≤ 28 := by
    rw [hP4]
    split
    · rw [ByteArray.size_append]; show 7 + T4.size ≤ 28; omega
    · exact Nat.zero_le _
  have q3 : P5.size ≤ 29 := by
    rw [hP5]
    split
    · rw [ByteArray.size_append]; show 8 + T5.size ≤ 29; omega
    · exact Nat.zero_le _
  have q4 : P6.size ≤ 27 := by
    rw [hP6]
    split
    · rw [ByteArray.size_append]; show 6 + T6.size ≤ 27; omega
    · exact Nat.zero_le _
  have HP3 := Lib.hid hP3
  have HP4 := Lib.hid hP4
  have HP5 := Lib.hid hP5
  have HP6 := Lib.hid hP6
  clear hT1 hT2 hT3 hT4 hT5 hT6 hP3 hP4 hP5 hP6 hR
  have c0 : ∀ p : Since (w.alloc (.cells vs 51)).heap.size (w.alloc (.cells vs 51)), p.w'.cell? ⟨w.heap.size, 0, none⟩ = some (.string name) := fun p => HC.out _ p.hb _ _ H.c0
  have c35 : ∀ p : Since (w.alloc (.cells vs 51)).heap.size (w.alloc (.cells vs 51)), p.w'.cell? ⟨w.heap.size, 35, none⟩ = some (.int .i64 state) := fun p => HC.out _ p.hb _ _ H.c35
  have c37 : ∀ p : Since (w.alloc (.cells vs 51)).heap.size (w.alloc (.cells vs 51)), p.w'.cell? ⟨w.heap.size, 37, none⟩ = some (.int .i64 att) := fun p => HC.out _ p.hb _ _ H.c37
  have HH := Lib.hid H
  have HB0 := Lib.hid hb0
  have HBW := Lib.hid hb2
  clear H ha ho hx2 hs2 hb0 E HI
  have hz1 : ¬ 9223372036854775807 < name.size + 1 := by omega
  have hz2 : ¬ 9223372036854775807 < name.size + 1 + T1.size := by omega
  have hz3 : ¬ 9223372036854775807 < name.size + 1 + T1.size + 1 := by omega
  have hz4 : ¬ 9223372036854775807 < name.size + 1 + T1.size + 1 + T2.size := by omega
  go_enter Tryd.func24, Tryd.ntmps24
  go_upto_region 1 with fail
  generalize w.alloc (.cells vs 51) = w2 at *
  refine wp_region_since w2.heap.size (by kernel_rfl) (by kernel_rfl) ?_
  repeat (go_big_quiet_step (first | (go_at_call 27; exact Calls.since_of (Nat.le_refl _) (K1.out _)) | (go_at_call 23; exact Calls.since_of (Nat.le_refl _) (K2.out _ (Since.hb _)))))
  refine wpQuiet_nil ?_
  intro _ hw'
  obtain ⟨pz, hw''⟩ := hw'
  subst hw''
  have HB3 := Lib.hid pz.hb
  generalize pz.w' = w3 at *
  clear c0 c35 c37 hz1 hz2 hz3 hz4 K1 K2
  obtain ⟨S1, hS1⟩ : ∃ S : ByteArray, S = name ++ ⟨#[32]⟩ ++ T1 ++ ⟨#[32]⟩ ++ T2 := ⟨_, rfl⟩
  have s1 : S1.size ≤ Ce.bulks cs + 40 := by
    rw [hS1]
    simp only [ByteArray.size_append]
    have : (⟨#[32]⟩ : ByteArray).size = 1 := rfl
    omega
  rw [← hS1] at HR
  try rw [← hS1]
  clear hS1
  have HS1 : Hid (S1.size ≤ 2097192) := Lib.hid (by omega)
  replace s1 : S1.size ≤ 2097192 := HS1.out
  clear hl HS1 hnm
  have c39 := HC.out w3 HB3.out _ _ HH.out.c39
  go_wp2_with fail
  refine (K3.out w3).mono ?_
  rintro e w4 ⟨rfl, hb4⟩
  have HB4 := Lib.hid (HB3.out.trans (hb4.mono HB3.out.size))
  clear hb4 c39 K3 HB3
  go_upto_if 24 with fail
  generalize hbb : (!T3.toList.isEmpty) = bb
  have HBB := Lib.hid hbb
  clear hbb
  go_cut [3] (fun a W => a = .string (S1 ++ P3) ∧ w4 = W)
  case first =>
    cases bb with
    | false =>
      have HE1 : Hid (S1 ++ P3 = S1) := Lib.hid (by
        have g := HBB.out
        rw [Lib.toList_data] at g
        rw [HP3.out, if_pos (by simpa using g)]; exact by_empty _)
      go_wp2
      go_meet
      exact ⟨congrArg Value.string HE1.out.symm, rfl⟩
    | true =>
      have HE1 : Hid (S1 ++ P3 = S1 ++ (⟨#[32]⟩ ++ T3)) := Lib.hid (by
        have g := HBB.out
        rw [Lib.toList_data] at g
        rw [HP3.out, if_neg (by simpa using g)])
      have k1 : ¬ 9223372036854775807 < 1 + T3.size := by omega
      have k2 : ¬ 9223372036854775807 < S1.size + (1 + T3.size) := by omega
      go_wp2
      go_meet
      exact ⟨congrArg Value.string HE1.out.symm, rfl⟩
  case rest =>
    obtain ⟨rfl, rfl⟩ := hcut
    obtain ⟨S2, hS2⟩ : ∃ S : ByteArray, S = S1 ++ P3 := ⟨_, rfl⟩
    have s2 : S2.size ≤ 2097292 := by rw [hS2, ByteArray.size_append]; omega
    have HR2 := Lib.hid HR.out
    rw [← hS2] at HR2 ⊢
    clear hS2 HR s1 HBB
    have hc := HC.out w4 HB4.out _ _ HH.out.c56
    go_upto_if 33 with fail
    clear hc
    generalize hbb : (decide (0 < nw)) = bb
    have HBB := Lib.hid hbb
    clear hbb
    go_cut [3] (fun a W => a = .string (S2 ++ P4) ∧ Hid (Below w2.heap.size w2 W))
    case first =>
      cases bb with
      | true =>
        have HE1 : Hid (S2 ++ P4 = S2 ++ (⟨#[32, 119, 97, 105, 116, 115, 32]⟩ ++ T4)) := Lib.hid (by rw [HP4.out, if_pos (of_decide_eq_true HBB.out)])
        have k1 : ¬ 9223372036854775807 < 7 + T4.size := by omega
        have k2 : ¬ 9223372036854775807 < S2.size + (7 + T4.size) := by omega
        go_wp2_with fail
        refine (K4.out w4 HB4.out).mono ?_
        rintro e wx ⟨rfl, hbx⟩
        have HBx := Lib.hid (HB4.out.trans (hbx.mono HB4.out.size))
        clear hbx
        go_wp2
        go_meet
        exact ⟨congrArg Value.string HE1.out.symm, HBx⟩
      | false =>
        have HE1 : Hid (S2 ++ P4 = S2) := Lib.hid (by rw [HP4.out, if_neg (of_decide_eq_false HBB.out)]; exact by_empty _)
        go_wp2
        go_meet
        exact ⟨congrArg Value.string HE1.out.symm, HB4⟩
    case rest =>
      obtain ⟨rfl, HB5⟩ := hcut
      obtain ⟨w5, rfl⟩ : ∃ W : World, W = wc := ⟨_, rfl⟩
      obtain ⟨S3, hS3⟩ : ∃ S : ByteArray, S = S2 ++ P4 := ⟨_, rfl⟩
      have s3 : S3.size ≤ 2097392 := by rw [hS3, ByteArray.size_append]; omega
      have HR3 := Lib.hid HR2.out
      rw [← hS3] at HR3 ⊢
      clear hS3 HR2 HBB
      have hc := HC.out w5 HB5.out _ _ HH.out.c55
      go_upto_if 43 with fail
      clear hc
      generalize hbb : (decide (0 < ns)) = bb
      have HBB := Lib.hid hbb
      clear hbb
      go_cut [3] (fun a W => a = .string (S3 ++ P5) ∧ Hid (Below w2.heap.size w2 W))
      case first =>
        cases bb with
        | true =>
          have HE1 : Hid (S3 ++ P5 = S3 ++ (⟨#[32, 115, 101, 114, 118, 101, 115, 32]⟩ ++ T5)) := Lib.hid (by rw [HP5.out, if_pos (of_decide_eq_true HBB.out)])
          have k1 : ¬ 9223372036854775807 < 8 + T5.size := by omega
          have k2 : ¬ 9223372036854775807 < S3.size + (8 + T5.size) := by omega
          go_wp2_with fail
          refine (K5.out w5 HB5.out).mono ?_
          rintro e wx ⟨rfl, hbx⟩
          have HBx := Lib.hid (HB5.out.trans (hbx.mono HB5.out.size))
          clear hbx
          go_wp2
          go_meet
          exact ⟨congrArg Value.string HE1.out.symm, HBx⟩
        | false =>
          have HE1 : Hid (S3 ++ P5 = S3) := Lib.hid (by rw [HP5.out, if_neg (of_decide_eq_false HBB.out)]; exact by_empty _)
          go_wp2
          go_meet
          exact ⟨congrArg Value.string HE1.out.symm, HB5⟩
      case rest =>
        obtain ⟨rfl, HB6⟩ := hcut
        obtain ⟨w6, rfl⟩ : ∃ W : World, W = wc := ⟨_, rfl⟩
        obtain ⟨S4, hS4⟩ : ∃ S : ByteArray, S = S3 ++ P5 := ⟨_, rfl⟩
        have s4 : S4.size ≤ 2097492 := by rw [hS4, ByteArray.size_append]; omega
        have HR4 := Lib.hid HR3.out
        rw [← hS4] at HR4 ⊢
        clear hS4 HR3 HBB
        have c1 := HC.out w6 HB6.out _ _ HH.out.c1
        have c60 := HC.out w6 HB6.out _ _ HH.out.c60
        go_upto_region 11 with fail
        obtain ⟨qb, hqb⟩ : ∃ qb : Bool, qb = decide (kind = 3 ∧ next < 6311433600) := ⟨_, rfl⟩
        have HQB := Lib.hid hqb
        clear hqb
        go_cut [57] (fun c W => c = .bool qb ∧ w6 = W)
        case first =>
          by_cases g1 : kind = 3
          · have HG1 := Lib.hid g1
            subst g1
            by_cases g2 : next < 6311433600
            · go_wp2
              go_meet
              exact ⟨congrArg Value.bool (by rw [HQB.out]; simp [g2]), rfl⟩
            · go_wp2
              go_meet
              exact ⟨congrArg Value.bool (by rw [HQB.out]; simp [g2]), rfl⟩
          · have g3 : (kind == 3) = false := by simp [g1]
            have HG1 := Lib.hid g1
            clear g1
            go_wp2
            go_meet
            exact ⟨congrArg Value.bool (by rw [HQB.out]; simp [HG1.out]), rfl⟩
        case rest =>
          obtain ⟨rfl, rfl⟩ := hcut
          clear c1
          go_upto_if 57 with fail
          go_cut [3] (fun a W => a = .string (S4 ++ P6) ∧ Hid (Below w2.heap.size w2 W))
          case first =>
            cases qb with
            | true =>
              have HE1 : Hid (S4 ++ P6 = S4 ++ (⟨#[32, 110, 101, 120, 116, 32]⟩ ++ T6)) := Lib.hid (by rw [HP6.out, if_pos (of_decide_eq_true HQB.out.symm)])
              have k1 : ¬ 9223372036854775807 < 6 + T6.size := by omega
              have k2 : ¬ 9223372036854775807 < S4.size + (6 + T6.size) := by omega
              go_wp2_with fail
              refine (K6.out w6 HB6.out).mono ?_
              rintro e wx ⟨rfl, hbx⟩
              have HBx := Lib.hid (HB6.out.trans (hbx.mono HB6.out.size))
              clear hbx
              go_wp2
              go_meet
              exact ⟨congrArg Value.string HE1.out.symm, HBx⟩
            | false =>
              have HE1 : Hid (S4 ++ P6 = S4) := Lib.hid (by rw [HP6.out, if_neg (of_decide_eq_false HQB.out.symm)]; exact by_empty _)
              go_wp2
              go_meet
              exact ⟨congrArg Value.string HE1.out.symm, HB6⟩
          case rest =>
            obtain ⟨rfl, HB7⟩ := hcut
            obtain ⟨S5, hS5⟩ : ∃ S : ByteArray, S = S4 ++ P6 := ⟨_, rfl⟩
            have s5 : S5.size ≤ 2097592 := by rw [hS5, ByteArray.size_append]; omega
            have HR5 := Lib.hid HR4.out
            rw [← hS5] at HR5 ⊢
            have k5 : ¬ 9223372036854775807 < S5.size + 1 := by omega
            clear hS5 HR4 c60
            have HBL : Hid (Below w.heap.size w wc) := Lib.hid (HBW.out.trans (HB7.out.mono HBW.out.size))
            go_wp2
            go_ret
            exact ⟨by rw [HR5.out]; rfl, HBL.out⟩

end Go.Proofs.YtkgkipohalekmaaDoor
