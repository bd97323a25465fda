/-
  The reference: two cells compared.
-/
import Derived.Test.YtkgkipohalekmaaDoorBf
import Derived.Test.YtkgkipohalekmaaDoorBx
namespace Go.Proofs.YtkgkipohalekmaaDoor
open Go.RowKit
theorem open_app {w : World} {B : Nat} {cs : List Ce} {us : List Value} {q r : List Ty} (ho : Ce.Oks cs (q ++ r)) (ha : Ce.Ats w B cs us) : ∃ c1 c2 u1 u2, cs = c1 ++ c2 ∧ us = u1 ++ u2 ∧ Ce.Oks c1 q ∧ Ce.Ats w B c1 u1 ∧ Ce.Oks c2 r ∧ Ce.Ats w B c2 u2 := by
  have h1 := Ce.oks_split _ _ _ ho
  have h2 := Ce.ats_split q.length _ _ ha
  exact ⟨_, _, _, _, (List.take_append_drop q.length cs).symm, (List.take_append_drop q.length us).symm, h1.1, h2.1, h1.2, h2.2⟩
theorem get_front {u L : List Value} {n : Nat} (h : u.length = n) (k : Nat) : (u ++ L)[n + k]? = L[k]? := by
  subst h
  rw [List.getElem?_append_right (by omega)]
  congr 1
  omega
theorem drop_front {u L : List Value} {n : Nat} (h : u.length = n) (k : Nat) : (u ++ L).drop (n + k) = L.drop k := by
  subst h
  rw [List.drop_append, List.drop_of_length_le (by omega), List.nil_append, Nat.add_sub_cancel_left]
theorem get_some {l : List Value} {j : Nat} (h : j < l.length) : l[j]? = some (l[j]?.getD undef) := by
  rw [List.getElem?_eq_getElem h]
  rfl
theorem run_loadAt_row {P : Program} (w : World) (b off : Nat) (t : TypeId) (d : TypeDesc) (xs : List Value) {k : Nat} (hu : P.underlying t = some d) (hd : d.isRow = true) (hi : (P.info? t).map (·.size) = some k) (hk : off + k ≤ xs.length)
    (hc : ∀ i, w.cell? ⟨b, i, none⟩ = xs[i]?) : (Instr.loadAt t (.pointer (some ⟨b, off, none⟩))).run P w = .ok (.agg ((xs.drop off).take k).toArray) w := by
  have h := run_loadVar_at w ⟨b, off, none⟩ t ((xs.drop off).take k) d (fun j v hv => by
    rw [List.getElem?_take] at hv
    split at hv
    · rw [List.getElem?_drop] at hv
      rw [Addr.add_mid, hc]
      exact hv
    · cases hv) hu hd (by rw [hi, List.length_take, List.length_drop]; congr 1; omega)
  simp [Instr.loadAt, Instr.sureAddr, h]

theorem eq_Run (x0 y0 : Int) (x1 y1 : Int) (x2 y2 : Int) (x3 y3 : Int) (x4 y4 : Int) (x5 y5 : Bool) (w : World) : (Op.equalIn 10000 49 (.agg #[.int .i64 x0, .int .i64 x1, .int .i64 x2, .int .i64 x3, .int .i64 x4, .bool x5]) (.agg #[.int .i64 y0, .int .i64 y1, .int .i64 y2, .int .i64 y3, .int .i64 y4, .bool y5])).run Tryd.prog w = .ok (decide (x0 = y0 ∧ x1 = y1 ∧ x2 = y2 ∧ x3 = y3 ∧ x4 = y4 ∧ x5 = y5)) w := by
  have u3 := Tryd.underlying3
  have us := Tryd.underlying9
  have ub := Tryd.underlying4
  have hS : Tryd.prog.underlying 49 = some (.struct (Tryd.prog.fieldsOf 49)) := by kernel_rfl
  have hp : Tryd.prog.stoodInHeld 49 = false := by kernel_rfl
  rw [show (10000 : Nat) = 9999 + 1 from rfl, run_equalIn_agg w 9999 49 _ _ hS hp]
  simp only [Program.fieldsOf, Tryd.underlying49]
  go_simp
  clear u3 us ub hS hp
  repeat' split
  all_goals simp_all
@[go_sem] theorem guard_Run (x y : Operand) (xs ys : Array Value) (w : World) : (eqGuard .neq 49 x y (.agg xs) (.agg ys)).run Tryd.prog w = .ok () w := run_eqGuard_agg w _ _ _ _ _ _ (by kernel_rfl)

theorem eql_Run {x0 y0 : Int} {x1 y1 : Int} {x2 y2 : Int} {x3 y3 : Int} {x4 y4 : Int} {x5 y5 : Bool} (w : World) (x y : Operand) (e : Bool) (he : e = true ↔ x0 = y0 ∧ x1 = y1 ∧ x2 = y2 ∧ x3 = y3 ∧ x4 = y4 ∧ x5 = y5) : ((do eqGuard .eql 49 x y (.agg #[.int .i64 x0, .int .i64 x1, .int .i64 x2, .int .i64 x3, .int .i64 x4, .bool x5]) (.agg #[.int .i64 y0, .int .i64 y1, .int .i64 y2, .int .i64 y3, .int .i64 y4, .bool y5]); binOp .eql 49 (.agg #[.int .i64 x0, .int .i64 x1, .int .i64 x2, .int .i64 x3, .int .i64 x4, .bool x5]) (.agg #[.int .i64 y0, .int .i64 y1, .int .i64 y2, .int .i64 y3, .int .i64 y4, .bool y5]) : Sem Value)).run Tryd.prog w = .ok (.bool e) w := by
  have hg := run_eqGuard_agg (P := Tryd.prog) w .eql 49 x y #[.int .i64 x0, .int .i64 x1, .int .i64 x2, .int .i64 x3, .int .i64 x4, .bool x5] #[.int .i64 y0, .int .i64 y1, .int .i64 y2, .int .i64 y3, .int .i64 y4, .bool y5] (by kernel_rfl)
  have hq := eq_Run x0 y0 x1 y1 x2 y2 x3 y3 x4 y4 x5 y5 w
  have hd : decide (x0 = y0 ∧ x1 = y1 ∧ x2 = y2 ∧ x3 = y3 ∧ x4 = y4 ∧ x5 = y5) = e := by
    rw [Bool.eq_iff_iff, decide_eq_true_iff]
    exact he.symm
  rw [hd] at hq
  rw [Sem.run_bind, hg]
  simp only [Result.andThen_ok]
  simp [binOp, Op.equal, Op.maxDepth, hq]

theorem neq_Run {x0 y0 : Int} {x1 y1 : Int} {x2 y2 : Int} {x3 y3 : Int} {x4 y4 : Int} {x5 y5 : Bool} (w : World) (x y : Operand) (e : Bool) (he : e = true ↔ x0 = y0 ∧ x1 = y1 ∧ x2 = y2 ∧ x3 = y3 ∧ x4 = y4 ∧ x5 = y5) : ((do eqGuard .neq 49 x y (.agg #[.int .i64 x0, .int .i64 x1, .int .i64 x2, .int .i64 x3, .int .i64 x4, .bool x5]) (.agg #[.int .i64 y0, .int .i64 y1, .int .i64 y2, .int .i64 y3, .int .i64 y4, .bool y5]); binOp .neq 49 (.agg #[.int .i64 x0, .int .i64 x1, .int .i64 x2, .int .i64 x3, .int .i64 x4, .bool x5]) (.agg #[.int .i64 y0, .int .i64 y1, .int .i64 y2, .int .i64 y3, .int .i64 y4, .bool y5]) : Sem Value)).run Tryd.prog w = .ok (.bool (!e)) w := by
  have hg := run_eqGuard_agg (P := Tryd.prog) w .neq 49 x y #[.int .i64 x0, .int .i64 x1, .int .i64 x2, .int .i64 x3, .int .i64 x4, .bool x5] #[.int .i64 y0, .int .i64 y1, .int .i64 y2, .int .i64 y3, .int .i64 y4, .bool y5] (by kernel_rfl)
  have hq := eq_Run x0 y0 x1 y1 x2 y2 x3 y3 x4 y4 x5 y5 w
  have hd : decide (x0 = y0 ∧ x1 = y1 ∧ x2 = y2 ∧ x3 = y3 ∧ x4 = y4 ∧ x5 = y5) = e := by
    rw [Bool.eq_iff_iff, decide_eq_true_iff]
    exact he.symm
  rw [hd] at hq
  rw [Sem.run_bind, hg]
  simp only [Result.andThen_ok]
  simp [binOp, Op.equal, Op.maxDepth, hq]

/-- where a field lies, of which type what lies there is, who compares it -/
def ceOff : Nat → Option Nat
  | 0 => some 0
  | 1 => some 35
  | 2 => some 36
  | 3 => some 37
  | 4 => some 38
  | 5 => some 39
  | 6 => some 40
  | 7 => some 46
  | 8 => some 52
  | 9 => some 53
  | 10 => some 54
  | 11 => some 55
  | 12 => some 56
  | 13 => some 57
  | 14 => some 58
  | 15 => some 59
  | 16 => some 60
  | 17 => some 61
  | _ => none
def ceTy : Nat → Option TypeId
  | 0 => some 47
  | 35 => some 3
  | 36 => some 3
  | 37 => some 3
  | 38 => some 44
  | 39 => some 3
  | 40 => some 49
  | 46 => some 49
  | 52 => some 3
  | 53 => some 4
  | 54 => some 4
  | 55 => some 31
  | 56 => some 31
  | 57 => some 3
  | 58 => some 3
  | 59 => some 3
  | 60 => some 3
  | 61 => some 3
  | _ => none
def ceFn : Nat → Option Nat
  | 0 => some 29
  | 38 => some 56
  | 55 => some 20
  | 56 => some 20
  | _ => none
def ceNo : Nat → Nat
  | 0 => 0
  | 35 => 1
  | 36 => 2
  | 37 => 3
  | 38 => 4
  | 39 => 5
  | 40 => 6
  | 46 => 7
  | 52 => 8
  | 53 => 9
  | 54 => 10
  | 55 => 11
  | 56 => 12
  | 57 => 13
  | 58 => 14
  | 59 => 15
  | 60 => 16
  | 61 => 17
  | _ => 0
def ceRow : TypeId → Nat := fun t => if t = 47 then 35 else if t = 49 then 6 else 0
def ceSy (Z : List Bool) : Sy := ⟨fun s f => if s = 51 then ceOff f else none, fun t j => ceTy j == some t, fun t j => if ceTy j = some t ∧ ceFn j = none then some (Z.getD (ceNo j) false) else none, fun f t j => if ceTy j = some t ∧ ceFn j = some f then some (Z.getD (ceNo j) false) else none⟩
def ceVal (xs ys : List Value) : TypeId → Bool → Nat → Value := fun t b j => if ceRow t = 0 then ((if b then ys else xs)[j]?).getD undef else .agg (((if b then ys else xs).drop j).take (ceRow t)).toArray
theorem ceTy_lt {j : Nat} (h : (ceTy j).isSome = true) : j = 0 ∨ j = 35 ∨ j = 36 ∨ j = 37 ∨ j = 38 ∨ j = 39 ∨ j = 40 ∨ j = 46 ∨ j = 52 ∨ j = 53 ∨ j = 54 ∨ j = 55 ∨ j = 56 ∨ j = 57 ∨ j = 58 ∨ j = 59 ∨ j = 60 ∨ j = 61 := by
  by_cases hj : j < 62
  · have hk : j = 0 ∨ j = 1 ∨ j = 2 ∨ j = 3 ∨ j = 4 ∨ j = 5 ∨ j = 6 ∨ j = 7 ∨ j = 8 ∨ j = 9 ∨ j = 10 ∨ j = 11 ∨ j = 12 ∨ j = 13 ∨ j = 14 ∨ j = 15 ∨ j = 16 ∨ j = 17 ∨ j = 18 ∨ j = 19 ∨ j = 20 ∨ j = 21 ∨ j = 22 ∨ j = 23 ∨ j = 24 ∨ j = 25 ∨ j = 26 ∨ j = 27 ∨ j = 28 ∨ j = 29 ∨ j = 30 ∨ j = 31 ∨ j = 32 ∨ j = 33 ∨ j = 34 ∨ j = 35 ∨ j = 36 ∨ j = 37 ∨ j = 38 ∨ j = 39 ∨ j = 40 ∨ j = 41 ∨ j = 42 ∨ j = 43 ∨ j = 44 ∨ j = 45 ∨ j = 46 ∨ j = 47 ∨ j = 48 ∨ j = 49 ∨ j = 50 ∨ j = 51 ∨ j = 52 ∨ j = 53 ∨ j = 54 ∨ j = 55 ∨ j = 56 ∨ j = 57 ∨ j = 58 ∨ j = 59 ∨ j = 60 ∨ j = 61 := by omega
    rcases hk with rfl | rfl | rfl | rfl | rfl | rfl | rfl | rfl | rfl | rfl | rfl | rfl | rfl | rfl | rfl | rfl | rfl | rfl | rfl | rfl | rfl | rfl | rfl | rfl | rfl | rfl | rfl | rfl | rfl | rfl | rfl | rfl | rfl | rfl | rfl | rfl | rfl | rfl | rfl | rfl | rfl | rfl | rfl | rfl | rfl | rfl | rfl | rfl | rfl | rfl | rfl | rfl | rfl | rfl | rfl | rfl | rfl | rfl | rfl | rfl | rfl | rfl <;> first | (cases h; done) | simp
  · exfalso
    obtain ⟨k, rfl⟩ : ∃ k, j = k + 62 := ⟨j - 62, by omega⟩
    cases h
theorem ceOff_lt {f k : Nat} (h : ceOff f = some k) : f = 0 ∨ f = 1 ∨ f = 2 ∨ f = 3 ∨ f = 4 ∨ f = 5 ∨ f = 6 ∨ f = 7 ∨ f = 8 ∨ f = 9 ∨ f = 10 ∨ f = 11 ∨ f = 12 ∨ f = 13 ∨ f = 14 ∨ f = 15 ∨ f = 16 ∨ f = 17 := by
  by_cases hj : f < 18
  · omega
  · exfalso
    obtain ⟨k, rfl⟩ : ∃ k, f = k + 18 := ⟨f - 18, by omega⟩
    cases h
set_option maxRecDepth 100000 in
set_option maxHeartbeats 16000000 in
theorem same_cell {W0 w : World} {cs cs' : List Ce} {vs vs' : Array Value} (hb0 : Below W0.heap.size W0 w) (ha : Ce.Ats W0 W0.heap.size cs vs.toList) (ha' : Ce.Ats W0 W0.heap.size cs' vs'.toList) (ho : Ce.Oks cs qCell) (ho' : Ce.Oks cs' qCell) :
    Calls Tryd.prog 30 #[.agg vs, .agg vs'] w fun e w' => SameP (cs = cs') e ∧ Below w.heap.size w w' := by
  unfold qCell at ho ho'
  simp only [List.cons_append, List.nil_append] at ho ho'
  have hx1 := heap_alloc2_old w (.cells vs 51) (.cells vs' 51)
  have hx2 := heap_alloc2_new w (.cells vs 51) (.cells vs' 51)
  have hb2 : Below w.heap.size w ((w.alloc (.cells vs 51)).alloc (.cells vs' 51)) := ((Below.refl _ _).alloc (Nat.le_refl _) _).alloc (by simp) _
  have hsz : ((w.alloc (.cells vs 51)).alloc (.cells vs' 51)).heap.size = w.heap.size + 2 := by simp
  obtain ⟨us, hus⟩ : ∃ us, us = vs.toList := ⟨_, rfl⟩
  obtain ⟨us', hus'⟩ : ∃ us, us = vs'.toList := ⟨_, rfl⟩
  rw [← hus] at ha
  rw [← hus'] at ha'
  obtain ⟨xf, xr, xfu, xu, rfl, xfh, xfk, xfa, ho, ha⟩ := open_app ho ha
  obtain ⟨x1, xr1, xu1, rfl, xh1, ho, ha⟩ := cons_i ho ha
  obtain ⟨x2, xr2, xu2, rfl, xh2, ho, ha⟩ := cons_i ho ha
  obtain ⟨x3, xr3, xu3, rfl, xh3, ho, ha⟩ := cons_i ho ha
  obtain ⟨xn4, xe4, xr4, xv4, xu4, rfl, xh4, xk4, xa4, ho, ha⟩ := cons_l ho ha
  obtain ⟨x5, xr5, xu5, rfl, xh5, ho, ha⟩ := cons_i ho ha
  obtain ⟨x6_0, xr6_0, xu6_0, rfl, xh6_0, ho, ha⟩ := cons_i ho ha
  obtain ⟨x6_1, xr6_1, xu6_1, rfl, xh6_1, ho, ha⟩ := cons_i ho ha
  obtain ⟨x6_2, xr6_2, xu6_2, rfl, xh6_2, ho, ha⟩ := cons_i ho ha
  obtain ⟨x6_3, xr6_3, xu6_3, rfl, xh6_3, ho, ha⟩ := cons_i ho ha
  obtain ⟨x6_4, xr6_4, xu6_4, rfl, xh6_4, ho, ha⟩ := cons_i ho ha
  obtain ⟨x6_5, xr6_5, xu6_5, rfl, xh6_5, ho, ha⟩ := cons_b ho ha
  obtain ⟨x7_0, xr7_0, xu7_0, rfl, xh7_0, ho, ha⟩ := cons_i ho ha
  obtain ⟨x7_1, xr7_1, xu7_1, rfl, xh7_1, ho, ha⟩ := cons_i ho ha
  obtain ⟨x7_2, xr7_2, xu7_2, rfl, xh7_2, ho, ha⟩ := cons_i ho ha
  obtain ⟨x7_3, xr7_3, xu7_3, rfl, xh7_3, ho, ha⟩ := cons_i ho ha
  obtain ⟨x7_4, xr7_4, xu7_4, rfl, xh7_4, ho, ha⟩ := cons_i ho ha
  obtain ⟨x7_5, xr7_5, xu7_5, rfl, xh7_5, ho, ha⟩ := cons_b ho ha
  obtain ⟨x8, xr8, xu8, rfl, xh8, ho, ha⟩ := cons_i ho ha
  obtain ⟨x9, xr9, xu9, rfl, xh9, ho, ha⟩ := cons_b ho ha
  obtain ⟨x10, xr10, xu10, rfl, xh10, ho, ha⟩ := cons_b ho ha
  obtain ⟨xn11, xe11, xr11, xv11, xu11, rfl, xh11, xk11, xa11, ho, ha⟩ := cons_l ho ha
  obtain ⟨xn12, xe12, xr12, xv12, xu12, rfl, xh12, xk12, xa12, ho, ha⟩ := cons_l ho ha
  obtain ⟨x13, xr13, xu13, rfl, xh13, ho, ha⟩ := cons_i ho ha
  obtain ⟨x14, xr14, xu14, rfl, xh14, ho, ha⟩ := cons_i ho ha
  obtain ⟨x15, xr15, xu15, rfl, xh15, ho, ha⟩ := cons_i ho ha
  obtain ⟨x16, xr16, xu16, rfl, xh16, ho, ha⟩ := cons_i ho ha
  obtain ⟨x17, xr17, xu17, rfl, xh17, ho, ha⟩ := cons_i ho ha
  obtain ⟨rfl, xhz⟩ := cons_nil ho ha
  obtain ⟨yf, yr, yfu, yu, rfl, yfh, yfk, yfa, ho', ha'⟩ := open_app ho' ha'
  obtain ⟨y1, yr1, yu1, rfl, yh1, ho', ha'⟩ := cons_i ho' ha'
  obtain ⟨y2, yr2, yu2, rfl, yh2, ho', ha'⟩ := cons_i ho' ha'
  obtain ⟨y3, yr3, yu3, rfl, yh3, ho', ha'⟩ := cons_i ho' ha'
  obtain ⟨yn4, ye4, yr4, yv4, yu4, rfl, yh4, yk4, ya4, ho', ha'⟩ := cons_l ho' ha'
  obtain ⟨y5, yr5, yu5, rfl, yh5, ho', ha'⟩ := cons_i ho' ha'
  obtain ⟨y6_0, yr6_0, yu6_0, rfl, yh6_0, ho', ha'⟩ := cons_i ho' ha'
  obtain ⟨y6_1, yr6_1, yu6_1, rfl, yh6_1, ho', ha'⟩ := cons_i ho' ha'
  obtain ⟨y6_2, yr6_2, yu6_2, rfl, yh6_2, ho', ha'⟩ := cons_i ho' ha'
  obtain ⟨y6_3, yr6_3, yu6_3, rfl, yh6_3, ho', ha'⟩ := cons_i ho' ha'
  obtain ⟨y6_4, yr6_4, yu6_4, rfl, yh6_4, ho', ha'⟩ := cons_i ho' ha'
  obtain ⟨y6_5, yr6_5, yu6_5, rfl, yh6_5, ho', ha'⟩ := cons_b ho' ha'
  obtain ⟨y7_0, yr7_0, yu7_0, rfl, yh7_0, ho', ha'⟩ := cons_i ho' ha'
  obtain ⟨y7_1, yr7_1, yu7_1, rfl, yh7_1, ho', ha'⟩ := cons_i ho' ha'
  obtain ⟨y7_2, yr7_2, yu7_2, rfl, yh7_2, ho', ha'⟩ := cons_i ho' ha'
  obtain ⟨y7_3, yr7_3, yu7_3, rfl, yh7_3, ho', ha'⟩ := cons_i ho' ha'
  obtain ⟨y7_4, yr7_4, yu7_4, rfl, yh7_4, ho', ha'⟩ := cons_i ho' ha'
  obtain ⟨y7_5, yr7_5, yu7_5, rfl, yh7_5, ho', ha'⟩ := cons_b ho' ha'
  obtain ⟨y8, yr8, yu8, rfl, yh8, ho', ha'⟩ := cons_i ho' ha'
  obtain ⟨y9, yr9, yu9, rfl, yh9, ho', ha'⟩ := cons_b ho' ha'
  obtain ⟨y10, yr10, yu10, rfl, yh10, ho', ha'⟩ := cons_b ho' ha'
  obtain ⟨yn11, ye11, yr11, yv11, yu11, rfl, yh11, yk11, ya11, ho', ha'⟩ := cons_l ho' ha'
  obtain ⟨yn12, ye12, yr12, yv12, yu12, rfl, yh12, yk12, ya12, ho', ha'⟩ := cons_l ho' ha'
  obtain ⟨y13, yr13, yu13, rfl, yh13, ho', ha'⟩ := cons_i ho' ha'
  obtain ⟨y14, yr14, yu14, rfl, yh14, ho', ha'⟩ := cons_i ho' ha'
  obtain ⟨y15, yr15, yu15, rfl, yh15, ho', ha'⟩ := cons_i ho' ha'
  obtain ⟨y16, yr16, yu16, rfl, yh16, ho', ha'⟩ := cons_i ho' ha'
  obtain ⟨y17, yr17, yu17, rfl, yh17, ho', ha'⟩ := cons_i ho' ha'
  obtain ⟨rfl, yhz⟩ := cons_nil ho' ha'
  have HL1 : Hid (vs.toList = xfu ++ [.int .i64 x1, .int .i64 x2, .int .i64 x3, xv4, .int .i64 x5, .int .i64 x6_0, .int .i64 x6_1, .int .i64 x6_2, .int .i64 x6_3, .int .i64 x6_4, .bool x6_5, .int .i64 x7_0, .int .i64 x7_1, .int .i64 x7_2, .int .i64 x7_3, .int .i64 x7_4, .bool x7_5, .int .i64 x8, .bool x9, .bool x10, xv11, xv12, .int .i64 x13, .int .i64 x14, .int .i64 x15, .int .i64 x16, .int .i64 x17]) := Lib.hid (by rw [← hus, xfh, xh1, xh2, xh3, xh4, xh5, xh6_0, xh6_1, xh6_2, xh6_3, xh6_4, xh6_5, xh7_0, xh7_1, xh7_2, xh7_3, xh7_4, xh7_5, xh8, xh9, xh10, xh11, xh12, xh13, xh14, xh15, xh16, xh17, xhz])
  have HL2 : Hid (vs'.toList = yfu ++ [.int .i64 y1, .int .i64 y2, .int .i64 y3, yv4, .int .i64 y5, .int .i64 y6_0, .int .i64 y6_1, .int .i64 y6_2, .int .i64 y6_3, .int .i64 y6_4, .bool y6_5, .int .i64 y7_0, .int .i64 y7_1, .int .i64 y7_2, .int .i64 y7_3, .int .i64 y7_4, .bool y7_5, .int .i64 y8, .bool y9, .bool y10, yv11, yv12, .int .i64 y13, .int .i64 y14, .int .i64 y15, .int .i64 y16, .int .i64 y17]) := Lib.hid (by rw [← hus', yfh, yh1, yh2, yh3, yh4, yh5, yh6_0, yh6_1, yh6_2, yh6_3, yh6_4, yh6_5, yh7_0, yh7_1, yh7_2, yh7_3, yh7_4, yh7_5, yh8, yh9, yh10, yh11, yh12, yh13, yh14, yh15, yh16, yh17, yhz])
  clear xfh yfh xh1 yh1 xh2 yh2 xh3 yh3 xh4 yh4 xh5 yh5 xh6_0 yh6_0 xh6_1 yh6_1 xh6_2 yh6_2 xh6_3 yh6_3 xh6_4 yh6_4 xh6_5 yh6_5 xh7_0 yh7_0 xh7_1 yh7_1 xh7_2 yh7_2 xh7_3 yh7_3 xh7_4 yh7_4 xh7_5 yh7_5 xh8 yh8 xh9 yh9 xh10 yh10 xh11 yh11 xh12 yh12 xh13 yh13 xh14 yh14 xh15 yh15 xh16 yh16 xh17 yh17 xhz yhz hus hus'
  have hl1 : xf.length = 35 := (Ce.oks_length _ _ xfk).trans rfl
  have hl2 : yf.length = 35 := (Ce.oks_length _ _ yfk).trans rfl
  have hu1 : xfu.length = 35 := (Ce.ats_length _ _ xfa).trans hl1
  have hu2 : yfu.length = 35 := (Ce.ats_length _ _ yfa).trans hl2
  obtain ⟨z0, hz0⟩ : ∃ z, z = dB (xf = yf) := ⟨_, rfl⟩
  have HQ0 : Hid (z0 = true ↔ xf = yf) := Lib.hid (by rw [hz0]; exact dB_iff _)
  have HK0 : Hid (∀ W, Below ((w.alloc (.cells vs 51)).alloc (.cells vs' 51)).heap.size ((w.alloc (.cells vs 51)).alloc (.cells vs' 51)) W → Calls Tryd.prog 29 #[.agg xfu.toArray, .agg yfu.toArray] W fun e w' => e = .returned (.bool z0) ∧ Below W.heap.size W w') := Lib.hid (fun W hW => (same_unit (hb0.trans ((hb2.trans (hW.mono hb2.size)).mono hb0.size)) xfa yfa xfk yfk).mono fun e w' ⟨h1, h2⟩ => ⟨by rw [hz0]; exact h1.eq, h2⟩)
  clear hz0
  obtain ⟨z1, hz1⟩ : ∃ z, z = dB (x1 = y1) := ⟨_, rfl⟩
  have HQ1 : Hid (z1 = true ↔ x1 = y1) := Lib.hid (by rw [hz1]; exact dB_iff _)
  clear hz1
  obtain ⟨z2, hz2⟩ : ∃ z, z = dB (x2 = y2) := ⟨_, rfl⟩
  have HQ2 : Hid (z2 = true ↔ x2 = y2) := Lib.hid (by rw [hz2]; exact dB_iff _)
  clear hz2
  obtain ⟨z3, hz3⟩ : ∃ z, z = dB (x3 = y3) := ⟨_, rfl⟩
  have HQ3 : Hid (z3 = true ↔ x3 = y3) := Lib.hid (by rw [hz3]; exact dB_iff _)
  clear hz3
  obtain ⟨z4, hz4⟩ : ∃ z, z = dB (Ce.l xn4 xe4 = Ce.l yn4 ye4) := ⟨_, rfl⟩
  have HQ4 : Hid (z4 = true ↔ Ce.l xn4 xe4 = Ce.l yn4 ye4) := Lib.hid (by rw [hz4]; exact dB_iff _)
  have HK4 : Hid (∀ W, Below ((w.alloc (.cells vs 51)).alloc (.cells vs' 51)).heap.size ((w.alloc (.cells vs 51)).alloc (.cells vs' 51)) W → Calls Tryd.prog 56 #[xv4, yv4] W fun e w' => e = .returned (.bool z4) ∧ Below W.heap.size W w') := Lib.hid (fun W hW => (same_Ints22 (hb0.trans ((hb2.trans (hW.mono hb2.size)).mono hb0.size)) xa4 ya4 xk4 yk4).mono fun e w' ⟨h1, h2⟩ => ⟨by rw [hz4]; exact h1.eq, h2⟩)
  clear hz4
  obtain ⟨z5, hz5⟩ : ∃ z, z = dB (x5 = y5) := ⟨_, rfl⟩
  have HQ5 : Hid (z5 = true ↔ x5 = y5) := Lib.hid (by rw [hz5]; exact dB_iff _)
  clear hz5
  obtain ⟨z6, hz6⟩ : ∃ z, z = dB (x6_0 = y6_0 ∧ x6_1 = y6_1 ∧ x6_2 = y6_2 ∧ x6_3 = y6_3 ∧ x6_4 = y6_4 ∧ x6_5 = y6_5) := ⟨_, rfl⟩
  have HQ6 : Hid (z6 = true ↔ x6_0 = y6_0 ∧ x6_1 = y6_1 ∧ x6_2 = y6_2 ∧ x6_3 = y6_3 ∧ x6_4 = y6_4 ∧ x6_5 = y6_5) := Lib.hid (by rw [hz6]; exact dB_iff _)
  clear hz6
  obtain ⟨z7, hz7⟩ : ∃ z, z = dB (x7_0 = y7_0 ∧ x7_1 = y7_1 ∧ x7_2 = y7_2 ∧ x7_3 = y7_3 ∧ x7_4 = y7_4 ∧ x7_5 = y7_5) := ⟨_, rfl⟩
  have HQ7 : Hid (z7 = true ↔ x7_0 = y7_0 ∧ x7_1 = y7_1 ∧ x7_2 = y7_2 ∧ x7_3 = y7_3 ∧ x7_4 = y7_4 ∧ x7_5 = y7_5) := Lib.hid (by rw [hz7]; exact dB_iff _)
  clear hz7
  obtain ⟨z8, hz8⟩ : ∃ z, z = dB (x8 = y8) := ⟨_, rfl⟩
  have HQ8 : Hid (z8 = true ↔ x8 = y8) := Lib.hid (by rw [hz8]; exact dB_iff _)
  clear hz8
  obtain ⟨z9, hz9⟩ : ∃ z, z = dB (x9 = y9) := ⟨_, rfl⟩
  have HQ9 : Hid (z9 = true ↔ x9 = y9) := Lib.hid (by rw [hz9]; exact dB_iff _)
  clear hz9
  obtain ⟨z10, hz10⟩ : ∃ z, z = dB (x10 = y10) := ⟨_, rfl⟩
  have HQ10 : Hid (z10 = true ↔ x10 = y10) := Lib.hid (by rw [hz10]; exact dB_iff _)
  clear hz10
  obtain ⟨z11, hz11⟩ : ∃ z, z = dB (Ce.l xn11 xe11 = Ce.l yn11 ye11) := ⟨_, rfl⟩
  have HQ11 : Hid (z11 = true ↔ Ce.l xn11 xe11 = Ce.l yn11 ye11) := Lib.hid (by rw [hz11]; exact dB_iff _)
  have HK11 : Hid (∀ W, Below ((w.alloc (.cells vs 51)).alloc (.cells vs' 51)).heap.size ((w.alloc (.cells vs 51)).alloc (.cells vs' 51)) W → Calls Tryd.prog 20 #[xv11, yv11] W fun e w' => e = .returned (.bool z11) ∧ Below W.heap.size W w') := Lib.hid (fun W hW => (same_Conn (hb0.trans ((hb2.trans (hW.mono hb2.size)).mono hb0.size)) xa11 ya11 xk11 yk11).mono fun e w' ⟨h1, h2⟩ => ⟨by rw [hz11]; exact h1.eq, h2⟩)
  clear hz11
  obtain ⟨z12, hz12⟩ : ∃ z, z = dB (Ce.l xn12 xe12 = Ce.l yn12 ye12) := ⟨_, rfl⟩
  have HQ12 : Hid (z12 = true ↔ Ce.l xn12 xe12 = Ce.l yn12 ye12) := Lib.hid (by rw [hz12]; exact dB_iff _)
  have HK12 : Hid (∀ W, Below ((w.alloc (.cells vs 51)).alloc (.cells vs' 51)).heap.size ((w.alloc (.cells vs 51)).alloc (.cells vs' 51)) W → Calls Tryd.prog 20 #[xv12, yv12] W fun e w' => e = .returned (.bool z12) ∧ Below W.heap.size W w') := Lib.hid (fun W hW => (same_Conn (hb0.trans ((hb2.trans (hW.mono hb2.size)).mono hb0.size)) xa12 ya12 xk12 yk12).mono fun e w' ⟨h1, h2⟩ => ⟨by rw [hz12]; exact h1.eq, h2⟩)
  clear hz12
  obtain ⟨z13, hz13⟩ : ∃ z, z = dB (x13 = y13) := ⟨_, rfl⟩
  have HQ13 : Hid (z13 = true ↔ x13 = y13) := Lib.hid (by rw [hz13]; exact dB_iff _)
  clear hz13
  obtain ⟨z14, hz14⟩ : ∃ z, z = dB (x14 = y14) := ⟨_, rfl⟩
  have HQ14 : Hid (z14 = true ↔ x14 = y14) := Lib.hid (by rw [hz14]; exact dB_iff _)
  clear hz14
  obtain ⟨z15, hz15⟩ : ∃ z, z = dB (x15 = y15) := ⟨_, rfl⟩
  have HQ15 : Hid (z15 = true ↔ x15 = y15) := Lib.hid (by rw [hz15]; exact dB_iff _)
  clear hz15
  obtain ⟨z16, hz16⟩ : ∃ z, z = dB (x16 = y16) := ⟨_, rfl⟩
  have HQ16 : Hid (z16 = true ↔ x16 = y16) := Lib.hid (by rw [hz16]; exact dB_iff _)
  clear hz16
  obtain ⟨z17, hz17⟩ : ∃ z, z = dB (x17 = y17) := ⟨_, rfl⟩
  have HQ17 : Hid (z17 = true ↔ x17 = y17) := Lib.hid (by rw [hz17]; exact dB_iff _)
  clear hz17
  clear xa4 ya4 xk4 yk4 xa11 ya11 xk11 yk11 xa12 ya12 xk12 yk12 xfa yfa xfk yfk
  obtain ⟨PP, hPP⟩ : ∃ PP, PP = (xf ++ [Ce.i x1, Ce.i x2, Ce.i x3, Ce.l xn4 xe4, Ce.i x5, Ce.i x6_0, Ce.i x6_1, Ce.i x6_2, Ce.i x6_3, Ce.i x6_4, Ce.b x6_5, Ce.i x7_0, Ce.i x7_1, Ce.i x7_2, Ce.i x7_3, Ce.i x7_4, Ce.b x7_5, Ce.i x8, Ce.b x9, Ce.b x10, Ce.l xn11 xe11, Ce.l xn12 xe12, Ce.i x13, Ce.i x14, Ce.i x15, Ce.i x16, Ce.i x17] = yf ++ [Ce.i y1, Ce.i y2, Ce.i y3, Ce.l yn4 ye4, Ce.i y5, Ce.i y6_0, Ce.i y6_1, Ce.i y6_2, Ce.i y6_3, Ce.i y6_4, Ce.b y6_5, Ce.i y7_0, Ce.i y7_1, Ce.i y7_2, Ce.i y7_3, Ce.i y7_4, Ce.b y7_5, Ce.i y8, Ce.b y9, Ce.b y10, Ce.l yn11 ye11, Ce.l yn12 ye12, Ce.i y13, Ce.i y14, Ce.i y15, Ce.i y16, Ce.i y17]) := ⟨_, rfl⟩
  rw [← hPP]
  have HPP : Hid (PP ↔ ((xf = yf) ∧ (x1 = y1) ∧ (x2 = y2) ∧ (x3 = y3) ∧ (Ce.l xn4 xe4 = Ce.l yn4 ye4) ∧ (x5 = y5) ∧ (x6_0 = y6_0 ∧ x6_1 = y6_1 ∧ x6_2 = y6_2 ∧ x6_3 = y6_3 ∧ x6_4 = y6_4 ∧ x6_5 = y6_5) ∧ (x7_0 = y7_0 ∧ x7_1 = y7_1 ∧ x7_2 = y7_2 ∧ x7_3 = y7_3 ∧ x7_4 = y7_4 ∧ x7_5 = y7_5)) ∧ ((x8 = y8) ∧ (x9 = y9) ∧ (x10 = y10) ∧ (Ce.l xn11 xe11 = Ce.l yn11 ye11) ∧ (Ce.l xn12 xe12 = Ce.l yn12 ye12) ∧ (x13 = y13) ∧ (x14 = y14) ∧ (x15 = y15) ∧ (x16 = y16) ∧ (x17 = y17))) := Lib.hid (by
    rw [hPP]
    constructor
    · intro h
      obtain ⟨e0, h⟩ := List.append_inj h (by rw [hl1, hl2])
      simp only [List.cons.injEq, Ce.i.injEq, Ce.b.injEq, and_true] at h
      obtain ⟨c1, c2, c3, c4, c5, c6_0, c6_1, c6_2, c6_3, c6_4, c6_5, c7_0, c7_1, c7_2, c7_3, c7_4, c7_5, c8, c9, c10, c11, c12, c13, c14, c15, c16, c17⟩ := h
      exact ⟨⟨e0, c1, c2, c3, c4, c5, ⟨c6_0, c6_1, c6_2, c6_3, c6_4, c6_5⟩, ⟨c7_0, c7_1, c7_2, c7_3, c7_4, c7_5⟩⟩, ⟨c8, c9, c10, c11, c12, c13, c14, c15, c16, c17⟩⟩
    · rintro ⟨⟨e0, c1, c2, c3, c4, c5, ⟨c6_0, c6_1, c6_2, c6_3, c6_4, c6_5⟩, ⟨c7_0, c7_1, c7_2, c7_3, c7_4, c7_5⟩⟩, ⟨c8, c9, c10, c11, c12, c13, c14, c15, c16, c17⟩⟩
      rw [e0]
      congr 1
      simp only [List.cons.injEq, Ce.i.injEq, Ce.b.injEq, and_true]
      exact ⟨c1, c2, c3, c4, c5, c6_0, c6_1, c6_2, c6_3, c6_4, c6_5, c7_0, c7_1, c7_2, c7_3, c7_4, c7_5, c8, c9, c10, c11, c12, c13, c14, c15, c16, c17⟩)
  clear hPP hl1 hl2
  have hrow : ∀ (b : Bool) (j : Nat) W, Below ((w.alloc (.cells vs 51)).alloc (.cells vs' 51)).heap.size ((w.alloc (.cells vs 51)).alloc (.cells vs' 51)) W → W.cell? ⟨uBase w.heap.size (w.heap.size + 1) b, j, none⟩ = (if b then vs'.toList else vs.toList)[j]? := fun b j W hW => by
    cases b with
    | false =>
      show W.cell? ⟨w.heap.size, j, none⟩ = vs.toList[j]?
      rw [cell_of_row W _ j _ _ _ ((hW.block _ (by rw [hsz]; omega)).trans hx1), Array.getElem?_toList]
    | true =>
      show W.cell? ⟨w.heap.size + 1, j, none⟩ = vs'.toList[j]?
      rw [cell_of_row W _ j _ _ _ ((hW.block _ (by rw [hsz]; omega)).trans hx2), Array.getElem?_toList]
  have hlen : ∀ b : Bool, (if b then vs'.toList else vs.toList).length = 62 := fun b => by
    cases b with
    | false => show vs.toList.length = 62; rw [HL1.out, List.length_append, hu1]; rfl
    | true => show vs'.toList.length = 62; rw [HL2.out, List.length_append, hu2]; rfl
  have xV0 : ceVal vs.toList vs'.toList 47 false 0 = .agg xfu.toArray := by
    show Value.agg ((vs.toList.drop 0).take 35).toArray = _
    rw [HL1.out, List.drop_zero, ← hu1, List.take_left]
  have yV0 : ceVal vs.toList vs'.toList 47 true 0 = .agg yfu.toArray := by
    show Value.agg ((vs'.toList.drop 0).take 35).toArray = _
    rw [HL2.out, List.drop_zero, ← hu2, List.take_left]
  have xV1 : ceVal vs.toList vs'.toList 3 false 35 = .int .i64 x1 := by
    show (vs.toList[35 + 0]?).getD undef = _
    rw [HL1.out, get_front hu1]
    rfl
  have yV1 : ceVal vs.toList vs'.toList 3 true 35 = .int .i64 y1 := by
    show (vs'.toList[35 + 0]?).getD undef = _
    rw [HL2.out, get_front hu2]
    rfl
  have xV2 : ceVal vs.toList vs'.toList 3 false 36 = .int .i64 x2 := by
    show (vs.toList[35 + 1]?).getD undef = _
    rw [HL1.out, get_front hu1]
    rfl
  have yV2 : ceVal vs.toList vs'.toList 3 true 36 = .int .i64 y2 := by
    show (vs'.toList[35 + 1]?).getD undef = _
    rw [HL2.out, get_front hu2]
    rfl
  have xV3 : ceVal vs.toList vs'.toList 3 false 37 = .int .i64 x3 := by
    show (vs.toList[35 + 2]?).getD undef = _
    rw [HL1.out, get_front hu1]
    rfl
  have yV3 : ceVal vs.toList vs'.toList 3 true 37 = .int .i64 y3 := by
    show (vs'.toList[35 + 2]?).getD undef = _
    rw [HL2.out, get_front hu2]
    rfl
  have xV4 : ceVal vs.toList vs'.toList 44 false 38 = xv4 := by
    show (vs.toList[35 + 3]?).getD undef = _
    rw [HL1.out, get_front hu1]
    rfl
  have yV4 : ceVal vs.toList vs'.toList 44 true 38 = yv4 := by
    show (vs'.toList[35 + 3]?).getD undef = _
    rw [HL2.out, get_front hu2]
    rfl
  have xV5 : ceVal vs.toList vs'.toList 3 false 39 = .int .i64 x5 := by
    show (vs.toList[35 + 4]?).getD undef = _
    rw [HL1.out, get_front hu1]
    rfl
  have yV5 : ceVal vs.toList vs'.toList 3 true 39 = .int .i64 y5 := by
    show (vs'.toList[35 + 4]?).getD undef = _
    rw [HL2.out, get_front hu2]
    rfl
  have xV6 : ceVal vs.toList vs'.toList 49 false 40 = .agg #[.int .i64 x6_0, .int .i64 x6_1, .int .i64 x6_2, .int .i64 x6_3, .int .i64 x6_4, .bool x6_5] := by
    show Value.agg ((vs.toList.drop (35 + 5)).take 6).toArray = _
    rw [HL1.out, drop_front hu1]
    rfl
  have yV6 : ceVal vs.toList vs'.toList 49 true 40 = .agg #[.int .i64 y6_0, .int .i64 y6_1, .int .i64 y6_2, .int .i64 y6_3, .int .i64 y6_4, .bool y6_5] := by
    show Value.agg ((vs'.toList.drop (35 + 5)).take 6).toArray = _
    rw [HL2.out, drop_front hu2]
    rfl
  have xV7 : ceVal vs.toList vs'.toList 49 false 46 = .agg #[.int .i64 x7_0, .int .i64 x7_1, .int .i64 x7_2, .int .i64 x7_3, .int .i64 x7_4, .bool x7_5] := by
    show Value.agg ((vs.toList.drop (35 + 11)).take 6).toArray = _
    rw [HL1.out, drop_front hu1]
    rfl
  have yV7 : ceVal vs.toList vs'.toList 49 true 46 = .agg #[.int .i64 y7_0, .int .i64 y7_1, .int .i64 y7_2, .int .i64 y7_3, .int .i64 y7_4, .bool y7_5] := by
    show Value.agg ((vs'.toList.drop (35 + 11)).take 6).toArray = _
    rw [HL2.out, drop_front hu2]
    rfl
  have xV8 : ceVal vs.toList vs'.toList 3 false 52 = .int .i64 x8 := by
    show (vs.toList[35 + 17]?).getD undef = _
    rw [HL1.out, get_front hu1]
    rfl
  have yV8 : ceVal vs.toList vs'.toList 3 true 52 = .int .i64 y8 := by
    show (vs'.toList[35 + 17]?).getD undef = _
    rw [HL2.out, get_front hu2]
    rfl
  have xV9 : ceVal vs.toList vs'.toList 4 false 53 = .bool x9 := by
    show (vs.toList[35 + 18]?).getD undef = _
    rw [HL1.out, get_front hu1]
    rfl
  have yV9 : ceVal vs.toList vs'.toList 4 true 53 = .bool y9 := by
    show (vs'.toList[35 + 18]?).getD undef = _
    rw [HL2.out, get_front hu2]
    rfl
  have xV10 : ceVal vs.toList vs'.toList 4 false 54 = .bool x10 := by
    show (vs.toList[35 + 19]?).getD undef = _
    rw [HL1.out, get_front hu1]
    rfl
  have yV10 : ceVal vs.toList vs'.toList 4 true 54 = .bool y10 := by
    show (vs'.toList[35 + 19]?).getD undef = _
    rw [HL2.out, get_front hu2]
    rfl
  have xV11 : ceVal vs.toList vs'.toList 31 false 55 = xv11 := by
    show (vs.toList[35 + 20]?).getD undef = _
    rw [HL1.out, get_front hu1]
    rfl
  have yV11 : ceVal vs.toList vs'.toList 31 true 55 = yv11 := by
    show (vs'.toList[35 + 20]?).getD undef = _
    rw [HL2.out, get_front hu2]
    rfl
  have xV12 : ceVal vs.toList vs'.toList 31 false 56 = xv12 := by
    show (vs.toList[35 + 21]?).getD undef = _
    rw [HL1.out, get_front hu1]
    rfl
  have yV12 : ceVal vs.toList vs'.toList 31 true 56 = yv12 := by
    show (vs'.toList[35 + 21]?).getD undef = _
    rw [HL2.out, get_front hu2]
    rfl
  have xV13 : ceVal vs.toList vs'.toList 3 false 57 = .int .i64 x13 := by
    show (vs.toList[35 + 22]?).getD undef = _
    rw [HL1.out, get_front hu1]
    rfl
  have yV13 : ceVal vs.toList vs'.toList 3 true 57 = .int .i64 y13 := by
    show (vs'.toList[35 + 22]?).getD undef = _
    rw [HL2.out, get_front hu2]
    rfl
  have xV14 : ceVal vs.toList vs'.toList 3 false 58 = .int .i64 x14 := by
    show (vs.toList[35 + 23]?).getD undef = _
    rw [HL1.out, get_front hu1]
    rfl
  have yV14 : ceVal vs.toList vs'.toList 3 true 58 = .int .i64 y14 := by
    show (vs'.toList[35 + 23]?).getD undef = _
    rw [HL2.out, get_front hu2]
    rfl
  have xV15 : ceVal vs.toList vs'.toList 3 false 59 = .int .i64 x15 := by
    show (vs.toList[35 + 24]?).getD undef = _
    rw [HL1.out, get_front hu1]
    rfl
  have yV15 : ceVal vs.toList vs'.toList 3 true 59 = .int .i64 y15 := by
    show (vs'.toList[35 + 24]?).getD undef = _
    rw [HL2.out, get_front hu2]
    rfl
  have xV16 : ceVal vs.toList vs'.toList 3 false 60 = .int .i64 x16 := by
    show (vs.toList[35 + 25]?).getD undef = _
    rw [HL1.out, get_front hu1]
    rfl
  have yV16 : ceVal vs.toList vs'.toList 3 true 60 = .int .i64 y16 := by
    show (vs'.toList[35 + 25]?).getD undef = _
    rw [HL2.out, get_front hu2]
    rfl
  have xV17 : ceVal vs.toList vs'.toList 3 false 61 = .int .i64 x17 := by
    show (vs.toList[35 + 26]?).getD undef = _
    rw [HL1.out, get_front hu1]
    rfl
  have yV17 : ceVal vs.toList vs'.toList 3 true 61 = .int .i64 y17 := by
    show (vs'.toList[35 + 26]?).getD undef = _
    rw [HL2.out, get_front hu2]
    rfl
  have HO : Hid (Ora Tryd.prog (fun W => Below ((w.alloc (.cells vs 51)).alloc (.cells vs' 51)).heap.size ((w.alloc (.cells vs 51)).alloc (.cells vs' 51)) W) (uBase w.heap.size (w.heap.size + 1)) (ceVal vs.toList vs'.toList) (ceSy [z0, z1, z2, z3, z4, z5, z6, z7, z8, z9, z10, z11, z12, z13, z14, z15, z16, z17])) := Lib.hid (by
    refine ⟨fun s f k b off W h => ?_, fun t b j W h hW => ?_, fun t j e x y W h => ?_, fun t j e x y W h => ?_, fun f t j e a o x y W h hW hx hy c hc h1 h2 => ?_⟩
    · simp only [ceSy] at h
      split at h
      · rename_i hh
        subst hh
        rcases ceOff_lt h with rfl | rfl | rfl | rfl | rfl | rfl | rfl | rfl | rfl | rfl | rfl | rfl | rfl | rfl | rfl | rfl | rfl | rfl <;> (injection h with h; subst h)
        · exact run_fieldAt_mid W _ off _ _ _ _ Tryd.underlying51 _ rfl rfl 35 (by kernel_rfl) (by decide)
        · exact run_fieldAt_mid W _ off _ _ _ _ Tryd.underlying51 _ rfl rfl 1 (by kernel_rfl) (by decide)
        · exact run_fieldAt_mid W _ off _ _ _ _ Tryd.underlying51 _ rfl rfl 1 (by kernel_rfl) (by decide)
        · exact run_fieldAt_mid W _ off _ _ _ _ Tryd.underlying51 _ rfl rfl 1 (by kernel_rfl) (by decide)
        · exact run_fieldAt_mid W _ off _ _ _ _ Tryd.underlying51 _ rfl rfl 1 (by kernel_rfl) (by decide)
        · exact run_fieldAt_mid W _ off _ _ _ _ Tryd.underlying51 _ rfl rfl 1 (by kernel_rfl) (by decide)
        · exact run_fieldAt_mid W _ off _ _ _ _ Tryd.underlying51 _ rfl rfl 6 (by kernel_rfl) (by decide)
        · exact run_fieldAt_mid W _ off _ _ _ _ Tryd.underlying51 _ rfl rfl 6 (by kernel_rfl) (by decide)
        · exact run_fieldAt_mid W _ off _ _ _ _ Tryd.underlying51 _ rfl rfl 1 (by kernel_rfl) (by decide)
        · exact run_fieldAt_mid W _ off _ _ _ _ Tryd.underlying51 _ rfl rfl 1 (by kernel_rfl) (by decide)
        · exact run_fieldAt_mid W _ off _ _ _ _ Tryd.underlying51 _ rfl rfl 1 (by kernel_rfl) (by decide)
        · exact run_fieldAt_mid W _ off _ _ _ _ Tryd.underlying51 _ rfl rfl 1 (by kernel_rfl) (by decide)
        · exact run_fieldAt_mid W _ off _ _ _ _ Tryd.underlying51 _ rfl rfl 1 (by kernel_rfl) (by decide)
        · exact run_fieldAt_mid W _ off _ _ _ _ Tryd.underlying51 _ rfl rfl 1 (by kernel_rfl) (by decide)
        · exact run_fieldAt_mid W _ off _ _ _ _ Tryd.underlying51 _ rfl rfl 1 (by kernel_rfl) (by decide)
        · exact run_fieldAt_mid W _ off _ _ _ _ Tryd.underlying51 _ rfl rfl 1 (by kernel_rfl) (by decide)
        · exact run_fieldAt_mid W _ off _ _ _ _ Tryd.underlying51 _ rfl rfl 1 (by kernel_rfl) (by decide)
        · exact run_fieldAt_mid W _ off _ _ _ _ Tryd.underlying51 _ rfl rfl 1 (by kernel_rfl) (by decide)
      · cases h
    · simp only [ceSy, beq_iff_eq] at h
      have hc := hrow b j W hW
      have hl := hlen b
      have hcs := hrow b
      rcases ceTy_lt (by rw [h]; rfl) with rfl | rfl | rfl | rfl | rfl | rfl | rfl | rfl | rfl | rfl | rfl | rfl | rfl | rfl | rfl | rfl | rfl | rfl <;> (injection h with h; subst h)
      · exact run_loadAt_row W _ _ _ _ _ Tryd.underlying47 rfl (by kernel_rfl) (by rw [hl]; decide) (fun i => hcs i W hW)
      · exact run_loadAt_cell W _ _ _ _ _ Tryd.underlying3 rfl (hc.trans (get_some (by rw [hl]; decide)))
      · exact run_loadAt_cell W _ _ _ _ _ Tryd.underlying3 rfl (hc.trans (get_some (by rw [hl]; decide)))
      · exact run_loadAt_cell W _ _ _ _ _ Tryd.underlying3 rfl (hc.trans (get_some (by rw [hl]; decide)))
      · exact run_loadAt_cell W _ _ _ _ _ Tryd.underlying44 rfl (hc.trans (get_some (by rw [hl]; decide)))
      · exact run_loadAt_cell W _ _ _ _ _ Tryd.underlying3 rfl (hc.trans (get_some (by rw [hl]; decide)))
      · exact run_loadAt_row W _ _ _ _ _ Tryd.underlying49 rfl (by kernel_rfl) (by rw [hl]; decide) (fun i => hcs i W hW)
      · exact run_loadAt_row W _ _ _ _ _ Tryd.underlying49 rfl (by kernel_rfl) (by rw [hl]; decide) (fun i => hcs i W hW)
      · exact run_loadAt_cell W _ _ _ _ _ Tryd.underlying3 rfl (hc.trans (get_some (by rw [hl]; decide)))
      · exact run_loadAt_cell W _ _ _ _ _ Tryd.underlying4 rfl (hc.trans (get_some (by rw [hl]; decide)))
      · exact run_loadAt_cell W _ _ _ _ _ Tryd.underlying4 rfl (hc.trans (get_some (by rw [hl]; decide)))
      · exact run_loadAt_cell W _ _ _ _ _ Tryd.underlying31 rfl (hc.trans (get_some (by rw [hl]; decide)))
      · exact run_loadAt_cell W _ _ _ _ _ Tryd.underlying31 rfl (hc.trans (get_some (by rw [hl]; decide)))
      · exact run_loadAt_cell W _ _ _ _ _ Tryd.underlying3 rfl (hc.trans (get_some (by rw [hl]; decide)))
      · exact run_loadAt_cell W _ _ _ _ _ Tryd.underlying3 rfl (hc.trans (get_some (by rw [hl]; decide)))
      · exact run_loadAt_cell W _ _ _ _ _ Tryd.underlying3 rfl (hc.trans (get_some (by rw [hl]; decide)))
      · exact run_loadAt_cell W _ _ _ _ _ Tryd.underlying3 rfl (hc.trans (get_some (by rw [hl]; decide)))
      · exact run_loadAt_cell W _ _ _ _ _ Tryd.underlying3 rfl (hc.trans (get_some (by rw [hl]; decide)))
    · simp only [ceSy] at h
      split at h
      · rename_i hh
        obtain ⟨hh, hn⟩ := hh
        injection h with h
        rcases ceTy_lt (by rw [hh]; rfl) with rfl | rfl | rfl | rfl | rfl | rfl | rfl | rfl | rfl | rfl | rfl | rfl | rfl | rfl | rfl | rfl | rfl | rfl <;> first | (cases hn; done) | (injection hh with hh; subst hh)
        · rw [xV1, yV1]
          exact eql_int W _ x y _ _ Tryd.underlying3 e (by rw [← h]; exact HQ1.out)
        · rw [xV2, yV2]
          exact eql_int W _ x y _ _ Tryd.underlying3 e (by rw [← h]; exact HQ2.out)
        · rw [xV3, yV3]
          exact eql_int W _ x y _ _ Tryd.underlying3 e (by rw [← h]; exact HQ3.out)
        · rw [xV5, yV5]
          exact eql_int W _ x y _ _ Tryd.underlying3 e (by rw [← h]; exact HQ5.out)
        · rw [xV6, yV6]
          exact eql_Run W x y e (by rw [← h]; exact HQ6.out)
        · rw [xV7, yV7]
          exact eql_Run W x y e (by rw [← h]; exact HQ7.out)
        · rw [xV8, yV8]
          exact eql_int W _ x y _ _ Tryd.underlying3 e (by rw [← h]; exact HQ8.out)
        · rw [xV9, yV9]
          exact eql_bool W _ x y _ _ Tryd.underlying4 e (by rw [← h]; exact HQ9.out)
        · rw [xV10, yV10]
          exact eql_bool W _ x y _ _ Tryd.underlying4 e (by rw [← h]; exact HQ10.out)
        · rw [xV13, yV13]
          exact eql_int W _ x y _ _ Tryd.underlying3 e (by rw [← h]; exact HQ13.out)
        · rw [xV14, yV14]
          exact eql_int W _ x y _ _ Tryd.underlying3 e (by rw [← h]; exact HQ14.out)
        · rw [xV15, yV15]
          exact eql_int W _ x y _ _ Tryd.underlying3 e (by rw [← h]; exact HQ15.out)
        · rw [xV16, yV16]
          exact eql_int W _ x y _ _ Tryd.underlying3 e (by rw [← h]; exact HQ16.out)
        · rw [xV17, yV17]
          exact eql_int W _ x y _ _ Tryd.underlying3 e (by rw [← h]; exact HQ17.out)
      · cases h
    · simp only [ceSy] at h
      split at h
      · rename_i hh
        obtain ⟨hh, hn⟩ := hh
        injection h with h
        rcases ceTy_lt (by rw [hh]; rfl) with rfl | rfl | rfl | rfl | rfl | rfl | rfl | rfl | rfl | rfl | rfl | rfl | rfl | rfl | rfl | rfl | rfl | rfl <;> first | (cases hn; done) | (injection hh with hh; subst hh)
        · rw [xV1, yV1]
          exact neq_int W _ x y _ _ Tryd.underlying3 e (by rw [← h]; exact HQ1.out)
        · rw [xV2, yV2]
          exact neq_int W _ x y _ _ Tryd.underlying3 e (by rw [← h]; exact HQ2.out)
        · rw [xV3, yV3]
          exact neq_int W _ x y _ _ Tryd.underlying3 e (by rw [← h]; exact HQ3.out)
        · rw [xV5, yV5]
          exact neq_int W _ x y _ _ Tryd.underlying3 e (by rw [← h]; exact HQ5.out)
        · rw [xV6, yV6]
          exact neq_Run W x y e (by rw [← h]; exact HQ6.out)
        · rw [xV7, yV7]
          exact neq_Run W x y e (by rw [← h]; exact HQ7.out)
        · rw [xV8, yV8]
          exact neq_int W _ x y _ _ Tryd.underlying3 e (by rw [← h]; exact HQ8.out)
        · rw [xV9, yV9]
          exact neq_bool W _ x y _ _ Tryd.underlying4 e (by rw [← h]; exact HQ9.out)
        · rw [xV10, yV10]
          exact neq_bool W _ x y _ _ Tryd.underlying4 e (by rw [← h]; exact HQ10.out)
        · rw [xV13, yV13]
          exact neq_int W _ x y _ _ Tryd.underlying3 e (by rw [← h]; exact HQ13.out)
        · rw [xV14, yV14]
          exact neq_int W _ x y _ _ Tryd.underlying3 e (by rw [← h]; exact HQ14.out)
        · rw [xV15, yV15]
          exact neq_int W _ x y _ _ Tryd.underlying3 e (by rw [← h]; exact HQ15.out)
        · rw [xV16, yV16]
          exact neq_int W _ x y _ _ Tryd.underlying3 e (by rw [← h]; exact HQ16.out)
        · rw [xV17, yV17]
          exact neq_int W _ x y _ _ Tryd.underlying3 e (by rw [← h]; exact HQ17.out)
      · cases h
    · simp only [ceSy] at h
      split at h
      · rename_i hh
        obtain ⟨hh, hn⟩ := hh
        injection h with h
        rcases ceTy_lt (by rw [hh]; rfl) with rfl | rfl | rfl | rfl | rfl | rfl | rfl | rfl | rfl | rfl | rfl | rfl | rfl | rfl | rfl | rfl | rfl | rfl <;> first | (cases hn; done) | (injection hn with hn; injection hh with hh; subst hn; subst hh)
        · refine call_quiet (fun args w => Tryd.call29 args w) hc h1 h2 ?_
          rw [hx, hy, xV0, yV0, ← h]
          exact (HK0.out W hW).mono fun e w' ⟨he, hb⟩ => ⟨he, hW.trans (hb.mono hW.size)⟩
        · refine call_quiet (fun args w => Tryd.call56 args w) hc h1 h2 ?_
          rw [hx, hy, xV4, yV4, ← h]
          exact (HK4.out W hW).mono fun e w' ⟨he, hb⟩ => ⟨he, hW.trans (hb.mono hW.size)⟩
        · refine call_quiet (fun args w => Tryd.call20 args w) hc h1 h2 ?_
          rw [hx, hy, xV11, yV11, ← h]
          exact (HK11.out W hW).mono fun e w' ⟨he, hb⟩ => ⟨he, hW.trans (hb.mono hW.size)⟩
        · refine call_quiet (fun args w => Tryd.call20 args w) hc h1 h2 ?_
          rw [hx, hy, xV12, yV12, ← h]
          exact (HK12.out W hW).mono fun e w' ⟨he, hb⟩ => ⟨he, hW.trans (hb.mono hW.size)⟩
      · cases h)
  clear hrow hlen hx1 hx2 ho ho' ha ha' hb0 hu1 hu2 hsz xV0 yV0 xV1 yV1 xV2 yV2 xV3 yV3 xV4 yV4 xV5 yV5 xV6 yV6 xV7 yV7 xV8 yV8 xV9 yV9 xV10 yV10 xV11 yV11 xV12 yV12 xV13 yV13 xV14 yV14 xV15 yV15 xV16 yV16 xV17 yV17
  go_enter Tryd.func30, Tryd.ntmps30
  go_upto_region 1 with fail
  generalize (w.alloc (.cells vs 51)).alloc (.cells vs' 51) = w2 at *
  refine wp_plain_quiet (C := fun W => Below w2.heap.size w2 W) (Below.refl _ _) (srun_kn (N := 129) (F := Gk [2, 3, 4] [.box false 0, .box true 0, .bl false]) HO.out ?hN [2, 3, 60] [.box false 0, .box true 0, .bl (!(z0 && (z1 && (z2 && (z3 && (z4 && (z5 && (z6 && z7))))))))] ?hs ?hf ?_)
  case hN => kernel_rfl
  case hf =>
    refine ⟨by rfl, fun i => ?_⟩
    by_cases h2 : i = 2
    · subst h2; rfl
    · by_cases h3 : i = 3
      · subst h3; rfl
      · by_cases h4 : i = 4
        · subst h4; rfl
        · rw [gk3 h2 h3 h4]
          trivial
  case hs =>
    clear HQ0 HQ1 HQ2 HQ3 HQ4 HQ5 HQ6 HQ7 HQ8 HQ9 HQ10 HQ11 HQ12 HQ13 HQ14 HQ15 HQ16 HQ17 HK0 HK4 HK11 HK12 HO HPP HL1 HL2
    cases z0
    · kernel_rfl
    · cases z1
      · kernel_rfl
      · cases z2
        · kernel_rfl
        · cases z3
          · kernel_rfl
          · cases z4
            · kernel_rfl
            · cases z5
              · kernel_rfl
              · cases z6
                · kernel_rfl
                · cases z7
                  · kernel_rfl
                  · kernel_rfl
  rintro a1 hd1 hf1 w3 hb3
  have HF1 := Lib.hid hf1
  have HB3 := Lib.hid hb3
  clear hf1 hb3
  simp only at hd1
  generalize hB1 : (z0 && (z1 && (z2 && (z3 && (z4 && (z5 && (z6 && z7))))))) = c1 at *
  have HE1 := Lib.hid hB1
  clear hB1
  have ht : a1.eval (.tmp 60) = .bool (!c1) := HF1.out.2 60
  have hts : a1.tmps.size = 129 := HF1.out.1
  go_upto_if 60 with fail
  cases c1
  · refine wp_cond_true ht ?_
    clear ht
    go_wp2_with fail
    refine bodyPost_ret (v := .bool false) ?_ rfl ⟨⟨_, rfl, ?_⟩, hb2.trans (HB3.out.mono hb2.size)⟩
    · simp [results, Tryd.f30, hts]
    · refine ⟨fun h => (by cases h), fun h => ?_⟩
      have h2 := (HPP.out.1 h).1
      have h3 := HE1.out
      have h4 : (z0 && (z1 && (z2 && (z3 && (z4 && (z5 && (z6 && z7))))))) = true := by
        simp only [Bool.and_eq_true, HQ0.out, HQ1.out, HQ2.out, HQ3.out, HQ4.out, HQ5.out, HQ6.out, HQ7.out]
        exact h2
      rw [h3] at h4
      exact h4
  · refine wp_cond_false ht ?_
    clear ht hts
    go_upto_region 3 with fail
    refine wp_plain_quiet (C := fun W => Below w2.heap.size w2 W) HB3.out (srun_kn (N := 129) (F := Gk [2, 3, 60] [.box false 0, .box true 0, .bl (!true)]) HO.out ?hN [4] [.bl (z8 && (z9 && (z10 && (z11 && (z12 && (z13 && (z14 && (z15 && (z16 && z17)))))))))] ?hs HF1.out ?_)
    case hN => kernel_rfl
    case hs =>
      clear HQ0 HQ1 HQ2 HQ3 HQ4 HQ5 HQ6 HQ7 HQ8 HQ9 HQ10 HQ11 HQ12 HQ13 HQ14 HQ15 HQ16 HQ17 HK0 HK4 HK11 HK12 HO HPP HL1 HL2 HE1 HF1
      cases z8
      · kernel_rfl
      · cases z9
        · kernel_rfl
        · cases z10
          · kernel_rfl
          · cases z11
            · kernel_rfl
            · cases z12
              · kernel_rfl
              · cases z13
                · kernel_rfl
                · cases z14
                  · kernel_rfl
                  · cases z15
                    · kernel_rfl
                    · cases z16
                      · kernel_rfl
                      · cases z17
                        · kernel_rfl
                        · kernel_rfl
    rintro a5 hd5 hf5 w7 hb7
    have hv := hf5.2 4
    have hr : a5.tmps.getD 4 undef = .bool (z8 && (z9 && (z10 && (z11 && (z12 && (z13 && (z14 && (z15 && (z16 && z17))))))))) := hv
    have HR := Lib.hid hr
    have HB7 := Lib.hid hb7
    clear hf5 hv hb7 hr
    go_wp2_with fail
    refine bodyPost_ret (v := .bool (z8 && (z9 && (z10 && (z11 && (z12 && (z13 && (z14 && (z15 && (z16 && z17)))))))))) ?_ (hd5.trans hd1) ⟨⟨_, rfl, ?_⟩, hb2.trans (HB7.out.mono hb2.size)⟩
    · have h := HR.out
      simp [results, Tryd.f30]
      rw [← Array.getD_eq_getD_getElem?]
      exact h
    · have h3 := HE1.out
      have h4 : ((xf = yf) ∧ (x1 = y1) ∧ (x2 = y2) ∧ (x3 = y3) ∧ (Ce.l xn4 xe4 = Ce.l yn4 ye4) ∧ (x5 = y5) ∧ (x6_0 = y6_0 ∧ x6_1 = y6_1 ∧ x6_2 = y6_2 ∧ x6_3 = y6_3 ∧ x6_4 = y6_4 ∧ x6_5 = y6_5) ∧ (x7_0 = y7_0 ∧ x7_1 = y7_1 ∧ x7_2 = y7_2 ∧ x7_3 = y7_3 ∧ x7_4 = y7_4 ∧ x7_5 = y7_5)) := by
        simp only [Bool.and_eq_true, HQ0.out, HQ1.out, HQ2.out, HQ3.out, HQ4.out, HQ5.out, HQ6.out, HQ7.out] at h3
        exact h3
      rw [HPP.out]
      simp only [Bool.and_eq_true, HQ8.out, HQ9.out, HQ10.out, HQ11.out, HQ12.out, HQ13.out, HQ14.out, HQ15.out, HQ16.out, HQ17.out]
      exact ⟨fun h => ⟨h4, h⟩, fun h => h.2⟩

end Go.Proofs.YtkgkipohalekmaaDoor
