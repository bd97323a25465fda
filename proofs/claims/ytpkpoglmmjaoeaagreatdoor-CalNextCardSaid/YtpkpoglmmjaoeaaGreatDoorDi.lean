/-
  The weekdays that a text says: the program's walk.
-/
import Derived.Test.YtpkpoglmmjaoeaaGreatDoorDh
import Derived.Lib.SlicesS
namespace Go.Proofs.YtpkpoglmmjaoeaaGreatDoor
open Go.RowKit Go.Shelf
attribute [local go_sem] Oper.semAt_some

namespace Sp
def idxV : Option Nat → Int
  | none => -1
  | some k => k
theorem idxV_none : idxV none = -1 := rfl
theorem idxV_some (k : Nat) : idxV (some k) = k := rfl
def namesB : List ByteArray := [⟨#[77, 111, 110]⟩, ⟨#[84, 117, 101]⟩, ⟨#[87, 101, 100]⟩, ⟨#[84, 104, 117]⟩, ⟨#[70, 114, 105]⟩, ⟨#[83, 97, 116]⟩, ⟨#[83, 117, 110]⟩]
theorem names_idx (x : ByteArray) : Lib.idxOfS (namesB.take 7) x = idxV (dayIdx x.data.toList) := by
  by_cases h : ∃ k, k < 7 ∧ namesB.getD k ByteArray.empty = x
  · obtain ⟨k, hk, rfl⟩ := h
    have hk' : k = 0 ∨ k = 1 ∨ k = 2 ∨ k = 3 ∨ k = 4 ∨ k = 5 ∨ k = 6 := by omega
    rcases hk' with rfl | rfl | rfl | rfl | rfl | rfl | rfl <;> decide +kernel
  · have hm : ∀ j, j < 7 → namesB.getD j ByteArray.empty ≠ x := fun j hj e => h ⟨j, hj, e⟩
    rw [Lib.idxOfS_miss namesB 7 x hm]
    have hd : dayIdx x.data.toList = none := by
      unfold dayIdx
      rw [List.findIdx?_eq_none_iff]
      intro n hn
      have hn' : n = (namesB.getD 0 ByteArray.empty).data.toList ∨ n = (namesB.getD 1 ByteArray.empty).data.toList ∨ n = (namesB.getD 2 ByteArray.empty).data.toList ∨ n = (namesB.getD 3 ByteArray.empty).data.toList ∨ n = (namesB.getD 4 ByteArray.empty).data.toList ∨ n = (namesB.getD 5 ByteArray.empty).data.toList ∨ n = (namesB.getD 6 ByteArray.empty).data.toList := by
        have h2 : n = [77, 111, 110] ∨ n = [84, 117, 101] ∨ n = [87, 101, 100] ∨ n = [84, 104, 117] ∨ n = [70, 114, 105] ∨ n = [83, 97, 116] ∨ n = [83, 117, 110] := by
          unfold dayNames at hn
          simpa using hn
        exact h2
      have hne : ∀ j, j < 7 → n ≠ (namesB.getD j ByteArray.empty).data.toList ∨ n ≠ x.data.toList := fun j hj => by
        by_cases e : n = x.data.toList
        · exact .inl (fun e2 => hm j hj (WideShapes.bytes_inj (e2.symm.trans e)))
        · exact .inr e
      simp only [beq_eq_false_iff_ne]
      intro e
      rcases hn' with hx | hx | hx | hx | hx | hx | hx
      · exact (hne 0 (by decide)).elim (fun g => g hx) (fun g => g e)
      · exact (hne 1 (by decide)).elim (fun g => g hx) (fun g => g e)
      · exact (hne 2 (by decide)).elim (fun g => g hx) (fun g => g e)
      · exact (hne 3 (by decide)).elim (fun g => g hx) (fun g => g e)
      · exact (hne 4 (by decide)).elim (fun g => g hx) (fun g => g e)
      · exact (hne 5 (by decide)).elim (fun g => g hx) (fun g => g e)
      · exact (hne 6 (by decide)).elim (fun g => g hx) (fun g => g e)
    rw [hd]; rfl
theorem dayIdx_lt {l : List UInt8} {k : Nat} (h : dayIdx l = some k) : k < 7 := by
  unfold dayIdx at h
  obtain ⟨h1, _⟩ := List.findIdx?_eq_some_iff_getElem.1 h
  exact h1
def wordsB (pre : List ByteArray) : Option (List (Nat × Nat)) := allSome (pre.map fun x => wordDays x.data.toList)
theorem wordsB_snoc {pre : List ByteArray} {ws : List (Nat × Nat)} {x : ByteArray} {p : Nat × Nat} (h : wordsB pre = some ws) (hp : wordDays x.data.toList = some p) : wordsB (pre ++ [x]) = some (ws ++ [p]) := by
  unfold wordsB at h ⊢
  rw [List.map_append, List.map_singleton, hp]
  exact allSome_snoc _ _ _ h
theorem daysP_of {l : List UInt8} {xs : List ByteArray} (h : xs.map (fun x => x.data.toList) = splitC 44 l) : daysP l = (wordsB xs).map daysOf := by
  unfold daysP wordsB
  rw [← h, List.map_map]; rfl
theorem daysP_bad {l : List UInt8} {pre : List ByteArray} {x : ByteArray} (h : (pre ++ [x]).map (fun x => x.data.toList) <+: splitC 44 l) (hx : wordDays x.data.toList = none) : daysP l = none := by
  obtain ⟨r, hr⟩ := h
  unfold daysP
  rw [← hr, List.map_append, List.map_map, List.map_append, List.append_assoc]
  simp only [List.map_cons, List.map_nil, List.singleton_append, Function.comp, hx]
  rw [allSome_none]; rfl
def pairD (oa ob : Option Nat) : Option (Nat × Nat) := match oa, ob with
  | some a, some b => if b < a then none else some (a, b)
  | _, _ => none
theorem wordDays_of {l c t : List UInt8} {r : Bool} (h : cutD l = (c, t, r)) : wordDays l = pairD (dayIdx c) (dayIdx (if r = true then t else c)) := by
  unfold wordDays; rw [h]; rfl
/-- is a day one of the words'? -/
def inWs (ws : List (Nat × Nat)) (i : Nat) : Bool := ws.any fun p => decide (p.1 + 1 ≤ i) && decide (i ≤ p.2 + 1)
theorem inWs_snoc (ws : List (Nat × Nat)) (p : Nat × Nat) (i : Nat) : inWs (ws ++ [p]) i = (inWs ws i || (decide (p.1 + 1 ≤ i) && decide (i ≤ p.2 + 1))) := by
  unfold inWs; rw [List.any_append]; simp
theorem inWs_zero (ws : List (Nat × Nat)) : inWs ws 0 = false := by
  unfold inWs
  rw [List.any_eq_false]
  intro p _
  simp
def daysTo (ws : List (Nat × Nat)) (k : Nat) : List Int := ((List.range k).filter (inWs ws)).map Int.ofNat
theorem daysTo_succ (ws : List (Nat × Nat)) (k : Nat) : daysTo ws (k + 1) = if inWs ws k = true then daysTo ws k ++ [(k : Int)] else daysTo ws k := by
  unfold daysTo
  rw [List.range_succ, List.filter_append]
  split
  · rename_i h
    rw [List.filter_cons_of_pos h]; simp
  · rename_i h
    rw [List.filter_cons_of_neg h]; simp
theorem daysTo_all (ws : List (Nat × Nat)) : daysTo ws 8 = daysOf ws := by
  have h : (fun d : Int => ws.any fun w => decide ((w.1 : Int) + 1 ≤ d) && decide (d ≤ (w.2 : Int) + 1)) ∘ Int.ofNat = inWs ws := by
    funext i
    show (ws.any fun w => decide ((w.1 : Int) + 1 ≤ (i : Int)) && decide ((i : Int) ≤ (w.2 : Int) + 1)) = inWs ws i
    unfold inWs
    congr 1
    funext p
    congr 1 <;> exact decide_eq_decide.2 (by omega)
  have e : ([1, 2, 3, 4, 5, 6, 7] : List Int) = ([1, 2, 3, 4, 5, 6, 7] : List Nat).map Int.ofNat := rfl
  unfold daysOf daysTo
  rw [e, List.filter_map, h, show List.range 8 = 0 :: [1, 2, 3, 4, 5, 6, 7] from rfl, List.filter_cons_of_neg (by rw [inWs_zero]; decide)]
theorem mk_none (q : Bool) (a i : Nat) : (q || (decide (a + 1 ≤ i) && decide (i ≤ a))) = q := by
  have h : (decide (a + 1 ≤ i) && decide (i ≤ a)) = false := by
    rw [Bool.and_eq_false_iff, decide_eq_false_iff_not, decide_eq_false_iff_not]; omega
  rw [h, Bool.or_false]
theorem mk_step (q : Bool) (a d i : Nat) (h : a ≤ d) : (q || (decide (a + 1 ≤ i) && decide (i ≤ d + 1))) = ((q || (decide (a + 1 ≤ i) && decide (i ≤ d))) || decide (i = d + 1)) := by
  have e : (decide (a + 1 ≤ i) && decide (i ≤ d + 1)) = ((decide (a + 1 ≤ i) && decide (i ≤ d)) || decide (i = d + 1)) := by
    rw [Bool.eq_iff_iff]
    simp only [Bool.and_eq_true, Bool.or_eq_true, decide_eq_true_eq]
    omega
  rw [e, Bool.or_assoc]
end Sp
theorem grownBy_setCellAt (W : World) (b j : Nat) (v : Value) : W.grownBy (W.setCell ⟨b, j, none⟩ v) (some b) :=
  ⟨rfl, rfl, rfl, (KeepsWalks.setCell W _ v).size, fun k _ hk => Below.heap_setCell _ _ _ k (fun e => hk (by rw [e]))⟩
/-- eight marks in memory -/
def AB (w : World) (b : Nat) (f : Nat → Bool) : Prop := w.heap[b]? = some (.cells #[.bool (f 0), .bool (f 1), .bool (f 2), .bool (f 3), .bool (f 4), .bool (f 5), .bool (f 6), .bool (f 7)] 80 (0, 0))
theorem AB.lt {w : World} {b : Nat} {f : Nat → Bool} (h : AB w b f) : b < w.heap.size := (Array.getElem?_eq_some_iff.1 h).1
theorem AB.cell {w : World} {b : Nat} {f : Nat → Bool} (h : AB w b f) (j : Nat) (hj : j < 8) : w.cell? ⟨b, j, none⟩ = some (.bool (f j)) := by
  have e : j = 0 ∨ j = 1 ∨ j = 2 ∨ j = 3 ∨ j = 4 ∨ j = 5 ∨ j = 6 ∨ j = 7 := by omega
  rcases e with rfl | rfl | rfl | rfl | rfl | rfl | rfl | rfl <;> simp [World.cell?, show w.heap[b]? = _ from h]
theorem AB.fz {w : World} {b : Nat} {f : Nat → Bool} (h : AB w b f) (i : Nat) : w.frozen? ⟨b, i, none⟩ = false := by simp [World.frozen?, show w.heap[b]? = _ from h]
theorem AB.same {w w' : World} {b : Nat} {f : Nat → Bool} (h : AB w b f) (e : w'.heap[b]? = w.heap[b]?) : AB w' b f := e.trans h
theorem AB.set {w : World} {b : Nat} {f g : Nat → Bool} (h : AB w b f) (j : Nat) (hj : j < 8) (hg : ∀ i, i < 8 → g i = (f i || decide (i = j))) : AB (w.setCell ⟨b, j, none⟩ (.bool true)) b g := by
  obtain ⟨hlt, hk⟩ := Array.getElem?_eq_some_iff.1 h
  show (w.heap.modify b _)[b]? = _
  rw [Array.getElem?_eq_getElem (by rw [Array.size_modify]; exact hlt), Array.getElem_modify_self, hk]
  rw [hg 0 (by decide), hg 1 (by decide), hg 2 (by decide), hg 3 (by decide), hg 4 (by decide), hg 5 (by decide), hg 6 (by decide), hg 7 (by decide)]
  have e : j = 0 ∨ j = 1 ∨ j = 2 ∨ j = 3 ∨ j = 4 ∨ j = 5 ∨ j = 6 ∨ j = 7 := by omega
  rcases e with rfl | rfl | rfl | rfl | rfl | rfl | rfl | rfl <;> simp
theorem AB.new (w : World) : AB (w.alloc (.cells #[.bool false, .bool false, .bool false, .bool false, .bool false, .bool false, .bool false, .bool false] 80)) w.heap.size (Sp.inWs []) := World.alloc_heap_new w _
theorem AB.alloc {w : World} {b : Nat} {f : Nat → Bool} (h : AB w b f) (o : Obj) : AB (w.alloc o) b f := h.same (Below.heap_alloc w o b h.lt)
theorem AB.eq {w : World} {b : Nat} {f g : Nat → Bool} (h : AB w b f) (hg : ∀ i, i < 8 → g i = f i) : AB w b g := by
  unfold AB
  rw [hg 0 (by decide), hg 1 (by decide), hg 2 (by decide), hg 3 (by decide), hg 4 (by decide), hg 5 (by decide), hg 6 (by decide), hg 7 (by decide)]
  exact h
def WordsI (bo : Nat) (pre : List ByteArray) (W : World) : Prop := ∃ ws, Sp.wordsB pre = some ws ∧ AB W bo (Sp.inWs ws)
theorem wordsI_own (B bo : Nat) : OwnFrom B (WordsI bo) := fun pre X Y row ⟨ws, hp, hb⟩ hg hr => ⟨ws, hp, hb.same (hg.block bo hb.lt (fun e => by
  obtain ⟨_, o, ho, hc⟩ := hr bo e.symm
  rw [show X.heap[bo]? = _ from hb] at ho; cases ho; cases hc))⟩
theorem weekdays_any (w : World) : Calls Tryz.prog 36 #[] w fun e w' => e = .returned (.slice (some ⟨w.heap.size, 0, none⟩) 7 7) ∧ w' = w.alloc (.cells #[.string ⟨#[77, 111, 110]⟩, .string ⟨#[84, 117, 101]⟩, .string ⟨#[87, 101, 100]⟩, .string ⟨#[84, 104, 117]⟩, .string ⟨#[70, 114, 105]⟩, .string ⟨#[83, 97, 116]⟩, .string ⟨#[83, 117, 110]⟩] 9) := by
  go_enter Tryz.func36, Tryz.ntmps36
  go_wp2
  go_ret
  exact ⟨by simp, by simp⟩
theorem day_any (x : ByteArray) (w : World) (b : Nat) (hb : w.heap[b]? = some (.cells #[.string ⟨#[77, 111, 110]⟩, .string ⟨#[84, 117, 101]⟩, .string ⟨#[87, 101, 100]⟩, .string ⟨#[84, 104, 117]⟩, .string ⟨#[70, 114, 105]⟩, .string ⟨#[83, 97, 116]⟩, .string ⟨#[83, 117, 110]⟩] 9 (0, 0))) :
    Calls Tryz.prog 55 #[.slice (some ⟨b, 0, none⟩) 7 7, .string x] w fun e w' => e = .returned (.int .i64 (Sp.idxV (Sp.dayIdx x.data.toList))) ∧ w' = w := by
  have h := Tryz.slices_Index_string b 0 7 7 Sp.namesB x w (by decide) (by decide) (fun j hj => by
    have hj' : j = 0 ∨ j = 1 ∨ j = 2 ∨ j = 3 ∨ j = 4 ∨ j = 5 ∨ j = 6 := by simp [Sp.namesB] at hj; omega
    rcases hj' with rfl | rfl | rfl | rfl | rfl | rfl | rfl <;> simp [World.cell?, hb, Sp.namesB])
  rw [Sp.names_idx] at h
  exact h
def DaysPost (l : List UInt8) (e : Ending) (W : World) : Prop :=
  (∃ ds A n c, Sp.daysP l = some ds ∧ e = .returned (.tuple #[.slice A n c, .bool true]) ∧ (Rd W W.heap.size 1 A n (intsC ds) ∧ n ≤ 9223372036854775807)) ∨ (Sp.daysP l = none ∧ e = .returned (.tuple #[.slice none 0 0, .bool false]))
theorem info_int : (Tryz.prog.info? 3).map (fun i => (i.zero, i.size, i.bytes)) = some (some (.int .i64 0), 1, 8) := by kernel_rfl
theorem index_marks (f : Nat → Bool) (W : World) (k : Nat) (h : k < 8) : (Instr.index 80 (.agg #[.bool (f 0), .bool (f 1), .bool (f 2), .bool (f 3), .bool (f 4), .bool (f 5), .bool (f 6), .bool (f 7)]) (.int .i64 k)).run Tryz.prog W = .ok (.bool (f k)) W := by
  have e : k = 0 ∨ k = 1 ∨ k = 2 ∨ k = 3 ∨ k = 4 ∨ k = 5 ∨ k = 6 ∨ k = 7 := by omega
  rcases e with rfl | rfl | rfl | rfl | rfl | rfl | rfl | rfl
  all_goals simp [Instr.index, run_underlying Tryz.underlying80, asIntOf, go_sem]
theorem below_row {B n₀ : Nat} {a w w1 : World} {e : TypeId} {size : Nat} {v : Value} {k : Nat} {xs : List Value} (h : Below B a w) (hr : w.ownsRow n₀ e size v k xs) (hg : w.grownBy w1 v.ownBlock) (hB : B ≤ n₀) (hBw : B ≤ w.heap.size) : Below B a w1 :=
  ⟨hg.os.trans h.os, hg.tape.trans h.tape, hg.output.trans h.output, Nat.le_trans h.size hg.size, fun b hb => (hg.block b (by omega) (ownsRow_ne hr (by omega))).trans (h.block b hb)⟩
theorem grown_none {W : World} (row : Option Nat) : W.grownBy W row := ⟨rfl, rfl, rfl, Nat.le_refl _, fun _ _ _ => rfl⟩

set_option maxRecDepth 100000 in
set_option maxHeartbeats 16000000 in
theorem workdays_in (n : Nat) (hn : 20 ≤ n) (s : ByteArray) (w : World) (hs : s.size ≤ 1048576) (E : Env w) :
    CallsIn Fence.wide n Tryz.prog 27 #[.string s] w fun e w' => DaysPost s.data.toList e w' ∧ Below w.heap.size w w' := by
  have h1 : 1 ≤ n := by omega
  obtain ⟨i0, hi, hz0, hz1, hz2⟩ := info_parts info_int
  refine callsIn_of_wp_marks Tryz.func27 rfl trivial ?_ rfl
  simp only [Tryz.ntmps27, List.size_toArray, List.length_cons, List.length_nil, Nat.reduceAdd, Nat.reduceSub, Array.replicate_succ, Array.replicate_zero, List.push_toArray, List.append_toArray, List.nil_append, List.cons_append]
  gi_wp2_with fail
  refine ⟨trivial, (callsIn_wide.2 (splitSeq_any _ _ _)).mono ?_⟩
  rintro e w' ⟨rfl, rfl⟩
  gi_wp2_with fail
  have ksz : (((((((w.alloc (.cells #[.slice none 0 0] 22)).alloc (.cells #[.bool false] 4)).alloc (.cells #[.bool false, .bool false, .bool false, .bool false, .bool false, .bool false, .bool false, .bool false] 80)).alloc (.cells #[.string s] 9)).alloc (.cells #[.string ⟨#[44]⟩] 9)).alloc (.cells #[.int .i64 0] 3))).heap.size = w.heap.size + 6 := by simp
  have kB : Below w.heap.size w (((((((w.alloc (.cells #[.slice none 0 0] 22)).alloc (.cells #[.bool false] 4)).alloc (.cells #[.bool false, .bool false, .bool false, .bool false, .bool false, .bool false, .bool false, .bool false] 80)).alloc (.cells #[.string s] 9)).alloc (.cells #[.string ⟨#[44]⟩] 9)).alloc (.cells #[.int .i64 0] 3))) := ((((((((((((Below.refl _ _).alloc (by first | exact Nat.le_refl _ | (simp; done) | (simp; omega)) _)).alloc (by first | exact Nat.le_refl _ | (simp; done) | (simp; omega)) _)).alloc (by first | exact Nat.le_refl _ | (simp; done) | (simp; omega)) _)).alloc (by first | exact Nat.le_refl _ | (simp; done) | (simp; omega)) _)).alloc (by first | exact Nat.le_refl _ | (simp; done) | (simp; omega)) _)).alloc (by first | exact Nat.le_refl _ | (simp; done) | (simp; omega)) _)
  have k0 : Boxed (((((((w.alloc (.cells #[.slice none 0 0] 22)).alloc (.cells #[.bool false] 4)).alloc (.cells #[.bool false, .bool false, .bool false, .bool false, .bool false, .bool false, .bool false, .bool false] 80)).alloc (.cells #[.string s] 9)).alloc (.cells #[.string ⟨#[44]⟩] 9)).alloc (.cells #[.int .i64 0] 3))) (w.heap.size) 22 (.slice none 0 0) := by
    have h := (Boxed.alloc (Boxed.alloc (Boxed.alloc (Boxed.alloc (Boxed.alloc (Boxed.new w 22 (.slice none 0 0)) (.cells #[.bool false] 4)) (.cells #[.bool false, .bool false, .bool false, .bool false, .bool false, .bool false, .bool false, .bool false] 80)) (.cells #[.string s] 9)) (.cells #[.string ⟨#[44]⟩] 9)) (.cells #[.int .i64 0] 3))
    try simp only [World.size_alloc] at h
    exact h
  have k1 : Boxed (((((((w.alloc (.cells #[.slice none 0 0] 22)).alloc (.cells #[.bool false] 4)).alloc (.cells #[.bool false, .bool false, .bool false, .bool false, .bool false, .bool false, .bool false, .bool false] 80)).alloc (.cells #[.string s] 9)).alloc (.cells #[.string ⟨#[44]⟩] 9)).alloc (.cells #[.int .i64 0] 3))) (w.heap.size + 1) 4 (.bool false) := by
    have h := (Boxed.alloc (Boxed.alloc (Boxed.alloc (Boxed.alloc (Boxed.new (w.alloc (.cells #[.slice none 0 0] 22)) 4 (.bool false)) (.cells #[.bool false, .bool false, .bool false, .bool false, .bool false, .bool false, .bool false, .bool false] 80)) (.cells #[.string s] 9)) (.cells #[.string ⟨#[44]⟩] 9)) (.cells #[.int .i64 0] 3))
    try simp only [World.size_alloc] at h
    exact h
  have k2 : AB (((((((w.alloc (.cells #[.slice none 0 0] 22)).alloc (.cells #[.bool false] 4)).alloc (.cells #[.bool false, .bool false, .bool false, .bool false, .bool false, .bool false, .bool false, .bool false] 80)).alloc (.cells #[.string s] 9)).alloc (.cells #[.string ⟨#[44]⟩] 9)).alloc (.cells #[.int .i64 0] 3))) (w.heap.size + 1 + 1) (Sp.inWs []) := by
    have h := (AB.alloc (AB.alloc (AB.alloc (AB.new ((w.alloc (.cells #[.slice none 0 0] 22)).alloc (.cells #[.bool false] 4))) (.cells #[.string s] 9)) (.cells #[.string ⟨#[44]⟩] 9)) (.cells #[.int .i64 0] 3))
    try simp only [World.size_alloc] at h
    exact h
  have k3 : Boxed (((((((w.alloc (.cells #[.slice none 0 0] 22)).alloc (.cells #[.bool false] 4)).alloc (.cells #[.bool false, .bool false, .bool false, .bool false, .bool false, .bool false, .bool false, .bool false] 80)).alloc (.cells #[.string s] 9)).alloc (.cells #[.string ⟨#[44]⟩] 9)).alloc (.cells #[.int .i64 0] 3))) (w.heap.size + 1 + 1 + 1) 9 (.string s) := by
    have h := (Boxed.alloc (Boxed.alloc (Boxed.new (((w.alloc (.cells #[.slice none 0 0] 22)).alloc (.cells #[.bool false] 4)).alloc (.cells #[.bool false, .bool false, .bool false, .bool false, .bool false, .bool false, .bool false, .bool false] 80)) 9 (.string s)) (.cells #[.string ⟨#[44]⟩] 9)) (.cells #[.int .i64 0] 3))
    try simp only [World.size_alloc] at h
    exact h
  have k4 : Boxed (((((((w.alloc (.cells #[.slice none 0 0] 22)).alloc (.cells #[.bool false] 4)).alloc (.cells #[.bool false, .bool false, .bool false, .bool false, .bool false, .bool false, .bool false, .bool false] 80)).alloc (.cells #[.string s] 9)).alloc (.cells #[.string ⟨#[44]⟩] 9)).alloc (.cells #[.int .i64 0] 3))) (w.heap.size + 1 + 1 + 1 + 1) 9 (.string ⟨#[44]⟩) := by
    have h := (Boxed.alloc (Boxed.new ((((w.alloc (.cells #[.slice none 0 0] 22)).alloc (.cells #[.bool false] 4)).alloc (.cells #[.bool false, .bool false, .bool false, .bool false, .bool false, .bool false, .bool false, .bool false] 80)).alloc (.cells #[.string s] 9)) 9 (.string ⟨#[44]⟩)) (.cells #[.int .i64 0] 3))
    try simp only [World.size_alloc] at h
    exact h
  have k5 : Boxed (((((((w.alloc (.cells #[.slice none 0 0] 22)).alloc (.cells #[.bool false] 4)).alloc (.cells #[.bool false, .bool false, .bool false, .bool false, .bool false, .bool false, .bool false, .bool false] 80)).alloc (.cells #[.string s] 9)).alloc (.cells #[.string ⟨#[44]⟩] 9)).alloc (.cells #[.int .i64 0] 3))) (w.heap.size + 1 + 1 + 1 + 1 + 1) 3 (.int .i64 0) := by
    have h := (Boxed.new (((((w.alloc (.cells #[.slice none 0 0] 22)).alloc (.cells #[.bool false] 4)).alloc (.cells #[.bool false, .bool false, .bool false, .bool false, .bool false, .bool false, .bool false, .bool false] 80)).alloc (.cells #[.string s] 9)).alloc (.cells #[.string ⟨#[44]⟩] 9)) 3 (.int .i64 0))
    try simp only [World.size_alloc] at h
    exact h
  generalize ((((((w.alloc (.cells #[.slice none 0 0] 22)).alloc (.cells #[.bool false] 4)).alloc (.cells #[.bool false, .bool false, .bool false, .bool false, .bool false, .bool false, .bool false, .bool false] 80)).alloc (.cells #[.string s] 9)).alloc (.cells #[.string ⟨#[44]⟩] 9)).alloc (.cells #[.int .i64 0] 3)) = W0 at *
  have HPB := Lib.hid (fun xs => Sp.daysP_of (l := s.data.toList) (xs := xs))
  have hSz := kB.size
  have hL0 : w.heap.size < W0.heap.size := by omega
  have hL1 : w.heap.size + 1 < W0.heap.size := by omega
  have hL2 : w.heap.size + 1 + 1 < W0.heap.size := by omega
  have hL3 : w.heap.size + 1 + 1 + 1 < W0.heap.size := by omega
  have hL4 : w.heap.size + 1 + 1 + 1 + 1 < W0.heap.size := by omega
  have hL5 : w.heap.size + 1 + 1 + 1 + 2 < W0.heap.size := by omega
  have h1b : 1 ≤ n - 1 - 1 := by omega
  clear ksz
  refine range_gen h1 (gf := 84) (lb := #[.pointer (some ⟨w.heap.size + 1 + 1 + 1 + 1, 0, none⟩), .pointer (some ⟨w.heap.size + 1 + 1 + 1, 0, none⟩), .pointer (some ⟨w.heap.size + 1 + 1 + 1 + 2, 0, none⟩)]) rfl (enters_of Tryz.func84 (by kernel_rfl) rfl)
    (splitSeq1_seq (n - 1) (by omega) (w.heap.size + 1 + 1 + 1 + 1) (w.heap.size + 1 + 1 + 1) (w.heap.size + 1 + 1 + 1 + 2) 44 s (by omega) W0 (by omega) (by omega) (by omega) (by omega) (by omega) k4 k3 k5)
    (fun h k b hb => (k b hb).trans (h b hb)) (fun W o b hb => World.putObj_heap_other (by omega)) (fun X Y k ⟨v, e⟩ hk => by rw [e]; exact Below.heap_setCell _ _ _ k (by simp; omega)) (fun _ => rfl)
    (fun pre W => WordsI (w.heap.size + 1 + 1) pre W ∧ (Boxed W (w.heap.size) 22 (.slice none 0 0) ∧ Boxed W (w.heap.size + 1) 4 (.bool false)) ∧ Below w.heap.size w W ∧ W0.heap.size ≤ W.heap.size)
    (fun c pre W => (c = .ret ∧ Sp.daysP s.data.toList = none) ∧ (Boxed W (w.heap.size) 22 (.slice none 0 0) ∧ Boxed W (w.heap.size + 1) 4 (.bool false)) ∧ Below w.heap.size w W)
    (OwnFrom.and (wordsI_own _ _) (OwnFrom.and boxes_own (OwnFrom.and (ownFrom_below (by omega) (by omega)) (fun _ X Y row hs hg _ => Nat.le_trans hs hg.size))))
    (fun c => OwnFrom.and (ownFrom_pure _ (fun _ => c = .ret ∧ Sp.daysP s.data.toList = none)) (OwnFrom.and boxes_own (ownFrom_below (by omega) (by omega))))
    ⟨⟨[], rfl, k2⟩, ⟨k0, k1⟩, kB, Nat.le_refl _⟩
    (fun pre X Y ⟨⟨ws, hp, hab⟩, ⟨hb0, hb1⟩, hbw, hzz⟩ ⟨v, e⟩ => by rw [e]; exact ⟨⟨ws, hp, hab.same (Below.heap_setCell _ _ _ _ (by simp))⟩, ⟨hb0.other (by omega) _, hb1.other (by omega) _⟩, hbw.setCell (p := ⟨w.heap.size + 1 + 1 + 1, 0, none⟩) (by dsimp only; omega) _, by rw [World.size_setCell]; exact hzz⟩)
    (fun x => { tmps := #[.string s, undef, .pointer (some ⟨w.heap.size, 0, none⟩), .pointer (some ⟨w.heap.size + 1, 0, none⟩), .pointer (some ⟨w.heap.size + 1 + 1, 0, none⟩), .string x, undef, undef, undef, undef, undef, undef, undef, undef, undef, .string s, .func (.func 84) #[] #[.pointer (some ⟨w.heap.size + 1 + 1 + 1 + 1, 0, none⟩), .pointer (some ⟨w.heap.size + 1 + 1 + 1, 0, none⟩), .pointer (some ⟨w.heap.size + 1 + 1 + 1 + 2, 0, none⟩)], .string x, undef, undef, undef, undef, undef, undef, undef, undef, undef, undef, undef, undef, undef, undef, undef, undef, undef, undef, undef, undef, undef, undef, undef, undef, undef, undef, undef, undef, undef, undef, undef, undef, undef, undef, undef, undef, undef, undef, undef, undef, undef, undef, undef], defers := [] })
    ?assign ?body ?done ?stop
  case assign =>
    intro x W K hK
    gi_wp2
    exact hK
  case body =>
    rintro pre x W hkn ⟨⟨ws, hws, hab⟩, ⟨hb0, hb1⟩, hbw, hzW⟩
    have hxm : x.data.toList ∈ Sp.splitC 44 s.data.toList := hkn.subset (by simp)
    have hxs : x.size ≤ 1048576 := by
      have h2 := Sp.split_part 44 _ _ hxm
      have h3 := bytes_size s
      have h4 := bytes_size x
      omega
    obtain ⟨C, L0, r, hcd⟩ : ∃ (C L0 : ByteArray) (r : Bool), Sp.cutD x.data.toList = (C.data.toList, L0.data.toList, r) := ⟨Sp.bts (Sp.cutD x.data.toList).1, Sp.bts (Sp.cutD x.data.toList).2.1, (Sp.cutD x.data.toList).2.2, by rw [bts_list, bts_list]⟩
    have HCUT := Lib.hid (cutD_any x C L0 r W hxs (E.on hbw) hcd)
    have HW := Lib.hid (Sp.wordDays_of hcd)
    have HKN := Lib.hid hkn
    have HWS := Lib.hid hws
    clear hkn hws hxm hxs hcd
    cases r with
    | false =>
      obtain ⟨oa, hoa⟩ : ∃ o, o = Sp.dayIdx C.data.toList := ⟨_, rfl⟩
      obtain ⟨ob, hob⟩ : ∃ o, o = Sp.dayIdx C.data.toList := ⟨_, rfl⟩
      have HDA : Hid (∀ (w : World) (b : Nat), w.heap[b]? = some (.cells #[.string ⟨#[77, 111, 110]⟩, .string ⟨#[84, 117, 101]⟩, .string ⟨#[87, 101, 100]⟩, .string ⟨#[84, 104, 117]⟩, .string ⟨#[70, 114, 105]⟩, .string ⟨#[83, 97, 116]⟩, .string ⟨#[83, 117, 110]⟩] 9 (0, 0)) → Calls Tryz.prog 55 #[.slice (some ⟨b, 0, none⟩) 7 7, .string C] w fun e w' => e = .returned (.int .i64 (Sp.idxV oa)) ∧ w' = w) := Lib.hid (fun w b hb => by rw [hoa]; exact day_any C w b hb)
      have HDB : Hid (∀ (w : World) (b : Nat), w.heap[b]? = some (.cells #[.string ⟨#[77, 111, 110]⟩, .string ⟨#[84, 117, 101]⟩, .string ⟨#[87, 101, 100]⟩, .string ⟨#[84, 104, 117]⟩, .string ⟨#[70, 114, 105]⟩, .string ⟨#[83, 97, 116]⟩, .string ⟨#[83, 117, 110]⟩] 9 (0, 0)) → Calls Tryz.prog 55 #[.slice (some ⟨b, 0, none⟩) 7 7, .string C] w fun e w' => e = .returned (.int .i64 (Sp.idxV ob)) ∧ w' = w) := Lib.hid (fun w b hb => by rw [hob]; exact day_any C w b hb)
      have HLT : Hid (∀ k, oa = some k → k < 7) := Lib.hid (fun k h => Sp.dayIdx_lt (hoa.symm.trans h))
      have HLT2 : Hid (∀ k, ob = some k → k < 7) := Lib.hid (fun k h => Sp.dayIdx_lt (hob.symm.trans h))
      have HW2 : Hid (Sp.wordDays x.data.toList = Sp.pairD oa ob) := Lib.hid (by rw [hoa, hob]; exact HW.out)
      clear hoa hob
      gi_wp2_with fail
      refine ⟨trivial, (CallsIn.inRound _ (callsIn_wide.2 HCUT.out)).mono ?_⟩
      rintro e w2 ⟨rfl, n2, rfl⟩
      have hN1 : ((W.drewN n2).alloc (.cells #[.string ⟨#[77, 111, 110]⟩, .string ⟨#[84, 117, 101]⟩, .string ⟨#[87, 101, 100]⟩, .string ⟨#[84, 104, 117]⟩, .string ⟨#[70, 114, 105]⟩, .string ⟨#[83, 97, 116]⟩, .string ⟨#[83, 117, 110]⟩] 9)).heap[W.heap.size]? = some (.cells #[.string ⟨#[77, 111, 110]⟩, .string ⟨#[84, 117, 101]⟩, .string ⟨#[87, 101, 100]⟩, .string ⟨#[84, 104, 117]⟩, .string ⟨#[70, 114, 105]⟩, .string ⟨#[83, 97, 116]⟩, .string ⟨#[83, 117, 110]⟩] 9 (0, 0)) := World.alloc_heap_new _ _
      have hN2 : (((W.drewN n2).alloc (.cells #[.string ⟨#[77, 111, 110]⟩, .string ⟨#[84, 117, 101]⟩, .string ⟨#[87, 101, 100]⟩, .string ⟨#[84, 104, 117]⟩, .string ⟨#[70, 114, 105]⟩, .string ⟨#[83, 97, 116]⟩, .string ⟨#[83, 117, 110]⟩] 9)).alloc (.cells #[.string ⟨#[77, 111, 110]⟩, .string ⟨#[84, 117, 101]⟩, .string ⟨#[87, 101, 100]⟩, .string ⟨#[84, 104, 117]⟩, .string ⟨#[70, 114, 105]⟩, .string ⟨#[83, 97, 116]⟩, .string ⟨#[83, 117, 110]⟩] 9)).heap[W.heap.size + 1]? = some (.cells #[.string ⟨#[77, 111, 110]⟩, .string ⟨#[84, 117, 101]⟩, .string ⟨#[87, 101, 100]⟩, .string ⟨#[84, 104, 117]⟩, .string ⟨#[70, 114, 105]⟩, .string ⟨#[83, 97, 116]⟩, .string ⟨#[83, 117, 110]⟩] 9 (0, 0)) := by
        have h := World.alloc_heap_new ((W.drewN n2).alloc (.cells #[.string ⟨#[77, 111, 110]⟩, .string ⟨#[84, 117, 101]⟩, .string ⟨#[87, 101, 100]⟩, .string ⟨#[84, 104, 117]⟩, .string ⟨#[70, 114, 105]⟩, .string ⟨#[83, 97, 116]⟩, .string ⟨#[83, 117, 110]⟩] 9)) (.cells #[.string ⟨#[77, 111, 110]⟩, .string ⟨#[84, 117, 101]⟩, .string ⟨#[87, 101, 100]⟩, .string ⟨#[84, 104, 117]⟩, .string ⟨#[70, 114, 105]⟩, .string ⟨#[83, 97, 116]⟩, .string ⟨#[83, 117, 110]⟩] 9)
        rw [World.size_alloc] at h
        exact h
      gi_wp2_with fail
      refine ⟨trivial, (CallsIn.inRound _ (callsIn_wide.2 (weekdays_any _))).mono ?_⟩
      rintro e w3 ⟨rfl, rfl⟩
      gi_wp2_with fail
      refine ⟨trivial, (CallsIn.inRound _ (callsIn_wide.2 (HDA.out _ _ hN1))).mono ?_⟩
      rintro e w4 ⟨rfl, rfl⟩
      gi_wp2_with fail
      refine ⟨trivial, (CallsIn.inRound _ (callsIn_wide.2 (weekdays_any _))).mono ?_⟩
      rintro e w5 ⟨rfl, rfl⟩
      gi_wp2_with fail
      refine ⟨trivial, (CallsIn.inRound _ (callsIn_wide.2 (HDB.out _ _ hN2))).mono ?_⟩
      rintro e w6 ⟨rfl, rfl⟩
      have hal : Below W.heap.size W (((W.drewN n2).alloc (.cells #[.string ⟨#[77, 111, 110]⟩, .string ⟨#[84, 117, 101]⟩, .string ⟨#[87, 101, 100]⟩, .string ⟨#[84, 104, 117]⟩, .string ⟨#[70, 114, 105]⟩, .string ⟨#[83, 97, 116]⟩, .string ⟨#[83, 117, 110]⟩] 9)).alloc (.cells #[.string ⟨#[77, 111, 110]⟩, .string ⟨#[84, 117, 101]⟩, .string ⟨#[87, 101, 100]⟩, .string ⟨#[84, 104, 117]⟩, .string ⟨#[70, 114, 105]⟩, .string ⟨#[83, 97, 116]⟩, .string ⟨#[83, 117, 110]⟩] 9)) := ((belowQ (Below.refl _ W) n2).alloc (Nat.le_refl _) _).alloc (by simp) _
      generalize (((W.drewN n2).alloc (.cells #[.string ⟨#[77, 111, 110]⟩, .string ⟨#[84, 117, 101]⟩, .string ⟨#[87, 101, 100]⟩, .string ⟨#[84, 104, 117]⟩, .string ⟨#[70, 114, 105]⟩, .string ⟨#[83, 97, 116]⟩, .string ⟨#[83, 117, 110]⟩] 9)).alloc (.cells #[.string ⟨#[77, 111, 110]⟩, .string ⟨#[84, 117, 101]⟩, .string ⟨#[87, 101, 100]⟩, .string ⟨#[84, 104, 117]⟩, .string ⟨#[70, 114, 105]⟩, .string ⟨#[83, 97, 116]⟩, .string ⟨#[83, 117, 110]⟩] 9)) = w7 at *
      have hx0 := Boxed.under hb0 hal
      have hx1 := Boxed.under hb1 hal
      have hab7 : AB w7 (w.heap.size + 1 + 1) (Sp.inWs ws) := hab.same (hal.block _ hab.lt)
      have hc0 := hx0.cell
      have hf0 := hx0.frozen
      have hc1 := hx1.cell
      have hf1 := hx1.frozen
      have hsW7 := hal.size
      have HAB := Lib.hid (hbw.trans (hal.mono hbw.size))
      have HG7 := Lib.hid (grown_of_below hal)
      have HK : Hid (KeepsFrom W0.heap.size W w7) := Lib.hid (KeepsFrom.of_grownBy (grown_of_below hal) (fun j e => by cases e))
      clear hal
      cases oa with
      | none =>
        simp only [Sp.idxV_none]
        have HWN : Hid (Sp.wordDays x.data.toList = none) := Lib.hid (HW2.out.trans (by cases ob <;> rfl))
        generalize Sp.idxV ob = V
        have HQ : Hid (Sp.daysP s.data.toList = none) := Lib.hid (Sp.daysP_bad HKN.out (HWN.out))
        gi_wp2
        exact ⟨HK.out.trans (((KeepsOthers.setCell _ _ _).from _).trans ((KeepsOthers.setCell _ _ _).from _)), ⟨rfl, HQ.out⟩, ⟨Boxed.other (hx0.set _) (by omega) _, (Boxed.other hx1 (by omega) _).set _⟩, (HAB.out.setCell (p := ⟨w.heap.size, 0, none⟩) (Nat.le_refl _) _).setCell (p := ⟨w.heap.size + 1, 0, none⟩) (by dsimp only; omega) _⟩
      | some a =>
        have hla := HLT.out a rfl
        cases ob with
        | none =>
          have hpos : (-1 : Int) < (a : Int) := by omega
          simp only [Sp.idxV_none, Sp.idxV_some]
          have HQ : Hid (Sp.daysP s.data.toList = none) := Lib.hid (Sp.daysP_bad HKN.out (HW2.out))
          gi_wp2
          exact ⟨HK.out.trans (((KeepsOthers.setCell _ _ _).from _).trans ((KeepsOthers.setCell _ _ _).from _)), ⟨rfl, HQ.out⟩, ⟨Boxed.other (hx0.set _) (by omega) _, (Boxed.other hx1 (by omega) _).set _⟩, (HAB.out.setCell (p := ⟨w.heap.size, 0, none⟩) (Nat.le_refl _) _).setCell (p := ⟨w.heap.size + 1, 0, none⟩) (by dsimp only; omega) _⟩
        | some b =>
          have hlb := HLT2.out b rfl
          simp only [Sp.idxV_some]
          by_cases hba : b < a
          · have hba2 : (b : Int) < (a : Int) := by omega
            have HQ : Hid (Sp.daysP s.data.toList = none) := Lib.hid (Sp.daysP_bad HKN.out (HW2.out.trans (if_pos hba)))
            gi_wp2
            exact ⟨HK.out.trans (((KeepsOthers.setCell _ _ _).from _).trans ((KeepsOthers.setCell _ _ _).from _)), ⟨rfl, HQ.out⟩, ⟨Boxed.other (hx0.set _) (by omega) _, (Boxed.other hx1 (by omega) _).set _⟩, (HAB.out.setCell (p := ⟨w.heap.size, 0, none⟩) (Nat.le_refl _) _).setCell (p := ⟨w.heap.size + 1, 0, none⟩) (by dsimp only; omega) _⟩
          · have hba2 : ¬ ((b : Int) < (a : Int)) := by omega
            have HQ : Hid (Sp.wordDays x.data.toList = some (a, b)) := Lib.hid (HW2.out.trans (if_neg hba))
            have HAB7 := Lib.hid hab7
            clear hab7 hx0 hx1 hc0 hf0 hc1 hf1
            gi_wp2_with fail
            gi_loopw [11] (fun iv wr => ∃ d : Nat, iv = .int .i64 d ∧ (a ≤ d ∧ d ≤ b + 1) ∧ Hid (AB wr (w.heap.size + 1 + 1) (fun i => Sp.inWs ws i || (decide (a + 1 ≤ i) && decide (i ≤ d)))) ∧ Hid (w7.grownBy wr (some (w.heap.size + 1 + 1)))) (fun iv _ => (b + 1 - intOf iv).toNat)
            case atStart => exact ⟨a, rfl, ⟨Nat.le_refl _, by omega⟩, Lib.hid (HAB7.out.eq (fun i _ => Sp.mk_none _ a i)), Lib.hid (grown_none _)⟩
            case round =>
              obtain ⟨d, rfl, hd, HA, HG⟩ := hrel
              by_cases hlt : d ≤ b
              · have hlt2 : (d : Int) ≤ (b : Int) := by omega
                have v1 : IntKind.i64.wrap ((d : Int) + 1) = ((d + 1 : Nat) : Int) := by rw [IntKind.wrap_i64]; omega
                have hd8 : d + 1 < 8 := by omega
                have hce := HA.out.cell (d + 1) hd8
                have hfe := HA.out.fz (d + 1)
                gi_wp2
                go_roundw
                case rel => exact ⟨d + 1, rfl, ⟨by omega, by omega⟩, Lib.hid (HA.out.set (d + 1) hd8 (fun i _ => Sp.mk_step _ a d i hd.1)), Lib.hid (grown_t HG.out (grownBy_setCellAt _ _ _ _))⟩
                case measure => simp [intOf]; omega
              · obtain rfl : d = b + 1 := by omega
                have hlt2 : ¬ (((b + 1 : Nat) : Int) ≤ (b : Int)) := by omega
                have hblk : ∀ b2, b2 < W.heap.size → b2 ≠ w.heap.size + 1 + 1 → wr.heap[b2]? = W.heap[b2]? := fun b2 h1 h2 => (HG.out.block b2 (by omega) (fun e => h2 (by cases e; rfl))).trans (HG7.out.block b2 h1 (by simp))
                have HBLK := Lib.hid hblk
                clear hblk
                gi_wp2
                exact ⟨HK.out.trans (KeepsFrom.of_grownBy HG.out (fun j e => by cases e; omega)), ⟨HBLK.out _ (by omega) (by omega), HBLK.out _ (by omega) (by omega), HBLK.out _ (by omega) (by omega)⟩, ⟨ws ++ [(a, b)], Sp.wordsB_snoc HWS.out HQ.out, HA.out.eq (fun i _ => Sp.inWs_snoc ws (a, b) i)⟩, ⟨(HBLK.out _ (by omega) (by omega)).trans hb0, (HBLK.out _ (by omega) (by omega)).trans hb1⟩, HAB.out.grown HG.out (by omega) (fun j e => by cases e; omega), by have := HG.out.size; omega⟩
    | true =>
      obtain ⟨oa, hoa⟩ : ∃ o, o = Sp.dayIdx C.data.toList := ⟨_, rfl⟩
      obtain ⟨ob, hob⟩ : ∃ o, o = Sp.dayIdx L0.data.toList := ⟨_, rfl⟩
      have HDA : Hid (∀ (w : World) (b : Nat), w.heap[b]? = some (.cells #[.string ⟨#[77, 111, 110]⟩, .string ⟨#[84, 117, 101]⟩, .string ⟨#[87, 101, 100]⟩, .string ⟨#[84, 104, 117]⟩, .string ⟨#[70, 114, 105]⟩, .string ⟨#[83, 97, 116]⟩, .string ⟨#[83, 117, 110]⟩] 9 (0, 0)) → Calls Tryz.prog 55 #[.slice (some ⟨b, 0, none⟩) 7 7, .string C] w fun e w' => e = .returned (.int .i64 (Sp.idxV oa)) ∧ w' = w) := Lib.hid (fun w b hb => by rw [hoa]; exact day_any C w b hb)
      have HDB : Hid (∀ (w : World) (b : Nat), w.heap[b]? = some (.cells #[.string ⟨#[77, 111, 110]⟩, .string ⟨#[84, 117, 101]⟩, .string ⟨#[87, 101, 100]⟩, .string ⟨#[84, 104, 117]⟩, .string ⟨#[70, 114, 105]⟩, .string ⟨#[83, 97, 116]⟩, .string ⟨#[83, 117, 110]⟩] 9 (0, 0)) → Calls Tryz.prog 55 #[.slice (some ⟨b, 0, none⟩) 7 7, .string L0] w fun e w' => e = .returned (.int .i64 (Sp.idxV ob)) ∧ w' = w) := Lib.hid (fun w b hb => by rw [hob]; exact day_any L0 w b hb)
      have HLT : Hid (∀ k, oa = some k → k < 7) := Lib.hid (fun k h => Sp.dayIdx_lt (hoa.symm.trans h))
      have HLT2 : Hid (∀ k, ob = some k → k < 7) := Lib.hid (fun k h => Sp.dayIdx_lt (hob.symm.trans h))
      have HW2 : Hid (Sp.wordDays x.data.toList = Sp.pairD oa ob) := Lib.hid (by rw [hoa, hob]; exact HW.out)
      clear hoa hob
      gi_wp2_with fail
      refine ⟨trivial, (CallsIn.inRound _ (callsIn_wide.2 HCUT.out)).mono ?_⟩
      rintro e w2 ⟨rfl, n2, rfl⟩
      have hN1 : ((W.drewN n2).alloc (.cells #[.string ⟨#[77, 111, 110]⟩, .string ⟨#[84, 117, 101]⟩, .string ⟨#[87, 101, 100]⟩, .string ⟨#[84, 104, 117]⟩, .string ⟨#[70, 114, 105]⟩, .string ⟨#[83, 97, 116]⟩, .string ⟨#[83, 117, 110]⟩] 9)).heap[W.heap.size]? = some (.cells #[.string ⟨#[77, 111, 110]⟩, .string ⟨#[84, 117, 101]⟩, .string ⟨#[87, 101, 100]⟩, .string ⟨#[84, 104, 117]⟩, .string ⟨#[70, 114, 105]⟩, .string ⟨#[83, 97, 116]⟩, .string ⟨#[83, 117, 110]⟩] 9 (0, 0)) := World.alloc_heap_new _ _
      have hN2 : (((W.drewN n2).alloc (.cells #[.string ⟨#[77, 111, 110]⟩, .string ⟨#[84, 117, 101]⟩, .string ⟨#[87, 101, 100]⟩, .string ⟨#[84, 104, 117]⟩, .string ⟨#[70, 114, 105]⟩, .string ⟨#[83, 97, 116]⟩, .string ⟨#[83, 117, 110]⟩] 9)).alloc (.cells #[.string ⟨#[77, 111, 110]⟩, .string ⟨#[84, 117, 101]⟩, .string ⟨#[87, 101, 100]⟩, .string ⟨#[84, 104, 117]⟩, .string ⟨#[70, 114, 105]⟩, .string ⟨#[83, 97, 116]⟩, .string ⟨#[83, 117, 110]⟩] 9)).heap[W.heap.size + 1]? = some (.cells #[.string ⟨#[77, 111, 110]⟩, .string ⟨#[84, 117, 101]⟩, .string ⟨#[87, 101, 100]⟩, .string ⟨#[84, 104, 117]⟩, .string ⟨#[70, 114, 105]⟩, .string ⟨#[83, 97, 116]⟩, .string ⟨#[83, 117, 110]⟩] 9 (0, 0)) := by
        have h := World.alloc_heap_new ((W.drewN n2).alloc (.cells #[.string ⟨#[77, 111, 110]⟩, .string ⟨#[84, 117, 101]⟩, .string ⟨#[87, 101, 100]⟩, .string ⟨#[84, 104, 117]⟩, .string ⟨#[70, 114, 105]⟩, .string ⟨#[83, 97, 116]⟩, .string ⟨#[83, 117, 110]⟩] 9)) (.cells #[.string ⟨#[77, 111, 110]⟩, .string ⟨#[84, 117, 101]⟩, .string ⟨#[87, 101, 100]⟩, .string ⟨#[84, 104, 117]⟩, .string ⟨#[70, 114, 105]⟩, .string ⟨#[83, 97, 116]⟩, .string ⟨#[83, 117, 110]⟩] 9)
        rw [World.size_alloc] at h
        exact h
      gi_wp2_with fail
      refine ⟨trivial, (CallsIn.inRound _ (callsIn_wide.2 (weekdays_any _))).mono ?_⟩
      rintro e w3 ⟨rfl, rfl⟩
      gi_wp2_with fail
      refine ⟨trivial, (CallsIn.inRound _ (callsIn_wide.2 (HDA.out _ _ hN1))).mono ?_⟩
      rintro e w4 ⟨rfl, rfl⟩
      gi_wp2_with fail
      refine ⟨trivial, (CallsIn.inRound _ (callsIn_wide.2 (weekdays_any _))).mono ?_⟩
      rintro e w5 ⟨rfl, rfl⟩
      gi_wp2_with fail
      refine ⟨trivial, (CallsIn.inRound _ (callsIn_wide.2 (HDB.out _ _ hN2))).mono ?_⟩
      rintro e w6 ⟨rfl, rfl⟩
      have hal : Below W.heap.size W (((W.drewN n2).alloc (.cells #[.string ⟨#[77, 111, 110]⟩, .string ⟨#[84, 117, 101]⟩, .string ⟨#[87, 101, 100]⟩, .string ⟨#[84, 104, 117]⟩, .string ⟨#[70, 114, 105]⟩, .string ⟨#[83, 97, 116]⟩, .string ⟨#[83, 117, 110]⟩] 9)).alloc (.cells #[.string ⟨#[77, 111, 110]⟩, .string ⟨#[84, 117, 101]⟩, .string ⟨#[87, 101, 100]⟩, .string ⟨#[84, 104, 117]⟩, .string ⟨#[70, 114, 105]⟩, .string ⟨#[83, 97, 116]⟩, .string ⟨#[83, 117, 110]⟩] 9)) := ((belowQ (Below.refl _ W) n2).alloc (Nat.le_refl _) _).alloc (by simp) _
      generalize (((W.drewN n2).alloc (.cells #[.string ⟨#[77, 111, 110]⟩, .string ⟨#[84, 117, 101]⟩, .string ⟨#[87, 101, 100]⟩, .string ⟨#[84, 104, 117]⟩, .string ⟨#[70, 114, 105]⟩, .string ⟨#[83, 97, 116]⟩, .string ⟨#[83, 117, 110]⟩] 9)).alloc (.cells #[.string ⟨#[77, 111, 110]⟩, .string ⟨#[84, 117, 101]⟩, .string ⟨#[87, 101, 100]⟩, .string ⟨#[84, 104, 117]⟩, .string ⟨#[70, 114, 105]⟩, .string ⟨#[83, 97, 116]⟩, .string ⟨#[83, 117, 110]⟩] 9)) = w7 at *
      have hx0 := Boxed.under hb0 hal
      have hx1 := Boxed.under hb1 hal
      have hab7 : AB w7 (w.heap.size + 1 + 1) (Sp.inWs ws) := hab.same (hal.block _ hab.lt)
      have hc0 := hx0.cell
      have hf0 := hx0.frozen
      have hc1 := hx1.cell
      have hf1 := hx1.frozen
      have hsW7 := hal.size
      have HAB := Lib.hid (hbw.trans (hal.mono hbw.size))
      have HG7 := Lib.hid (grown_of_below hal)
      have HK : Hid (KeepsFrom W0.heap.size W w7) := Lib.hid (KeepsFrom.of_grownBy (grown_of_below hal) (fun j e => by cases e))
      clear hal
      cases oa with
      | none =>
        simp only [Sp.idxV_none]
        have HWN : Hid (Sp.wordDays x.data.toList = none) := Lib.hid (HW2.out.trans (by cases ob <;> rfl))
        generalize Sp.idxV ob = V
        have HQ : Hid (Sp.daysP s.data.toList = none) := Lib.hid (Sp.daysP_bad HKN.out (HWN.out))
        gi_wp2
        exact ⟨HK.out.trans (((KeepsOthers.setCell _ _ _).from _).trans ((KeepsOthers.setCell _ _ _).from _)), ⟨rfl, HQ.out⟩, ⟨Boxed.other (hx0.set _) (by omega) _, (Boxed.other hx1 (by omega) _).set _⟩, (HAB.out.setCell (p := ⟨w.heap.size, 0, none⟩) (Nat.le_refl _) _).setCell (p := ⟨w.heap.size + 1, 0, none⟩) (by dsimp only; omega) _⟩
      | some a =>
        have hla := HLT.out a rfl
        cases ob with
        | none =>
          have hpos : (-1 : Int) < (a : Int) := by omega
          simp only [Sp.idxV_none, Sp.idxV_some]
          have HQ : Hid (Sp.daysP s.data.toList = none) := Lib.hid (Sp.daysP_bad HKN.out (HW2.out))
          gi_wp2
          exact ⟨HK.out.trans (((KeepsOthers.setCell _ _ _).from _).trans ((KeepsOthers.setCell _ _ _).from _)), ⟨rfl, HQ.out⟩, ⟨Boxed.other (hx0.set _) (by omega) _, (Boxed.other hx1 (by omega) _).set _⟩, (HAB.out.setCell (p := ⟨w.heap.size, 0, none⟩) (Nat.le_refl _) _).setCell (p := ⟨w.heap.size + 1, 0, none⟩) (by dsimp only; omega) _⟩
        | some b =>
          have hlb := HLT2.out b rfl
          simp only [Sp.idxV_some]
          by_cases hba : b < a
          · have hba2 : (b : Int) < (a : Int) := by omega
            have HQ : Hid (Sp.daysP s.data.toList = none) := Lib.hid (Sp.daysP_bad HKN.out (HW2.out.trans (if_pos hba)))
            gi_wp2
            exact ⟨HK.out.trans (((KeepsOthers.setCell _ _ _).from _).trans ((KeepsOthers.setCell _ _ _).from _)), ⟨rfl, HQ.out⟩, ⟨Boxed.other (hx0.set _) (by omega) _, (Boxed.other hx1 (by omega) _).set _⟩, (HAB.out.setCell (p := ⟨w.heap.size, 0, none⟩) (Nat.le_refl _) _).setCell (p := ⟨w.heap.size + 1, 0, none⟩) (by dsimp only; omega) _⟩
          · have hba2 : ¬ ((b : Int) < (a : Int)) := by omega
            have HQ : Hid (Sp.wordDays x.data.toList = some (a, b)) := Lib.hid (HW2.out.trans (if_neg hba))
            have HAB7 := Lib.hid hab7
            clear hab7 hx0 hx1 hc0 hf0 hc1 hf1
            gi_wp2_with fail
            gi_loopw [11] (fun iv wr => ∃ d : Nat, iv = .int .i64 d ∧ (a ≤ d ∧ d ≤ b + 1) ∧ Hid (AB wr (w.heap.size + 1 + 1) (fun i => Sp.inWs ws i || (decide (a + 1 ≤ i) && decide (i ≤ d)))) ∧ Hid (w7.grownBy wr (some (w.heap.size + 1 + 1)))) (fun iv _ => (b + 1 - intOf iv).toNat)
            case atStart => exact ⟨a, rfl, ⟨Nat.le_refl _, by omega⟩, Lib.hid (HAB7.out.eq (fun i _ => Sp.mk_none _ a i)), Lib.hid (grown_none _)⟩
            case round =>
              obtain ⟨d, rfl, hd, HA, HG⟩ := hrel
              by_cases hlt : d ≤ b
              · have hlt2 : (d : Int) ≤ (b : Int) := by omega
                have v1 : IntKind.i64.wrap ((d : Int) + 1) = ((d + 1 : Nat) : Int) := by rw [IntKind.wrap_i64]; omega
                have hd8 : d + 1 < 8 := by omega
                have hce := HA.out.cell (d + 1) hd8
                have hfe := HA.out.fz (d + 1)
                gi_wp2
                go_roundw
                case rel => exact ⟨d + 1, rfl, ⟨by omega, by omega⟩, Lib.hid (HA.out.set (d + 1) hd8 (fun i _ => Sp.mk_step _ a d i hd.1)), Lib.hid (grown_t HG.out (grownBy_setCellAt _ _ _ _))⟩
                case measure => simp [intOf]; omega
              · obtain rfl : d = b + 1 := by omega
                have hlt2 : ¬ (((b + 1 : Nat) : Int) ≤ (b : Int)) := by omega
                have hblk : ∀ b2, b2 < W.heap.size → b2 ≠ w.heap.size + 1 + 1 → wr.heap[b2]? = W.heap[b2]? := fun b2 h1 h2 => (HG.out.block b2 (by omega) (fun e => h2 (by cases e; rfl))).trans (HG7.out.block b2 h1 (by simp))
                have HBLK := Lib.hid hblk
                clear hblk
                gi_wp2
                exact ⟨HK.out.trans (KeepsFrom.of_grownBy HG.out (fun j e => by cases e; omega)), ⟨HBLK.out _ (by omega) (by omega), HBLK.out _ (by omega) (by omega), HBLK.out _ (by omega) (by omega)⟩, ⟨ws ++ [(a, b)], Sp.wordsB_snoc HWS.out HQ.out, HA.out.eq (fun i _ => Sp.inWs_snoc ws (a, b) i)⟩, ⟨(HBLK.out _ (by omega) (by omega)).trans hb0, (HBLK.out _ (by omega) (by omega)).trans hb1⟩, HAB.out.grown HG.out (by omega) (fun j e => by cases e; omega), by have := HG.out.size; omega⟩
  case done =>
    rintro xs W hxs ⟨⟨ws, hws, hab⟩, ⟨hb0, hb1⟩, hbw, hzW⟩ hK
    have HR : Hid (Sp.daysP s.data.toList = some (Sp.daysTo ws 8)) := Lib.hid (by rw [HPB.out xs hxs, hws, Sp.daysTo_all]; rfl)
    clear hxs hws
    have e0 := hab.cell 0 (by decide)
    have e1 := hab.cell 1 (by decide)
    have e2 := hab.cell 2 (by decide)
    have e3 := hab.cell 3 (by decide)
    have e4 := hab.cell 4 (by decide)
    have e5 := hab.cell 5 (by decide)
    have e6 := hab.cell 6 (by decide)
    have e7 := hab.cell 7 (by decide)
    have hsW := hbw.size
    gi_wp2_with fail
    gi_loopw [50, 12] (fun iv v wr => ∃ k : Nat, iv = .int .i64 k ∧ k ≤ 8 ∧ Hid (wr.ownsRow W.heap.size 3 1 v (Sp.daysTo ws k).length (intsC (Sp.daysTo ws k))) ∧ Hid (Below W.heap.size W wr)) (fun iv _ _ => 8 - (intOf iv).toNat)
    case atStart => exact ⟨0, rfl, by decide, Lib.hid (World.ownsRow_nil _ _ _ _), Lib.hid (Below.refl _ _)⟩
    case round =>
      obtain ⟨k, rfl, hk8, HRW, HBW⟩ := hrel
      by_cases hlt : k < 8
      · have hlt2 : (k : Int) < 8 := by omega
        have v1 : IntKind.i64.wrap ((k : Int) + 1) = ((k + 1 : Nat) : Int) := by rw [IntKind.wrap_i64]; omega
        have hix := index_marks (Sp.inWs ws) wr k hlt
        have HST := Lib.hid (Sp.daysTo_succ ws k)
        have hbs := HBW.out.size
        have hlen : (Sp.daysTo ws k).length ≤ 8 := by
          unfold Sp.daysTo
          rw [List.length_map]
          exact Nat.le_trans (List.length_filter_le _ _) (by rw [List.length_range]; omega)
        have HIN := Lib.hid (intsC_len (Sp.daysTo ws k))
        cases hf : Sp.inWs ws k with
        | false =>
          rw [hf] at hix
          have HF : Hid (Sp.daysTo ws (k + 1) = Sp.daysTo ws k) := Lib.hid (by rw [HST.out, hf]; rfl)
          clear hf
          gi_wp2
          go_roundw
          case rel => exact ⟨k + 1, rfl, by omega, Lib.hid (by rw [HF.out]; exact HRW.out), HBW⟩
          case measure => simp [intOf]; omega
        | true =>
          rw [hf] at hix
          have HF : Hid (Sp.daysTo ws (k + 1) = Sp.daysTo ws k ++ [(k : Int)]) := Lib.hid (by rw [HST.out, hf]; rfl)
          clear hf
          generalize hds : Sp.daysTo ws k = ds at *
          clear hds
          gi_wp2_with (gi_at_builtin; refine wpListIn_append_own _ rfl _ _ 22 rfl W.heap.size 3 i0 (.int .i64 0) 1 8 Tryz.underlying22 hi hz0 hz1 hz2 rfl (by decide) _ _ _ rfl (HRW.out.alloc _) ⟨wr.heap.size, 0, none⟩ 1 1 [.int .i64 k] rfl rfl (cell_one_new _ _ _) (by simp [Value.oneCell']) (by simp only [maxLen]; omega) (by omega) (by simp; omega) ?_; intro v9 w9 hown9 hgrow9 _)
          go_roundw
          case rel =>
            refine ⟨k + 1, rfl, by omega, Lib.hid ?_, Lib.hid (below_row (HBW.out.alloc hbs _) (HRW.out.alloc _) hgrow9 (Nat.le_refl _) (by simp; omega))⟩
            rw [HF.out, List.length_append, List.length_singleton]
            have e : intsC (ds ++ [(k : Int)]) = intsC ds ++ [.int .i64 k] := by unfold intsC; rw [List.map_append]; rfl
            rw [e]
            exact hown9
          case measure => simp [intOf]; omega
      · obtain rfl : k = 8 := by omega
        have hRW := HRW.out
        have bV := Boxed.under hb0 HBW.out
        have bO := Boxed.under hb1 HBW.out
        have hc0 := bV.cell
        have hf0 := bV.frozen
        have hc1 := bO.cell
        have hf1 := bO.frozen
        have hln : (Sp.daysTo ws 8).length ≤ 8 := by
          unfold Sp.daysTo
          rw [List.length_map]
          exact Nat.le_trans (List.length_filter_le _ _) (by rw [List.length_range]; omega)
        generalize hds : Sp.daysTo ws 8 = ds at *
        clear hds
        obtain ⟨A, q, c, rfl, hq⟩ : ∃ A q c, u12 = .slice A q c ∧ q = ds.length := by
          rcases hRW.2 with ⟨rfl, h0⟩ | ⟨g, cap, cur, rfl, _⟩
          · exact ⟨_, _, _, rfl, h0.symm⟩
          · exact ⟨_, _, _, rfl, rfl⟩
        have hKr := (HBW.out.block W0.heap.size (Array.getElem?_eq_some_iff.1 hK).1).trans hK
        have hS0 : w.heap.size < W.heap.size := by omega
        have hS1 : w.heap.size + 1 < W.heap.size := by omega
        have hne0 := ownsRow_ne hRW hS0
        have hne1 := ownsRow_ne hRW hS1
        have hrw := (hRW.kept (grownBy_setCell' wr (w.heap.size) (.slice A q c)) (.inr hne0.symm)).kept (grownBy_setCell' _ (w.heap.size + 1) (.bool true)) (.inr hne1.symm)
        have HRW2 := Lib.hid hrw
        have HQ := Lib.hid hq
        have HBF : Hid (Below w.heap.size w wr) := Lib.hid (hbw.trans (HBW.out.mono hbw.size))
        clear hRW hrw hne0 hne1 hq
        gi_wp2
        have hK1 := (KeepsOthers.setCell wr ⟨w.heap.size, 0, none⟩ (.slice A q c)).same _ _ hKr rfl
        have hK2 := (KeepsOthers.setCell (wr.setCell ⟨w.heap.size, 0, none⟩ (.slice A q c)) ⟨w.heap.size + 1, 0, none⟩ (.bool true)).same _ _ hK1 rfl
        refine ⟨by simp, .inl ⟨_, _, rfl, run_takeDeferred hK2, ?_⟩⟩
        have bV2 := Boxed.other (bV.set (.slice A q c)) (show w.heap.size ≠ w.heap.size + 1 by omega) (.bool true)
        have bO2 := (Boxed.other bO (show w.heap.size + 1 ≠ w.heap.size by omega) (.slice A q c)).set (.bool true)
        have hc4 := cell_kept bV2.cell (grownBy_putObj' _ W0.heap.size (.deferred none)) (fun r e => by cases e; exact ⟨_, hK2, rfl⟩)
        have hc5 := cell_kept bO2.cell (grownBy_putObj' _ W0.heap.size (.deferred none)) (fun r e => by cases e; exact ⟨_, hK2, rfl⟩)
        have hBF : Below w.heap.size w ((wr.setCell ⟨w.heap.size, 0, none⟩ (.slice A q c)).setCell ⟨w.heap.size + 1, 0, none⟩ (.bool true)) := (HBF.out.setCell (p := ⟨w.heap.size, 0, none⟩) (Nat.le_refl _) _).setCell (p := ⟨w.heap.size + 1, 0, none⟩) (by dsimp only; omega) _
        have hrp := ownsRow_putObj HRW2.out (.deferred none) hK2 rfl
        rw [← HQ.out] at hrp
        refine ⟨.tuple #[.slice A q c, .bool true], ?_, .inl ⟨ds, A, q, c, HR.out, rfl, Rd.of_own hrp, by rw [HQ.out]; omega⟩, hBF.trans (belowK_b (w := w) (Nat.le_refl _) _ W0.heap.size _ _ kB.size hK2 rfl rfl)⟩
        simp [results, Tryz.f27, go_sem, hc4, hc5]
  case stop =>
    rintro c pre W hpre ⟨⟨rfl, hn⟩, ⟨hb0, hb1⟩, hbw⟩ hK
    have HN := Lib.hid hn
    clear hn hpre
    gi_wp2
    refine ⟨by simp, .inl ⟨_, _, rfl, run_takeDeferred hK, ?_⟩⟩
    have hc4 := cell_kept hb0.cell (grownBy_putObj' _ W0.heap.size (.deferred none)) (fun r e => by cases e; exact ⟨_, hK, rfl⟩)
    have hc5 := cell_kept hb1.cell (grownBy_putObj' _ W0.heap.size (.deferred none)) (fun r e => by cases e; exact ⟨_, hK, rfl⟩)
    refine ⟨.tuple #[.slice none 0 0, .bool false], ?_, .inr ⟨HN.out, rfl⟩, hbw.trans (belowK_b (w := w) (Nat.le_refl _) W W0.heap.size _ _ kB.size hK rfl rfl)⟩
    simp [results, Tryz.f27, go_sem, hc4, hc5]
theorem workdays_any (s : ByteArray) (w : World) (hs : s.size ≤ 1048576) (E : Env w) :
    Calls Tryz.prog 27 #[.string s] w fun e w' => DaysPost s.data.toList e w' ∧ Below w.heap.size w w' := callsIn_wide.1 (workdays_in 20 (Nat.le_refl _) s w hs E)

end Go.Proofs.YtpkpoglmmjaoeaaGreatDoor
