/-
  The calls' own sort, at fewer than twenty.
-/
import Derived.Test.YtkfeicgeobhccaaWl
import Derived.Test.YtkfeicgeobhccaaIns
import Derived.Sort.OwnSorted
namespace Go.Proofs.Ytkfeicgeobhccaa
open Go.RowKit Go.Sort

/-- a call's cells; which of two is first -/
def encC (x : Int × Int × Int) : List Value := [.int .i64 x.1, .int .i64 x.2.1, .int .i64 x.2.2]
def cfC (x y : Int × Int × Int) : Int := if x.1 < y.1 then -1 else if y.1 < x.1 then 1 else 0
theorem encC_len (x : Int × Int × Int) : (encC x).length = 3 := rfl
theorem encC_one (x : Int × Int × Int) : ∀ v ∈ encC x, v.oneCell' = true := by
  intro v hv
  simp only [encC, List.mem_cons, List.not_mem_nil, or_false] at hv
  rcases hv with rfl | rfl | rfl <;> rfl

theorem cmp_any (x y : Int × Int × Int) (w : World) :
    Calls Try.prog 39 (#[.agg (encC x).toArray, .agg (encC y).toArray] ++ #[]) w fun e w' => e = .returned (.int .i64 (cfC x y)) ∧ ∃ q os', w' = grow (w.drewN q) os' := by
  obtain ⟨xa, xp, xt⟩ := x
  obtain ⟨ya, yp, yt⟩ := y
  show Calls Try.prog 39 #[.agg #[.int .i64 xa, .int .i64 xp, .int .i64 xt], .agg #[.int .i64 ya, .int .i64 yp, .int .i64 yt]] w _
  by_cases h1 : xa < ya
  · have hr : Hid (cfC (xa, xp, xt) (ya, yp, yt) = -1) := Lib.hid (by simp [cfC, h1])
    go_enter Try.func39, Try.ntmps39
    go_wp2
    go_ret
    exact ⟨by rw [hr.out]; rfl, 0, _, by rw [alloc_eq_grow, alloc_eq_grow, grow_grow]; rfl⟩
  · by_cases h2 : ya < xa
    · have hr : Hid (cfC (xa, xp, xt) (ya, yp, yt) = 1) := Lib.hid (by simp [cfC, h1, h2])
      go_enter Try.func39, Try.ntmps39
      go_wp2
      go_ret
      exact ⟨by rw [hr.out]; rfl, 0, _, by rw [alloc_eq_grow, alloc_eq_grow, grow_grow]; rfl⟩
    · have hr : Hid (cfC (xa, xp, xt) (ya, yp, yt) = 0) := Lib.hid (by simp [cfC, h1, h2])
      go_enter Try.func39, Try.ntmps39
      go_wp2
      go_ret
      exact ⟨by rw [hr.out]; rfl, 0, _, by rw [alloc_eq_grow, alloc_eq_grow, grow_grow]; rfl⟩

theorem cmpLays (blk off size : Nat) (w : World) : CmpLays Try.prog 39 #[] encC 3 cfC blk off size w := fun _ _ _ _ x y => cmp_any x y _

theorem callCells_get (l : List (Int × Int × Int)) (t : Nat) (h : t < l.length * 3) : (callCells l)[t]? = some (encC l[t / 3]!)[t % 3]! := by
  have h3 : t / 3 < l.length := by omega
  obtain ⟨a, b, c⟩ := callCells_at l (t / 3) h3
  have e : t = t / 3 * 3 + t % 3 := by omega
  rw [getElem!_pos l (t / 3) h3]
  have hm : t % 3 = 0 ∨ t % 3 = 1 ∨ t % 3 = 2 := by omega
  rcases hm with hm | hm | hm
  · conv => lhs; rw [e, hm, Nat.add_zero, a]
    rw [hm]; rfl
  · conv => lhs; rw [e, hm, b]
    rw [hm]; rfl
  · conv => lhs; rw [e, hm, c]
    rw [hm]; rfl
theorem flat_calls (d : Array (Int × Int × Int)) : (flatK encC 3 d).toList = callCells d.toList := by
  apply List.ext_getElem?
  intro t
  by_cases ht : t < d.size * 3
  · rw [callCells_get _ t (by simpa using ht), Array.getElem?_toList, getElem?_pos _ t (by rw [size_flatK]; exact ht), ← getElem!_pos, get_flatK encC 3 d t ht, show d.toList[t / 3]! = d[t / 3]! from by rw [getElem!_pos d (t / 3) (by omega), getElem!_pos d.toList (t / 3) (by simp; omega)]; simp]
  · rw [List.getElem?_eq_none (by rw [Array.length_toList, size_flatK]; omega), List.getElem?_eq_none (by rw [callCells_len]; simp; omega)]

theorem holds_of_row {w : World} {g n : Nat} {cur : Array Value} {e : TypeId} {L : List (Int × Int × Int)} (hb : w.heap[g]? = some (.cells cur e (0, 0))) (hn : n = L.length) (ht : cur.toList.take (n * 3) = callCells L) : HoldsK encC 3 w g 0 L.toArray := by
  intro j hj
  have hj' : j < n * 3 := by rw [size_flatK] at hj; simpa [hn] using hj
  refine ⟨?_, by simp [World.frozen?, hb]⟩
  have h1 : (cur.toList.take (n * 3))[j]? = (callCells L)[j]? := by rw [ht]
  rw [List.getElem?_take_of_lt hj', callCells_get L j (by omega)] at h1
  simp only [World.cell?, hb, Nat.zero_add]
  simp only [Option.isSome_none, Bool.false_eq_true, if_false]
  rw [← Array.getElem?_toList, h1, get_flatK encC 3 _ j (by simpa [hn] using hj')]
  simp

theorem heap_sortedK {w : World} {g n : Nat} {os : Array Obj} {cur : Array Value} {e : TypeId} {fr : Nat × Nat} (d : Array (Int × Int × Int)) (hb : w.heap[g]? = some (.cells cur e fr)) :
    (sortWorldK encC 3 w g 0 n d os).heap[g]? = some (.cells (putCells id 0 (flatK encC 3 d) cur) e fr) := by
  have hg : g < w.heap.size := (Array.getElem?_eq_some_iff.1 hb).1
  unfold sortWorldK
  rw [heap_grow_old _ _ (by rw [size_putRowK]; exact hg)]
  simp [putRowK, putRow, mapBlock, Sort.ahead, Array.getElem?_modify, hb, onCells]
theorem grown_sortedK {w : World} {g n : Nat} {os : Array Obj} (d : Array (Int × Int × Int)) : w.grownBy (sortWorldK encC 3 w g 0 n d os) (some g) := by
  unfold sortWorldK
  refine ⟨rfl, rfl, rfl, by rw [size_grow, size_putRowK]; exact Nat.le_add_right _ _, fun k hk hne => ?_⟩
  rw [heap_grow_old _ _ (by rw [size_putRowK]; exact hk)]
  have : g ≠ k := fun e => hne (by rw [e])
  simp [putRowK, putRow, mapBlock, Sort.ahead, Array.getElem?_modify, this]
theorem take_putK (cur : Array Value) (F : Array Value) (h : F.size ≤ cur.size) : (putCells id 0 F cur).toList.take F.size = F.toList := by
  apply List.ext_getElem?
  intro j
  by_cases hj : j < F.size
  · rw [List.getElem?_take_of_lt hj, Array.getElem?_toList]
    simp [putCells, hj, show j < cur.size by omega]
  · rw [List.getElem?_take_eq_none (by omega), List.getElem?_eq_none (by simp; omega)]
/-- behind the sort the same slice owns the sorted row -/
theorem own_sortedK {w : World} {base g cap n m : Nat} {e : TypeId} {os : Array Obj} {cur : Array Value} {T : List (Int × Int × Int)} (hl : T.length = n) (hbase : base ≤ g) (hb : w.heap[g]? = some (.cells cur e (0, 0)))
    (h1 : n ≤ cap) (h2 : cap ≤ maxLen) (h3 : cur.size = cap * 3) :
    (sortWorldK encC 3 w g 0 m T.toArray os).ownsRow base e 3 (.slice (some ⟨g, 0, none⟩) n cap) n (callCells T) := by
  refine ⟨by rw [callCells_len, hl], .inr ⟨g, cap, _, rfl, hbase, heap_sortedK _ hb, h1, h2, by simp [putCells, h3], ?_⟩⟩
  have h := take_putK cur (flatK encC 3 T.toArray) (by rw [size_flatK, h3]; simp; omega)
  rw [size_flatK, flat_calls] at h
  simpa [hl] using h

/-- the calls in the order that the sort gives them, at fewer than twenty -/
def smallSorted (L : List (Int × Int × Int)) : List (Int × Int × Int) := (Sort.insertionSort (ltOf cfC) L.toArray 0 L.length).toList

set_option maxRecDepth 100000 in
set_option maxHeartbeats 4000000 in
theorem stable_small (base g cap : Nat) (L : List (Int × Int × Int)) (w : World) (n : Nat) (h : w.ownsRow base 54 3 (.slice (some ⟨g, 0, none⟩) n cap) n (callCells L)) (hn : n < 20) :
    Calls Try.prog 47 #[.slice (some ⟨g, 0, none⟩) n cap, .int .i64 n, .func (.func 39) #[] #[]] w fun e w' => e = .returned (.tuple #[]) ∧ ∃ m os, w' = sortWorldK encC 3 w g 0 m (Sort.insertionSort (ltOf cfC) L.toArray 0 n) os := by
  have hL : L.length = n := by have := h.1; rw [callCells_len] at this; omega
  rcases h.2 with ⟨h0, _⟩ | ⟨g2, cap2, cur, he, hbase, hb, h1, h2, h3, h4⟩
  · exact absurd h0 (by simp)
  · simp only [Value.slice.injEq, Option.some.injEq, Addr.mk.injEq, and_true, true_and] at he
    obtain ⟨rfl, rfl⟩ := he
    have eg : ∀ args w, (callFunc 39 args).run Try.prog w = .ok (.enter 39 args) w := enters_of Try.func39 (by kernel_rfl) rfl
    have hcon := AnyQ.insertionSortCmpFunc Try.lIns 3 Try.isAgg54 Try.sizeOf54 encC encC_len encC_one cfC 39 #[] g 0 cap 0 n L.toArray w eg (cmpLays g 0 L.toArray.size w) (holds_of_row hb hL.symm h4) (Array.getElem?_eq_some_iff.1 hb).1 (Nat.zero_le _) (by simp [hL]) (by simp [hL]; omega)
    change Calls Try.prog 55 _ _ _ at hcon
    have hs : L.toArray.size = n := by simp [hL]
    rw [hs] at hcon
    generalize Sort.insertionSort (ltOf cfC) L.toArray 0 n = r at hcon ⊢
    have HC := Lib.hid hcon
    clear hcon h4 h3 hb h
    have x1 : ¬ (20 : Int) ≤ (n : Int) := by omega
    have x2 : ¬ (20 : Int) < (n : Int) := by omega
    go_enter Try.func47, Try.ntmps47
    go_wp2_with fail
    go_loopw [7, 8] (fun a b wr => a = .int .i64 0 ∧ b = .int .i64 20 ∧ w = wr) (fun _ _ _ => 0)
    case atStart => exact ⟨rfl, rfl, rfl⟩
    case round =>
      obtain ⟨rfl, rfl, rfl⟩ := hrel
      go_wp2_with fail
      refine HC.out.mono ?_
      rintro e w2 ⟨rfl, m, os, rfl⟩
      go_wp2_with fail
      go_loopw [6] (fun a wr => a = .int .i64 20 ∧ wr = sortWorldK encC 3 w g 0 m r os) (fun _ _ => 0)
      case atStart => exact ⟨rfl, rfl⟩
      case round =>
        obtain ⟨rfl, rfl⟩ := hrel
        go_wp2
        go_end0
        exact ⟨rfl, m, os, rfl⟩

set_option maxRecDepth 100000 in
set_option maxHeartbeats 4000000 in
theorem stable_nil (w : World) : Calls Try.prog 47 #[.slice none 0 0, .int .i64 0, .func (.func 39) #[] #[]] w fun e w' => e = .returned (.tuple #[]) ∧ w' = w := by
  have hins : ∀ w, Calls Try.prog 55 #[.slice none 0 0, .int .i64 0, .int .i64 0, .func (.func 39) #[] #[]] w fun e w' => e = .returned (.tuple #[]) ∧ w' = w := by
    intro w
    go_enter Try.func55, Try.ntmps55
    go_wp2_with fail
    go_loopw [8] (fun a wr => a = .int .i64 1 ∧ wr = w) (fun _ _ => 0)
    case atStart => exact ⟨rfl, rfl⟩
    case round =>
      obtain ⟨rfl, rfl⟩ := hrel
      go_wp2
      go_end0
      exact ⟨rfl, rfl⟩
  have HC := Lib.hid hins
  clear hins
  go_enter Try.func47, Try.ntmps47
  go_wp2_with fail
  go_loopw [7, 8] (fun a b wr => a = .int .i64 0 ∧ b = .int .i64 20 ∧ w = wr) (fun _ _ _ => 0)
  case atStart => exact ⟨rfl, rfl, rfl⟩
  case round =>
    obtain ⟨rfl, rfl, rfl⟩ := hrel
    go_wp2_with fail
    refine (HC.out _).mono ?_
    rintro e w2 ⟨rfl, rfl⟩
    go_wp2_with fail
    go_loopw [6] (fun a wr => a = .int .i64 20 ∧ wr = w2) (fun _ _ => 0)
    case atStart => exact ⟨rfl, rfl⟩
    case round =>
      obtain ⟨rfl, rfl⟩ := hrel
      go_wp2
      go_end0
      exact ⟨rfl, rfl⟩

theorem insOuter_len (a b : Nat) : ∀ (i : Nat) (d : Array (Int × Int × Int)), (Sort.insOuter (ltOf cfC) a b i d).size = d.size := by
  have hin : ∀ (j : Nat) (d : Array (Int × Int × Int)), (Sort.insInner (ltOf cfC) a j d).size = d.size := by
    intro j
    induction j with
    | zero => intro d; rfl
    | succ j ih => intro d; unfold Sort.insInner; split <;> simp [ih, size_swp]
  intro i
  induction h : b - i generalizing i with
  | zero => intro d; rw [Sort.insOuter, if_neg (by omega)]
  | succ k ih => intro d; rw [Sort.insOuter, if_pos (by omega), ih (i + 1) (by omega), hin]
theorem smallSorted_len (L : List (Int × Int × Int)) : (smallSorted L).length = L.length := by
  unfold smallSorted Sort.insertionSort
  rw [Array.length_toList, insOuter_len]; simp

set_option maxHeartbeats 1000000 in
theorem sort_small (base : Nat) (v : Value) (n : Nat) (L : List (Int × Int × Int)) (w : World) (h : w.ownsRow base 54 3 v n (callCells L)) (hn : n < 20) :
    Calls Try.prog 38 #[v, .func (.func 39) #[] #[]] w fun e w' => e = .returned (.tuple #[]) ∧ w'.ownsRow base 54 3 v n (callCells (smallSorted L)) ∧ w.grownBy w' v.ownBlock := by
  have hL : L.length = n := by have := h.1; rw [callCells_len] at this; omega
  rcases h.2 with ⟨rfl, rfl⟩ | ⟨g, cap, cur, rfl, hbase, hb, h1, h2, h3, h4⟩
  · have hl0 : L = [] := List.eq_nil_of_length_eq_zero hL
    subst hl0
    have hrow : ∀ w : World, w.ownsRow base 54 3 (.slice none 0 0) 0 (callCells (smallSorted [])) := fun w => ⟨by simp [callCells_len, smallSorted_len], .inl ⟨rfl, rfl⟩⟩
    have HR := Lib.hid hrow
    have HC := Lib.hid (fun w => stable_nil w)
    clear h hrow hL hn
    go_enter Try.func38, Try.ntmps38
    go_wp2_with fail
    refine (HC.out _).mono ?_
    rintro e w2 ⟨rfl, rfl⟩
    go_wp2
    go_end0
    exact ⟨rfl, HR.out _, World.grownBy.refl _ _⟩
  · have HC := Lib.hid (stable_small base g cap L w n h hn)
    have hS : (Sort.insertionSort (ltOf cfC) L.toArray 0 n) = (smallSorted L).toArray := by unfold smallSorted; rw [hL]
    rw [hS] at HC
    have HO := Lib.hid (fun m os => own_sortedK (m := m) (os := os) ((smallSorted_len L).trans hL) hbase hb h1 h2 h3)
    have HG := Lib.hid (fun m os => grown_sortedK (w := w) (g := g) (n := m) (os := os) (smallSorted L).toArray)
    generalize smallSorted L = S at *
    clear h h3 h4 hb hS hL
    go_enter Try.func38, Try.ntmps38
    go_wp2_with fail
    refine HC.out.mono ?_
    rintro e w2 ⟨rfl, m, os, rfl⟩
    have HOW := Lib.hid (HO.out m os)
    have HGW := Lib.hid (HG.out m os)
    generalize sortWorldK encC 3 w g 0 m S.toArray os = W2 at *
    go_wp2
    go_end0
    exact ⟨rfl, HOW.out, HGW.out⟩

end Go.Proofs.Ytkfeicgeobhccaa
