/-
  Rows with a number that says which comes ahead; which of two is first, by the journal's own function.
-/
import Derived.Test.YtkgogenmhiclcaaGreatDoorRh
import Derived.Test.YtkgogenmhiclcaaGreatDoorGr
import Derived.Test.YtkgogenmhiclcaaGreatDoorIns
import Derived.Sort.OwnSorted
namespace Go.Proofs.YtkgogenmhiclcaaGreatDoor
open Go.RowKit Go.Sort

/-- a bound that is never looked at -/
noncomputable def bigM : Nat := Classical.choose (⟨140737488355328, Nat.le_refl _⟩ : ∃ M : Nat, 140737488355328 ≤ M)
theorem bigM_le : 140737488355328 ≤ bigM := Classical.choose_spec (⟨140737488355328, Nat.le_refl _⟩ : ∃ M : Nat, 140737488355328 ≤ M)
/-- a text as a number -/
def sk : Nat → List UInt8 → Nat
  | 0, _ => 0
  | _ + 1, [] => 0
  | m + 1, c :: r => (c.toNat + 1) * 257 ^ m + sk m r
theorem sk_lt : ∀ (m : Nat) (l : List UInt8), sk m l < 257 ^ m
  | 0, l => by simp [sk]
  | m + 1, [] => by simp only [sk]; exact Nat.pow_pos (by decide)
  | m + 1, c :: r => by
    have h := sk_lt m r
    have hc := c.toNat_lt
    have h2 : (c.toNat + 1) * 257 ^ m ≤ 256 * 257 ^ m := Nat.mul_le_mul_right _ (by omega)
    rw [sk, Nat.pow_succ]
    omega
theorem sk_less : ∀ (m : Nat) (a b : List UInt8), a.length ≤ m → b.length ≤ m → (Op.bytesLess a b = true ↔ sk m a < sk m b)
  | 0, a, b, ha, hb => by
    obtain rfl : a = [] := List.eq_nil_of_length_eq_zero (by omega)
    obtain rfl : b = [] := List.eq_nil_of_length_eq_zero (by omega)
    simp [Op.bytesLess, sk]
  | m + 1, [], [], _, _ => by simp [Op.bytesLess, sk]
  | m + 1, [], d :: s, _, _ => by
    have hp : 0 < 257 ^ m := Nat.pow_pos (by decide)
    have h2 : 1 * 257 ^ m ≤ (d.toNat + 1) * 257 ^ m := Nat.mul_le_mul_right _ (by omega)
    simp only [Op.bytesLess, sk, true_iff]
    omega
  | m + 1, c :: r, [], _, _ => by simp [Op.bytesLess, sk]
  | m + 1, c :: r, d :: s, ha, hb => by
    have ih := sk_less m r s (by simpa using ha) (by simpa using hb)
    have hr := sk_lt m r
    have hs := sk_lt m s
    rw [Op.bytesLess, Bool.or_eq_true, Bool.and_eq_true]
    simp only [decide_eq_true_eq, beq_iff_eq, UInt8.lt_iff_toNat_lt, sk]
    by_cases e : c = d
    · subst e
      simp only [Nat.lt_irrefl, false_or, true_and, ih]
      omega
    · have hne : c.toNat ≠ d.toNat := fun e2 => e (UInt8.toNat_inj.1 e2)
      simp only [e, false_and, or_false]
      by_cases g : c.toNat < d.toNat
      · have h2 : (c.toNat + 1 + 1) * 257 ^ m ≤ (d.toNat + 1) * 257 ^ m := Nat.mul_le_mul_right _ (by omega)
        rw [Nat.add_mul (c.toNat + 1) 1] at h2
        omega
      · have h2 : (d.toNat + 1 + 1) * 257 ^ m ≤ (c.toNat + 1) * 257 ^ m := Nat.mul_le_mul_right _ (by omega)
        rw [Nat.add_mul (d.toNat + 1) 1] at h2
        omega
theorem sk_same (m : Nat) (a b : List UInt8) (h : a = b) : sk m a = sk m b := by rw [h]
/-- a row whose numbers can be -/
def okRow (r : RowD) : Prop := r.unit.size ≤ 140737488355328 ∧ -9223372036854775808 ≤ r.n ∧ r.n ≤ 9223372036854775807
noncomputable def keyR (r : RowD) : Int := (r.time * ((257 ^ bigM : Nat) : Int) + (sk bigM r.unit.toList : Int)) * 18446744073709551616 + r.n
theorem bytes_len (u : ByteArray) : u.toList.length = u.size := by rw [Sp.bytes_list]; simp
theorem keyR_less (a b : RowD) (ha : okRow a) (hb : okRow b) : lessB a b = true ↔ keyR a < keyR b := by
  have hm := bigM_le
  obtain ⟨a1, a2, a3⟩ := ha
  obtain ⟨b1, b2, b3⟩ := hb
  have hs := sk_less bigM a.unit.toList b.unit.toList (by rw [bytes_len]; omega) (by rw [bytes_len]; omega)
  have hla := sk_lt bigM a.unit.toList
  have hlb := sk_lt bigM b.unit.toList
  have hsame := sk_same bigM a.unit.toList b.unit.toList
  have hs' := sk_less bigM b.unit.toList a.unit.toList (by rw [bytes_len]; omega) (by rw [bytes_len]; omega)
  have htot := Sp.bl_total a.unit.toList b.unit.toList
  unfold lessB keyR
  generalize sk bigM a.unit.toList = x at *
  generalize sk bigM b.unit.toList = y at *
  generalize 257 ^ bigM = K at *
  by_cases h1 : a.time = b.time
  · rw [if_pos (by simpa using h1), h1]
    by_cases h2 : a.unit.toList = b.unit.toList
    · rw [if_pos (by simpa using h2)]
      have := hsame h2
      subst this
      rw [decide_eq_true_eq]
      omega
    · rw [if_neg (by simpa using h2), hs]
      have hne : x ≠ y := by
        intro e
        rcases htot h2 with g | g
        · rw [hs] at g; omega
        · rw [hs'] at g; omega
      have e0 : ∀ z : Int, (b.time * (K : Int) + z) = b.time * K + z := fun _ => rfl
      generalize b.time * (K : Int) = z
      omega
  · rw [if_neg (by simpa using h1), decide_eq_true_eq]
    by_cases h3 : a.time < b.time
    · have h4 : (a.time + 1) * (K : Int) ≤ b.time * K := Int.mul_le_mul_of_nonneg_right (by omega) (by omega)
      rw [Int.add_mul] at h4
      generalize b.time * (K : Int) = z at *
      generalize a.time * (K : Int) = z2 at *
      omega
    · have h4 : (b.time + 1) * (K : Int) ≤ a.time * K := Int.mul_le_mul_of_nonneg_right (by omega) (by omega)
      rw [Int.add_mul] at h4
      generalize b.time * (K : Int) = z at *
      generalize a.time * (K : Int) = z2 at *
      omega
/-- a row with its number -/
structure RC where
  key : Int
  row : RowD
  hk : key = keyR row
  hs : okRow row
noncomputable instance : Inhabited RC := ⟨⟨keyR zeroR, zeroR, rfl, ⟨by decide, by decide, by decide⟩⟩⟩
noncomputable def mkRC (r : RowD) (h : okRow r) : RC := ⟨keyR r, r, rfl, h⟩
theorem rc_ext (a b : RC) (h : a.row = b.row) : a = b := by
  obtain ⟨ak, ar, ah, as'⟩ := a
  obtain ⟨bk, br, bh, bs⟩ := b
  dsimp only at h
  subst h
  subst ah
  subst bh
  rfl
def encC (x : RC) : List Value := rowC x.row
def cfC (x y : RC) : Int := if lessB x.row y.row then -1 else if lessB y.row x.row then 1 else 0
theorem rc_less (x y : RC) : lessB x.row y.row = true ↔ x.1 < y.1 := by
  rw [x.hk, y.hk]; exact keyR_less _ _ x.hs y.hs
theorem cf_lt (x y : RC) : cfC x y < 0 ↔ x.1 < y.1 := by
  rw [← rc_less]
  unfold cfC
  cases lessB x.row y.row <;> cases lessB y.row x.row <;> simp
theorem cf_eq (x y : RC) : cfC x y = 0 ↔ x.1 = y.1 := by
  have h1 := rc_less x y
  have h2 := rc_less y x
  unfold cfC
  cases hx : lessB x.row y.row
  · rw [hx] at h1
    cases hy : lessB y.row x.row
    · rw [hy] at h2; simp at h1 h2 ⊢; omega
    · rw [hy] at h2; simp at h1 h2 ⊢; omega
  · rw [hx] at h1; simp at h1 ⊢; omega
theorem encC_len (x : RC) : (encC x).length = 5 := rfl
theorem encC_one (x : RC) : ∀ v ∈ encC x, v.oneCell' = true := by
  intro v hv
  simp only [encC, rowC, List.mem_cons, List.not_mem_nil, or_false] at hv
  rcases hv with rfl | rfl | rfl | rfl | rfl <;> rfl

set_option maxHeartbeats 2000000 in
/-- which of two comes ahead, with what it leaves behind -/
theorem less_grow (a b : RowD) (w : World) :
    Calls Tryz.prog 20 #[rowV a, rowV b] w fun e w' => e = .returned (.bool (lessB a b)) ∧ ∃ os, w' = grow w os := by
  obtain ⟨xt, xu, xn, xk, xx⟩ := a
  obtain ⟨yt, yu, yn, yk, yx⟩ := b
  show Calls Tryz.prog 20 #[.agg #[.int .i64 xt, .string xu, .int .i64 xn, .int .i64 xk, .string xx], .agg #[.int .i64 yt, .string yu, .int .i64 yn, .int .i64 yk, .string yx]] w fun e w' => e = .returned (.bool (if xt == yt then (if xu.toList == yu.toList then decide (xn < yn) else Op.bytesLess xu.toList yu.toList) else decide (xt < yt))) ∧ ∃ os, w' = grow w os
  have hb : ∃ os, (w.alloc (.cells #[.int .i64 xt, .string xu, .int .i64 xn, .int .i64 xk, .string xx] 37)).alloc (.cells #[.int .i64 yt, .string yu, .int .i64 yn, .int .i64 yk, .string yx] 37) = grow w os := ⟨_, by rw [alloc_eq_grow, alloc_eq_grow, grow_grow]⟩
  cases h1 : (xt == yt) with
  | false =>
    go_enter Tryz.func20, Tryz.ntmps20
    go_wp2
    go_ret
    exact ⟨rfl, hb⟩
  | true =>
    cases h2 : (xu.toList == yu.toList) with
    | false =>
      go_enter Tryz.func20, Tryz.ntmps20
      go_wp2
      go_ret
      exact ⟨rfl, hb⟩
    | true =>
      go_enter Tryz.func20, Tryz.ntmps20
      go_wp2
      go_ret
      exact ⟨rfl, hb⟩

set_option maxHeartbeats 2000000 in
/-- which of two comes ahead, with what it leaves behind -/
theorem rless_grow (a b : RowD) (w : World) :
    Calls Tryz.prog 27 #[rowV a, rowV b] w fun e w' => e = .returned (.bool (lessB a b)) ∧ ∃ os, w' = grow w os := by
  obtain ⟨xt, xu, xn, xk, xx⟩ := a
  obtain ⟨yt, yu, yn, yk, yx⟩ := b
  show Calls Tryz.prog 27 #[.agg #[.int .i64 xt, .string xu, .int .i64 xn, .int .i64 xk, .string xx], .agg #[.int .i64 yt, .string yu, .int .i64 yn, .int .i64 yk, .string yx]] w fun e w' => e = .returned (.bool (if xt == yt then (if xu.toList == yu.toList then decide (xn < yn) else Op.bytesLess xu.toList yu.toList) else decide (xt < yt))) ∧ ∃ os, w' = grow w os
  have hb : ∃ os, (w.alloc (.cells #[.int .i64 xt, .string xu, .int .i64 xn, .int .i64 xk, .string xx] 37)).alloc (.cells #[.int .i64 yt, .string yu, .int .i64 yn, .int .i64 yk, .string yx] 37) = grow w os := ⟨_, by rw [alloc_eq_grow, alloc_eq_grow, grow_grow]⟩
  cases h1 : (xt == yt) with
  | false =>
    go_enter Tryz.func27, Tryz.ntmps27
    go_wp2
    go_ret
    exact ⟨rfl, hb⟩
  | true =>
    cases h2 : (xu.toList == yu.toList) with
    | false =>
      go_enter Tryz.func27, Tryz.ntmps27
      go_wp2
      go_ret
      exact ⟨rfl, hb⟩
    | true =>
      go_enter Tryz.func27, Tryz.ntmps27
      go_wp2
      go_ret
      exact ⟨rfl, hb⟩

theorem grow_below (w : World) (os : Array Obj) : Below w.heap.size w (grow w os) := below_grow w 0 os
set_option maxHeartbeats 4000000 in
theorem order_grow (a b : RowD) (w : World) :
    Calls Tryz.prog 24 #[rowV a, rowV b] w fun e w' => e = .returned (.int .i64 (if lessB a b then -1 else if lessB b a then 1 else 0)) ∧ ∃ os, w' = grow w os := by
  have HAB := Lib.hid (fun w => less_grow a b w)
  have HBA := Lib.hid (fun w => less_grow b a w)
  generalize lessB a b = p at *
  generalize lessB b a = q at *
  obtain ⟨xt, xu, xn, xk, xx⟩ := a
  obtain ⟨yt, yu, yn, yk, yx⟩ := b
  simp only [rowV, rowC] at HAB HBA ⊢
  have HG : Hid (∃ os, (w.alloc (.cells #[.int .i64 xt, .string xu, .int .i64 xn, .int .i64 xk, .string xx] 37)).alloc (.cells #[.int .i64 yt, .string yu, .int .i64 yn, .int .i64 yk, .string yx] 37) = grow w os) := Lib.hid ⟨_, by rw [alloc_eq_grow, alloc_eq_grow, grow_grow]⟩
  have HXa : Hid (RBox ((w.alloc (.cells #[.int .i64 xt, .string xu, .int .i64 xn, .int .i64 xk, .string xx] 37)).alloc (.cells #[.int .i64 yt, .string yu, .int .i64 yn, .int .i64 yk, .string yx] 37)) w.heap.size ⟨xt, xu, xn, xk, xx⟩) := Lib.hid ((RBox.new w xt xn xk xu xx).on (B := w.heap.size + 1) (by omega) (by
      have := (Below.refl (w.heap.size + 1) (w.alloc (.cells #[.int .i64 xt, .string xu, .int .i64 xn, .int .i64 xk, .string xx] 37))).alloc (by simp) (.cells #[.int .i64 yt, .string yu, .int .i64 yn, .int .i64 yk, .string yx] 37)
      exact this))
  have HXb : Hid (RBox ((w.alloc (.cells #[.int .i64 xt, .string xu, .int .i64 xn, .int .i64 xk, .string xx] 37)).alloc (.cells #[.int .i64 yt, .string yu, .int .i64 yn, .int .i64 yk, .string yx] 37)) (w.heap.size + 1) ⟨yt, yu, yn, yk, yx⟩) := Lib.hid (by
    have := RBox.new (w.alloc (.cells #[.int .i64 xt, .string xu, .int .i64 xn, .int .i64 xk, .string xx] 37)) yt yn yk yu yx
    simpa using this)
  have hz : w.heap.size + 1 < ((w.alloc (.cells #[.int .i64 xt, .string xu, .int .i64 xn, .int .i64 xk, .string xx] 37)).alloc (.cells #[.int .i64 yt, .string yu, .int .i64 yn, .int .i64 yk, .string yx] 37)).heap.size := by simp
  go_enter Tryz.func24, Tryz.ntmps24
  obtain ⟨a0, a1, a2, a3, a4, -, -, -, -, -⟩ := HXa.out
  obtain ⟨b0, b1, b2, b3, b4, -, -, -, -, -⟩ := HXb.out
  go_wp2_with fail
  generalize ((w.alloc (.cells #[.int .i64 xt, .string xu, .int .i64 xn, .int .i64 xk, .string xx] 37)).alloc (.cells #[.int .i64 yt, .string yu, .int .i64 yn, .int .i64 yk, .string yx] 37)) = w0 at *
  generalize hB0 : w.heap.size = B0 at *
  refine (HAB.out _).mono ?_
  rintro e w1 ⟨rfl, os, rfl⟩
  have HG1 : Hid (∃ os', grow w0 os = grow w os') := Lib.hid (by obtain ⟨o, h⟩ := HG.out; exact ⟨_, by rw [h, grow_grow]⟩)
  have HXa1 := Lib.hid (HXa.out.on (by omega) (grow_below w0 os))
  have HXb1 := Lib.hid (HXb.out.on hz (grow_below w0 os))
  clear a0 a1 a2 a3 a4 b0 b1 b2 b3 b4 HXa HXb hz
  generalize grow w0 os = w2 at *
  cases p with
  | true =>
    go_wp2
    go_ret
    exact ⟨rfl, HG1.out⟩
  | false =>
    obtain ⟨a0, a1, a2, a3, a4, -, -, -, -, -⟩ := HXa1.out
    obtain ⟨b0, b1, b2, b3, b4, -, -, -, -, -⟩ := HXb1.out
    go_wp2_with fail
    refine (HBA.out _).mono ?_
    rintro e w3 ⟨rfl, os2, rfl⟩
    have HG2 : Hid (∃ os', grow w2 os2 = grow w os') := Lib.hid (by obtain ⟨o, h⟩ := HG1.out; exact ⟨_, by rw [h, grow_grow]⟩)
    clear a0 a1 a2 a3 a4 b0 b1 b2 b3 b4
    generalize grow w2 os2 = w3 at *
    cases q with
    | true =>
      go_wp2
      go_ret
      exact ⟨rfl, HG2.out⟩
    | false =>
      go_wp2
      go_ret
      exact ⟨rfl, HG2.out⟩

theorem cmp_any (x y : RC) (w : World) :
    Calls Tryz.prog 24 (#[.agg (encC x).toArray, .agg (encC y).toArray] ++ #[]) w fun e w' => e = .returned (.int .i64 (cfC x y)) ∧ ∃ q os', w' = grow (w.drewN q) os' := by
  refine (order_grow x.row y.row w).mono ?_
  rintro e w' ⟨rfl, os, rfl⟩
  exact ⟨rfl, 0, os, rfl⟩
theorem cmpLays (blk off size : Nat) (w : World) : CmpLays Tryz.prog 24 #[] encC 5 cfC blk off size w := fun _ _ _ _ x y => cmp_any x y _

def rcCells (l : List RC) : List Value := l.flatMap encC
theorem rcCells_len (l : List RC) : (rcCells l).length = l.length * 5 := flat_len encC 5 encC_len l
theorem rcCells_get (l : List RC) (t : Nat) (h : t < l.length * 5) : (rcCells l)[t]? = some (encC l[t / 5]!)[t % 5]! := by
  have h3 : t / 5 < l.length := by omega
  have e : t = t / 5 * 5 + t % 5 := by omega
  have hm : t % 5 < 5 := by omega
  have := flat_at encC 5 encC_len l (t / 5) (t % 5) l[t / 5] (List.getElem?_eq_getElem h3) hm
  rw [getElem!_pos l (t / 5) h3]
  conv => lhs; rw [e]
  rw [rcCells, this, getElem!_pos _ _ (by rw [encC_len]; exact hm), List.getElem?_eq_getElem]
theorem flat_rc (d : Array RC) : (flatK encC 5 d).toList = rcCells d.toList := by
  apply List.ext_getElem?
  intro t
  by_cases ht : t < d.size * 5
  · rw [rcCells_get _ t (by simpa using ht), Array.getElem?_toList, getElem?_pos _ t (by rw [size_flatK]; exact ht), ← getElem!_pos, get_flatK encC 5 d t ht, show d.toList[t / 5]! = d[t / 5]! from by rw [getElem!_pos d (t / 5) (by omega), getElem!_pos d.toList (t / 5) (by simp; omega)]; simp]
  · rw [List.getElem?_eq_none (by rw [Array.length_toList, size_flatK]; omega), List.getElem?_eq_none (by rw [rcCells_len]; simp; omega)]

theorem holds_of_row {w : World} {g n : Nat} {cur : Array Value} {e : TypeId} {L : List (RC)} (hb : w.heap[g]? = some (.cells cur e (0, 0))) (hn : n = L.length) (ht : cur.toList.take (n * 5) = rcCells L) : HoldsK encC 5 w g 0 L.toArray := by
  intro j hj
  have hj' : j < n * 5 := by rw [size_flatK] at hj; simpa [hn] using hj
  refine ⟨?_, by simp [World.frozen?, hb]⟩
  have h1 : (cur.toList.take (n * 5))[j]? = (rcCells L)[j]? := by rw [ht]
  rw [List.getElem?_take_of_lt hj', rcCells_get L j (by omega)] at h1
  simp only [World.cell?, hb, Nat.zero_add]
  simp only [Option.isSome_none, Bool.false_eq_true, if_false]
  rw [← Array.getElem?_toList, h1, get_flatK encC 5 _ j (by simpa [hn] using hj')]
  simp

theorem heap_sortedK {w : World} {g n : Nat} {os : Array Obj} {cur : Array Value} {e : TypeId} {fr : Nat × Nat} (d : Array (RC)) (hb : w.heap[g]? = some (.cells cur e fr)) :
    (sortWorldK encC 5 w g 0 n d os).heap[g]? = some (.cells (putCells id 0 (flatK encC 5 d) cur) e fr) := by
  have hg : g < w.heap.size := (Array.getElem?_eq_some_iff.1 hb).1
  unfold sortWorldK
  rw [heap_grow_old _ _ (by rw [size_putRowK]; exact hg)]
  simp [putRowK, putRow, mapBlock, Sort.ahead, Array.getElem?_modify, hb, onCells]
theorem grown_sortedK {w : World} {g n : Nat} {os : Array Obj} (d : Array (RC)) : w.grownBy (sortWorldK encC 5 w g 0 n d os) (some g) := by
  unfold sortWorldK
  refine ⟨rfl, rfl, rfl, by rw [size_grow, size_putRowK]; exact Nat.le_add_right _ _, fun k hk hne => ?_⟩
  rw [heap_grow_old _ _ (by rw [size_putRowK]; exact hk)]
  have : g ≠ k := fun e => hne (by rw [e])
  simp [putRowK, putRow, mapBlock, Sort.ahead, Array.getElem?_modify, this]
theorem take_putK (cur : Array Value) (F : Array Value) (h : F.size ≤ cur.size) : (putCells id 0 F cur).toList.take F.size = F.toList := by
  apply List.ext_getElem?
  intro j
  by_cases hj : j < F.size
  · rw [List.getElem?_take_of_lt hj, Array.getElem?_toList]
    simp [putCells, hj, show j < cur.size by omega]
  · rw [List.getElem?_take_eq_none (by omega), List.getElem?_eq_none (by simp; omega)]
/-- behind the sort the same slice owns the sorted row -/
theorem own_sortedK {w : World} {base g cap n m : Nat} {e : TypeId} {os : Array Obj} {cur : Array Value} {T : List (RC)} (hl : T.length = n) (hbase : base ≤ g) (hb : w.heap[g]? = some (.cells cur e (0, 0)))
    (h1 : n ≤ cap) (h2 : cap ≤ maxLen) (h3 : cur.size = cap * 5) :
    (sortWorldK encC 5 w g 0 m T.toArray os).ownsRow base e 5 (.slice (some ⟨g, 0, none⟩) n cap) n (rcCells T) := by
  refine ⟨by rw [rcCells_len, hl], .inr ⟨g, cap, _, rfl, hbase, heap_sortedK _ hb, h1, h2, by simp [putCells, h3], ?_⟩⟩
  have h := take_putK cur (flatK encC 5 T.toArray) (by rw [size_flatK, h3]; simp; omega)
  rw [size_flatK, flat_rc] at h
  simpa [hl] using h

end Go.Proofs.YtkgogenmhiclcaaGreatDoor
