/-
  journal.Add: the rows that it makes.
-/
import Derived.Test.YtkgogenmhiclcaaGreatDoorJd
namespace Go.Proofs.YtkgogenmhiclcaaGreatDoor
open Go.RowKit Go.Sort Go.Lib

def rowsC (l : List RowD) : List Value := l.flatMap rowC
theorem rowC_len (r : RowD) : (rowC r).length = 5 := rfl
theorem rowsC_len (l : List RowD) : (rowsC l).length = l.length * 5 := flat_len rowC 5 rowC_len l
theorem rc_rows (l : List RC) : rcCells l = rowsC (l.map RC.row) := by
  induction l with
  | nil => rfl
  | cons x r ih =>
    show encC x ++ rcCells r = rowC x.row ++ rowsC (r.map RC.row)
    rw [ih]; rfl
theorem rowsC_one (l : List RowD) : ∀ u ∈ rowsC l, u.oneCell' = true := by
  intro u hu
  obtain ⟨r, _, hr⟩ := List.mem_flatMap.1 hu
  simp only [rowC, List.mem_cons, List.not_mem_nil, or_false] at hr
  rcases hr with rfl | rfl | rfl | rfl | rfl <;> rfl
theorem lift_rows : ∀ (l : List RowD), (∀ r ∈ l, okRow r) → ∃ L : List RC, L.map RC.row = l
  | [], _ => ⟨[], rfl⟩
  | r :: l, h => by
    obtain ⟨L, hL⟩ := lift_rows l fun x hx => h x (by simp [hx])
    exact ⟨mkRC r (h r (by simp)) :: L, by rw [List.map_cons, hL]; rfl⟩

namespace Sp
/-- one put behind those that are no later; one put in if none is like it; the log that some rows make -/
def insR (c : RowD) : List RowD → List RowD
  | [] => [c]
  | x :: r => if lessB c x then c :: x :: r else x :: insR c r
def likeB (a b : RowD) : Bool := !lessB a b && !lessB b a
def putR (c : RowD) (D : List RowD) : List RowD := if D.any (fun d => likeB d c) then D else insR c D
def addR (L : List RowD) : List RowD := L.foldl (fun D c => putR c D) []
end Sp
theorem like_key (x y : RC) : Sp.likeB x.row y.row = decide (x.1 = y.1) := by
  have h1 := rc_less x y
  have h2 := rc_less y x
  rw [Bool.eq_iff_iff, decide_eq_true_eq, Sp.likeB, Bool.and_eq_true, Bool.not_eq_true', Bool.not_eq_true']
  constructor
  · rintro ⟨a, b⟩
    rw [a] at h1; rw [b] at h2
    simp at h1 h2; omega
  · intro e
    constructor
    · cases h : lessB x.row y.row
      · rfl
      · have := h1.1 h; omega
    · cases h : lessB y.row x.row
      · rfl
      · have := h2.1 h; omega
theorem ins_row (c : RC) : ∀ L : List RC, (Mg.ins c L).map RC.row = Sp.insR c.row (L.map RC.row)
  | [] => rfl
  | x :: r => by
    have h := rc_less c x
    rw [List.map_cons, Sp.insR, Mg.ins]
    by_cases hc : c.1 < x.1
    · rw [if_pos hc, if_pos (h.2 hc)]; rfl
    · rw [if_neg hc, if_neg (fun e => hc (h.1 e)), List.map_cons, ins_row c r]
theorem put_row (c : RC) (D : List RC) : (Mg.put c D).map RC.row = Sp.putR c.row (D.map RC.row) := by
  have e : (D.map RC.row).any (fun d => Sp.likeB d c.row) = D.any (fun d => decide (d.1 = c.1)) := by
    rw [List.any_map]
    congr 1
    funext d
    exact like_key d c
  rw [Mg.put, Sp.putR, e]
  split
  · rfl
  · exact ins_row c D
theorem puts_row (L : List RC) : (Mg.puts L).map RC.row = Sp.addR (L.map RC.row) := by
  suffices h : ∀ (L D : List RC), (L.foldl (fun D c => Mg.put c D) D).map RC.row = (L.map RC.row).foldl (fun D c => Sp.putR c D) (D.map RC.row) from h L []
  intro L
  induction L with
  | nil => intro D; rfl
  | cons x r ih =>
    intro D
    rw [List.foldl_cons, ih, put_row, List.map_cons, List.foldl_cons]

theorem below_of_grown {w0 w w' : World} {B : Nat} {v : Value} (h : Below B w0 w) (hg : w.grownBy w' v.ownBlock) (hB : B ≤ w.heap.size) (hv : ∀ k, v.ownBlock = some k → B ≤ k) : Below B w0 w' := h.grown hg hB hv

theorem compact_done {w : World} {g n m : Nat} {L : List RC} {w' : World} (hH : HoldsK encC 5 w g 0 L.toArray) (hg : g < w.heap.size) (hn : L.length = n) (hm : m = (Mg.dedup L).length) (hmn : m ≤ n)
    (h : ∃ Z : List RC, Z.take m = Mg.dedup L ∧ Z.length = n ∧ ∃ q os vs, w' = (sortWorldK encC 5 w g 0 q Z.toArray os).setCells g (0 + m * 5) vs ∧ m * 5 + vs.length ≤ n * 5) :
    (∀ j u, (rcCells (Mg.dedup L))[j]? = some u → w'.cell? ⟨g, j, none⟩ = some u) ∧ w.grownBy w' (some g) := by
  obtain ⟨Z, hZ, hZn, q, os, vs, rfl, hv⟩ := h
  refine ⟨fun j u hu => ?_, grown_setCells _ _ _ (grown_sortedK _)⟩
  have hHZ : HoldsK encC 5 (sortWorldK encC 5 w g 0 q Z.toArray os) g 0 Z.toArray := holdsK_sortWorldK encC 5 w g 0 q L.toArray Z.toArray os hg hH (by simp [hZn, hn])
  have h2 := holds_setCells_c hHZ (m * 5) vs (by rw [size_flatK]; simpa [hZn] using hv)
  have hj : j < m * 5 := by have := (List.getElem?_eq_some_iff.1 hu).1; rw [rcCells_len, ← hm] at this; exact this
  have hjn : j < n * 5 := Nat.lt_of_lt_of_le hj (Nat.mul_le_mul_right _ hmn)
  have h3 := (h2 j (by rw [size_setMany, size_flatK]; simpa [hZn] using hjn)).1
  rw [Nat.zero_add j] at h3
  rw [h3, get_setMany _ _ _ _ (by rw [size_flatK]; simpa [hZn] using hjn), if_neg (by omega), get_flatK _ _ _ j (by simpa [hZn] using hjn)]
  rw [rcCells_get _ j (by rw [← hm]; exact hj)] at hu
  have hq : j / 5 < m := by omega
  have e : (Z.toArray)[j / 5]! = (Mg.dedup L)[j / 5]! := by
    rw [toA_get Z _ (by omega), ← hZ, getElem!_pos _ _ (by rw [List.length_take]; omega), List.getElem_take]
  rw [e]
  exact hu

set_option maxRecDepth 100000 in
set_option maxHeartbeats 4000000 in
theorem compact_nil (w : World) : Calls Tryz.prog 25 #[.slice none 0 0, .func (.func 26) #[] #[]] w fun e w' => e = .returned (.slice none 0 0) ∧ w = w' := by
  go_enter Tryz.func25, Tryz.ntmps25
  go_wp2
  go_ret
  exact ⟨rfl, rfl⟩

theorem compact_own (base : Nat) (v : Value) (n : Nat) (L : List RC) (w : World) (h : w.ownsRow base 37 5 v n (rcCells L)) (hn : n < 1152921504606846976) :
    Calls Tryz.prog 25 #[v, .func (.func 26) #[] #[]] w fun e w' =>
      ∃ A c, e = .returned (.slice A (Mg.dedup L).length c) ∧ Rd w' w'.heap.size 5 A (Mg.dedup L).length (rcCells (Mg.dedup L)) ∧ ((Mg.dedup L).length ≤ n ∧ (Mg.dedup L).length ≤ c) ∧ w.grownBy w' v.ownBlock := by
  have hL : L.length = n := by have := h.1; rw [rcCells_len] at this; omega
  rcases h.2 with ⟨rfl, rfl⟩ | ⟨g, cap, cur, rfl, hbase, hb, h1, h2, h3, h4⟩
  · obtain rfl := List.eq_nil_of_length_eq_zero hL
    refine (compact_nil w).mono ?_
    rintro e w' ⟨rfl, rfl⟩
    exact ⟨none, 0, rfl, Rd.empty, ⟨Nat.le_refl _, Nat.le_refl _⟩, World.grownBy.refl _ _⟩
  · have hlt := (Array.getElem?_eq_some_iff.1 hb).1
    have hh := holds_of_row hb hL.symm h4
    refine (compact_any 5 rfl w g 0 cap n L hh hlt hL h1 hn).mono ?_
    rintro e w' ⟨m, rfl, hm, hmn, hex⟩
    obtain ⟨c1, c2⟩ := compact_done hh hlt hL hm hmn hex
    subst hm
    refine ⟨_, _, rfl, ⟨by rw [rcCells_len], fun _ => ⟨_, rfl, ?_, fun j u hu => ?_⟩⟩, ⟨hmn, Nat.le_trans hmn h1⟩, c2⟩
    · exact Nat.lt_of_lt_of_le hlt c2.size
    · have := c1 j u hu
      by_cases h0 : j = 0
      · subst h0; simpa [Addr.add] using this
      · simpa [Addr.add, h0] using this

set_option maxRecDepth 100000 in
set_option maxHeartbeats 8000000 in
theorem add_big (l rows : List RowD) (hl : ∀ r ∈ l, okRow r) (hr : ∀ r ∈ rows, okRow r) (A1 A2 : Option Addr) (n1 c1 n2 c2 : Nat) (w : World) (r1 : Rd w w.heap.size 5 A1 n1 (rowsC l)) (r2 : Rd w w.heap.size 5 A2 n2 (rowsC rows)) (hn12 : n1 + n2 ≤ 2513169434844) :
    Calls Tryz.prog 9 #[.slice A1 n1 c1, .slice A2 n2 c2] w fun e w' => ∃ A c, e = .returned (.slice A (Sp.addR (l ++ rows)).length c) ∧ Rd w' w'.heap.size 5 A (Sp.addR (l ++ rows)).length (rowsC (Sp.addR (l ++ rows))) ∧ ((Sp.addR (l ++ rows)).length ≤ n1 + n2 ∧ (Sp.addR (l ++ rows)).length ≤ c) ∧ Below w.heap.size w w' := by
  obtain ⟨L, hL⟩ := lift_rows (l ++ rows) (fun r h => (List.mem_append.1 h).elim (hl r) (hr r))
  have hcells : rowsC l ++ rowsC rows = rcCells L := by rw [rc_rows, hL, rowsC, rowsC, rowsC, List.flatMap_append]
  have hres : rcCells (Mg.dedup (Mg.isort L)) = rowsC (Sp.addR (l ++ rows)) := by rw [Mg.dedup_isort, rc_rows, puts_row, hL]
  have hlen : (Mg.dedup (Mg.isort L)).length = (Sp.addR (l ++ rows)).length := by
    have h := congrArg List.length hres
    rw [rcCells_len, rowsC_len] at h
    omega
  have HCAT := Lib.hid (fun (W : World) (b : Nat) h0 h1 hb hW => concat_any W b A1 A2 n1 c1 n2 c2 (rowsC l) (rowsC rows) h0 h1 hb ((Rd.below r1 hW).more hW.size) ((Rd.below r2 hW).more hW.size) (rowsC_one l) (rowsC_one rows) hn12)
  rw [hcells] at HCAT
  have HSORT := Lib.hid (fun base v w h => sort_any base v (n1 + n2) L w h (by omega))
  have HCOM := Lib.hid (fun base v w h => compact_own base v (n1 + n2) (Mg.isort L) w h (by omega))
  rw [hres, hlen] at HCOM
  generalize Sp.addR (l ++ rows) = R at *
  generalize Mg.isort L = SL at *
  clear hcells hres hlen hL hl hr r1 r2
  have hba : Below w.heap.size w (w.alloc (.cells #[.slice A1 n1 c1, .slice A2 n2 c2] 22)) := (Below.refl _ _).alloc (Nat.le_refl _) _
  have HB0 := Lib.hid hba
  have q0 : Hid ((w.alloc (.cells #[.slice A1 n1 c1, .slice A2 n2 c2] 22)).cell? ⟨w.heap.size, 0, none⟩ = some (.slice A1 n1 c1)) := Lib.hid (by simp)
  have q1 : Hid ((w.alloc (.cells #[.slice A1 n1 c1, .slice A2 n2 c2] 22)).cell? ⟨w.heap.size, 1, none⟩ = some (.slice A2 n2 c2)) := Lib.hid (by simp)
  have hz : w.heap.size < (w.alloc (.cells #[.slice A1 n1 c1, .slice A2 n2 c2] 22)).heap.size := by simp
  clear hba
  go_enter Tryz.func9, Tryz.ntmps9
  go_wp2_with fail
  generalize (w.alloc (.cells #[.slice A1 n1 c1, .slice A2 n2 c2] 22)) = w0 at *
  refine (HCAT.out w0 _ q0.out q1.out hz HB0.out).mono ?_
  rintro e w1 ⟨v, rfl, ho1, hb1⟩
  have HO1 := Lib.hid ho1
  have HB1 : Hid (Below w.heap.size w w1) := Lib.hid (HB0.out.trans (hb1.mono (HB0.out.size)))
  have hbv : Hid (∀ k, v.ownBlock = some k → w.heap.size ≤ k) := Lib.hid fun k hk => Nat.le_trans (Nat.le_of_lt hz) (own_base ho1 k hk)
  clear ho1 hb1 q0 q1 hz HB0 HCAT
  go_wp2_with fail
  refine (HSORT.out _ _ _ HO1.out).mono ?_
  rintro e w2 ⟨rfl, ho2, hg2⟩
  have HO2 := Lib.hid ho2
  have HB2 : Hid (Below w.heap.size w w2) := Lib.hid (HB1.out.grown hg2 HB1.out.size hbv.out)
  clear ho2 hg2 HO1 HB1 HSORT
  go_wp2_with fail
  refine (HCOM.out _ _ _ HO2.out).mono ?_
  rintro e w3 ⟨A, c, rfl, hrd, hle, hg3⟩
  have HRD := Lib.hid hrd
  have HB3 : Hid (Below w.heap.size w w3) := Lib.hid (HB2.out.grown hg3 HB2.out.size hbv.out)
  clear hrd hg3 HO2 HB2 HCOM
  go_wp2
  go_ret
  exact ⟨A, c, rfl, HRD.out, hle, HB3.out⟩
theorem add_any (l rows : List RowD) (hl : ∀ r ∈ l, okRow r) (hr : ∀ r ∈ rows, okRow r) (A1 A2 : Option Addr) (n1 c1 n2 c2 : Nat) (w : World) (r1 : Rd w w.heap.size 5 A1 n1 (rowsC l)) (r2 : Rd w w.heap.size 5 A2 n2 (rowsC rows)) (hn1 : n1 ≤ 137438953472) (hn2 : n2 ≤ 137438953472) :
    Calls Tryz.prog 9 #[.slice A1 n1 c1, .slice A2 n2 c2] w fun e w' => ∃ A c, e = .returned (.slice A (Sp.addR (l ++ rows)).length c) ∧ Rd w' w'.heap.size 5 A (Sp.addR (l ++ rows)).length (rowsC (Sp.addR (l ++ rows))) ∧ ((Sp.addR (l ++ rows)).length ≤ n1 + n2 ∧ (Sp.addR (l ++ rows)).length ≤ c) ∧ Below w.heap.size w w' :=
  add_big l rows hl hr A1 A2 n1 c1 n2 c2 w r1 r2 (by omega)

end Go.Proofs.YtkgogenmhiclcaaGreatDoor
