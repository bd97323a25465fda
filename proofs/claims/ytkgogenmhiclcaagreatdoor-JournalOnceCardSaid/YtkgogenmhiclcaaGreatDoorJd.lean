/-
  slices.Concat at two rows of rows.
-/
import Derived.Test.YtkgogenmhiclcaaGreatDoorJc
import Derived.Test.YtkgogenmhiclcaaGreatDoorGa
namespace Go.Proofs.YtkgogenmhiclcaaGreatDoor
open Go.RowKit Go.Sort Go.Lib

theorem rowInfo : ∃ i, Tryz.prog.info? 37 = some i ∧ i.zero = some (.agg zeroRow) ∧ i.size = 5 ∧ i.bytes = 56 := by
  exact ⟨(Tryz.prog.info? 37).get (by kernel_rfl), (Option.some_get _).symm, by kernel_rfl, by kernel_rfl, by kernel_rfl⟩
theorem alloc_at (w : World) (o : Obj) : (w.alloc o).heap[w.heap.size]? = some o := by
  show (w.heap.push o)[w.heap.size]? = some o
  simp
theorem grow0_any (n : Nat) (w : World) (hn : n ≤ 2513169434844) :
    Calls Tryz.prog 37 #[.slice none 0 0, .int .i64 n] w fun e w' => ∃ v, e = .returned v ∧ w'.ownsRow w.heap.size 37 5 v 0 [] ∧ Below w.heap.size w w' := by
  obtain ⟨i, hi, hz, hs, hb⟩ := rowInfo
  rcases Nat.eq_zero_or_pos n with h0 | h0
  · subst h0
    refine (Any8.slices_Grow_room Tryz.growR none 0 0 0 w (Nat.le_refl _) (by decide) (by decide) (by decide)).mono ?_
    rintro e w' ⟨rfl, rfl⟩
    exact ⟨_, rfl, ⟨rfl, .inl ⟨rfl, rfl⟩⟩, Below.refl _ _⟩
  · refine (Any8.slices_Grow_grow Tryz.growR i (.agg zeroRow) hi hz (by omega) none 0 0 n [] w (Nat.le_refl _) (by omega) (by rw [hb]; omega) (by omega) (by simp) (fun _ => rfl) (fun a h => by cases h)).mono ?_
    rintro e w' ⟨rfl, rfl⟩
    refine ⟨_, rfl, ⟨rfl, .inr ⟨w.heap.size, _, _, rfl, Nat.le_refl _, alloc_at w.drew _, Nat.zero_le _, grownCap_le_maxLen _ _ _ _ (by simp only [maxLen]; omega), ?_, by simp⟩⟩, ((Below.refl w.heap.size w).drew).alloc (by simp) _⟩
    have hg := grownCap_ge w n 0 37
    have e5 : (Value.agg zeroRow).cells.size = 5 := rfl
    show ([].toArray ++ Builtin.zeroCells (Value.agg zeroRow).cells (0 + n - 0) ++ Builtin.zeroCells (Value.agg zeroRow).cells (grownCap w (0 + n) 0 37 - (0 + n))).size = grownCap w (0 + n) 0 37 * 5
    rw [Array.size_append, Array.size_append, size_zeroCells, size_zeroCells, e5, Nat.zero_add]
    simp
    omega

theorem own_base {w : World} {base : Nat} {e : TypeId} {size n : Nat} {v : Value} {xs : List Value} (h : w.ownsRow base e size v n xs) : ∀ k, v.ownBlock = some k → base ≤ k := by
  intro k hk
  rcases h.2 with ⟨rfl, _⟩ | ⟨g, cap, cur, rfl, hb, _⟩
  · cases hk
  · injection hk with hk
    rw [← hk]; exact hb
set_option maxRecDepth 100000 in
set_option maxHeartbeats 8000000 in
theorem concat_any (w : World) (b : Nat) (A1 A2 : Option Addr) (n1 c1 n2 c2 : Nat) (y1 y2 : List Value) (hb0 : w.cell? ⟨b, 0, none⟩ = some (.slice A1 n1 c1)) (hb1 : w.cell? ⟨b, 1, none⟩ = some (.slice A2 n2 c2)) (hb : b < w.heap.size)
    (r1 : Rd w w.heap.size 5 A1 n1 y1) (r2 : Rd w w.heap.size 5 A2 n2 y2) (o1 : ∀ u ∈ y1, u.oneCell' = true) (o2 : ∀ u ∈ y2, u.oneCell' = true) (hn12 : n1 + n2 ≤ 2513169434844) :
    Calls Tryz.prog 22 #[.slice (some ⟨b, 0, none⟩) 2 2] w fun e w' => ∃ v, e = .returned v ∧ w'.ownsRow w.heap.size 37 5 v (n1 + n2) (y1 ++ y2) ∧ Below w.heap.size w w' := by
  obtain ⟨i, hi, hz, hs, hby⟩ := rowInfo
  have HI := Lib.hid hi
  have HIZ := Lib.hid hz
  have HIS := Lib.hid hs
  have HIB := Lib.hid hby
  have R1 := Lib.hid r1
  have R2 := Lib.hid r2
  have O1 := Lib.hid o1
  have O2 := Lib.hid o2
  have HG := Lib.hid (fun w => grow0_any (n1 + n2) w (by omega))
  clear hi hz hs hby r1 r2 o1 o2
  go_enter Tryz.func22, Tryz.ntmps22
  go_wp2_with fail
  go_loopw [3, 11] (fun sv iv wr => w = wr ∧ ((sv = .int .i64 0 ∧ iv = .int .i64 0) ∨ (sv = .int .i64 n1 ∧ iv = .int .i64 1) ∨ (sv = .int .i64 ((n1 + n2 : Nat) : Int) ∧ iv = .int .i64 2))) (fun _ iv _ => 2 - (intOf iv).toNat)
  case atStart => exact ⟨rfl, .inl ⟨rfl, rfl⟩⟩
  case round =>
    obtain ⟨rfl, ⟨rfl, rfl⟩ | ⟨rfl, rfl⟩ | ⟨rfl, rfl⟩⟩ := hrel
    · have x1 : ¬ (n1 : Int) < 0 := by omega
      go_wp2
      go_roundw
      case rel => exact ⟨by first | rfl | trivial, .inr (.inl ⟨by first | rfl | go_num, rfl⟩)⟩
      case measure => simp [intOf]
    · have x1 : ¬ (n1 : Int) + (n2 : Int) < 0 := by omega
      have x2 : IntKind.i64.wrap ((n1 : Int) + (n2 : Int)) = (n1 : Int) + (n2 : Int) := by rw [IntKind.wrap_i64]; omega
      go_wp2
      go_roundw
      case rel => exact ⟨by first | rfl | trivial, .inr (.inr ⟨by first | rfl | (simp; done) | go_num, rfl⟩)⟩
      case measure => simp [intOf]
    · go_wp2_with fail
      refine (HG.out _).mono ?_
      rintro e w1 ⟨v0, rfl, hown, hbl⟩
      have HOW := Lib.hid hown
      have HBL := Lib.hid hbl
      clear hown hbl
      go_wp2_with fail
      clear HG
      go_loopw [6, 27] (fun nv iv wr => ∃ (v : Value) (m : Nat) (xs : List Value), nv = v ∧ wr.ownsRow w.heap.size 37 5 v m xs ∧ Below w.heap.size w wr ∧ ((iv = .int .i64 0 ∧ m = 0 ∧ xs = []) ∨ (iv = .int .i64 1 ∧ m = n1 ∧ xs = y1) ∨ (iv = .int .i64 2 ∧ m = n1 + n2 ∧ xs = y1 ++ y2))) (fun _ iv _ => 2 - (intOf iv).toNat)
      case atStart => exact ⟨v0, 0, [], rfl, HOW.out, HBL.out, .inl ⟨rfl, rfl, rfl⟩⟩
      case round =>
      obtain ⟨v, m, xs, rfl, hor, hbr, ⟨rfl, rfl, rfl⟩ | ⟨rfl, rfl, rfl⟩ | ⟨rfl, rfl, rfl⟩⟩ := hrel
      all_goals
        have HOR := Lib.hid hor
        have HBR := Lib.hid hbr
        clear hor hbr
      · have d0 : wr.cell? ⟨b, 0, none⟩ = some (.slice A1 n1 c1) := (HBR.out.cell (p := ⟨b, 0, none⟩) hb).trans hb0
        have RR := Lib.hid (Rd.below R1.out HBR.out)
        go_wp2_with (at_builtin; refine wpList_append_rd _ rfl _ _ 22 rfl w.heap.size 37 i (.agg zeroRow) 5 56 Tryz.underlying22 HI.out HIZ.out HIS.out HIB.out rfl (by decide) _ _ _ rfl HOR.out A1 n1 c1 w.heap.size y1 rfl RR.out O1.out ?q1 ?q2 ?q3 ?_)
        case q1 => simp only [maxLen]; omega
        case q2 => omega
        case q3 => exact HBR.out.size
        intro v2 w2 hown2 hgr2
        have HO2 := Lib.hid hown2
        have HB2 : Hid (Below w.heap.size w w2) := Lib.hid (HBR.out.grown hgr2 HBR.out.size (own_base HOR.out))
        clear hown2 hgr2 HOR HBR RR d0
        go_wp2
        go_roundw
        case rel => exact ⟨v2, _, _, rfl, HO2.out, HB2.out, .inr (.inl ⟨rfl, by first | rfl | simp, by first | rfl | simp⟩)⟩
        case measure => simp [intOf]
      · have d0 : wr.cell? ⟨b, 1, none⟩ = some (.slice A2 n2 c2) := (HBR.out.cell (p := ⟨b, 1, none⟩) hb).trans hb1
        have RR := Lib.hid (Rd.below R2.out HBR.out)
        go_wp2_with (at_builtin; refine wpList_append_rd _ rfl _ _ 22 rfl w.heap.size 37 i (.agg zeroRow) 5 56 Tryz.underlying22 HI.out HIZ.out HIS.out HIB.out rfl (by decide) _ _ _ rfl HOR.out A2 n2 c2 w.heap.size y2 rfl RR.out O2.out ?q1 ?q2 ?q3 ?_)
        case q1 => simp only [maxLen]; omega
        case q2 => omega
        case q3 => exact HBR.out.size
        intro v2 w2 hown2 hgr2
        have HO2 := Lib.hid hown2
        have HB2 : Hid (Below w.heap.size w w2) := Lib.hid (HBR.out.grown hgr2 HBR.out.size (own_base HOR.out))
        clear hown2 hgr2 HOR HBR RR d0
        go_wp2
        go_roundw
        case rel => exact ⟨v2, _, _, rfl, HO2.out, HB2.out, .inr (.inr ⟨rfl, rfl, rfl⟩)⟩
        case measure => simp [intOf]
      · go_wp2
        go_ret
        exact ⟨_, rfl, HOR.out, HBR.out⟩

end Go.Proofs.YtkgogenmhiclcaaGreatDoor
