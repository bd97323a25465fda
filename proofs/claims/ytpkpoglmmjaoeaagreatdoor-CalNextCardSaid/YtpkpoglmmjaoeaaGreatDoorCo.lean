/-
  Whether a number is one of a field's; the closures that ask of one part: the program's walks.
-/
import Derived.Test.YtpkpoglmmjaoeaaGreatDoorCn
namespace Go.Proofs.YtpkpoglmmjaoeaaGreatDoor
open Go.RowKit Go.Shelf

set_option maxHeartbeats 4000000 in
theorem may1_any (q : Sp.PartD) (f : Nat) (bf : Nat) (w : World) (hf : w.cell? ⟨bf, 0, none⟩ = some (.int .i64 f)) (hlt : bf < w.heap.size) : Calls Tryz.prog 40 #[partV q, .pointer (some ⟨bf, 0, none⟩)] w fun e w' => e = .returned (.bool (!Sp.mayPartB q f)) ∧ Below w.heap.size w w' := by
  have HM := Lib.hid (fun w => maypart_any q f w)
  obtain ⟨fr, tt, st⟩ := q
  generalize Sp.mayPartB ⟨fr, tt, st⟩ f = r at *
  simp only [partV] at HM
  have hb0 : Below w.heap.size w (w.alloc (.cells #[.int .i64 fr, .int .i64 tt, .int .i64 st] 62)) := (Below.refl _ _).alloc (Nat.le_refl _) _
  have h2 : (w.alloc (.cells #[.int .i64 fr, .int .i64 tt, .int .i64 st] 62)).cell? ⟨bf, 0, none⟩ = some (.int .i64 f) := (hb0.cell (p := ⟨bf, 0, none⟩) hlt).trans hf
  have HX := Lib.hid (PBox.new w fr tt st)
  clear hf
  show Calls Tryz.prog 40 #[.agg #[.int .i64 fr, .int .i64 tt, .int .i64 st], .pointer (some ⟨bf, 0, none⟩)] w _
  go_enter Tryz.func40, Tryz.ntmps40
  go_upto_region 1 with fail
  generalize (w.alloc (.cells #[.int .i64 fr, .int .i64 tt, .int .i64 st] 62)) = w1 at *
  have hsz := hb0.size
  generalize hbs : w.heap.size = b1 at *
  have HBS := Lib.hid hbs
  clear hbs
  obtain ⟨c0, c1, c2⟩ := HX.out
  dsimp only at c0 c1 c2
  have HB := Lib.hid hb0
  clear hb0
  go_wp2_with fail
  refine (HM.out _).mono ?_
  rintro e w2 ⟨rfl, hb⟩
  have HB2 := Lib.hid (HB.out.trans (hb.mono hsz))
  clear hb
  go_wp2
  go_ret
  rw [HBS.out]
  exact ⟨rfl, HB2.out⟩
set_option maxHeartbeats 4000000 in
theorem in1_any (q : Sp.PartD) (f : Nat) (n : Int) (bf bn : Nat) (w : World) (hm : Sp.mayPartB q f = true) (hn : 0 ≤ n ∧ n ≤ 9999) (hf : w.cell? ⟨bf, 0, none⟩ = some (.int .i64 f)) (hlt : bf < w.heap.size) (hg : w.cell? ⟨bn, 0, none⟩ = some (.int .i64 n)) (hlt2 : bn < w.heap.size) :
    Calls Tryz.prog 61 #[partV q, .pointer (some ⟨bf, 0, none⟩), .pointer (some ⟨bn, 0, none⟩)] w fun e w' => e = .returned (.bool (Sp.hasB q f n)) ∧ Below w.heap.size w w' := by
  have HM := Lib.hid (fun w => has_any q f n w hm hn)
  clear hm
  obtain ⟨fr, tt, st⟩ := q
  generalize Sp.hasB ⟨fr, tt, st⟩ f n = r at *
  simp only [partV] at HM
  have hb0 : Below w.heap.size w (w.alloc (.cells #[.int .i64 fr, .int .i64 tt, .int .i64 st] 62)) := (Below.refl _ _).alloc (Nat.le_refl _) _
  have h2 : (w.alloc (.cells #[.int .i64 fr, .int .i64 tt, .int .i64 st] 62)).cell? ⟨bf, 0, none⟩ = some (.int .i64 f) := (hb0.cell (p := ⟨bf, 0, none⟩) hlt).trans hf
  have h3 : (w.alloc (.cells #[.int .i64 fr, .int .i64 tt, .int .i64 st] 62)).cell? ⟨bn, 0, none⟩ = some (.int .i64 n) := (hb0.cell (p := ⟨bn, 0, none⟩) hlt2).trans hg
  have HX := Lib.hid (PBox.new w fr tt st)
  clear hf hg
  show Calls Tryz.prog 61 #[.agg #[.int .i64 fr, .int .i64 tt, .int .i64 st], .pointer (some ⟨bf, 0, none⟩), .pointer (some ⟨bn, 0, none⟩)] w _
  go_enter Tryz.func61, Tryz.ntmps61
  go_upto_region 1 with fail
  generalize (w.alloc (.cells #[.int .i64 fr, .int .i64 tt, .int .i64 st] 62)) = w1 at *
  have hsz := hb0.size
  generalize hbs : w.heap.size = b1 at *
  have HBS := Lib.hid hbs
  clear hbs
  obtain ⟨c0, c1, c2⟩ := HX.out
  dsimp only at c0 c1 c2
  have HB := Lib.hid hb0
  clear hb0
  go_wp2_with fail
  refine (HM.out _).mono ?_
  rintro e w2 ⟨rfl, hb⟩
  have HB2 := Lib.hid (HB.out.trans (hb.mono hsz))
  clear hb
  go_wp2
  go_ret
  rw [HBS.out]
  exact ⟨rfl, HB2.out⟩
set_option maxHeartbeats 4000000 in
theorem in_any (l : List Sp.PartD) (f : Nat) (n : Int) (A : Option Addr) (k c : Nat) (w : World) (h : Rd w w.heap.size 3 A k (partsC l)) (hk : k ≤ 9223372036854775807) (hm : ∀ q ∈ l, Sp.mayPartB q f = true) (hn : 0 ≤ n ∧ n ≤ 9999) :
    Calls Tryz.prog 35 #[.slice A k c, .int .i64 f, .int .i64 n] w fun e w' => e = .returned (.bool (Sp.inB l f n)) ∧ Below w.heap.size w w' := by
  have hb0 : Below w.heap.size w ((w.alloc (.cells #[.int .i64 f] 3)).alloc (.cells #[.int .i64 n] 3)) := ((Below.refl _ _).alloc (Nat.le_refl _) _).alloc (by simp) _
  have hs : ((w.alloc (.cells #[.int .i64 (f : Int)] 3)).alloc (.cells #[.int .i64 n] 3)).heap.size = w.heap.size + 2 := by simp
  have h1 : ((w.alloc (.cells #[.int .i64 (f : Int)] 3)).alloc (.cells #[.int .i64 n] 3)).cell? ⟨w.heap.size, 0, none⟩ = some (.int .i64 f) := by simp
  have h2 : ((w.alloc (.cells #[.int .i64 (f : Int)] 3)).alloc (.cells #[.int .i64 n] 3)).cell? ⟨w.heap.size + 1, 0, none⟩ = some (.int .i64 n) := by simp
  have HC : Hid (Calls Tryz.prog 39 #[.slice A k c, .func (.func 61) #[] #[.pointer (some ⟨w.heap.size, 0, none⟩), .pointer (some ⟨w.heap.size + 1, 0, none⟩)]] ((w.alloc (.cells #[.int .i64 (f : Int)] 3)).alloc (.cells #[.int .i64 n] 3)) fun e w' => e = .returned (.bool (Sp.inB l f n)) ∧ Below ((w.alloc (.cells #[.int .i64 (f : Int)] 3)).alloc (.cells #[.int .i64 n] 3)).heap.size ((w.alloc (.cells #[.int .i64 (f : Int)] 3)).alloc (.cells #[.int .i64 n] 3)) w') := Lib.hid (by
    generalize ((w.alloc (.cells #[.int .i64 (f : Int)] 3)).alloc (.cells #[.int .i64 n] 3)) = w2 at *
    refine contains_any (fun q => Sp.hasB q f n) 61 _ (enters_of Tryz.func61 (by kernel_rfl) rfl) l A k c w2 ((h.below hb0).more (by omega)) hk ?_
    intro W x hx hW
    exact in1_any x f n w.heap.size (w.heap.size + 1) W (hm x hx) hn ((hW.cell (p := ⟨w.heap.size, 0, none⟩) (by show w.heap.size < _; omega)).trans h1) (by have := hW.size; omega) ((hW.cell (p := ⟨w.heap.size + 1, 0, none⟩) (by show w.heap.size + 1 < _; omega)).trans h2) (by have := hW.size; omega))
  generalize Sp.inB l f n = r at *
  generalize (f : Int) = fi at *
  have HB := Lib.hid hb0
  clear h1 h2 hs h hm hb0
  go_enter Tryz.func35, Tryz.ntmps35
  go_wp2_with fail
  refine HC.out.mono ?_
  rintro e w3 ⟨rfl, hb⟩
  have HB2 := Lib.hid (HB.out.trans (hb.mono HB.out.size))
  clear hb HC HB
  go_wp2
  go_ret
  exact ⟨rfl, HB2.out⟩

end Go.Proofs.YtpkpoglmmjaoeaaGreatDoor
