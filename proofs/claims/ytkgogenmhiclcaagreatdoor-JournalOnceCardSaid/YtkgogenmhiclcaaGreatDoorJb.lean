/-
  slices.CompactFunc at rows, by the journal's own comparison.
-/
import Derived.Test.YtkgogenmhiclcaaGreatDoorJa
import Derived.BigQuiet
namespace Go.Proofs.YtkgogenmhiclcaaGreatDoor
open Go.RowKit Go.Sort Go.Lib

theorem setMany_set {α : Type} [Inhabited α] (enc : α → List Value) (k : Nat) (hk : ∀ x, (enc x).length = k) (d : Array α) (i : Nat) (x : α) (hi : i < d.size) :
    setMany (flatK enc k d) (i * k) (enc x) = flatK enc k (d.setIfInBounds i x) := by
  refine ext_get! (by simp) fun t ht => ?_
  have ht' : t < d.size * k := by simpa using ht
  have k0 : 0 < k := by
    rcases Nat.eq_zero_or_pos k with h | h
    · subst h; simp at ht'
    · exact h
  rw [get_setMany _ _ _ t (by simpa using ht'), get_flatK _ _ _ t ht', get_flatK _ _ _ t (by simpa using ht'), hk]
  have hq : t / k < d.size := Nat.div_lt_of_lt_mul (by rw [Nat.mul_comm]; exact ht')
  by_cases a : t / k = i
  · rw [if_pos ((blk_iff k i t k0).2 a)]
    have m : t - i * k = t % k := by subst a; rw [Nat.mod_eq_sub_div_mul]
    rw [m, a]
    congr 1
    rw [getElem!_pos _ _ (by simpa using hi)]
    simp
  · rw [if_neg (fun h => a ((blk_iff k i t k0).1 h))]
    congr 2
    rw [getElem!_pos d _ hq, getElem!_pos _ _ (by simpa using hq), Array.getElem_setIfInBounds _, if_neg (fun e => a e.symm)]
theorem sortWorldK_set {α : Type} [Inhabited α] (enc : α → List Value) (k : Nat) (hk : ∀ x, (enc x).length = k) (w : World) (blk off m : Nat) (dk : Array α) (os : Array Obj) (hblk : blk < w.heap.size) (i : Nat) (x : α) (hi : i < dk.size) :
    (sortWorldK enc k w blk off m dk os).setCells blk (off + i * k) (enc x) = sortWorldK enc k w blk off m (dk.setIfInBounds i x) os := by
  have b : i * k + k ≤ dk.size * k := by have := Nat.mul_le_mul_right k (show i + 1 ≤ dk.size from hi); rwa [Nat.add_mul, Nat.one_mul] at this
  unfold sortWorldK
  rw [setCells_grow os blk _ _ _ (by rw [size_putRowK]; exact hblk)]
  congr 1
  unfold putRowK
  rw [setCells_putRow _ _ _ _ _ _ (by rw [hk, size_flatK]; exact b), setMany_set enc k hk dk i x hi]

theorem eqf_grow (x y : RC) (w : World) :
    Calls Tryz.prog 26 #[.agg (encC x).toArray, .agg (encC y).toArray] w fun e w' => e = .returned (.bool (decide (x.1 = y.1))) ∧ ∃ q os', w' = grow (w.drewN q) os' := by
  have HC := Lib.hid (fun w => cmp_any x y w)
  have hcf := cf_eq x y
  have HE : Hid (((cfC x y == 0) : Bool) = decide (x.1 = y.1)) := Lib.hid (by
    rw [Bool.eq_iff_iff, beq_iff_eq, decide_eq_true_eq]; exact hcf)
  rw [← HE.out]
  clear hcf HE
  generalize cfC x y = cv at *
  obtain ⟨xk, ⟨xt, xu, xn, xd, xx⟩, hxk, hxs⟩ := x
  obtain ⟨yk, ⟨yt, yu, yn, yd, yx⟩, hyk, hys⟩ := y
  have HC : Hid (∀ w, Calls Tryz.prog 24 #[.agg #[.int .i64 xt, .string xu, .int .i64 xn, .int .i64 xd, .string xx], .agg #[.int .i64 yt, .string yu, .int .i64 yn, .int .i64 yd, .string yx]] w fun e w' => e = .returned (.int .i64 cv) ∧ ∃ q os', w' = grow (w.drewN q) os') := Lib.hid HC.out
  show Calls Tryz.prog 26 #[.agg #[.int .i64 xt, .string xu, .int .i64 xn, .int .i64 xd, .string xx], .agg #[.int .i64 yt, .string yu, .int .i64 yn, .int .i64 yd, .string yx]] w _
  have HG : Hid (∃ os, ((w.alloc (.cells #[.int .i64 xt, .string xu, .int .i64 xn, .int .i64 xd, .string xx] 37)).alloc (.cells #[.int .i64 yt, .string yu, .int .i64 yn, .int .i64 yd, .string yx] 37)) = grow w os) := Lib.hid ⟨_, by rw [alloc_eq_grow, alloc_eq_grow, grow_grow]⟩
  go_enter Tryz.func26, Tryz.ntmps26
  go_wp2_with fail
  generalize ((w.alloc (.cells #[.int .i64 xt, .string xu, .int .i64 xn, .int .i64 xd, .string xx] 37)).alloc (.cells #[.int .i64 yt, .string yu, .int .i64 yn, .int .i64 yd, .string yx] 37)) = w0 at *
  refine (HC.out _).mono ?_
  rintro e w1 ⟨rfl, q, os, rfl⟩
  have HG1 : Hid (∃ q' os', grow (w0.drewN q) os = grow (w.drewN q') os') := Lib.hid (by
    obtain ⟨o, h⟩ := HG.out
    exact ⟨q, o ++ os, by rw [h, show (grow w o).drewN q = grow (w.drewN q) o from rfl, grow_grow]⟩)
  generalize grow (w0.drewN q) os = w2 at *
  go_wp2
  go_ret
  exact ⟨rfl, HG1.out⟩

end Go.Proofs.YtkgogenmhiclcaaGreatDoor
