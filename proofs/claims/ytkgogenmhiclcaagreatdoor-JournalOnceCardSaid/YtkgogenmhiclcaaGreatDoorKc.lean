/-
  The calls' sort: two stretches of a row exchanged.
-/
import Derived.Test.YtkgogenmhiclcaaGreatDoorKb
namespace Go.Proofs.YtkgogenmhiclcaaGreatDoor
open Go.RowKit Go.Sort Go.Lib

/-- two stretches exchanged -/
noncomputable def swapR (a b : Nat) : Nat → Array Mg.C → Array Mg.C
  | 0, d => d
  | n + 1, d => swp (swapR a b n d) (a + n) (b + n)
theorem swapR_size (a b n : Nat) (d : Array Mg.C) : (swapR a b n d).size = d.size := by
  induction n with
  | zero => rfl
  | succ n ih => simp only [swapR, size_swp, ih]

set_option maxRecDepth 1000000 in
set_option maxHeartbeats 8000000 in
theorem swapR_any (k : Nat) (hk3 : k = 5) (w : World) (blk off cap size a b len : Nat) (f : Value) (d : Array Mg.C) (n : Nat) (os : Array Obj) (hH : HoldsK encC k w blk off d) (hblk : blk < w.heap.size) (dk : Array Mg.C) (hs : dk.size = d.size) (hsz : d.size = size) (hal : a + len ≤ size) (hbl : b + len ≤ size) (hbig : size < 4611686018427387904) :
    Calls Tryz.prog 80 #[.slice (some ⟨blk, off, none⟩) size cap, .int .i64 a, .int .i64 b, .int .i64 len, f] (sortWorldK encC k w blk off n dk os) fun e w' =>
      e = .returned (.tuple #[]) ∧ ∃ n' os', w' = sortWorldK encC k w blk off n' (swapR a b len dk) os' := by
  have mixed : Tryz.prog.follows .mixedOrders = true := by kernel_rfl
  have aE := Tryz.isAgg37
  have zE : ∀ w, (Go.sizeOf 37).run Tryz.prog w = .ok k w := by intro w; rw [hk3]; exact Tryz.sizeOf37 w
  have HK : Hid (∀ x, (encC x).length = k) := Lib.hid (fun x => by rw [hk3]; rfl)
  have HH := Lib.hid hH
  clear hk3 hH
  go_enter Tryz.func80, Tryz.ntmps80
  go_wp2_with fail
  go_loopw [10] (fun iv wr => ∃ (i m : Nat) (oi : Array Obj), i ≤ len ∧ iv = .int .i64 i ∧ wr = sortWorldK encC k w blk off m (swapR a b i dk) oi) (fun iv _ => len - (intOf iv).toNat)
  case atStart => exact ⟨0, n, os, Nat.zero_le _, rfl, rfl⟩
  case round =>
    obtain ⟨i, m, oi, hi, rfl, rfl⟩ := hrel
    by_cases hlt : i < len
    · have x1 : (0 : Int) ≤ (i : Int) := by omega
      have x2 : (i : Int) < (len : Int) := by omega
      have xa0 : (0 : Int) ≤ (a : Int) + (i : Int) := by omega
      have xa1 : (a : Int) + (i : Int) < (size : Int) := by omega
      have xb0 : (0 : Int) ≤ (b : Int) + (i : Int) := by omega
      have xb1 : (b : Int) + (i : Int) < (size : Int) := by omega
      have ea : ((a : Int) + (i : Int)).toNat = a + i := by omega
      have eb : ((b : Int) + (i : Int)).toNat = b + i := by omega
      have hdi : (swapR a b i dk).size = d.size := by rw [swapR_size, hs]
      have HSW : Hid (swapR a b (i + 1) dk = swp (swapR a b i dk) (a + i) (b + i)) := Lib.hid rfl
      generalize swapR a b i dk = di at *
      obtain ⟨xa, hxa⟩ : ∃ x, di[a + i]! = x := ⟨_, rfl⟩
      obtain ⟨xb, hxb⟩ : ∃ x, di[b + i]! = x := ⟨_, rfl⟩
      have hHd : HoldsK encC k (sortWorldK encC k w blk off m di oi).drew blk off di := holdsK_sortWorldK_c encC k w blk off d di m oi HH.out hblk hdi
      have bnd : ∀ x, x < di.size → x * k + k ≤ di.size * k := fun x hx => by
        have := Nat.mul_le_mul_right k (show x + 1 ≤ di.size from hx); rwa [Nat.add_mul, Nat.one_mul] at this
      have HSWP := Lib.hid (sortWorldK_swp_c encC k w blk off HK.out m di oi hblk (a + i) (b + i) (by omega) (by omega))
      rw [hxa, hxb] at HSWP
      generalize hwq : sortWorldK encC k w blk off m di oi = wq at *
      have la : Sem.run Tryz.prog (loadCellsFrom ⟨blk, off + (a + i) * k, none⟩ 0 k #[]) wq.drew = .ok (encC xa).toArray wq.drew := by rw [← hxa]; exact run_loadCellsFrom_list Tryz.prog _ _ _ k (HK.out _) (HoldsK.cells hHd HK.out (by omega))
      have lb : Sem.run Tryz.prog (loadCellsFrom ⟨blk, off + (b + i) * k, none⟩ 0 k #[]) wq.drew = .ok (encC xb).toArray wq.drew := by rw [← hxb]; exact run_loadCellsFrom_list Tryz.prog _ _ _ k (HK.out _) (HoldsK.cells hHd HK.out (by omega))
      have s1 : Sem.run Tryz.prog (storeCells ⟨blk, off + (a + i) * k, none⟩ (encC xb) 0) wq.drew = .ok () (wq.drew.setCells blk (off + (a + i) * k) (encC xb)) := stores_of_holds Tryz.prog hHd ((a + i) * k) _ (by rw [HK.out, size_flatK]; exact bnd (a + i) (by omega)) (encC_one _)
      have s2 : Sem.run Tryz.prog (storeCells ⟨blk, off + (b + i) * k, none⟩ (encC xa) 0) (wq.drew.setCells blk (off + (a + i) * k) (encC xb)) = .ok () ((wq.drew.setCells blk (off + (a + i) * k) (encC xb)).setCells blk (off + (b + i) * k) (encC xa)) :=
        stores_of_holds Tryz.prog (holds_setCells_c hHd ((a + i) * k) _ (by rw [HK.out, size_flatK]; exact bnd (a + i) (by omega))) ((b + i) * k) _ (by rw [HK.out, size_setMany, size_flatK]; exact bnd (b + i) (by omega)) (encC_one _)
      have hsA : (encC xa).length = k := HK.out _
      have hsB : (encC xb).length = k := HK.out _
      obtain ⟨cA, hcA⟩ : ∃ c, c = encC xa := ⟨_, rfl⟩
      obtain ⟨cB, hcB⟩ : ∃ c, c = encC xb := ⟨_, rfl⟩
      rw [← hcA] at la hsA
      rw [← hcB] at s1 lb hsB
      rw [← hcA, ← hcB] at s2 HSWP
      clear hcA hcB hHd bnd hwq
      go_wp2_with fail
      go_big_region_o
      all_goals go_wp2
      go_roundw
      case rel => exact ⟨i + 1, m + 1, oi, by omega, by go_num, by rw [HSW.out]; exact HSWP.out⟩
      case measure => first | (simp [intOf]; done) | (simp [intOf]; omega)
    · obtain rfl : i = len := by omega
      have x2 : ¬ (i : Int) < (i : Int) := by omega
      go_wp2
      go_end0
      exact ⟨rfl, m, oi, rfl⟩

end Go.Proofs.YtkgogenmhiclcaaGreatDoor
