/-
  The calls' sort: many against one.
-/
import Derived.Test.YtkgogenmhiclcaaGreatDoorKe
namespace Go.Proofs.YtkgogenmhiclcaaGreatDoor
open Go.RowKit Go.Sort Go.Lib

theorem swp_list2 (P R : List Mg.C) (x y : Mg.C) : swp ((P ++ x :: y :: R).toArray) (P.length + 1) P.length = (P ++ y :: x :: R).toArray := by
  have e1 : P ++ x :: y :: R = (P ++ [x]) ++ y :: R := by simp
  have el : (P ++ [x]).length = P.length + 1 := by simp
  have g2 : ((P ++ x :: y :: R).toArray)[P.length + 1]! = y := by rw [e1, ← el]; exact get_mid _ _ _
  unfold swp
  rw [g2, get_mid]
  simp only [List.setIfInBounds_toArray]
  rw [e1, ← el, set_mid]
  have e2 : (P ++ [x]) ++ x :: R = P ++ x :: x :: R := by simp
  rw [e2, set_mid]

set_option maxRecDepth 1000000 in
set_option maxHeartbeats 16000000 in
theorem symm_right (k : Nat) (hk3 : k = 5) (w : World) (blk off cap size : Nat) (d : Array Mg.C) (hH : HoldsK encC k w blk off d) (hblk : blk < w.heap.size) (hsz : d.size = size) (hbig : size < 4611686018427387904)
    (A X B : List Mg.C) (y : Mg.C) (n : Nat) (os : Array Obj) (hs : (A ++ X ++ [y] ++ B).length = size) (hX : Mg.Up X) (hX2 : 2 ≤ X.length) :
    Calls Tryz.prog 56 #[.slice (some ⟨blk, off, none⟩) size cap, .int .i64 A.length, .int .i64 ((A.length + X.length : Nat) : Int), .int .i64 ((A.length + X.length + 1 : Nat) : Int), .func (.func 24) #[] #[]] (sortWorldK encC k w blk off n (A ++ X ++ [y] ++ B).toArray os) fun e w' =>
      e = .returned (.tuple #[]) ∧ ∃ n' os', w' = sortWorldK encC k w blk off n' (A ++ Mg.merge X [y] ++ B).toArray os' := by
  have mixed : Tryz.prog.follows .mixedOrders = true := by kernel_rfl
  have eg : ∀ args w, (callFunc 24 args).run Tryz.prog w = .ok (.enter 24 args) w := enters_of Tryz.func24 (by kernel_rfl) rfl
  have aE := Tryz.isAgg37
  have zE : ∀ w, (Go.sizeOf 37).run Tryz.prog w = .ok k w := by intro w; rw [hk3]; exact Tryz.sizeOf37 w
  have HK : Hid (∀ x, (encC x).length = k) := Lib.hid (fun x => by rw [hk3]; rfl)
  have HH := Lib.hid hH
  have hlen : A.length + X.length + 1 + B.length = size := by rw [← hs]; simp; omega
  have HLS := Lib.hid hlen
  obtain ⟨a, hal⟩ : ∃ a, a = A.length := ⟨_, rfl⟩
  obtain ⟨mm, hml⟩ : ∃ mm, mm = A.length + X.length := ⟨_, rfl⟩
  have ham : a + 2 ≤ mm := by omega
  have hms : mm + 1 ≤ size := by omega
  rw [← hml, ← hal]
  have HAL : Hid (A.length = a ∧ mm = a + X.length) := Lib.hid ⟨hal.symm, by omega⟩
  clear hk3 hH hs hlen hal hml hX2
  have y1 : ((mm + 1 : Nat) : Int) = (mm : Int) + 1 := by omega
  rw [y1]
  have y2 : (((mm : Int) - (a : Int)) == 1) = false := by simp; omega
  have y3 : (mm : Int) + 1 - (mm : Int) = 1 := by omega
  have D0 : Hid (∀ t, t < X.length → (A ++ X ++ [y] ++ B).toArray[a + t]! = X[t]!) := Lib.hid (by
    intro t ht
    rw [← HAL.out.1, getElem!_pos _ _ (by simp; omega), getElem!_pos X t ht]
    simp only [List.getElem_toArray]
    rw [List.getElem_append_left (by simp; omega), List.getElem_append_left (by simp; omega), List.getElem_append_right (by simp)]
    congr 1; simp)
  have D1 : Hid ((A ++ X ++ [y] ++ B).toArray[mm]! = y) := Lib.hid (by
    have h1 := get_mid (A ++ X) B y
    have e1 : (A ++ X).length = mm := by rw [List.length_append, HAL.out.1, HAL.out.2]
    rw [e1] at h1
    simpa using h1)
  have hD : ((A ++ X ++ [y] ++ B).toArray).size = size := by rw [← HLS.out]; simp; omega
  obtain ⟨D, hDe⟩ : ∃ D, D = (A ++ X ++ [y] ++ B).toArray := ⟨_, rfl⟩
  rw [← hDe] at D0 D1 hD ⊢
  have HDE := Lib.hid hDe
  clear hDe
  go_enter Tryz.func56, Tryz.ntmps56
  go_wp2_with fail
  go_loopw [14, 15] (fun iv jv wr => ∃ (i j m : Nat) (oi : Array Obj), iv = .int .i64 i ∧ jv = .int .i64 j ∧ a ≤ i ∧ i ≤ j ∧ j ≤ mm ∧ wr = sortWorldK encC k w blk off m D oi ∧ Hid ((∀ t, a + t < i → X[t]!.1 ≤ y.1) ∧ (∀ t, j ≤ a + t → t < X.length → y.1 < X[t]!.1))) (fun iv jv _ => (intOf jv).toNat - (intOf iv).toNat)
  case atStart => exact ⟨a, mm, n, os, rfl, rfl, Nat.le_refl _, by omega, Nat.le_refl _, rfl, Lib.hid ⟨fun t ht => by omega, fun t ht ht2 => by have := HAL.out.2; omega⟩⟩
  case round =>
    obtain ⟨i, j, m, oi, rfl, rfl, hi, hij, hj, rfl, HI⟩ := hrel
    by_cases hlt : i < j
    · have x1 : (i : Int) < (j : Int) := by omega
      obtain ⟨h, hh⟩ : ∃ h, h = (i + j) / 2 := ⟨_, rfl⟩
      have hmid : ((i : Int) + (j : Int)) / 2 = (h : Int) := by omega
      have hih : i ≤ h := by omega
      have hhj : h < j := by omega
      have xh0 : (0 : Int) ≤ (h : Int) := by omega
      have xh1 : (h : Int) < (size : Int) := by omega
      have xa0 : (0 : Int) ≤ (mm : Int) := by omega
      have xa1 : (mm : Int) < (size : Int) := by omega
      have htY : h - a < X.length := by have := HAL.out.2; omega
      have hyv : D[h]! = X[h - a]! := by have := D0.out (h - a) htY; rwa [show a + (h - a) = h from by omega] at this
      obtain ⟨yv, hyv2⟩ : ∃ yv, X[h - a]! = yv := ⟨_, rfl⟩
      rw [hyv2] at hyv
      have HYV := Lib.hid hyv2
      have hxv := D1.out
      have hcls : ∀ n' os', grow ((sortWorldK encC k w blk off m D oi).drewN n') os' = sortWorldK encC k w blk off (m + n') D (oi ++ os') := fun n' os' => sortWorldK_grown_c encC k w blk off m n' D oi os'
      have hHc : ∀ n' os', HoldsK encC k (grow ((sortWorldK encC k w blk off m D oi).drewN n') os') blk off D := fun n' os' => by rw [hcls]; exact holdsK_sortWorldK_c encC k w blk off d D _ _ HH.out hblk (by rw [hD, hsz])
      have lj : ∀ n' os', Sem.run Tryz.prog (loadCellsFrom ⟨blk, off + h * k, none⟩ 0 k #[]) (grow ((sortWorldK encC k w blk off m D oi).drewN n') os') = .ok (encC yv).toArray (grow ((sortWorldK encC k w blk off m D oi).drewN n') os') := fun n' os' => by
        rw [← hyv]; exact run_loadCellsFrom_list Tryz.prog _ _ _ k (HK.out _) (HoldsK.cells (hHc n' os') HK.out (by omega))
      have lp : ∀ n' os', Sem.run Tryz.prog (loadCellsFrom ⟨blk, off + mm * k, none⟩ 0 k #[]) (grow ((sortWorldK encC k w blk off m D oi).drewN n') os') =   .ok (encC y).toArray (grow ((sortWorldK encC k w blk off m D oi).drewN n') os') := fun n' os' => by
        rw [← hxv]; exact run_loadCellsFrom_list Tryz.prog _ _ _ k (HK.out _) (HoldsK.cells (hHc n' os') HK.out (by omega))
      have hcg : ∀ n' os', Calls Tryz.prog 24 #[.agg (encC y).toArray, .agg (encC yv).toArray] (grow ((sortWorldK encC k w blk off m D oi).drewN n') os') fun e w' => e = .returned (.int .i64 (cfC y yv)) ∧ ∃ q os'', w' = grow ((grow ((sortWorldK encC k w blk off m D oi).drewN n') os').drewN q) os'' := fun n' os' => cmp_any y yv _
      have CLS := Lib.hid hcls
      clear hcls hHc hyv hyv2 hxv hh
      generalize hwq : sortWorldK encC k w blk off m D oi = wq at lj lp hcg CLS ⊢
      have hcA : ∃ c, c = encC yv := ⟨_, rfl⟩
      have hcB : ∃ c, c = encC y := ⟨_, rfl⟩
      obtain ⟨cA, hcA⟩ := hcA
      obtain ⟨cB, hcB⟩ := hcB
      rw [← hcA] at lj hcg
      rw [← hcB] at lp hcg
      clear hcA hcB hwq
      by_cases hlv : y.1 < yv.1
      · have hcf : cfC y yv < 0 := (cf_lt _ _).2 hlv
        have HN : Hid ((∀ t, a + t < i → X[t]!.1 ≤ y.1) ∧ (∀ t, h ≤ a + t → t < X.length → y.1 < X[t]!.1)) := Lib.hid ⟨HI.out.1, fun t ht ht2 => by
          have h1 := up_get hX (h - a) t (by omega) ht2
          have h2 := HYV.out
          rw [getElem!_pos X _ htY] at h2
          rw [getElem!_pos X t ht2]
          rw [h2] at h1; omega⟩
        generalize cfC y yv = cv at *
        have hcd : decide (cv < 0) = true := decide_eq_true hcf
        clear hlv
        go_wp2_with fail
        go_quiet_grown (first | (go_at_fn 24; refine Calls.grown_of (hcg _ _)))
        go_wp2
        go_roundw
        case rel => exact ⟨i, h, _, _, rfl, by first | rfl | go_num, hi, hih, by omega, CLS.out nq osq, HN⟩
        case measure => simp [intOf]; omega
      · have hcf : ¬ cfC y yv < 0 := fun hc => hlv ((cf_lt _ _).1 hc)
        have HN : Hid ((∀ t, a + t < h + 1 → X[t]!.1 ≤ y.1) ∧ (∀ t, j ≤ a + t → t < X.length → y.1 < X[t]!.1)) := Lib.hid ⟨fun t ht => by
          have h1 := up_get hX t (h - a) (by omega) htY
          have h2 := HYV.out
          rw [getElem!_pos X _ htY] at h2
          rw [getElem!_pos X t (by omega)]
          rw [h2] at h1; omega, HI.out.2⟩
        generalize cfC y yv = cv at *
        have hcd : decide (cv < 0) = false := decide_eq_false hcf
        clear hlv
        go_wp2_with fail
        go_quiet_grown (first | (go_at_fn 24; refine Calls.grown_of (hcg _ _)))
        go_wp2
        go_roundw
        case rel => exact ⟨h + 1, j, _, _, by first | rfl | go_num, rfl, by omega, by omega, hj, CLS.out nq osq, HN⟩
        case measure => simp [intOf]; omega
    · obtain rfl : i = j := by omega
      have x1 : ¬ (i : Int) < (i : Int) := by omega
      have HFIN : Hid (A ++ (X.take (i - a) ++ y :: (X.drop (i - a))) ++ B = A ++ Mg.merge X [y] ++ B) := Lib.hid (by
        have h1 := merge_right y (X.take (i - a)) (X.drop (i - a)) (fun x hx => by
          obtain ⟨t, ht, rfl⟩ := List.mem_iff_getElem.1 hx
          rw [List.length_take] at ht
          have := HI.out.1 t (by omega)
          rw [getElem!_pos X t (by omega)] at this
          simp only [List.getElem_take]
          omega) (fun x hx => by
          obtain ⟨t, ht, rfl⟩ := List.mem_iff_getElem.1 hx
          rw [List.length_drop] at ht
          have := HI.out.2 (i - a + t) (by omega) (by omega)
          rw [getElem!_pos X _ (by omega)] at this
          simp only [List.getElem_drop]
          exact this)
        rw [List.take_append_drop] at h1
        rw [h1])
      have START : Hid (∃ Z : List Mg.C, D = Z.toArray ∧ Z = A ++ X.take X.length ++ y :: (X.drop X.length ++ B)) := Lib.hid ⟨_, HDE.out, by simp⟩
      clear HI D0 D1
      go_wp2_with fail
      go_loopw [17] (fun kv wr => ∃ (s q : Nat) (oq : Array Obj) (Z : Array Mg.C), kv = .int .i64 ((a + s : Nat) : Int) ∧ i ≤ a + s ∧ s ≤ X.length ∧ Z.size = size ∧ wr = sortWorldK encC k w blk off q Z oq ∧ Hid (Z = (A ++ X.take s ++ y :: (X.drop s ++ B)).toArray)) (fun kv _ => (intOf kv).toNat)
      case atStart => exact ⟨X.length, m, oi, D, by rw [← HAL.out.2], by have := HAL.out.2; omega, Nat.le_refl _, hD, rfl, Lib.hid (by obtain ⟨Z, h1, h2⟩ := START.out; rw [h1, h2])⟩
      case round =>
        obtain ⟨s, q, oq, Z, rfl, hsi, hsX, hZ, rfl, HZ⟩ := hrel
        by_cases hlt2 : i < a + s
        · obtain ⟨s, rfl⟩ : ∃ s', s = s' + 1 := ⟨s - 1, by omega⟩
          have hsY : s < X.length := by omega
          have hmX := HAL.out.2
          have HBD : Hid (i ≤ a + s ∧ s ≤ X.length) := Lib.hid ⟨by omega, by omega⟩
          have HN : Hid (swp Z (a + s + 1) (a + s) = (A ++ X.take s ++ y :: (X.drop s ++ B)).toArray) := Lib.hid (by
            have h1 := swp_list2 (A ++ X.take s) (X.drop (s + 1) ++ B) X[s] y
            have e1 : (A ++ X.take s).length = a + s := by rw [List.length_append, List.length_take, HAL.out.1]; omega
            rw [e1] at h1
            rw [HZ.out, List.take_succ_eq_append_getElem hsY, List.drop_eq_getElem_cons hsY]
            simp only [List.append_assoc, List.cons_append, List.nil_append] at h1 ⊢
            exact h1)
          obtain ⟨c, hc⟩ : ∃ c, c = a + s := ⟨_, rfl⟩
          have hcs : a + (s + 1) = c + 1 := by omega
          rw [← hc] at HN
          rw [hcs]
          have HC1 : Hid (((a + s : Nat) : Int) = (c : Int)) := Lib.hid (by omega)
          have yk : ((c + 1 : Nat) : Int) = (c : Int) + 1 := by omega
          rw [yk]
          have x2 : (i : Int) < (c : Int) + 1 := by omega
          have hwp : IntKind.i64.wrap (c : Int) = (c : Int) := by rw [IntKind.wrap_i64]; omega
          have xc0 : (0 : Int) ≤ (c : Int) := by omega
          have xc1 : (c : Int) < (size : Int) := by omega
          have xd0 : (0 : Int) ≤ (c : Int) + 1 := by omega
          have xd1 : (c : Int) + 1 < (size : Int) := by omega
          have ed : ((c : Int) + 1).toNat = c + 1 := by omega
          have hcm : c + 1 ≤ mm := by omega
          clear hc hcs hmX hsY hsX
          obtain ⟨va, hva⟩ : ∃ v, Z[c]! = v := ⟨_, rfl⟩
          obtain ⟨vb, hvb⟩ : ∃ v, Z[c + 1]! = v := ⟨_, rfl⟩
          have hHd : HoldsK encC k (sortWorldK encC k w blk off q Z oq).drew blk off Z := holdsK_sortWorldK_c encC k w blk off d Z q oq HH.out hblk (by rw [hZ, hsz])
          have bnd : ∀ x, x < Z.size → x * k + k ≤ Z.size * k := fun x hx => by
            have := Nat.mul_le_mul_right k (show x + 1 ≤ Z.size from hx); rwa [Nat.add_mul, Nat.one_mul] at this
          have HSWP := Lib.hid (sortWorldK_swp_c encC k w blk off HK.out q Z oq hblk (c + 1) c (by omega) (by omega))
          rw [hva, hvb] at HSWP
          generalize hwq : sortWorldK encC k w blk off q Z oq = wq at *
          have la : Sem.run Tryz.prog (loadCellsFrom ⟨blk, off + c * k, none⟩ 0 k #[]) wq.drew = .ok (encC va).toArray wq.drew := by rw [← hva]; exact run_loadCellsFrom_list Tryz.prog _ _ _ k (HK.out _) (HoldsK.cells hHd HK.out (by omega))
          have lb : Sem.run Tryz.prog (loadCellsFrom ⟨blk, off + (c + 1) * k, none⟩ 0 k #[]) wq.drew = .ok (encC vb).toArray wq.drew := by rw [← hvb]; exact run_loadCellsFrom_list Tryz.prog _ _ _ k (HK.out _) (HoldsK.cells hHd HK.out (by omega))
          have s1 : Sem.run Tryz.prog (storeCells ⟨blk, off + (c + 1) * k, none⟩ (encC va) 0) wq.drew = .ok () (wq.drew.setCells blk (off + (c + 1) * k) (encC va)) := stores_of_holds Tryz.prog hHd ((c + 1) * k) _ (by rw [HK.out, size_flatK]; exact bnd (c + 1) (by omega)) (encC_one _)
          have s2 : Sem.run Tryz.prog (storeCells ⟨blk, off + c * k, none⟩ (encC vb) 0) (wq.drew.setCells blk (off + (c + 1) * k) (encC va)) = .ok () ((wq.drew.setCells blk (off + (c + 1) * k) (encC va)).setCells blk (off + c * k) (encC vb)) :=
            stores_of_holds Tryz.prog (holds_setCells_c hHd ((c + 1) * k) _ (by rw [HK.out, size_flatK]; exact bnd (c + 1) (by omega))) (c * k) _ (by rw [HK.out, size_setMany, size_flatK]; exact bnd c (by omega)) (encC_one _)
          have hsA : (encC va).length = k := HK.out _
          have hsB : (encC vb).length = k := HK.out _
          have hZ2 : (swp Z (c + 1) c).size = size := by rw [size_swp, hZ]
          obtain ⟨cA, hcA⟩ : ∃ c, c = encC va := ⟨_, rfl⟩
          obtain ⟨cB, hcB⟩ : ∃ c, c = encC vb := ⟨_, rfl⟩
          rw [← hcA] at s1 la hsA
          rw [← hcB] at lb hsB
          rw [← hcA, ← hcB] at s2 HSWP
          clear hcA hcB hHd bnd hwq
          go_wp2_with fail
          go_big_region_o
          all_goals go_wp2
          go_roundw
          case rel => exact ⟨s, q + 1, oq, swp Z (c + 1) c, by rw [HC1.out], HBD.out.1, HBD.out.2, hZ2, HSWP.out, HN⟩
          case measure => first | (simp [intOf]; done) | (simp [intOf]; omega)
        · have hlast : a + s = i := by omega
          have x2 : ¬ (i : Int) < ((a + s : Nat) : Int) := by omega
          have HEND : Hid (Z = (A ++ Mg.merge X [y] ++ B).toArray) := Lib.hid (by
            rw [HZ.out, ← HFIN.out, show s = i - a from by omega]; simp)
          clear hlast
          go_wp2
          refine bodyPost_ret (v := .tuple #[]) (by simp [results, Tryz.results56, go_sem]) rfl ?_
          exact ⟨rfl, q, oq, by rw [HEND.out]; simp⟩

end Go.Proofs.YtkgogenmhiclcaaGreatDoor
