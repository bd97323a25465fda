/-
  The calls' sort: two rows merged in place.
-/
import Derived.Test.YtkgogenmhiclcaaGreatDoorKd
import Derived.BigQuiet
namespace Go.Proofs.YtkgogenmhiclcaaGreatDoor
open Go.RowKit Go.Sort Go.Lib

theorem merge_left (x : Mg.C) (Y1 Y2 : List Mg.C) (h1 : ∀ y ∈ Y1, y.1 < x.1) (h2 : ∀ y ∈ Y2, ¬ y.1 < x.1) : Mg.merge [x] (Y1 ++ Y2) = Y1 ++ x :: Y2 := by
  have e1 := Mg.merge_app [] [x] Y1 Y2 (by simp) (fun y hy z hz => by simp at hz; subst hz; exact h1 y hy)
  have e2 := Mg.merge_app [x] [] [] Y2 (fun z hz y hy => by simp at hz; subst hz; have := h2 y hy; omega) (by simp)
  simp only [List.nil_append, List.append_nil, Mg.nil_merge, Mg.merge_nil] at e1 e2
  rw [e1, e2]; simp
theorem merge_right (y : Mg.C) (X1 X2 : List Mg.C) (h1 : ∀ x ∈ X1, ¬ y.1 < x.1) (h2 : ∀ x ∈ X2, y.1 < x.1) : Mg.merge (X1 ++ X2) [y] = X1 ++ y :: X2 := by
  have e1 := Mg.merge_app X1 X2 [] [y] (fun x hx z hz => by simp at hz; subst hz; have := h1 x hx; omega) (by simp)
  have e2 := Mg.merge_app [] X2 [y] [] (by simp) (fun z hz x hx => by simp at hz; subst hz; exact h2 x hx)
  simp only [List.nil_append, List.append_nil, Mg.nil_merge, Mg.merge_nil] at e1 e2
  rw [e1, e2]; simp
theorem up_get {Y : List Mg.C} (h : Mg.Up Y) (i j : Nat) (hij : i ≤ j) (hj : j < Y.length) : (Y[i]'(by omega)).1 ≤ Y[j].1 := by
  induction Y generalizing i j with
  | nil => simp at hj
  | cons y r ih =>
    cases i with
    | zero =>
      cases j with
      | zero => exact Int.le_refl _
      | succ j => exact h.1 _ (List.getElem_mem _)
    | succ i =>
      cases j with
      | zero => omega
      | succ j => exact ih h.2 i j (by omega) (by simpa using hj)

set_option maxRecDepth 1000000 in
set_option maxHeartbeats 16000000 in
theorem symm_left (k : Nat) (hk3 : k = 5) (w : World) (blk off cap size : Nat) (d : Array Mg.C) (hH : HoldsK encC k w blk off d) (hblk : blk < w.heap.size) (hsz : d.size = size) (hbig : size < 4611686018427387904)
    (A Y B : List Mg.C) (x : Mg.C) (n : Nat) (os : Array Obj) (hs : (A ++ [x] ++ Y ++ B).length = size) (hY : Mg.Up Y) :
    Calls Tryz.prog 56 #[.slice (some ⟨blk, off, none⟩) size cap, .int .i64 A.length, .int .i64 ((A.length + 1 : Nat) : Int), .int .i64 ((A.length + 1 + Y.length : Nat) : Int), .func (.func 24) #[] #[]] (sortWorldK encC k w blk off n (A ++ [x] ++ Y ++ B).toArray os) fun e w' =>
      e = .returned (.tuple #[]) ∧ ∃ n' os', w' = sortWorldK encC k w blk off n' (A ++ Mg.merge [x] Y ++ B).toArray os' := by
  have mixed : Tryz.prog.follows .mixedOrders = true := by kernel_rfl
  have eg : ∀ args w, (callFunc 24 args).run Tryz.prog w = .ok (.enter 24 args) w := enters_of Tryz.func24 (by kernel_rfl) rfl
  have aE := Tryz.isAgg37
  have zE : ∀ w, (Go.sizeOf 37).run Tryz.prog w = .ok k w := by intro w; rw [hk3]; exact Tryz.sizeOf37 w
  have HK : Hid (∀ x, (encC x).length = k) := Lib.hid (fun x => by rw [hk3]; rfl)
  have HH := Lib.hid hH
  have hlen : A.length + 1 + Y.length + B.length = size := by rw [← hs]; simp; omega
  have HLS := Lib.hid hlen
  obtain ⟨a, hal⟩ : ∃ a, a = A.length := ⟨_, rfl⟩
  obtain ⟨b, hbl⟩ : ∃ b, b = A.length + 1 + Y.length := ⟨_, rfl⟩
  have hab : a + 1 ≤ b := by omega
  have hbs : b ≤ size := by omega
  rw [← hbl, ← hal]
  have HAL : Hid (A.length = a ∧ b = a + 1 + Y.length) := Lib.hid ⟨hal.symm, by omega⟩
  clear hk3 hH hs hlen hal hbl
  have y1 : ((a + 1 : Nat) : Int) = (a : Int) + 1 := by omega
  rw [y1]
  have y2 : (a : Int) + 1 - (a : Int) = 1 := by omega
  have D0 : Hid (∀ t, t < Y.length → (A ++ [x] ++ Y ++ B).toArray[a + 1 + t]! = Y[t]!) := Lib.hid (by
    intro t ht
    rw [← HAL.out.1, getElem!_pos _ _ (by simp; omega), getElem!_pos Y t ht]
    simp only [List.getElem_toArray]
    rw [List.getElem_append_left (by simp; omega), List.getElem_append_right (by simp)]
    congr 1; simp)
  have D1 : Hid ((A ++ [x] ++ Y ++ B).toArray[a]! = x) := Lib.hid (by
    rw [← HAL.out.1]
    have := get_mid A (Y ++ B) x
    simp at this ⊢)
  have hD : ((A ++ [x] ++ Y ++ B).toArray).size = size := by rw [← HLS.out]; simp; omega
  obtain ⟨D, hDe⟩ : ∃ D, D = (A ++ [x] ++ Y ++ B).toArray := ⟨_, rfl⟩
  rw [← hDe] at D0 D1 hD ⊢
  have HDE := Lib.hid hDe
  clear hDe
  go_enter Tryz.func56, Tryz.ntmps56
  go_wp2_with fail
  go_loopw [10, 11] (fun iv jv wr => ∃ (i j m : Nat) (oi : Array Obj), iv = .int .i64 i ∧ jv = .int .i64 j ∧ a + 1 ≤ i ∧ i ≤ j ∧ j ≤ b ∧ wr = sortWorldK encC k w blk off m D oi ∧ Hid ((∀ t, a + 1 + t < i → Y[t]!.1 < x.1) ∧ (∀ t, j ≤ a + 1 + t → t < Y.length → x.1 ≤ Y[t]!.1))) (fun iv jv _ => (intOf jv).toNat - (intOf iv).toNat)
  case atStart => exact ⟨a + 1, b, n, os, by first | rfl | go_num, rfl, Nat.le_refl _, hab, Nat.le_refl _, rfl, Lib.hid ⟨fun t ht => by omega, fun t ht ht2 => by have := HAL.out.2; omega⟩⟩
  case round =>
    obtain ⟨i, j, m, oi, rfl, rfl, hi, hij, hj, rfl, HI⟩ := hrel
    by_cases hlt : i < j
    · have x1 : (i : Int) < (j : Int) := by omega
      obtain ⟨h, hh⟩ : ∃ h, h = (i + j) / 2 := ⟨_, rfl⟩
      have hmid : ((i : Int) + (j : Int)) / 2 = (h : Int) := by omega
      have hih : i ≤ h := by omega
      have hhj : h < j := by omega
      have xh0 : (0 : Int) ≤ (h : Int) := by omega
      have xh1 : (h : Int) < (size : Int) := by omega
      have xa0 : (0 : Int) ≤ (a : Int) := by omega
      have xa1 : (a : Int) < (size : Int) := by omega
      have htY : h - (a + 1) < Y.length := by have := HAL.out.2; omega
      have hyv : D[h]! = Y[h - (a + 1)]! := by have := D0.out (h - (a + 1)) htY; rwa [show a + 1 + (h - (a + 1)) = h from by omega] at this
      obtain ⟨yv, hyv2⟩ : ∃ yv, Y[h - (a + 1)]! = yv := ⟨_, rfl⟩
      rw [hyv2] at hyv
      have HYV := Lib.hid hyv2
      have hxv := D1.out
      have hcls : ∀ n' os', grow ((sortWorldK encC k w blk off m D oi).drewN n') os' = sortWorldK encC k w blk off (m + n') D (oi ++ os') := fun n' os' => sortWorldK_grown_c encC k w blk off m n' D oi os'
      have hHc : ∀ n' os', HoldsK encC k (grow ((sortWorldK encC k w blk off m D oi).drewN n') os') blk off D := fun n' os' => by rw [hcls]; exact holdsK_sortWorldK_c encC k w blk off d D _ _ HH.out hblk (by rw [hD, hsz])
      have lj : ∀ n' os', Sem.run Tryz.prog (loadCellsFrom ⟨blk, off + h * k, none⟩ 0 k #[]) (grow ((sortWorldK encC k w blk off m D oi).drewN n') os') = .ok (encC yv).toArray (grow ((sortWorldK encC k w blk off m D oi).drewN n') os') := fun n' os' => by
        rw [← hyv]; exact run_loadCellsFrom_list Tryz.prog _ _ _ k (HK.out _) (HoldsK.cells (hHc n' os') HK.out (by omega))
      have lp : ∀ n' os', Sem.run Tryz.prog (loadCellsFrom ⟨blk, off + a * k, none⟩ 0 k #[]) (grow ((sortWorldK encC k w blk off m D oi).drewN n') os') = .ok (encC x).toArray (grow ((sortWorldK encC k w blk off m D oi).drewN n') os') := fun n' os' => by
        rw [← hxv]; exact run_loadCellsFrom_list Tryz.prog _ _ _ k (HK.out _) (HoldsK.cells (hHc n' os') HK.out (by omega))
      have hcg : ∀ n' os', Calls Tryz.prog 24 #[.agg (encC yv).toArray, .agg (encC x).toArray] (grow ((sortWorldK encC k w blk off m D oi).drewN n') os') fun e w' => e = .returned (.int .i64 (cfC yv x)) ∧ ∃ q os'', w' = grow ((grow ((sortWorldK encC k w blk off m D oi).drewN n') os').drewN q) os'' := fun n' os' => cmp_any yv x _
      have CLS := Lib.hid hcls
      clear hcls hHc hyv hyv2 hxv hh
      generalize hwq : sortWorldK encC k w blk off m D oi = wq at lj lp hcg CLS ⊢
      have hcA : ∃ c, c = encC yv := ⟨_, rfl⟩
      have hcB : ∃ c, c = encC x := ⟨_, rfl⟩
      obtain ⟨cA, hcA⟩ := hcA
      obtain ⟨cB, hcB⟩ := hcB
      rw [← hcA] at lj hcg
      rw [← hcB] at lp hcg
      clear hcA hcB hwq
      by_cases hlv : yv.1 < x.1
      · have hcf : cfC yv x < 0 := (cf_lt _ _).2 hlv
        have HN : Hid ((∀ t, a + 1 + t < h + 1 → Y[t]!.1 < x.1) ∧ (∀ t, j ≤ a + 1 + t → t < Y.length → x.1 ≤ Y[t]!.1)) := Lib.hid ⟨fun t ht => by
          have h1 := up_get hY t (h - (a + 1)) (by omega) htY
          have h2 := HYV.out
          rw [getElem!_pos Y _ htY] at h2
          rw [getElem!_pos Y t (by omega)]
          rw [h2] at h1; omega, HI.out.2⟩
        generalize cfC yv x = cv at *
        clear hlv
        go_wp2_with fail
        go_quiet_grown (first | (go_at_fn 24; refine Calls.grown_of (hcg _ _)))
        go_wp2
        go_roundw
        case rel => exact ⟨h + 1, j, _, _, by first | rfl | go_num, rfl, by omega, by omega, hj, CLS.out nq osq, HN⟩
        case measure => simp [intOf]; omega
      · have hcf : ¬ cfC yv x < 0 := fun hc => hlv ((cf_lt _ _).1 hc)
        have HN : Hid ((∀ t, a + 1 + t < i → Y[t]!.1 < x.1) ∧ (∀ t, h ≤ a + 1 + t → t < Y.length → x.1 ≤ Y[t]!.1)) := Lib.hid ⟨HI.out.1, fun t ht ht2 => by
          have h1 := up_get hY (h - (a + 1)) t (by omega) ht2
          have h2 := HYV.out
          rw [getElem!_pos Y _ htY] at h2
          rw [getElem!_pos Y t ht2]
          rw [h2] at h1; omega⟩
        generalize cfC yv x = cv at *
        clear hlv
        go_wp2_with fail
        go_quiet_grown (first | (go_at_fn 24; refine Calls.grown_of (hcg _ _)))
        go_wp2
        go_roundw
        case rel => exact ⟨i, h, _, _, rfl, by first | rfl | go_num, hi, hih, by omega, CLS.out nq osq, HN⟩
        case measure => simp [intOf]; omega
    · obtain rfl : i = j := by omega
      have x1 : ¬ (i : Int) < (i : Int) := by omega
      have HFIN : Hid (A ++ (Y.take (i - (a + 1)) ++ x :: (Y.drop (i - (a + 1)))) ++ B = A ++ Mg.merge [x] Y ++ B) := Lib.hid (by
        have h1 := merge_left x (Y.take (i - (a + 1))) (Y.drop (i - (a + 1))) (fun y hy => by
          obtain ⟨t, ht, rfl⟩ := List.mem_iff_getElem.1 hy
          rw [List.length_take] at ht
          have := HI.out.1 t (by omega)
          rw [getElem!_pos Y t (by omega)] at this
          simpa using this) (fun y hy => by
          obtain ⟨t, ht, rfl⟩ := List.mem_iff_getElem.1 hy
          rw [List.length_drop] at ht
          have := HI.out.2 (i - (a + 1) + t) (by omega) (by omega)
          rw [getElem!_pos Y _ (by omega)] at this
          simp only [List.getElem_drop]
          omega)
        rw [List.take_append_drop] at h1
        rw [h1])
      have START : Hid (∃ Z : List Mg.C, D = Z.toArray ∧ Z = A ++ Y.take 0 ++ x :: (Y.drop 0 ++ B)) := Lib.hid ⟨_, HDE.out, by simp⟩
      clear HI D0 D1
      go_wp2_with fail
      go_loopw [13] (fun kv wr => ∃ (s q : Nat) (oq : Array Obj) (Z : Array Mg.C), kv = .int .i64 ((a + s : Nat) : Int) ∧ a + 1 + s ≤ i ∧ Z.size = size ∧ wr = sortWorldK encC k w blk off q Z oq ∧ Hid (Z = (A ++ Y.take s ++ x :: (Y.drop s ++ B)).toArray)) (fun kv _ => i - (intOf kv).toNat)
      case atStart => exact ⟨0, m, oi, D, by first | rfl | go_num, by omega, hD, rfl, Lib.hid (by obtain ⟨Z, h1, h2⟩ := START.out; rw [h1, h2])⟩
      case round =>
        obtain ⟨s, q, oq, Z, rfl, hsi, hZ, rfl, HZ⟩ := hrel
        by_cases hlt2 : a + 1 + s < i
        · have hsY : s < Y.length := by have := HAL.out.2; omega
          have HN : Hid (swp Z (a + s) (a + s + 1) = (A ++ Y.take (s + 1) ++ x :: (Y.drop (s + 1) ++ B)).toArray) := Lib.hid (by
            have h1 := swp_list (A ++ Y.take s) [] (Y.drop (s + 1) ++ B) x Y[s]
            have e1 : (A ++ Y.take s).length = a + s := by rw [List.length_append, List.length_take, HAL.out.1]; omega
            rw [e1] at h1
            rw [HZ.out, List.drop_eq_getElem_cons hsY]
            simp only [List.nil_append, List.length_nil, Nat.add_zero] at h1
            rw [List.cons_append, h1, List.take_succ_eq_append_getElem hsY]
            simp only [List.append_assoc, List.cons_append, List.nil_append])
          obtain ⟨c, hc⟩ : ∃ c, c = a + s := ⟨_, rfl⟩
          have hcs : a + (s + 1) = c + 1 := by omega
          rw [← hc] at HN ⊢
          have HC1 : Hid (((a + (s + 1) : Nat) : Int) = (c : Int) + 1) := Lib.hid (by omega)
          have x2 : (c : Int) < (i : Int) - 1 := by omega
          have xc0 : (0 : Int) ≤ (c : Int) := by omega
          have xc1 : (c : Int) < (size : Int) := by omega
          have xd0 : (0 : Int) ≤ (c : Int) + 1 := by omega
          have xd1 : (c : Int) + 1 < (size : Int) := by omega
          have ed : ((c : Int) + 1).toNat = c + 1 := by omega
          have hm1 : i - (c + 1) < i - c := by omega
          clear hc hcs
          obtain ⟨va, hva⟩ : ∃ v, Z[c]! = v := ⟨_, rfl⟩
          obtain ⟨vb, hvb⟩ : ∃ v, Z[c + 1]! = v := ⟨_, rfl⟩
          have hHd : HoldsK encC k (sortWorldK encC k w blk off q Z oq).drew blk off Z := holdsK_sortWorldK_c encC k w blk off d Z q oq HH.out hblk (by rw [hZ, hsz])
          have bnd : ∀ x, x < Z.size → x * k + k ≤ Z.size * k := fun x hx => by
            have := Nat.mul_le_mul_right k (show x + 1 ≤ Z.size from hx); rwa [Nat.add_mul, Nat.one_mul] at this
          have HSWP := Lib.hid (sortWorldK_swp_c encC k w blk off HK.out q Z oq hblk c (c + 1) (by omega) (by omega))
          rw [hva, hvb] at HSWP
          generalize hwq : sortWorldK encC k w blk off q Z oq = wq at *
          have la : Sem.run Tryz.prog (loadCellsFrom ⟨blk, off + c * k, none⟩ 0 k #[]) wq.drew = .ok (encC va).toArray wq.drew := by rw [← hva]; exact run_loadCellsFrom_list Tryz.prog _ _ _ k (HK.out _) (HoldsK.cells hHd HK.out (by omega))
          have lb : Sem.run Tryz.prog (loadCellsFrom ⟨blk, off + (c + 1) * k, none⟩ 0 k #[]) wq.drew = .ok (encC vb).toArray wq.drew := by rw [← hvb]; exact run_loadCellsFrom_list Tryz.prog _ _ _ k (HK.out _) (HoldsK.cells hHd HK.out (by omega))
          have s1 : Sem.run Tryz.prog (storeCells ⟨blk, off + c * k, none⟩ (encC vb) 0) wq.drew = .ok () (wq.drew.setCells blk (off + c * k) (encC vb)) := stores_of_holds Tryz.prog hHd (c * k) _ (by rw [HK.out, size_flatK]; exact bnd c (by omega)) (encC_one _)
          have s2 : Sem.run Tryz.prog (storeCells ⟨blk, off + (c + 1) * k, none⟩ (encC va) 0) (wq.drew.setCells blk (off + c * k) (encC vb)) = .ok () ((wq.drew.setCells blk (off + c * k) (encC vb)).setCells blk (off + (c + 1) * k) (encC va)) :=
            stores_of_holds Tryz.prog (holds_setCells_c hHd (c * k) _ (by rw [HK.out, size_flatK]; exact bnd c (by omega))) ((c + 1) * k) _ (by rw [HK.out, size_setMany, size_flatK]; exact bnd (c + 1) (by omega)) (encC_one _)
          have hsA : (encC va).length = k := HK.out _
          have hsB : (encC vb).length = k := HK.out _
          have hZ2 : (swp Z c (c + 1)).size = size := by rw [size_swp, hZ]
          obtain ⟨cA, hcA⟩ : ∃ c, c = encC va := ⟨_, rfl⟩
          obtain ⟨cB, hcB⟩ : ∃ c, c = encC vb := ⟨_, rfl⟩
          rw [← hcA] at la hsA
          rw [← hcB] at s1 lb hsB
          rw [← hcA, ← hcB] at s2 HSWP
          clear hcA hcB hHd bnd hwq
          go_wp2_with fail
          go_big_region_o
          all_goals go_wp2
          go_roundw
          case rel => exact ⟨s + 1, q + 1, oq, swp Z c (c + 1), by rw [HC1.out], by omega, hZ2, HSWP.out, HN⟩
          case measure => simp [intOf]; omega
        · have hlast : a + 1 + s = i := by omega
          have x2 : ¬ ((a + s : Nat) : Int) < (i : Int) - 1 := by omega
          have HEND : Hid (Z = (A ++ Mg.merge [x] Y ++ B).toArray) := Lib.hid (by
            rw [HZ.out, ← HFIN.out, show s = i - (a + 1) from by omega]; simp)
          clear hlast
          go_wp2
          refine bodyPost_ret (v := .tuple #[]) (by simp [results, Tryz.results56, go_sem]) rfl ?_
          exact ⟨rfl, q, oq, by rw [HEND.out]; simp⟩

end Go.Proofs.YtkgogenmhiclcaaGreatDoor
