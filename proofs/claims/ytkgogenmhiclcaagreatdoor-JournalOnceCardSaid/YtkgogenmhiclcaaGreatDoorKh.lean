/-
  The calls' sort: two rows merged in place, whole.
-/
import Derived.Test.YtkgogenmhiclcaaGreatDoorKg
namespace Go.Proofs.YtkgogenmhiclcaaGreatDoor
open Go.RowKit Go.Sort Go.Lib

set_option maxRecDepth 1000000 in
set_option maxHeartbeats 16000000 in
theorem symm_step (k : Nat) (hk3 : k = 5) (w : World) (blk off cap size : Nat) (d : Array Mg.C) (hH : HoldsK encC k w blk off d) (hblk : blk < w.heap.size) (hsz : d.size = size) (hbig : size < 2305843009213693951)
    (A X Y B : List Mg.C) (n : Nat) (os : Array Obj) (hs : (A ++ X ++ Y ++ B).length = size) (hX : Mg.Up X) (hY : Mg.Up Y) (hX2 : 2 ≤ X.length) (hY2 : 2 ≤ Y.length) (IH : SymmFor k w blk off cap size (X.length + Y.length)) :
    Calls Tryz.prog 56 #[.slice (some ⟨blk, off, none⟩) size cap, .int .i64 A.length, .int .i64 ((A.length + X.length : Nat) : Int), .int .i64 ((A.length + X.length + Y.length : Nat) : Int), .func (.func 24) #[] #[]] (sortWorldK encC k w blk off n (A ++ X ++ Y ++ B).toArray os) fun e w' =>
      e = .returned (.tuple #[]) ∧ ∃ n' os', w' = sortWorldK encC k w blk off n' (A ++ Mg.merge X Y ++ B).toArray os' := by
  obtain ⟨T, hTe⟩ : ∃ T, T = A ++ Mg.merge X Y ++ B := ⟨_, rfl⟩
  rw [← hTe]
  have HT := Lib.hid hTe
  clear hTe
  have mixed : Tryz.prog.follows .mixedOrders = true := by kernel_rfl
  have eg : ∀ args w, (callFunc 24 args).run Tryz.prog w = .ok (.enter 24 args) w := enters_of Tryz.func24 (by kernel_rfl) rfl
  have aE := Tryz.isAgg37
  have zE : ∀ w, (Go.sizeOf 37).run Tryz.prog w = .ok k w := by intro w; rw [hk3]; exact Tryz.sizeOf37 w
  have HK : Hid (∀ x, (encC x).length = k) := Lib.hid (fun x => by rw [hk3]; rfl)
  have HH := Lib.hid hH
  have hlen : A.length + X.length + Y.length + B.length = size := by rw [← hs]; simp; omega
  have HROT : Hid (RotFor k w blk off cap size) :=
    Lib.hid (fun A' X' Y' B' n os h1 h2 h3 => rotate_any k hk3 w blk off cap size _ d n os hH hblk A' X' Y' B' (by rw [h1, hsz]) hsz h2 h3 (by omega))
  have HIH := Lib.hid IH
  obtain ⟨a, hal⟩ : ∃ a, a = A.length := ⟨_, rfl⟩
  obtain ⟨m, hml⟩ : ∃ m, m = A.length + X.length := ⟨_, rfl⟩
  obtain ⟨b, hbl⟩ : ∃ b, b = A.length + X.length + Y.length := ⟨_, rfl⟩
  have HAL : Hid (A.length = a ∧ X.length = m - a ∧ Y.length = b - m ∧ b + B.length = size) := Lib.hid (by omega)
  have ham : a + 2 ≤ m := by omega
  have hmb : m + 2 ≤ b := by omega
  have hbs : b ≤ size := by omega
  rw [← hbl, ← hml, ← hal]
  clear hk3 hH hlen IH hal hml hbl hX2 hY2
  obtain ⟨mid, hmd⟩ : ∃ mid, mid = (a + b) / 2 := ⟨_, rfl⟩
  have HMID : Hid (((a : Int) + (b : Int)) / 2 = (mid : Int)) := Lib.hid (by omega)
  have hab0 : (0 : Int) ≤ (a : Int) + (b : Int) := by omega
  have hab1 : (a : Int) + (b : Int) < 9223372036854775808 := by omega
  have y2 : (((m : Int) - (a : Int)) == 1) = false := by simp; omega
  have y3 : (((b : Int) - (m : Int)) == 1) = false := by simp; omega
  have DX : Hid (∀ t, a ≤ t → t < m → (A ++ X ++ Y ++ B).toArray[t]! = X[t - a]!) := Lib.hid (by
    obtain ⟨e1, e2, e3, e4⟩ := HAL.out
    intro t h1 h2
    rw [getElem!_pos _ _ (by simp; omega), getElem!_pos X _ (by omega)]
    simp only [List.getElem_toArray]
    rw [List.getElem_append_left (by simp; omega), List.getElem_append_left (by simp; omega), List.getElem_append_right (by omega)]
    congr 1; omega)
  have DY : Hid (∀ t, m ≤ t → t < b → (A ++ X ++ Y ++ B).toArray[t]! = Y[t - m]!) := Lib.hid (by
    obtain ⟨e1, e2, e3, e4⟩ := HAL.out
    intro t h1 h2
    rw [getElem!_pos _ _ (by simp; omega), getElem!_pos Y _ (by omega)]
    simp only [List.getElem_toArray]
    rw [List.getElem_append_left (by simp; omega), List.getElem_append_right (by simp; omega)]
    congr 1; simp; omega)
  have hD : ((A ++ X ++ Y ++ B).toArray).size = size := by rw [← hs]; simp
  have HS := Lib.hid hs
  clear hs
  obtain ⟨D, hDe⟩ : ∃ D, D = (A ++ X ++ Y ++ B).toArray := ⟨_, rfl⟩
  rw [← hDe] at DX DY hD ⊢
  have HDE := Lib.hid hDe
  clear hDe
  obtain ⟨nn, hnn⟩ : ∃ nn, nn = mid + m := ⟨_, rfl⟩
  have HNN : Hid ((mid : Int) + (m : Int) = (nn : Int)) := Lib.hid (by omega)
  -- where the search begins, and ends at most
  obtain ⟨lo, hi, hlo, hmm⟩ : ∃ lo hi : Nat, (lo = if mid < m then nn - b else a) ∧ (hi = if mid < m then mid else m) := ⟨_, _, rfl, rfl⟩
  have hcase : (mid < m ∧ lo = nn - b ∧ hi = mid ∧ b ≤ nn) ∨ (m ≤ mid ∧ lo = a ∧ hi = m) := by
    by_cases hq : mid < m
    · rw [if_pos hq] at hlo hmm; left; omega
    · rw [if_neg hq] at hlo hmm; right; omega
  have hr0 : a ≤ lo ∧ lo ≤ hi ∧ hi ≤ m ∧ nn ≤ b + lo ∧ hi + m ≤ nn ∧ hi ≤ mid := by omega
  obtain ⟨hr1, hr2, hr3, hr4, hr5, hr6⟩ := hr0
  have HCASE := Lib.hid hcase
  clear hlo hmm
  rcases hcase with ⟨hq, hq1, hq2, hq3⟩ | ⟨hq, hq1, hq2⟩
  all_goals
    first
      | (have yq : ((a : Int) + (b : Int)) / 2 < (m : Int) := by omega
         skip)
      | (have yq : ¬ ((a : Int) + (b : Int)) / 2 < (m : Int) := by omega
         skip)
    have HMD := Lib.hid hmd
    have HNND := Lib.hid hnn
    clear hmd hnn
    go_enter Tryz.func56, Tryz.ntmps56
    go_wp2_with fail
    rw [HMID.out]
    rw [HNN.out]
    obtain ⟨pp, hpp⟩ : ∃ pp, pp = nn - 1 := ⟨_, rfl⟩
    have yp : (nn : Int) - 1 = (pp : Int) := by omega
    rw [yp]
    have hpn : pp + 1 = nn := by omega
    clear hpp yp
    go_loopw [20, 21] (fun iv jv wr => ∃ (s r q : Nat) (oq : Array Obj), iv = .int .i64 s ∧ jv = .int .i64 r ∧ lo ≤ s ∧ s ≤ r ∧ r ≤ hi ∧ wr = sortWorldK encC k w blk off q D oq ∧ Hid ((∀ c, lo ≤ c → c < s → X[c - a]!.1 ≤ Y[pp - c - m]!.1) ∧ (∀ c, r ≤ c → c < hi → Y[pp - c - m]!.1 < X[c - a]!.1))) (fun iv jv _ => (intOf jv).toNat - (intOf iv).toNat)
    case atStart => exact ⟨lo, hi, n, os, by first | rfl | (congr 1; omega), by first | rfl | (congr 1; omega), Nat.le_refl _, hr2, Nat.le_refl _, rfl, Lib.hid ⟨fun c h1 h2 => by omega, fun c h1 h2 => by omega⟩⟩
    case round =>
      obtain ⟨s, r, q, oq, rfl, rfl, hs1, hs2, hs3, rfl, HI⟩ := hrel
      by_cases hlt : s < r
      · have x1 : (s : Int) < (r : Int) := by omega
        obtain ⟨c, hcc⟩ : ∃ c, c = (s + r) / 2 := ⟨_, rfl⟩
        have hmid2 : ((s : Int) + (r : Int)) / 2 = (c : Int) := by omega
        have hc1 : s ≤ c := by omega
        have hc2 : c < r := by omega
        obtain ⟨pc, hpc⟩ : ∃ pc, pc = pp - c := ⟨_, rfl⟩
        have hpb : m ≤ pc ∧ pc < b ∧ pc + c = pp := by omega
        obtain ⟨hp1, hp2, hp3⟩ := hpb
        have ypc : (pp : Int) - (c : Int) = (pc : Int) := by omega
        have hwp : IntKind.i64.wrap (pc : Int) = (pc : Int) := by rw [IntKind.wrap_i64]; omega
        have xc0 : (0 : Int) ≤ (c : Int) := by omega
        have xc1 : (c : Int) < (size : Int) := by omega
        have xp0 : (0 : Int) ≤ (pc : Int) := by omega
        have xp1 : (pc : Int) < (size : Int) := by omega
        obtain ⟨yv, hyv2⟩ : ∃ yv, X[c - a]! = yv := ⟨_, rfl⟩
        obtain ⟨yq, hyq2⟩ : ∃ yq, Y[pc - m]! = yq := ⟨_, rfl⟩
        have hyv : D[c]! = yv := by rw [← hyv2]; exact DX.out c (by omega) (by omega)
        have hyq : D[pc]! = yq := by rw [← hyq2]; exact DY.out pc hp1 hp2
        have HL := HAL.out
        have HLESS : Hid (yq.1 < yv.1 → ∀ c', c ≤ c' → c' < hi → Y[pp - c' - m]!.1 < X[c' - a]!.1) := Lib.hid (fun hq' c' h1 h2 => by
          have g1 := up_get hX (c - a) (c' - a) (by omega) (by omega)
          have g2 := up_get hY (pp - c' - m) (pc - m) (by omega) (by omega)
          rw [getElem!_pos X _ (by omega)] at hyv2 ⊢
          rw [getElem!_pos Y _ (by omega)] at hyq2 ⊢
          rw [hyv2] at g1; rw [hyq2] at g2; omega)
        have HMORE : Hid (¬ yq.1 < yv.1 → ∀ c', lo ≤ c' → c' < c + 1 → X[c' - a]!.1 ≤ Y[pp - c' - m]!.1) := Lib.hid (fun hq' c' h1 h2 => by
          have g1 := up_get hX (c' - a) (c - a) (by omega) (by omega)
          have g2 := up_get hY (pc - m) (pp - c' - m) (by omega) (by omega)
          rw [getElem!_pos X _ (by omega)] at hyv2 ⊢
          rw [getElem!_pos Y _ (by omega)] at hyq2 ⊢
          rw [hyv2] at g1; rw [hyq2] at g2; omega)
        clear hcc hpc hyv2 hyq2 HL
        have hcls : ∀ n' os', grow ((sortWorldK encC k w blk off q D oq).drewN n') os' = sortWorldK encC k w blk off (q + n') D (oq ++ os') := fun n' os' => sortWorldK_grown_c encC k w blk off q n' D oq os'
        have hHc : ∀ n' os', HoldsK encC k (grow ((sortWorldK encC k w blk off q D oq).drewN n') os') blk off D := fun n' os' => by rw [hcls]; exact holdsK_sortWorldK_c encC k w blk off d D _ _ HH.out hblk (by rw [hD, hsz])
        have lj : ∀ n' os', Sem.run Tryz.prog (loadCellsFrom ⟨blk, off + c * k, none⟩ 0 k #[]) (grow ((sortWorldK encC k w blk off q D oq).drewN n') os') = .ok (encC yv).toArray (grow ((sortWorldK encC k w blk off q D oq).drewN n') os') := fun n' os' => by
          rw [← hyv]; exact run_loadCellsFrom_list Tryz.prog _ _ _ k (HK.out _) (HoldsK.cells (hHc n' os') HK.out (by omega))
        have lp : ∀ n' os', Sem.run Tryz.prog (loadCellsFrom ⟨blk, off + pc * k, none⟩ 0 k #[]) (grow ((sortWorldK encC k w blk off q D oq).drewN n') os') = .ok (encC yq).toArray (grow ((sortWorldK encC k w blk off q D oq).drewN n') os') := fun n' os' => by
          rw [← hyq]; exact run_loadCellsFrom_list Tryz.prog _ _ _ k (HK.out _) (HoldsK.cells (hHc n' os') HK.out (by omega))
        have hcg : ∀ n' os', Calls Tryz.prog 24 #[.agg (encC yq).toArray, .agg (encC yv).toArray] (grow ((sortWorldK encC k w blk off q D oq).drewN n') os') fun e w' => e = .returned (.int .i64 (cfC yq yv)) ∧ ∃ q' os'', w' = grow ((grow ((sortWorldK encC k w blk off q D oq).drewN n') os').drewN q') os'' := fun n' os' => cmp_any yq yv _
        have CLS := Lib.hid hcls
        clear hcls hHc hyv hyq
        generalize hwq : sortWorldK encC k w blk off q D oq = wq at lj lp hcg CLS ⊢
        have hcA : ∃ c, c = encC yv := ⟨_, rfl⟩
        have hcB : ∃ c, c = encC yq := ⟨_, rfl⟩
        obtain ⟨cA, hcA⟩ := hcA
        obtain ⟨cB, hcB⟩ := hcB
        rw [← hcA] at lj hcg
        rw [← hcB] at lp hcg
        clear hcA hcB hwq
        by_cases hlv : yq.1 < yv.1
        · have hcf : cfC yq yv < 0 := (cf_lt _ _).2 hlv
          have HN := Lib.hid (And.intro HI.out.1 (HLESS.out hlv))
          generalize cfC yq yv = cv at *
          have hcd : decide (cv < 0) = true := decide_eq_true hcf
          clear hlv
          go_wp2_with fail
          go_quiet_grown (first | (go_at_fn 24; refine Calls.grown_of (hcg _ _)))
          go_wp2
          go_roundw
          case rel => exact ⟨s, c, _, _, rfl, by first | rfl | go_num, hs1, hc1, by omega, CLS.out nq osq, HN⟩
          case measure => first | (simp [intOf]; done) | (simp [intOf]; omega)
        · have hcf : ¬ cfC yq yv < 0 := fun hc => hlv ((cf_lt _ _).1 hc)
          have HN := Lib.hid (And.intro (HMORE.out hlv) HI.out.2)
          generalize cfC yq yv = cv at *
          have hcd : decide (cv < 0) = false := decide_eq_false hcf
          clear hlv
          go_wp2_with fail
          go_quiet_grown (first | (go_at_fn 24; refine Calls.grown_of (hcg _ _)))
          go_wp2
          go_roundw
          case rel => exact ⟨c + 1, r, _, _, by first | rfl | go_num, rfl, by omega, by omega, hs3, CLS.out nq osq, HN⟩
          case measure => first | (simp [intOf]; done) | (simp [intOf]; omega)
      · obtain rfl : s = r := by omega
        have x1 : ¬ (s : Int) < (s : Int) := by omega
        obtain ⟨e, he⟩ : ∃ e, e = nn - s := ⟨_, rfl⟩
        have ye : (nn : Int) - (s : Int) = (e : Int) := by omega
        have HSE := Lib.hid HI.out
        have hfin := HNND.out
        have hmid2 := HMD.out
        have hb2 : m ≤ e ∧ e ≤ b ∧ a ≤ s ∧ s ≤ m ∧ s + (e - m) = mid ∧ pp + 1 = nn ∧ a < mid ∧ mid < b := by omega
        obtain ⟨he1, he2, he3, he4, he5, he6, he7, he8⟩ := hb2
        have hL := HAL.out
        have hcs := HCASE.out
        have hIH2 : SymmFor k w blk off cap size (b - a) := by
          have : X.length + Y.length = b - a := by omega
          rw [← this]; exact HIH.out
        obtain ⟨L1, L2, z1, z2, z3, z4, z5, z6⟩ := symm_end k w blk off cap size A X Y B T D HDE.out HT.out hX hY a m b mid s e hL.1 hL.2.1 hL.2.2.1 hL.2.2.2 he1 he2 he3 he4 he5 ham hmb he7 he8 (fun g1 g2 => by
          have := HSE.out.1 (s - 1) (by omega) (by omega)
          rwa [show pp - (s - 1) - m = e - m from by omega] at this) (fun g1 g2 => by
          have := HSE.out.2 s (Nat.le_refl _) (by omega)
          rwa [show pp - s - m = e - 1 - m from by omega] at this) HROT.out hIH2
        have Z1 := Lib.hid z1
        have Z2 := Lib.hid z2
        have Z3 := Lib.hid z3
        have Z4 := Lib.hid z4
        have Z5 := Lib.hid z5
        have Z6 := Lib.hid z6
        clear z1 z2 z3 z4 z5 z6 hIH2 hcs hL he HI hfin hmid2
        by_cases c1 : s < m
        · skip
          by_cases c2 : m < e
          · skip
            by_cases c3 : a < s
            · skip
              by_cases c4 : e < b
              · skip
                have ga : (s : Int) < (m : Int) := by omega
                have gb : (m : Int) < (e : Int) := by omega
                have gc : (a : Int) < (s : Int) := by omega
                have gd : (s : Int) < (mid : Int) := by omega
                have ge : (mid : Int) < (e : Int) := by omega
                have gf : (e : Int) < (b : Int) := by omega
                have HQ1 := Lib.hid (Z1.out (And.intro (by omega) (by omega)))
                go_wp2_with fail
                refine (HQ1.out _ _).mono ?_
                rintro e1' w1' ⟨rfl, q1, oq1, rfl⟩
                have HQ2 := Lib.hid (Z3.out (And.intro (by omega) (by omega)))
                go_wp2_with fail
                refine (HQ2.out _ _).mono ?_
                rintro e2' w2' ⟨rfl, q2, oq2, rfl⟩
                have HQ3 := Lib.hid (Z5.out (And.intro (by omega) (by omega)))
                go_wp2_with fail
                refine (HQ3.out _ _).mono ?_
                rintro e3' w3' ⟨rfl, q3, oq3, rfl⟩
                go_wp2
                go_end0
                exact ⟨rfl, q3, oq3, rfl⟩
              · skip
                have ga : (s : Int) < (m : Int) := by omega
                have gb : (m : Int) < (e : Int) := by omega
                have gc : (a : Int) < (s : Int) := by omega
                have gd : (s : Int) < (mid : Int) := by omega
                have ge : (mid : Int) < (e : Int) := by omega
                have gf : ¬ (e : Int) < (b : Int) := by omega
                have HQ1 := Lib.hid (Z1.out (And.intro (by omega) (by omega)))
                go_wp2_with fail
                refine (HQ1.out _ _).mono ?_
                rintro e1' w1' ⟨rfl, q1, oq1, rfl⟩
                have HQ2 := Lib.hid (Z3.out (And.intro (by omega) (by omega)))
                go_wp2_with fail
                refine (HQ2.out _ _).mono ?_
                rintro e2' w2' ⟨rfl, q2, oq2, rfl⟩
                have HE2 := Z6.out (by omega)
                rw [HE2]
                clear HE2
                go_wp2
                go_end0
                exact ⟨rfl, q2, oq2, rfl⟩
            · skip
              by_cases c4 : e < b
              · skip
                have ga : (s : Int) < (m : Int) := by omega
                have gb : (m : Int) < (e : Int) := by omega
                have gc : ¬ (a : Int) < (s : Int) := by omega
                have gd : (s : Int) < (mid : Int) := by omega
                have ge : (mid : Int) < (e : Int) := by omega
                have gf : (e : Int) < (b : Int) := by omega
                have HQ1 := Lib.hid (Z1.out (And.intro (by omega) (by omega)))
                go_wp2_with fail
                refine (HQ1.out _ _).mono ?_
                rintro e1' w1' ⟨rfl, q1, oq1, rfl⟩
                have HE1 := Z4.out (by omega)
                rw [HE1]
                clear HE1
                have HQ3 := Lib.hid (Z5.out (And.intro (by omega) (by omega)))
                go_wp2_with fail
                refine (HQ3.out _ _).mono ?_
                rintro e3' w3' ⟨rfl, q3, oq3, rfl⟩
                go_wp2
                go_end0
                exact ⟨rfl, q3, oq3, rfl⟩
              · skip
                have ga : (s : Int) < (m : Int) := by omega
                have gb : (m : Int) < (e : Int) := by omega
                have gc : ¬ (a : Int) < (s : Int) := by omega
                have gd : (s : Int) < (mid : Int) := by omega
                have ge : (mid : Int) < (e : Int) := by omega
                have gf : ¬ (e : Int) < (b : Int) := by omega
                have HQ1 := Lib.hid (Z1.out (And.intro (by omega) (by omega)))
                go_wp2_with fail
                refine (HQ1.out _ _).mono ?_
                rintro e1' w1' ⟨rfl, q1, oq1, rfl⟩
                have HE1 := Z4.out (by omega)
                rw [HE1]
                clear HE1
                have HE2 := Z6.out (by omega)
                rw [HE2]
                clear HE2
                go_wp2
                go_end0
                exact ⟨rfl, q1, oq1, rfl⟩
          · skip
            by_cases c3 : a < s
            · skip
              have ga : (s : Int) < (m : Int) := by omega
              have gb : ¬ (m : Int) < (e : Int) := by omega
              have gc : (a : Int) < (s : Int) := by omega
              have gd : ¬ (s : Int) < (mid : Int) := by omega
              have ge : (mid : Int) < (e : Int) := by omega
              have gf : (e : Int) < (b : Int) := by omega
              have HE0 := Z2.out (by omega)
              rw [HE0]
              clear HE0
              have HE1 := Z4.out (by omega)
              rw [HE1]
              clear HE1
              have HQ3 := Lib.hid (Z5.out (And.intro (by omega) (by omega)))
              go_wp2_with fail
              refine (HQ3.out _ _).mono ?_
              rintro e3' w3' ⟨rfl, q3, oq3, rfl⟩
              go_wp2
              go_end0
              exact ⟨rfl, q3, oq3, rfl⟩
            · skip
              have ga : (s : Int) < (m : Int) := by omega
              have gb : ¬ (m : Int) < (e : Int) := by omega
              have gc : ¬ (a : Int) < (s : Int) := by omega
              have gd : ¬ (s : Int) < (mid : Int) := by omega
              have ge : (mid : Int) < (e : Int) := by omega
              have gf : (e : Int) < (b : Int) := by omega
              have HE0 := Z2.out (by omega)
              rw [HE0]
              clear HE0
              have HE1 := Z4.out (by omega)
              rw [HE1]
              clear HE1
              have HQ3 := Lib.hid (Z5.out (And.intro (by omega) (by omega)))
              go_wp2_with fail
              refine (HQ3.out _ _).mono ?_
              rintro e3' w3' ⟨rfl, q3, oq3, rfl⟩
              go_wp2
              go_end0
              exact ⟨rfl, q3, oq3, rfl⟩
        · skip
          by_cases c2 : m < e
          · skip
            by_cases c4 : e < b
            · skip
              have ga : ¬ (s : Int) < (m : Int) := by omega
              have gb : (m : Int) < (e : Int) := by omega
              have gc : (a : Int) < (s : Int) := by omega
              have gd : (s : Int) < (mid : Int) := by omega
              have ge : ¬ (mid : Int) < (e : Int) := by omega
              have gf : (e : Int) < (b : Int) := by omega
              have HE0 := Z2.out (by omega)
              rw [HE0]
              clear HE0
              have HQ2 := Lib.hid (Z3.out (And.intro (by omega) (by omega)))
              go_wp2_with fail
              refine (HQ2.out _ _).mono ?_
              rintro e2' w2' ⟨rfl, q2, oq2, rfl⟩
              have HE2 := Z6.out (by omega)
              rw [HE2]
              clear HE2
              have gx : decide (mid < e) = false := by simp; omega
              clear ge ye hq1 hq2 hr1 hr2 hr3 hr4 hr5 hr6 hpn yq y2 y3 ham hmb hbs gf ga gb gc gd he1 he2 he3 he4 he5 he6 he7 he8 hq hs1 hs2 hs3 c1 c2 c4 x1 HDE HS hD DX DY HROT HIH HAL Z1 Z2 Z3 Z4 Z5 Z6 HNND HMD HCASE HSE HT HNN HQ2
              go_wp2
              go_end0
              exact ⟨rfl, q2, oq2, rfl⟩
            · skip
              have ga : ¬ (s : Int) < (m : Int) := by omega
              have gb : (m : Int) < (e : Int) := by omega
              have gc : (a : Int) < (s : Int) := by omega
              have gd : (s : Int) < (mid : Int) := by omega
              have ge : ¬ (mid : Int) < (e : Int) := by omega
              have gf : ¬ (e : Int) < (b : Int) := by omega
              have HE0 := Z2.out (by omega)
              rw [HE0]
              clear HE0
              have HQ2 := Lib.hid (Z3.out (And.intro (by omega) (by omega)))
              go_wp2_with fail
              refine (HQ2.out _ _).mono ?_
              rintro e2' w2' ⟨rfl, q2, oq2, rfl⟩
              have HE2 := Z6.out (by omega)
              rw [HE2]
              clear HE2
              have gx : decide (mid < e) = false := by simp; omega
              clear ge ye hq1 hq2 hr1 hr2 hr3 hr4 hr5 hr6 hpn yq y2 y3 ham hmb hbs gf ga gb gc gd he1 he2 he3 he4 he5 he6 he7 he8 hq hs1 hs2 hs3 c1 c2 c4 x1 HDE HS hD DX DY HROT HIH HAL Z1 Z2 Z3 Z4 Z5 Z6 HNND HMD HCASE HSE HT HNN HQ2
              go_wp2
              go_end0
              exact ⟨rfl, q2, oq2, rfl⟩
          · skip
            have ga : ¬ (s : Int) < (m : Int) := by omega
            have gb : ¬ (m : Int) < (e : Int) := by omega
            have gc : (a : Int) < (s : Int) := by omega
            have gd : ¬ (s : Int) < (mid : Int) := by omega
            have ge : ¬ (mid : Int) < (e : Int) := by omega
            have gf : (e : Int) < (b : Int) := by omega
            have HE0 := Z2.out (by omega)
            rw [HE0]
            clear HE0
            have HE1 := Z4.out (by omega)
            rw [HE1]
            clear HE1
            have HE2 := Z6.out (by omega)
            rw [HE2]
            clear HE2
            go_wp2
            go_end0
            exact ⟨rfl, q, oq, rfl⟩

end Go.Proofs.YtkgogenmhiclcaaGreatDoor
