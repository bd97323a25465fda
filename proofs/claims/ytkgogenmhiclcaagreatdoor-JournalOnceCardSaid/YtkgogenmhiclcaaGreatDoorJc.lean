/-
  slices.CompactFunc at rows: the walk.
-/
import Derived.Test.YtkgogenmhiclcaaGreatDoorJb
namespace Go.Proofs.YtkgogenmhiclcaaGreatDoor
open Go.RowKit Go.Sort Go.Lib

theorem toA_get (L : List RC) (j : Nat) (h : j < L.length) : (L.toArray)[j]! = L[j] := by
  rw [getElem!_pos _ _ (by simpa using h)]; simp
theorem grown_setCells {w : World} {g : Nat} : ∀ (vs : List Value) (o : Nat) (W : World), w.grownBy W (some g) → w.grownBy (W.setCells g o vs) (some g)
  | [], _, _, h => h
  | v :: r, o, W, h => by
    rw [World.setCells]
    refine grown_setCells r (o + 1) _ ?_
    obtain ⟨h1, h2, h3, h4, h5⟩ := h
    refine ⟨h1, h2, h3, by simpa using h4, fun j hj hne => ?_⟩
    rw [← h5 j hj hne]
    have hjg : g ≠ j := fun e => hne (by rw [e])
    rw [World.setCell]
    simp only [Array.getElem?_modify, hjg, if_false]

/-- what the second loop keeps: the first s are what is kept of the first q; from the place ahead of q on it is as it was -/
structure CI (L : List RC) (Z : Array RC) (q s : Nat) : Prop where
  len : s = (Mg.dedup (L.take q)).length
  low : ∀ j, j < s → Z[j]! = (Mg.dedup (L.take q))[j]!
  high : ∀ j, q ≤ j + 1 → j < L.length → Z[j]! = L[j]!
theorem CI.start (L : List RC) (p : Nat) (hp : p + 2 ≤ L.length) (h1 : Mg.dedup (L.take (p + 2)) = Mg.dedup (L.take (p + 1))) (h0 : Mg.dedup (L.take (p + 1)) = L.take (p + 1)) : CI L L.toArray (p + 2) (p + 1) := by
  refine ⟨by rw [h1, h0, List.length_take]; omega, fun j hj => ?_, fun j _ hj => ?_⟩
  · rw [h1, h0, toA_get L j (by omega), getElem!_pos _ j (by rw [List.length_take]; omega), List.getElem_take]
  · rw [toA_get L j hj, getElem!_pos L j hj]
theorem CI.skip {L : List RC} {Z : Array RC} {q s : Nat} (h : CI L Z q s) (h1 : Mg.dedup (L.take (q + 1)) = Mg.dedup (L.take q)) : CI L Z (q + 1) s :=
  ⟨by rw [h1]; exact h.len, by rw [h1]; exact h.low, fun j hj hl => h.high j (by omega) hl⟩
theorem CI.keep {L : List RC} {Z : Array RC} {q s : Nat} (h : CI L Z q s) (x : RC) (hs : s + 1 ≤ q) (hZ : Z.size = L.length) (hq : q < L.length) (h1 : Mg.dedup (L.take (q + 1)) = Mg.dedup (L.take q) ++ [x]) : CI L (Z.setIfInBounds s x) (q + 1) (s + 1) := by
  refine ⟨by rw [h1, List.length_append, ← h.len]; rfl, fun j hj => ?_, fun j hj hl => ?_⟩
  · rw [h1, getElem!_pos _ j (by simp; omega), getElem!_pos _ j (by rw [List.length_append, ← h.len]; simpa using hj)]
    by_cases e : j = s
    · subst e
      rw [List.getElem_append_right (by rw [← h.len]; exact Nat.le_refl _)]
      simp [← h.len]
    · have hj2 : j < s := by omega
      have h3 := h.low j hj2
      rw [getElem!_pos _ j (by omega), getElem!_pos _ j (by rw [← h.len]; exact hj2)] at h3
      rw [List.getElem_append_left (by rw [← h.len]; exact hj2), ← h3, Array.getElem_setIfInBounds _, if_neg (fun e2 => e e2.symm)]
  · have h3 := h.high j (by omega) hl
    rw [← h3, getElem!_pos _ j (by simp; omega), getElem!_pos _ j (by omega), Array.getElem_setIfInBounds _, if_neg (by omega)]
theorem CI.done {L : List RC} {Z : Array RC} {s : Nat} (h : CI L Z L.length s) (hZ : Z.size = L.length) (hs : s ≤ L.length) : Z.toList.take s = Mg.dedup L := by
  have h1 := h.len
  have h2 := h.low
  rw [List.take_length] at h1 h2
  apply List.ext_getElem
  · rw [List.length_take, ← h1, Array.length_toList, hZ]; omega
  · intro j ha hb
    have h3 := h2 j (by omega)
    rw [getElem!_pos _ j (by omega), getElem!_pos _ j hb] at h3
    rw [List.getElem_take, Array.getElem_toList, h3]

def zeroRow : Array Value := #[.int .i64 0, .string ⟨#[]⟩, .int .i64 0, .int .i64 0, .string ⟨#[]⟩]
theorem zeros_one (n : Nat) : ∀ v ∈ (Builtin.zeroCells zeroRow n).toList, v.oneCell' = true := by
  intro v hv
  simp only [Builtin.zeroCells, Array.toList_map, List.mem_map] at hv
  obtain ⟨i, _, rfl⟩ := hv
  have hm : i % 5 < 5 := by omega
  show (zeroRow[i % 5]!).oneCell' = true
  have : i % 5 = 0 ∨ i % 5 = 1 ∨ i % 5 = 2 ∨ i % 5 = 3 ∨ i % 5 = 4 := by omega
  rcases this with h | h | h | h | h <;> rw [h] <;> rfl
theorem zeros_len (n : Nat) : (Builtin.zeroCells zeroRow n).toList.length = n * 5 := by simp [Builtin.zeroCells, zeroRow]
theorem run_clear_rows (w W : World) (ty : TypeId) (b o n c : Nat) (hn : 0 < n) (hst : Sem.run Tryz.prog (storeCells ⟨b, o, none⟩ (Builtin.zeroCells zeroRow n).toList 0) w = .ok () W) :
    (Builtin.clear_ #[22] ty #[.slice (some ⟨b, o, none⟩) n c]).run Tryz.prog w = .ok (.tuple #[]) W := by
  obtain ⟨m, rfl⟩ : ∃ m, n = m + 1 := ⟨n - 1, by omega⟩
  have h := Tryz.zeroValue37 w
  have hst' : Sem.run Tryz.prog (storeCells ⟨b, o, none⟩ (Builtin.zeroCells (Value.agg zeroRow).cells (m + 1)).toList 0) w = .ok () W := hst
  simp only [zeroRow] at hst'
  simp [Builtin.clear_, run_underlying Tryz.underlying22, h, hst']

set_option maxRecDepth 1000000 in
set_option maxHeartbeats 16000000 in
theorem compact_any (k : Nat) (hk3 : k = 5) (w : World) (blk off cap n : Nat) (L : List RC) (hH : HoldsK encC k w blk off L.toArray) (hblk : blk < w.heap.size) (hn : L.length = n) (hcap : n ≤ cap) (hbig : n < 1152921504606846976) :
    Calls Tryz.prog 25 #[.slice (some ⟨blk, off, none⟩) n cap, .func (.func 26) #[] #[]] w fun e w' =>
      ∃ m, e = .returned (.slice (some ⟨blk, off, none⟩) m cap) ∧ m = (Mg.dedup L).length ∧ m ≤ n ∧ (∃ Z : List RC, Z.take m = Mg.dedup L ∧ Z.length = n ∧ ∃ q os vs, w' = (sortWorldK encC k w blk off q Z.toArray os).setCells blk (off + m * k) vs ∧ m * k + vs.length ≤ n * k) := by
  have mixed : Tryz.prog.follows .mixedOrders = true := by kernel_rfl
  have eg : ∀ args w, (callFunc 26 args).run Tryz.prog w = .ok (.enter 26 args) w := enters_of Tryz.func26 (by kernel_rfl) rfl
  have aE := Tryz.isAgg37
  have zE : ∀ w, (Go.sizeOf 37).run Tryz.prog w = .ok k w := by intro w; rw [hk3]; exact Tryz.sizeOf37 w
  have HK : Hid (∀ x, (encC x).length = k) := Lib.hid (fun x => by rw [hk3]; rfl)
  have HH := Lib.hid hH
  have D0 : Hid (∀ j (h : j < L.length), (L.toArray)[j]! = L[j]) := Lib.hid fun j h => toA_get L j h
  have HT := Lib.hid (fun t h1 ht => Mg.dedup_take L t h1 ht)
  have HN := Lib.hid hn
  have hD : (L.toArray).size = n := by simp [hn]
  clear hk3 hH
  by_cases hs2 : n < 2
  · have x1 : (n : Int) < 2 := by omega
    have HE : Hid (Mg.dedup L = L) := Lib.hid (by
      match L, hn with
      | [], _ => rfl
      | [x], _ => rfl
      | x :: y :: r, h => simp at h; omega)
    have HST := Lib.hid (sortWorldK_start encC k w blk off L.toArray HH.out)
    go_enter Tryz.func25, Tryz.ntmps25
    go_wp2
    go_ret
    exact ⟨n, rfl, by rw [HE.out, HN.out], Nat.le_refl _, L, by rw [HE.out, ← HN.out, List.take_length], HN.out, 0, #[], [], by rw [HST.out]; rfl, by simp⟩
  · have x1 : ¬ (n : Int) < 2 := by omega
    obtain ⟨D, hDe⟩ : ∃ D, D = L.toArray := ⟨_, rfl⟩
    rw [← hDe] at D0 hD HH
    have HDE := Lib.hid hDe
    have HST : Hid (sortWorldK encC k w blk off 0 D #[] = w) := Lib.hid (sortWorldK_start encC k w blk off D HH.out)
    clear hDe hn
    go_enter Tryz.func25, Tryz.ntmps25
    go_wp2_with fail
    go_loopw [5] (fun iv wr => ∃ (p m : Nat) (oi : Array Obj), iv = .int .i64 ((p : Int) + 1) ∧ p + 1 ≤ n ∧ wr = sortWorldK encC k w blk off m D oi ∧ Hid (Mg.dedup (L.take (p + 1)) = L.take (p + 1))) (fun iv _ => n - (intOf iv).toNat)
    case atStart => exact ⟨0, 0, #[], rfl, by omega, HST.out.symm, Lib.hid (Mg.dedup_one L (by rw [HN.out]; omega))⟩
    case round =>
      obtain ⟨p, m, oi, rfl, hp, rfl, HI⟩ := hrel
      by_cases hlt : p + 1 < n
      · have y1 : (p : Int) + 1 < (n : Int) := by omega
        have y2 : (0 : Int) ≤ (p : Int) + 1 := by omega
        have y3 : (0 : Int) ≤ (p : Int) := by omega
        have y4 : (p : Int) < (n : Int) := by omega
        have ep : ((p : Int) + 1).toNat = p + 1 := by omega
        have hwp : IntKind.i64.wrap (p : Int) = (p : Int) := by rw [IntKind.wrap_i64]; omega
        obtain ⟨xv, hxv⟩ : ∃ x, L[p + 1]'(by rw [HN.out]; omega) = x := ⟨_, rfl⟩
        obtain ⟨yv, hyv⟩ : ∃ y, L[p]'(by rw [HN.out]; omega) = y := ⟨_, rfl⟩
        have hx2 : D[p + 1]! = xv := by rw [D0.out _ (by rw [HN.out]; omega), hxv]
        have hy2 : D[p]! = yv := by rw [D0.out _ (by rw [HN.out]; omega), hyv]
        have HT1 := Lib.hid (HT.out (p + 1) (by omega) (by rw [HN.out]; omega))
        simp only [Nat.add_sub_cancel, hxv, hyv] at HT1
        have HTK : Hid (L.take (p + 1 + 1) = L.take (p + 1) ++ [xv]) := Lib.hid (by rw [List.take_succ_eq_append_getElem (by rw [HN.out]; omega), hxv])
        have hcls : ∀ n' os', grow ((sortWorldK encC k w blk off m D oi).drewN n') os' = sortWorldK encC k w blk off (m + n') D (oi ++ os') := fun n' os' => sortWorldK_grown_c encC k w blk off m n' D oi os'
        have hHc : ∀ n' os', HoldsK encC k (grow ((sortWorldK encC k w blk off m D oi).drewN n') os') blk off D := fun n' os' => by rw [hcls]; exact holdsK_sortWorldK_c encC k w blk off D D _ _ HH.out hblk rfl
        have l1 : ∀ n' os', Sem.run Tryz.prog (loadCellsFrom ⟨blk, off + (p + 1) * k, none⟩ 0 k #[]) (grow ((sortWorldK encC k w blk off m D oi).drewN n') os') = .ok (encC xv).toArray (grow ((sortWorldK encC k w blk off m D oi).drewN n') os') := fun n' os' => by
          rw [← hx2]; exact run_loadCellsFrom_list Tryz.prog _ _ _ k (HK.out _) (HoldsK.cells (hHc n' os') HK.out (by omega))
        have l0 : ∀ n' os', Sem.run Tryz.prog (loadCellsFrom ⟨blk, off + p * k, none⟩ 0 k #[]) (grow ((sortWorldK encC k w blk off m D oi).drewN n') os') = .ok (encC yv).toArray (grow ((sortWorldK encC k w blk off m D oi).drewN n') os') := fun n' os' => by
          rw [← hy2]; exact run_loadCellsFrom_list Tryz.prog _ _ _ k (HK.out _) (HoldsK.cells (hHc n' os') HK.out (by omega))
        have hcg : ∀ n' os', Calls Tryz.prog 26 #[.agg (encC xv).toArray, .agg (encC yv).toArray] (grow ((sortWorldK encC k w blk off m D oi).drewN n') os') fun e w' => e = .returned (.bool (decide (xv.1 = yv.1))) ∧ ∃ q os'', w' = grow ((grow ((sortWorldK encC k w blk off m D oi).drewN n') os').drewN q) os'' := fun n' os' => eqf_grow xv yv _
        have CLS := Lib.hid hcls
        clear hcls hHc hx2 hy2 hxv hyv
        generalize hwq : sortWorldK encC k w blk off m D oi = wq at l1 l0 hcg CLS ⊢
        obtain ⟨cA, hcA⟩ : ∃ c, c = encC xv := ⟨_, rfl⟩
        obtain ⟨cB, hcB⟩ : ∃ c, c = encC yv := ⟨_, rfl⟩
        rw [← hcA] at l1 hcg
        rw [← hcB] at l0 hcg
        clear hcA hcB hwq
        by_cases heq : xv.1 = yv.1
        · rw [if_pos heq, List.append_nil] at HT1
          have hb : decide (xv.1 = yv.1) = true := decide_eq_true heq
          rw [hb] at hcg
          clear hb heq
          go_wp2_with fail
          go_quiet_grown (first | (go_at_fn 26; refine Calls.grown_of (hcg _ _)))
          go_wp2_with fail
          have HST0 : Hid (∃ Z : Array RC, Z.size = n ∧ grow (wq.drewN nq) osq = sortWorldK encC k w blk off (m + nq) Z (oi ++ osq) ∧ CI L Z (p + 0 + 2) (p + 1)) := Lib.hid ⟨D, hD, CLS.out nq osq, by rw [HDE.out]; exact CI.start L p (by rw [HN.out]; omega) HT1.out HI.out⟩
          generalize grow (wq.drewN nq) osq = wb at *
          generalize m + nq = m0 at *
          generalize oi ++ osq = oi0 at *
          clear CLS hcg l1 l0 HT1 HTK HI
          obtain ⟨b2, hb2⟩ : ∃ b2, b2 = off + (p + 1) * k := ⟨_, rfl⟩
          obtain ⟨n2, hn2⟩ : ∃ n2, n2 = n - (p + 1) := ⟨_, rfl⟩
          obtain ⟨c2, hc2⟩ : ∃ c2, c2 = cap - (p + 1) := ⟨_, rfl⟩
          rw [← hb2, ← hn2, ← hc2]
          have HB2 := Lib.hid hb2
          have hn3 : n2 ≤ n - (p + 1) ∧ n - (p + 1) ≤ n2 := by omega
          clear hb2 hc2 hn2 ep hwp y1 y2 y3 y4
          go_loopw [5, 7] (fun sv tv wr => ∃ (t s m' : Nat) (oi' : Array Obj) (Z : Array RC), sv = .int .i64 s ∧ tv = .int .i64 ((t : Int) + 1) ∧ p + t + 2 ≤ n ∧ s ≤ p + t + 1 ∧ Z.size = n ∧ wr = sortWorldK encC k w blk off m' Z oi' ∧ Hid (CI L Z (p + t + 2) s)) (fun _ tv _ => n - (intOf tv).toNat)
          case atStart =>
            obtain ⟨Z, z1, z2, z3⟩ := HST0.out
            exact ⟨0, p + 1, m0, oi0, Z, by first | rfl | go_num, rfl, by omega, by omega, z1, z2, Lib.hid z3⟩
          case round =>
            clear HST0
            obtain ⟨t, s, m, oi, Z, rfl, rfl, hpt, hsp, hZ, rfl, HCI⟩ := hrel
            by_cases hlt2 : p + t + 2 < n
            · have y1 : (t : Int) + 1 < (n2 : Int) := by omega
              have y2 : (0 : Int) ≤ (t : Int) + 1 := by omega
              have y3 : (0 : Int) ≤ (t : Int) := by omega
              have y4 : (t : Int) < (n2 : Int) := by omega
              have y5 : (0 : Int) ≤ (s : Int) := by omega
              have y6 : (s : Int) < (n : Int) := by omega
              have ep : ((t : Int) + 1).toNat = t + 1 := by omega
              have hwp : IntKind.i64.wrap (t : Int) = (t : Int) := by rw [IntKind.wrap_i64]; omega
              have hql : p + t + 2 < L.length := by rw [HN.out]; exact hlt2
              obtain ⟨xv, hxv⟩ : ∃ x, L[p + t + 2] = x := ⟨_, rfl⟩
              obtain ⟨yv, hyv⟩ : ∃ y, L[p + t + 1] = y := ⟨_, rfl⟩
              have hx2 : Z[p + t + 2]! = xv := by rw [HCI.out.high _ (by omega) hql, getElem!_pos L _ hql, hxv]
              have hy2 : Z[p + t + 1]! = yv := by rw [HCI.out.high _ (by omega) (by omega), getElem!_pos L _ (by omega), hyv]
              have HT1 := Lib.hid (HT.out (p + t + 2) (by omega) hql)
              simp only [Nat.add_succ_sub_one, hxv, hyv] at HT1
              have HKEEP : Hid (Mg.dedup (L.take (p + t + 2 + 1)) = Mg.dedup (L.take (p + t + 2)) ++ [xv] → CI L (Z.setIfInBounds s xv) (p + t + 2 + 1) (s + 1)) := Lib.hid fun e => HCI.out.keep xv (by omega) (by rw [hZ, HN.out]) hql e
              have hcls : ∀ n' os', grow ((sortWorldK encC k w blk off m Z oi).drewN n') os' = sortWorldK encC k w blk off (m + n') Z (oi ++ os') := fun n' os' => sortWorldK_grown_c encC k w blk off m n' Z oi os'
              have hHc : ∀ n' os', HoldsK encC k (grow ((sortWorldK encC k w blk off m Z oi).drewN n') os') blk off Z := fun n' os' => by rw [hcls]; exact holdsK_sortWorldK_c encC k w blk off D Z _ _ HH.out hblk (by rw [hZ, hD])
              have ea : b2 + (t + 1) * k = off + (p + t + 2) * k := by rw [HB2.out, Nat.add_assoc, ← Nat.add_mul]; congr 2; omega
              have eb : b2 + t * k = off + (p + t + 1) * k := by rw [HB2.out, Nat.add_assoc, ← Nat.add_mul]; congr 2; omega
              have l1 : ∀ n' os', Sem.run Tryz.prog (loadCellsFrom ⟨blk, b2 + (t + 1) * k, none⟩ 0 k #[]) (grow ((sortWorldK encC k w blk off m Z oi).drewN n') os') = .ok (encC xv).toArray (grow ((sortWorldK encC k w blk off m Z oi).drewN n') os') := fun n' os' => by
                rw [ea, ← hx2]; exact run_loadCellsFrom_list Tryz.prog _ _ _ k (HK.out _) (HoldsK.cells (hHc n' os') HK.out (by omega))
              have l0 : ∀ n' os', Sem.run Tryz.prog (loadCellsFrom ⟨blk, b2 + t * k, none⟩ 0 k #[]) (grow ((sortWorldK encC k w blk off m Z oi).drewN n') os') = .ok (encC yv).toArray (grow ((sortWorldK encC k w blk off m Z oi).drewN n') os') := fun n' os' => by
                rw [eb, ← hy2]; exact run_loadCellsFrom_list Tryz.prog _ _ _ k (HK.out _) (HoldsK.cells (hHc n' os') HK.out (by omega))
              have bnd : s * k + k ≤ Z.size * k := by have := Nat.mul_le_mul_right k (show s + 1 ≤ Z.size by omega); rwa [Nat.add_mul, Nat.one_mul] at this
              have s1 : ∀ n' os', Sem.run Tryz.prog (storeCells ⟨blk, off + s * k, none⟩ (encC xv) 0) (grow ((sortWorldK encC k w blk off m Z oi).drewN n') os') = .ok () ((grow ((sortWorldK encC k w blk off m Z oi).drewN n') os').setCells blk (off + s * k) (encC xv)) := fun n' os' => stores_of_holds Tryz.prog (hHc n' os') (s * k) _ (by rw [HK.out, size_flatK]; exact bnd) (encC_one _)
              have hcg : ∀ n' os', Calls Tryz.prog 26 #[.agg (encC xv).toArray, .agg (encC yv).toArray] (grow ((sortWorldK encC k w blk off m Z oi).drewN n') os') fun e w' => e = .returned (.bool (decide (xv.1 = yv.1))) ∧ ∃ q os'', w' = grow ((grow ((sortWorldK encC k w blk off m Z oi).drewN n') os').drewN q) os'' := fun n' os' => eqf_grow xv yv _
              have CLS := Lib.hid hcls
              have CLT : Hid (∀ n' os', (grow ((sortWorldK encC k w blk off m Z oi).drewN n') os').setCells blk (off + s * k) (encC xv) = sortWorldK encC k w blk off (m + n') (Z.setIfInBounds s xv) (oi ++ os')) := Lib.hid fun n' os' => by rw [hcls]; exact sortWorldK_set encC k HK.out w blk off _ _ _ hblk s xv (by omega)
              have hcsz : (encC xv).length = k := HK.out _
              clear hcls hHc hx2 hy2 hxv hyv ea eb bnd
              generalize hwq : sortWorldK encC k w blk off m Z oi = wq at l1 l0 s1 hcg CLS CLT ⊢
              obtain ⟨cA, hcA⟩ : ∃ c, c = encC xv := ⟨_, rfl⟩
              obtain ⟨cB, hcB⟩ : ∃ c, c = encC yv := ⟨_, rfl⟩
              rw [← hcA] at l1 hcg s1 CLT hcsz
              rw [← hcB] at l0 hcg
              clear hcA hcB hwq
              by_cases heq : xv.1 = yv.1
              · rw [if_pos heq, List.append_nil] at HT1
                have hb : decide (xv.1 = yv.1) = true := decide_eq_true heq
                rw [hb] at hcg
                clear hb heq s1 CLT HKEEP
                go_wp2_with fail
                go_quiet_grown (first | (go_at_fn 26; refine Calls.grown_of (hcg _ _)))
                go_wp2
                go_roundw
                case rel => exact ⟨t + 1, s, _, _, Z, rfl, by first | rfl | go_num, by omega, by omega, hZ, CLS.out nq osq, Lib.hid (HCI.out.skip HT1.out)⟩
                case measure => simp [intOf]; omega
              · rw [if_neg heq] at HT1
                have hb : decide (xv.1 = yv.1) = false := decide_eq_false heq
                rw [hb] at hcg
                clear hb heq
                go_wp2_with fail
                go_quiet_grown (first | (go_at_fn 26; refine Calls.grown_of (hcg _ _)))
                have l1' := l1 nq osq
                have s1' := s1 nq osq
                have CLT' := Lib.hid (CLT.out nq osq)
                clear l1 l0 s1 CLT CLS hcg
                generalize grow (wq.drewN nq) osq = wz at *
                go_wp2
                go_roundw
                case rel => exact ⟨t + 1, s + 1, _, _, _, by first | rfl | go_num, by first | rfl | go_num, by omega, by omega, by simpa using hZ, CLT'.out, Lib.hid (HKEEP.out HT1.out)⟩
                case measure => simp [intOf]; omega
            · have hpe : p + t + 2 = n := by omega
              have y1 : ¬ (t : Int) + 1 < (n2 : Int) := by omega
              have y2 : (0 : Int) ≤ (s : Int) := by omega
              have y3 : (s : Int) ≤ (n : Int) := by omega
              have y4 : (s : Int) ≤ (cap : Int) := by omega
              have hDone : Hid (Z.toList.take s = Mg.dedup L) := Lib.hid ((show CI L Z L.length s from by rw [HN.out, ← hpe]; exact HCI.out).done (by rw [hZ, HN.out]) (by rw [HN.out]; omega))
              have hLen : Hid (s = (Mg.dedup L).length) := Lib.hid (by have := HCI.out.len; rw [hpe, ← HN.out, List.take_length] at this; exact this)
              have hHc : HoldsK encC k (sortWorldK encC k w blk off m Z oi) blk off Z := holdsK_sortWorldK encC k w blk off m D Z oi hblk HH.out (by rw [hZ, hD])
              have hk5 : k = 5 := by rw [← HK.out default]; rfl
              have bnd : s * k + (n - s) * 5 ≤ Z.size * k := by rw [hZ, hk5, ← Nat.add_mul]; exact Nat.mul_le_mul_right _ (by omega)
              have s1 : Sem.run Tryz.prog (storeCells ⟨blk, off + s * k, none⟩ (Builtin.zeroCells zeroRow (n - s)).toList 0) (sortWorldK encC k w blk off m Z oi) = .ok () ((sortWorldK encC k w blk off m Z oi).setCells blk (off + s * k) (Builtin.zeroCells zeroRow (n - s)).toList) := stores_of_holds Tryz.prog hHc (s * k) _ (by rw [zeros_len, size_flatK]; exact bnd) (zeros_one _)
              have hcl : ∀ ty, (Builtin.clear_ #[22] ty #[.slice (some ⟨blk, off + s * k, none⟩) (n - s) (cap - s)]).run Tryz.prog (sortWorldK encC k w blk off m Z oi) = .ok (.tuple #[]) ((sortWorldK encC k w blk off m Z oi).setCells blk (off + s * k) (Builtin.zeroCells zeroRow (n - s)).toList) := fun ty => run_clear_rows _ _ ty _ _ _ _ (by omega) s1
              have HFIN : Hid (∃ Z' : List RC, Z'.take s = Mg.dedup L ∧ Z'.length = n ∧ ∃ q os vs, (sortWorldK encC k w blk off m Z oi).setCells blk (off + s * k) (Builtin.zeroCells zeroRow (n - s)).toList = (sortWorldK encC k w blk off q Z'.toArray os).setCells blk (off + s * k) vs ∧ s * k + vs.length ≤ n * k) :=
                Lib.hid ⟨Z.toList, hDone.out, by rw [Array.length_toList, hZ], m, oi, _, by rw [Array.toArray_toList], by rw [zeros_len]; rw [hZ] at bnd; exact bnd⟩
              clear hHc hk5 bnd s1 hpe
              generalize (sortWorldK encC k w blk off m Z oi).setCells blk (off + s * k) (Builtin.zeroCells zeroRow (n - s)).toList = wf at *
              generalize sortWorldK encC k w blk off m Z oi = wq at *
              go_wp2
              go_ret
              exact ⟨s, rfl, hLen.out, by omega, HFIN.out⟩
        · rw [if_neg heq] at HT1
          have hb : decide (xv.1 = yv.1) = false := decide_eq_false heq
          rw [hb] at hcg
          clear hb heq
          go_wp2_with fail
          go_quiet_grown (first | (go_at_fn 26; refine Calls.grown_of (hcg _ _)))
          go_wp2
          go_roundw
          case rel => exact ⟨p + 1, _, _, by first | rfl | go_num, by omega, CLS.out nq osq, Lib.hid (by rw [HT1.out, HI.out, HTK.out])⟩
          case measure => simp [intOf]; omega
      · have hpe : p + 1 = n := by omega
        have y1 : ¬ (p : Int) + 1 < (n : Int) := by omega
        have HE : Hid (Mg.dedup L = L) := Lib.hid (by
          have h1 := HI.out
          rw [hpe, ← HN.out, List.take_length] at h1
          exact h1)
        go_wp2
        go_ret
        exact ⟨n, rfl, by rw [HE.out, HN.out], Nat.le_refl _, L, by rw [HE.out, ← HN.out, List.take_length], HN.out, m, oi, [], by rw [HDE.out]; rfl, by simp⟩

end Go.Proofs.YtkgogenmhiclcaaGreatDoor
