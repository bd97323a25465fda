/-
  The calls' sort, at any number.
-/
import Derived.Test.YtkgogenmhiclcaaGreatDoorKh
import Derived.Test.YtkgogenmhiclcaaGreatDoorKi
import Derived.Shelf.SlSortFuncK.ComposeK
namespace Go.Proofs.YtkgogenmhiclcaaGreatDoor
open Go.RowKit Go.Sort Go.Lib

theorem SymmFor.mono {k : Nat} {w : World} {blk off cap size t t' : Nat} (h : SymmFor k w blk off cap size t) (ht : t' ≤ t) : SymmFor k w blk off cap size t' :=
  fun A X Y B n os h1 => h A X Y B n os (Nat.lt_of_lt_of_le h1 ht)
theorem symm_any (k : Nat) (hk3 : k = 5) (w : World) (blk off cap size : Nat) (d : Array Mg.C) (hH : HoldsK encC k w blk off d) (hblk : blk < w.heap.size) (hsz : d.size = size) (hbig : size < 2305843009213693951) : ∀ t, SymmFor k w blk off cap size t := by
  intro t
  induction t with
  | zero => intro A X Y B n os ht; exact absurd ht (by omega)
  | succ t ih =>
    intro A X Y B n os ht hX0 hY0 hs hX hY
    by_cases hX1 : X.length = 1
    · obtain ⟨x, rfl⟩ := List.length_eq_one_iff.1 hX1
      exact symm_left k hk3 w blk off cap size d hH hblk hsz (by omega) A Y B x n os hs hY
    · by_cases hY1 : Y.length = 1
      · obtain ⟨y, rfl⟩ := List.length_eq_one_iff.1 hY1
        exact symm_right k hk3 w blk off cap size d hH hblk hsz (by omega) A X B y n os hs hX (by omega)
      · exact symm_step k hk3 w blk off cap size d hH hblk hsz hbig A X Y B n os hs hX hY (by omega) (by omega) (ih.mono (by omega))

theorem Mg.take_two (k : Nat) (R : List Mg.C) : R.take k ++ (R.drop k).take k = R.take (2 * k) := by
  rw [show 2 * k = k + k from by omega, List.take_add]
theorem Mg.srt_take (k : Nat) (hk : 0 < k) (P R : List Mg.C) : P ++ Mg.srt k R = P ++ Mg.isort (R.take k) ++ Mg.srt k (R.drop k) := by
  rw [Mg.srt_step k hk R, List.append_assoc]
theorem Mg.srt_two (k : Nat) (hk : 0 < k) (P R : List Mg.C) : P ++ Mg.srt k R = P ++ Mg.isort (R.take k) ++ Mg.isort ((R.drop k).take k) ++ Mg.srt k (R.drop (2 * k)) := by
  rw [Mg.srt_take k hk P R, Mg.srt_step k hk (R.drop k), List.drop_drop, show k + k = 2 * k from by omega, List.append_assoc, List.append_assoc, List.append_assoc]
theorem Mg.merge_two (k : Nat) (R : List Mg.C) : Mg.merge (Mg.isort (R.take k)) (Mg.isort ((R.drop k).take k)) = Mg.isort (R.take (2 * k)) := by
  rw [Mg.merge_isort, Mg.take_two]

/-- where the first loop stands -/
structure StA (L : List Mg.C) (size i : Nat) (P R : List Mg.C) : Prop where
  eq : P ++ Mg.srt 20 R = Mg.srt 20 L
  len : P.length = i
  all : i + R.length = size
/-- where the inner loop stands -/
structure StB (L : List Mg.C) (size k i : Nat) (P R : List Mg.C) : Prop where
  eq : P ++ Mg.srt (2 * k) R = Mg.srt (2 * k) L
  len : P.length = i
  all : i + R.length = size

theorem ins_call (k : Nat) (hk3 : k = 5) (w : World) (blk off cap size : Nat) (d : Array Mg.C) (hH : HoldsK encC k w blk off d) (hblk : blk < w.heap.size) (hsz : d.size = size) (hbig : size < 2305843009213693951) (P X R : List Mg.C) (n : Nat) (os : Array Obj) (hl : (P ++ X ++ R).length = size) (a b : Int) (ha : a = P.length) (hb : b = (P.length + X.length : Nat)) (D : List Mg.C) (hD : D = P ++ X ++ R) :
    Calls Tryz.prog 55 #[.slice (some ⟨blk, off, none⟩) size cap, .int .i64 a, .int .i64 b, .func (.func 24) #[] #[]] (sortWorldK encC k w blk off n D.toArray os) fun e w' => e = .returned (.tuple #[]) ∧ ∃ n' os', w' = sortWorldK encC k w blk off n' (P ++ Mg.isort X ++ R).toArray os' := by
  subst ha hb hD
  have eg : ∀ args w, (callFunc 24 args).run Tryz.prog w = .ok (.enter 24 args) w := enters_of Tryz.func24 (by kernel_rfl) rfl
  have hs : (P ++ X ++ R).toArray.size = size := by rw [List.size_toArray]; exact hl
  have hd : (P ++ X ++ R).toArray.size = d.size := by rw [hs, hsz]
  have hcon := AnyQ.insertionSortCmpFunc Tryz.lIns k Tryz.isAgg37 (by intro w; rw [hk3]; exact Tryz.sizeOf37 w) encC (fun x => by rw [hk3]; rfl) encC_one cfC 24 #[] blk off cap P.length (P.length + X.length) (P ++ X ++ R).toArray (sortWorldK encC k w blk off n (P ++ X ++ R).toArray os) eg (fun _ _ _ _ x y => cmp_any x y _) (holdsK_sortWorldK_c encC k w blk off d _ n os hH hblk hd) (Nat.lt_of_lt_of_le hblk (size_sortWorldK_c encC k w blk off n _ os)) (by omega) (by rw [hs, ← hl]; simp) (by rw [hs]; omega)
  change Calls Tryz.prog 55 _ _ _ at hcon
  rw [hs, Mg.insertion_eq] at hcon
  refine hcon.mono ?_
  rintro e w' ⟨rfl, m, os', rfl⟩
  refine ⟨rfl, n + m, os ++ os', ?_⟩
  exact sortWorldK_on encC k w blk off n m _ _ os os' hblk (by rw [hd, ← hd]; simp [Mg.isort_len])

set_option maxRecDepth 1000000 in
set_option maxHeartbeats 16000000 in
theorem stable_any (k : Nat) (hk3 : k = 5) (w : World) (blk off cap size : Nat) (d : Array Mg.C) (hH : HoldsK encC k w blk off d) (hblk : blk < w.heap.size) (hsz : d.size = size) (hbig : size < 1152921504606846976) (L : List Mg.C) (hL : L.length = size) (n : Nat) (os : Array Obj) :
    Calls Tryz.prog 38 #[.slice (some ⟨blk, off, none⟩) size cap, .int .i64 size, .func (.func 24) #[] #[]] (sortWorldK encC k w blk off n L.toArray os) fun e w' => e = .returned (.tuple #[]) ∧ ∃ n' os', w' = sortWorldK encC k w blk off n' (Mg.isort L).toArray os' := by
  have HINS := Lib.hid (fun P X R n os hl a b ha hb D hD => ins_call k hk3 w blk off cap size d hH hblk hsz (by omega) P X R n os hl a b ha hb D hD)
  have HSYM := Lib.hid (symm_any k hk3 w blk off cap size d hH hblk hsz (by omega) (size + 1))
  have HEND := Lib.hid (Mg.srt_short (L := L))
  have HLL := Lib.hid hL
  clear hk3 hH hblk hsz hL
  go_enter Tryz.func38, Tryz.ntmps38
  go_wp2_with fail
  go_loopw [7, 8] (fun a b wr => ∃ (i m : Nat) (o : Array Obj) (P R : List Mg.C), i ≤ size ∧ a = .int .i64 i ∧ b = .int .i64 ((i : Int) + 20) ∧ wr = sortWorldK encC k w blk off m (P ++ R).toArray o ∧ Hid (StA L size i P R)) (fun a _ _ => size - (intOf a).toNat)
  case atStart => exact ⟨0, n, os, [], L, Nat.zero_le _, rfl, rfl, rfl, Lib.hid ⟨rfl, rfl, by simpa using HLL.out⟩⟩
  case round =>
    obtain ⟨i, m, o, P, R, hi, rfl, rfl, rfl, HS⟩ := hrel
    by_cases hlt : i + 20 ≤ size
    · have x1 : (i : Int) + 20 ≤ (size : Int) := by omega
      have HQ := Lib.hid (HINS.out P (R.take 20) (R.drop 20) m o (by have h := HS.out; have := h.len; have := h.all; rw [List.append_assoc, List.take_append_drop, List.length_append]; omega) (i : Int) ((i : Int) + 20) (by rw [HS.out.len]) (by have h := HS.out; have := h.all; rw [h.len, List.length_take, Nat.min_eq_left (by omega)]; omega) (P ++ R) (by rw [List.append_assoc, List.take_append_drop]))
      have HN : Hid (StA L size (i + 20) (P ++ Mg.isort (R.take 20)) (R.drop 20)) := Lib.hid (by
        have h := HS.out
        have h2 := h.all
        exact ⟨by rw [← h.eq, Mg.srt_take 20 (by omega) P R], by rw [List.length_append, Mg.isort_len, List.length_take, h.len]; omega, by rw [List.length_drop]; omega⟩)
      go_wp2_with fail
      refine HQ.out.mono ?_
      rintro e w2 ⟨rfl, m2, o2, rfl⟩
      go_wp2
      go_roundw
      case rel => exact ⟨i + 20, m2, o2, P ++ Mg.isort (R.take 20), R.drop 20, hlt, by go_num, by go_num, by first | rfl | (rw [List.append_assoc]; done) | (simp; done), HN⟩
      case measure => first | (simp [intOf]; done) | (simp [intOf]; omega)
    · have x1 : ¬ (i : Int) + 20 ≤ (size : Int) := by omega
      have HQ := Lib.hid (HINS.out P R [] m o (by have h := HS.out; have := h.len; have := h.all; simp; omega) (i : Int) (size : Int) (by rw [HS.out.len]) (by have h := HS.out; have := h.all; rw [h.len]; omega) (P ++ R) (by simp))
      have HN : Hid (P ++ Mg.isort R ++ [] = Mg.srt 20 L) := Lib.hid (by
        have h := HS.out
        have h2 := h.all
        rw [← h.eq, Mg.srt_short 20 (by omega) R (by omega), List.append_nil])
      go_wp2_with fail
      refine HQ.out.mono ?_
      rintro e w2 ⟨rfl, m2, o2, rfl⟩
      rw [HN.out]
      clear HN HQ HS HINS hlt x1
      go_wp2_with fail
      go_loopw [6] (fun a wr => ∃ (s m : Nat) (o : Array Obj), 20 ≤ s ∧ s < 2305843009213693952 ∧ a = .int .i64 s ∧ wr = sortWorldK encC k w blk off m (Mg.srt s L).toArray o) (fun a _ => size - (intOf a).toNat)
      case atStart => exact ⟨20, m2, o2, Nat.le_refl _, by omega, rfl, rfl⟩
      case round =>
        obtain ⟨s, m3, o3, hs, hs2, rfl, rfl⟩ := hrel
        by_cases hlt : s < size
        · have x1 : (s : Int) < (size : Int) := by omega
          go_wp2_with fail
          go_loopw [7, 8] (fun a b wr => ∃ (i m : Nat) (o : Array Obj) (P R : List Mg.C), i ≤ size ∧ a = .int .i64 i ∧ b = .int .i64 ((i : Int) + 2 * (s : Int)) ∧ wr = sortWorldK encC k w blk off m (P ++ Mg.srt s R).toArray o ∧ Hid (StB L size s i P R)) (fun a _ _ => size - (intOf a).toNat)
          case atStart => exact ⟨0, m3, o3, [], L, Nat.zero_le _, rfl, by go_num, rfl, Lib.hid ⟨rfl, rfl, by simpa using HLL.out⟩⟩
          case round =>
            obtain ⟨i, m4, o4, P, R, hi, rfl, rfl, rfl, HS⟩ := hrel
            by_cases hl2 : i + 2 * s ≤ size
            · have x2 : (i : Int) + 2 * (s : Int) ≤ (size : Int) := by omega
              have HQ : Hid (Calls Tryz.prog 56 #[.slice (some ⟨blk, off, none⟩) size cap, .int .i64 i, .int .i64 ((i : Int) + (s : Int)), .int .i64 ((i : Int) + 2 * (s : Int)), .func (.func 24) #[] #[]] (sortWorldK encC k w blk off m4 (P ++ Mg.srt s R).toArray o4) fun e w' => e = .returned (.tuple #[]) ∧ ∃ n' os', w' = sortWorldK encC k w blk off n' (P ++ Mg.isort (R.take (2 * s)) ++ Mg.srt s (R.drop (2 * s))).toArray os') := Lib.hid (by
                have h := HS.out
                have h1 := h.len
                have h2 := h.all
                have l1 : (Mg.isort (R.take s)).length = s := by rw [Mg.isort_len, List.length_take]; omega
                have l2 : (Mg.isort ((R.drop s).take s)).length = s := by rw [Mg.isort_len, List.length_take, List.length_drop]; omega
                have hq := HSYM.out P (Mg.isort (R.take s)) (Mg.isort ((R.drop s).take s)) (Mg.srt s (R.drop (2 * s))) m4 o4 (by omega) (by omega) (by omega) (by
                  rw [← Mg.srt_two s (by omega) P R, List.length_append, Mg.srt_len s (by omega) _ _ (Nat.le_refl _)]; omega) (Mg.up_isort _) (Mg.up_isort _)
                rw [← Mg.srt_two s (by omega) P R, Mg.merge_two, l1, l2, h1] at hq
                rw [show ((i + s : Nat) : Int) = (i : Int) + (s : Int) from by omega, show ((i + s + s : Nat) : Int) = (i : Int) + 2 * (s : Int) from by omega] at hq
                exact hq)
              have HN : Hid (StB L size s (i + 2 * s) (P ++ Mg.isort (R.take (2 * s))) (R.drop (2 * s))) := Lib.hid (by
                have h := HS.out
                have h2 := h.all
                exact ⟨by rw [← h.eq, Mg.srt_take (2 * s) (by omega) P R], by rw [List.length_append, Mg.isort_len, List.length_take, h.len]; omega, by rw [List.length_drop]; omega⟩)
              go_wp2_with fail
              refine HQ.out.mono ?_
              rintro e w2 ⟨rfl, m5, o5, rfl⟩
              go_wp2
              go_roundw
              case rel => exact ⟨i + 2 * s, m5, o5, P ++ Mg.isort (R.take (2 * s)), R.drop (2 * s), hl2, by go_num, by go_num, by first | rfl | (rw [List.append_assoc]; done) | (simp; done), HN⟩
              case measure => first | (simp [intOf]; done) | (simp [intOf]; omega)
            · have x2 : ¬ (i : Int) + 2 * (s : Int) ≤ (size : Int) := by omega
              by_cases hl3 : i + s < size
              · have x3 : (i : Int) + (s : Int) < (size : Int) := by omega
                have HQ : Hid (Calls Tryz.prog 56 #[.slice (some ⟨blk, off, none⟩) size cap, .int .i64 i, .int .i64 ((i : Int) + (s : Int)), .int .i64 size, .func (.func 24) #[] #[]] (sortWorldK encC k w blk off m4 (P ++ Mg.srt s R).toArray o4) fun e w' => e = .returned (.tuple #[]) ∧ ∃ n' os', w' = sortWorldK encC k w blk off n' (Mg.srt (2 * s) L).toArray os') := Lib.hid (by
                  have h := HS.out
                  have h1 := h.len
                  have h2 := h.all
                  have l1 : (Mg.isort (R.take s)).length = s := by rw [Mg.isort_len, List.length_take]; omega
                  have l2 : (Mg.isort (R.drop s)).length = R.length - s := by rw [Mg.isort_len, List.length_drop]
                  have e1 : P ++ Mg.isort (R.take s) ++ Mg.isort (R.drop s) ++ [] = P ++ Mg.srt s R := by
                    rw [Mg.srt_take s (by omega) P R, Mg.srt_short s (by omega) (R.drop s) (by rw [List.length_drop]; omega), List.append_nil]
                  have e2 : P ++ Mg.merge (Mg.isort (R.take s)) (Mg.isort (R.drop s)) ++ [] = Mg.srt (2 * s) L := by
                    rw [Mg.merge_isort, List.take_append_drop, List.append_nil, ← h.eq, Mg.srt_short (2 * s) (by omega) R (by omega)]
                  have hq := HSYM.out P (Mg.isort (R.take s)) (Mg.isort (R.drop s)) [] m4 o4 (by omega) (by omega) (by omega) (by
                    rw [e1, List.length_append, Mg.srt_len s (by omega) _ _ (Nat.le_refl _)]; omega) (Mg.up_isort _) (Mg.up_isort _)
                  rw [e1, e2, l1, l2, h1] at hq
                  rw [show ((i + s : Nat) : Int) = (i : Int) + (s : Int) from by omega, show ((i + s + (R.length - s) : Nat) : Int) = (size : Int) from by omega] at hq
                  exact hq)
                go_wp2_with fail
                refine HQ.out.mono ?_
                rintro e w2 ⟨rfl, m5, o5, rfl⟩
                go_wp2
                go_roundw
                case rel => exact ⟨2 * s, m5, o5, by omega, by omega, by go_num, rfl⟩
                case measure => first | (simp [intOf]; done) | (simp [intOf]; omega)
              · have x3 : ¬ (i : Int) + (s : Int) < (size : Int) := by omega
                have HN : Hid (P ++ Mg.srt s R = Mg.srt (2 * s) L) := Lib.hid (by
                  have h := HS.out
                  have h2 := h.all
                  rw [← h.eq, Mg.srt_short s (by omega) R (by omega), Mg.srt_short (2 * s) (by omega) R (by omega)])
                rw [HN.out]
                go_wp2
                go_roundw
                case rel => exact ⟨2 * s, m4, o4, by omega, by omega, by go_num, rfl⟩
                case measure => first | (simp [intOf]; done) | (simp [intOf]; omega)
        · have x1 : ¬ (s : Int) < (size : Int) := by omega
          have HN := Lib.hid (HEND.out s (by omega) (by have := HLL.out; omega))
          rw [HN.out]
          go_wp2
          go_end0
          exact ⟨rfl, m3, o3, rfl⟩

end Go.Proofs.YtkgogenmhiclcaaGreatDoor
