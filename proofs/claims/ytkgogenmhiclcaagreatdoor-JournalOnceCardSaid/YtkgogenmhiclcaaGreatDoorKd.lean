/-
  The calls' sort: two stretches exchanged, as lists; a row turned about.
-/
import Derived.Test.YtkgogenmhiclcaaGreatDoorKc
namespace Go.Proofs.YtkgogenmhiclcaaGreatDoor
open Go.RowKit Go.Sort Go.Lib

theorem set_mid (P R : List Mg.C) (x y : Mg.C) : (P ++ x :: R).set P.length y = P ++ y :: R := by
  rw [List.set_append_right _ _ (Nat.le_refl _), Nat.sub_self, List.set_cons_zero]
theorem get_mid (P R : List Mg.C) (x : Mg.C) : ((P ++ x :: R).toArray)[P.length]! = x := by
  rw [getElem!_pos _ _ (by simp)]
  simp
theorem swp_list (P Q R : List Mg.C) (x y : Mg.C) : swp ((P ++ x :: (Q ++ y :: R)).toArray) P.length (P.length + 1 + Q.length) = (P ++ y :: (Q ++ x :: R)).toArray := by
  have e1 : P ++ x :: (Q ++ y :: R) = (P ++ x :: Q) ++ y :: R := by simp
  have el : (P ++ x :: Q).length = P.length + 1 + Q.length := by simp; omega
  have g2 : ((P ++ x :: (Q ++ y :: R)).toArray)[P.length + 1 + Q.length]! = y := by rw [e1, ← el]; exact get_mid _ _ _
  unfold swp
  rw [g2, get_mid]
  simp only [List.setIfInBounds_toArray]
  rw [set_mid]
  have e2 : P ++ y :: (Q ++ y :: R) = (P ++ y :: Q) ++ y :: R := by simp
  have el2 : (P ++ y :: Q).length = P.length + 1 + Q.length := by simp; omega
  rw [e2, ← el2, set_mid]
  simp
/-- two stretches of one length exchanged -/
theorem swapR_list : ∀ (n : Nat) (A X M Y B : List Mg.C), X.length = n → Y.length = n → swapR A.length (A.length + X.length + M.length) n (A ++ X ++ M ++ Y ++ B).toArray = (A ++ Y ++ M ++ X ++ B).toArray
  | 0, A, X, M, Y, B, hx, hy => by
    obtain rfl : X = [] := List.eq_nil_of_length_eq_zero hx
    obtain rfl : Y = [] := List.eq_nil_of_length_eq_zero hy
    rfl
  | n + 1, A, X, M, Y, B, hx, hy => by
    obtain ⟨X', x, rfl⟩ : ∃ Z c, X = Z ++ [c] := ⟨X.dropLast, X.getLast (by intro e; subst e; simp at hx), (List.dropLast_concat_getLast _).symm⟩
    obtain ⟨Y', y, rfl⟩ : ∃ Z c, Y = Z ++ [c] := ⟨Y.dropLast, Y.getLast (by intro e; subst e; simp at hy), (List.dropLast_concat_getLast _).symm⟩
    have hx' : X'.length = n := by simp at hx; exact hx
    have hy' : Y'.length = n := by simp at hy; exact hy
    have ih := swapR_list n A X' ([x] ++ M) Y' ([y] ++ B) hx' hy'
    have e1 : A ++ (X' ++ [x]) ++ M ++ (Y' ++ [y]) ++ B = A ++ X' ++ ([x] ++ M) ++ Y' ++ ([y] ++ B) := by simp
    have e2 : A.length + (X' ++ [x]).length + M.length = A.length + X'.length + ([x] ++ M).length := by simp; omega
    rw [swapR, e1, e2, ih]
    have e3 : A ++ Y' ++ ([x] ++ M) ++ X' ++ ([y] ++ B) = (A ++ Y') ++ x :: ((M ++ X') ++ y :: B) := by simp
    have e4 : A.length + n = (A ++ Y').length := by simp; omega
    have e5 : A.length + X'.length + ([x] ++ M).length + n = (A ++ Y').length + 1 + (M ++ X').length := by simp; omega
    rw [e3, e4, e5, swp_list]
    simp

set_option maxRecDepth 1000000 in
set_option maxHeartbeats 8000000 in
theorem rotate_any (k : Nat) (hk3 : k = 5) (w : World) (blk off cap size : Nat) (f : Value) (d : Array Mg.C) (n : Nat) (os : Array Obj) (hH : HoldsK encC k w blk off d) (hblk : blk < w.heap.size) (A X Y B : List Mg.C) (hs : (A ++ X ++ Y ++ B).length = d.size) (hsz : d.size = size) (hx : 0 < X.length) (hy : 0 < Y.length) (hbig : size < 4611686018427387904) :
    Calls Tryz.prog 65 #[.slice (some ⟨blk, off, none⟩) size cap, .int .i64 A.length, .int .i64 ((A.length + X.length : Nat) : Int), .int .i64 ((A.length + X.length + Y.length : Nat) : Int), f] (sortWorldK encC k w blk off n (A ++ X ++ Y ++ B).toArray os) fun e w' =>
      e = .returned (.tuple #[]) ∧ ∃ n' os', w' = sortWorldK encC k w blk off n' (A ++ Y ++ X ++ B).toArray os' := by
  have hlen : A.length + X.length + Y.length + B.length = size := by rw [← hsz, ← hs]; simp; omega
  have HC : Hid (∀ (a b len : Nat) (dk : Array Mg.C) (n : Nat) (os : Array Obj), dk.size = d.size → a + len ≤ size → b + len ≤ size → Calls Tryz.prog 80 #[.slice (some ⟨blk, off, none⟩) size cap, .int .i64 a, .int .i64 b, .int .i64 len, f] (sortWorldK encC k w blk off n dk os) fun e w' => e = .returned (.tuple #[]) ∧ ∃ n' os', w' = sortWorldK encC k w blk off n' (swapR a b len dk) os') :=
    Lib.hid (fun a b len dk n os h1 h2 h3 => swapR_any k hk3 w blk off cap size a b len f d n os hH hblk dk h1 hsz h2 h3 hbig)
  have HT : Hid (∀ T, T = A ++ Y ++ X ++ B → ∀ n' os', sortWorldK encC k w blk off n' T.toArray os' = sortWorldK encC k w blk off n' (A ++ Y ++ X ++ B).toArray os') := Lib.hid (fun T h n' os' => by rw [h])
  have HDS := Lib.hid hs
  clear hs hH hk3 HT
  have e0 : A.length + X.length + Y.length - (A.length + X.length) = Y.length := by omega
  obtain ⟨T, hT⟩ : ∃ T, T = A ++ Y ++ X ++ B := ⟨_, rfl⟩
  have HTL : Hid (T.length = size) := Lib.hid (by rw [hT, ← hlen]; simp; omega)
  have START : Hid (∃ (A' X' Y' B' : List Mg.C), A' ++ Y' ++ X' ++ B' = T ∧ A'.length + X'.length = A.length + X.length ∧ X'.length = X.length ∧ Y'.length = Y.length ∧ A' ++ X' ++ Y' ++ B' = A ++ X ++ Y ++ B) := Lib.hid ⟨A, X, Y, B, hT.symm, rfl, rfl, rfl, rfl⟩
  rw [← hT]
  have hb1 : A.length + X.length + Y.length ≤ size := by omega
  generalize A ++ X ++ Y ++ B = D0 at *
  generalize A.length = al at *
  generalize X.length = xl at *
  generalize Y.length = yl at *
  clear hT hlen e0
  have z1 : ((al + xl : Nat) : Int) - (al : Int) = (xl : Int) := by omega
  have z2 : ((al + xl + yl : Nat) : Int) - ((al + xl : Nat) : Int) = (yl : Int) := by omega
  obtain ⟨m, hm⟩ : ∃ m, m = al + xl := ⟨_, rfl⟩
  obtain ⟨e, he⟩ : ∃ e, e = al + xl + yl := ⟨_, rfl⟩
  rw [← he] at z2 ⊢
  rw [← hm] at z1 z2 START ⊢
  have hmb : m + yl ≤ size := by omega
  have hma : xl ≤ m := by omega
  have heb : e ≤ size := by omega
  have hal : al ≤ m := by omega
  clear he hm hb1
  go_enter Tryz.func65, Tryz.ntmps65
  go_wp2_with fail
  go_loopw [10, 11] (fun iv jv wr => ∃ (i j : Nat) (D : List Mg.C) (q : Nat) (oq : Array Obj), iv = .int .i64 i ∧ jv = .int .i64 j ∧ 0 < i ∧ 0 < j ∧ i ≤ m ∧ m + j ≤ size ∧ wr = sortWorldK encC k w blk off q D.toArray oq ∧ Hid (∃ (A' X' Y' B' : List Mg.C), A' ++ Y' ++ X' ++ B' = T ∧ A'.length + X'.length = m ∧ X'.length = i ∧ Y'.length = j ∧ A' ++ X' ++ Y' ++ B' = D)) (fun iv jv _ => (intOf iv).toNat + (intOf jv).toNat)
  case atStart => exact ⟨xl, yl, D0, n, os, by first | rfl | go_num, by first | rfl | go_num, hx, hy, hma, hmb, rfl, START⟩
  case round =>
    obtain ⟨i, j, D, q, oq, rfl, rfl, hi0, hj0, him, hjm, rfl, HD⟩ := hrel
    obtain ⟨A', X', Y', B', h1, h2, h3, h4, h5⟩ := HD.out
    have hDl : D.toArray.size = d.size := by
      have : D.length = T.length := by rw [← h5, ← h1]; simp; omega
      simp only [List.size_toArray]
      rw [this, HTL.out, hsz]
    have w1 : (0 : Int) ≤ (m : Int) - (i : Int) := by omega
    have hmi : (m : Int) - (i : Int) = ((m - i : Nat) : Int) := by omega
    by_cases hij : i = j
    · subst hij
      have hne : ((i : Int) != (i : Int)) = false := by simp
      have hc := HC.out (m - i) m i D.toArray q oq hDl (by omega) (by omega)
      have hr : swapR (m - i) m i D.toArray = T.toArray := by
        have := swapR_list i A' X' [] Y' B' h3 h4
        simp only [List.append_nil, List.length_nil, Nat.add_zero] at this
        rw [h5, h2] at this
        rw [show m - i = A'.length from by omega, this, h1]
      rw [hr] at hc
      have HCC := Lib.hid hc
      clear hc hr h1 h2 h3 h4 h5 hDl HD
      go_wp2_with fail
      refine HCC.out.mono ?_
      rintro e w2 ⟨rfl, q2, oq2, rfl⟩
      go_wp2
      go_end0
      exact ⟨rfl, q2, oq2, rfl⟩
    · have hne : ((i : Int) != (j : Int)) = true := by simp; omega
      by_cases hlt : j < i
      · have hg : (j : Int) < (i : Int) := by omega
        obtain ⟨X1, X2, rfl, hX1⟩ : ∃ X1 X2, X' = X1 ++ X2 ∧ X1.length = j := ⟨X'.take j, X'.drop j, (List.take_append_drop _ _).symm, by rw [List.length_take]; omega⟩
        have hX2 : X2.length = i - j := by simp at h3; omega
        have hc := HC.out (m - i) m j D.toArray q oq hDl (by omega) (by omega)
        have hr : swapR (m - i) m j D.toArray = (A' ++ Y' ++ X2 ++ X1 ++ B').toArray := by
          have := swapR_list j A' X1 X2 Y' B' hX1 h4
          rw [show A'.length + X1.length + X2.length = m from by rw [List.length_append] at h2; omega, show A' ++ X1 ++ X2 ++ Y' ++ B' = D from by rw [← h5]; simp] at this
          rw [show m - i = A'.length from by omega, this]
        rw [hr] at hc
        have HCC := Lib.hid hc
        have HN : Hid (∃ (A'' X'' Y'' B'' : List Mg.C), A'' ++ Y'' ++ X'' ++ B'' = T ∧ A''.length + X''.length = m ∧ X''.length = i - j ∧ Y''.length = j ∧ A'' ++ X'' ++ Y'' ++ B'' = A' ++ Y' ++ X2 ++ X1 ++ B') := Lib.hid ⟨A' ++ Y', X2, X1, B', by rw [← h1]; simp, by simp at h2 ⊢; omega, hX2, hX1, by simp⟩
        have hsub : (i : Int) - (j : Int) = ((i - j : Nat) : Int) := by omega
        clear hc hr h1 h2 h3 h4 h5 hDl HD hX1 hX2
        generalize A' ++ Y' ++ X2 ++ X1 ++ B' = D2 at HCC HN
        go_wp2_with fail
        refine HCC.out.mono ?_
        rintro e w2 ⟨rfl, q2, oq2, rfl⟩
        go_wp2
        go_roundw
        case rel => exact ⟨i - j, j, _, q2, oq2, by first | rfl | go_num, rfl, by omega, hj0, by omega, hjm, rfl, HN⟩
        case measure => simp [intOf]; omega
      · have hg : ¬ (j : Int) < (i : Int) := by omega
        obtain ⟨Y1, Y2, rfl, hY1⟩ : ∃ Y1 Y2, Y' = Y1 ++ Y2 ∧ Y1.length = j - i := ⟨Y'.take (j - i), Y'.drop (j - i), (List.take_append_drop _ _).symm, by rw [List.length_take]; omega⟩
        have hY2 : Y2.length = i := by simp at h4; omega
        have hc := HC.out (m - i) (m + j - i) i D.toArray q oq hDl (by omega) (by omega)
        have hr : swapR (m - i) (m + j - i) i D.toArray = (A' ++ Y2 ++ Y1 ++ X' ++ B').toArray := by
          have := swapR_list i A' X' Y1 Y2 B' h3 hY2
          rw [show A'.length + X'.length + Y1.length = m + j - i from by omega, show A' ++ X' ++ Y1 ++ Y2 ++ B' = D from by rw [← h5]; simp] at this
          rw [show m - i = A'.length from by omega, this]
        rw [hr] at hc
        have HCC := Lib.hid hc
        have HN : Hid (∃ (A'' X'' Y'' B'' : List Mg.C), A'' ++ Y'' ++ X'' ++ B'' = T ∧ A''.length + X''.length = m ∧ X''.length = i ∧ Y''.length = j - i ∧ A'' ++ X'' ++ Y'' ++ B'' = A' ++ Y2 ++ Y1 ++ X' ++ B') := Lib.hid ⟨A', Y2, Y1, X' ++ B', by rw [← h1]; simp, by omega, hY2, hY1, by simp⟩
        have hsub : (j : Int) - (i : Int) = ((j - i : Nat) : Int) := by omega
        have hmj : (m : Int) + (j : Int) - (i : Int) = ((m + j - i : Nat) : Int) := by omega
        clear hc hr h1 h2 h3 h4 h5 hDl HD hY1 hY2
        generalize A' ++ Y2 ++ Y1 ++ X' ++ B' = D2 at HCC HN
        go_wp2_with fail
        refine HCC.out.mono ?_
        rintro e w2 ⟨rfl, q2, oq2, rfl⟩
        go_wp2
        go_roundw
        case rel => exact ⟨i, j - i, _, q2, oq2, rfl, by first | rfl | go_num, hi0, by omega, him, by omega, rfl, HN⟩
        case measure => simp [intOf]; omega

end Go.Proofs.YtkgogenmhiclcaaGreatDoor
