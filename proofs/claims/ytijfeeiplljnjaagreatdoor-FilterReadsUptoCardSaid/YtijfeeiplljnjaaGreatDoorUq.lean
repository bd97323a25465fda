/-
  An element is put in its place, if it is not there: the program's put.
-/
import Derived.Test.YtijfeeiplljnjaaGreatDoorUp
namespace Go.Proofs.YtijfeeiplljnjaaGreatDoor
open Go.RowKit Go.Shelf

namespace Sp
theorem putB_at : ∀ (xs : List ByteArray) (x : ByteArray), risesB xs = true → ∃ k, k ≤ xs.length ∧ (∀ t (_ : t < xs.length), t < k → ltB xs[t] x = true) ∧ (∀ t (_ : t < xs.length), k ≤ t → ltB xs[t] x = false) ∧
    (((∃ h : k < xs.length, xs[k] = x) ∧ putB xs x = xs) ∨ ((¬ ∃ h : k < xs.length, xs[k] = x) ∧ putB xs x = xs.take k ++ x :: xs.drop k))
  | [], x, _ => ⟨0, Nat.le_refl _, fun t h => by simp at h, fun t h => by simp at h, .inr ⟨fun ⟨h, _⟩ => by simp at h, rfl⟩⟩
  | a :: r, x, h => by
    cases hl : ltB a x with
    | true =>
      obtain ⟨k, h1, h2, h3, h4⟩ := putB_at r x (risesB_tail h)
      refine ⟨k + 1, by simpa using h1, fun t ht htk => ?_, fun t ht htk => ?_, ?_⟩
      · cases t with
        | zero => exact hl
        | succ t => exact h2 t (by simpa using ht) (by omega)
      · cases t with
        | zero => omega
        | succ t => exact h3 t (by simpa using ht) (by omega)
      · rcases h4 with ⟨⟨g, e⟩, hp⟩ | ⟨g, hp⟩
        · exact .inl ⟨⟨by simpa using g, by simpa using e⟩, by rw [putB, if_pos hl, hp]⟩
        · refine .inr ⟨fun ⟨g1, e⟩ => g ⟨by simpa using g1, by simpa using e⟩, ?_⟩
          rw [putB, if_pos hl, hp]
          simp
    | false =>
      refine ⟨0, Nat.zero_le _, fun t _ ht => by omega, fun t ht _ => ?_, ?_⟩
      · cases t with
        | zero => exact hl
        | succ t =>
          have htr : t < r.length := by simpa using ht
          have hm := risesB_head a r h r[t] (List.getElem_mem _)
          cases hx : ltB r[t] x with
          | false => exact hx
          | true => rw [ltB_trans hm hx] at hl; cases hl
      · by_cases e : a = x
        · exact .inl ⟨⟨by simp, by simpa using e⟩, by rw [putB, hl, if_neg (by decide), if_pos e]⟩
        · exact .inr ⟨fun ⟨_, g⟩ => e (by simpa using g), by rw [putB, hl, if_neg (by decide), if_neg e]; rfl⟩
theorem putI_at : ∀ (xs : List Int) (x : Int), risesI xs = true → ((xs.contains x = true ∧ putI xs x = xs) ∨ (xs.contains x = false ∧ putI xs x = xs.take (xs.countP (· < x)) ++ x :: xs.drop (xs.countP (· < x))))
  | [], x, _ => .inr ⟨rfl, rfl⟩
  | a :: r, x, h => by
    by_cases hl : a < x
    · have hc : (a :: r).countP (· < x) = r.countP (· < x) + 1 := by rw [List.countP_cons, if_pos (by simpa using hl)]
      have hne : x ≠ a := by omega
      rcases putI_at r x (risesI_tail h) with ⟨h1, h2⟩ | ⟨h1, h2⟩
      · exact .inl ⟨by simp at h1 ⊢; exact .inr h1, by rw [putI, if_pos hl, h2]⟩
      · refine .inr ⟨by simp at h1 ⊢; exact ⟨hne, h1⟩, ?_⟩
        rw [putI, if_pos hl, h2, hc]
        simp
    · have h0 : ∀ b ∈ r, a < b := risesI_head a r h
      have hc : (a :: r).countP (· < x) = 0 := by
        rw [List.countP_eq_zero]
        intro b hb
        rcases List.mem_cons.1 hb with rfl | hb
        · simpa using Int.not_lt.1 hl
        · have := h0 b hb
          simp; omega
      by_cases e : a = x
      · exact .inl ⟨by simp [e], by rw [putI, if_neg hl, if_pos e]⟩
      · refine .inr ⟨?_, by rw [putI, if_neg hl, if_neg e, hc]; rfl⟩
        simp
        refine ⟨fun q => e q.symm, fun q => ?_⟩
        have := h0 x q
        omega
theorem risesI_le : ∀ (xs : List Int), risesI xs = true → xs.Pairwise (· ≤ ·)
  | [], _ => .nil
  | a :: r, h => .cons (fun b hb => by have := risesI_head a r h b hb; omega) (risesI_le r (risesI_tail h))
end Sp
theorem srchS (B : Nat) (v : Value) (xs : List ByteArray) (x : ByteArray) (w : World) (hr : OwnS B v xs w) (hs : Sp.risesB xs = true) (hn : xs.length ≤ 1000) :
    ∃ (k : Nat) (fnd : Bool), k ≤ xs.length ∧ (if fnd then Sp.putB xs x = xs else Sp.putB xs x = xs.take k ++ x :: xs.drop k) ∧
      Calls Tryz.prog 88 #[v, .string x] w fun e w' => e = .returned (.tuple #[.int .i64 (k : Nat), .bool fnd]) ∧ ∃ q, w' = w.drewN q := by
  obtain ⟨k, h1, h2, h3, h4⟩ := Sp.putB_at xs x hs
  by_cases h0 : xs.length = 0
  · obtain rfl : xs = [] := List.eq_nil_of_length_eq_zero h0
    obtain ⟨A, c, rfl⟩ := hr.form
    refine ⟨0, false, Nat.le_refl _, rfl, ?_⟩
    refine (Any2.slices_BinarySearch_string_empty Tryz.lSrchS A c x w).mono ?_
    rintro e w' ⟨rfl, rfl⟩
    exact ⟨rfl, 0, rfl⟩
  · obtain ⟨g, c, rfl, ⟨_, hg⟩, hc, hcell⟩ := hr.cells (by omega)
    have hb := Any2.slices_BinarySearch_string Tryz.lSrchS g 0 xs.length c (fun t => xs.getD t x) x w (by omega) (fun j hj => by
      rw [Nat.zero_add]
      exact hcell j _ (by rw [List.getElem?_eq_getElem hj]; simp [hj]))
    have hk : Lib.bsGo (fun t => Op.bytesLess (xs.getD t x).toList x.toList) xs.length 0 xs.length = k := by
      refine Lib.bsGo_spec _ k (fun t ht => ?_) (fun t ht => ?_) _ _ _ (by omega) (Nat.zero_le _) h1
      · have htl : t < xs.length := by omega
        have := h2 t htl ht
        simpa [htl, Sp.ltB] using this
      · by_cases htl : t < xs.length
        · have := h3 t htl ht
          simpa [htl, Sp.ltB] using this
        · rw [List.getD_eq_getElem?_getD, List.getElem?_eq_none (by omega)]
          exact Sp.bl_self _
    rw [hk] at hb
    rcases h4 with ⟨⟨h5, h6⟩, hp⟩ | ⟨h5, hp⟩
    · refine ⟨k, true, h1, hp, ?_⟩
      rw [decide_eq_true (show k < xs.length ∧ xs.getD k x = x from ⟨h5, by simp [h5, h6]⟩)] at hb
      exact hb
    · refine ⟨k, false, h1, hp, ?_⟩
      rw [decide_eq_false (show ¬ (k < xs.length ∧ xs.getD k x = x) from fun ⟨h6, h7⟩ => h5 ⟨h6, by simpa [h6] using h7⟩)] at hb
      exact hb
theorem srchI (B : Nat) (v : Value) (xs : List Int) (x : Int) (w : World) (hr : OwnI B v xs w) (hs : Sp.risesI xs = true) (hn : xs.length ≤ 1000) :
    ∃ (k : Nat) (fnd : Bool), k ≤ xs.length ∧ (if fnd then Sp.putI xs x = xs else Sp.putI xs x = xs.take k ++ x :: xs.drop k) ∧
      Calls Tryz.prog 69 #[v, .int .i64 x] w fun e w' => e = .returned (.tuple #[.int .i64 (k : Nat), .bool fnd]) ∧ ∃ q, w' = w.drewN q := by
  have h4 := Sp.putI_at xs x hs
  by_cases h0 : xs.length = 0
  · obtain rfl : xs = [] := List.eq_nil_of_length_eq_zero h0
    obtain ⟨A, c, rfl⟩ := hr.form
    refine ⟨0, false, Nat.le_refl _, rfl, ?_⟩
    refine (Tryz.slices_BinarySearch_int_empty A c x w).mono ?_
    rintro e w' ⟨rfl, rfl⟩
    exact ⟨rfl, 0, rfl⟩
  · obtain ⟨A, c, rfl⟩ := hr.form
    have hrd := Rd.of_own hr
    obtain ⟨g, hA⟩ : ∃ g, A = some ⟨g, 0, none⟩ := by
      rcases hr.2 with ⟨hv, h0'⟩ | ⟨g, cap, cur, hv, _⟩
      · omega
      · injection hv with hv; exact ⟨g, hv⟩
    subst hA
    have hcell : ∀ j, j < xs.length → w.cell? ⟨g, 0 + j, none⟩ = some (.int .i64 (xs.getD j 0)) := by
      intro j hj
      obtain ⟨ad, ea, hc⟩ := Rd.intAt hrd j hj
      injection ea with ea
      subst ea
      have := hc w (Below.refl _ _)
      rw [Nat.zero_add]
      have e : xs.getD j 0 = xs[j] := by simp [hj]
      rw [e]
      by_cases hj0 : j = 0
      · subst hj0; simpa [Addr.add] using this
      · simpa [Addr.add, hj0] using this
    have hb := Tryz.slices_BinarySearch_int g 0 xs.length c xs x w (Nat.le_refl _) (by omega) hcell (by rw [List.take_length]; exact Sp.risesI_le xs hs)
    rw [List.take_length] at hb
    rcases h4 with ⟨h5, hp⟩ | ⟨h5, hp⟩
    · refine ⟨xs.countP (· < x), true, List.countP_le_length, hp, ?_⟩
      rw [h5] at hb
      exact hb
    · refine ⟨xs.countP (· < x), false, List.countP_le_length, hp, ?_⟩
      rw [h5] at hb
      exact hb

/-- what put leaves -/
def PutsR (B : Nat) (v : Value) (ys : List ByteArray) (w : World) (e : Ending) (w' : World) : Prop := ∃ v', e = .returned v' ∧ OwnS B v' ys w' ∧ w.grownBy w' v.ownBlock
theorem put_s (B : Nat) (v : Value) (xs : List ByteArray) (x : ByteArray) (w : World) (hr : OwnS B v xs w) (hs : Sp.risesB xs = true) (hn : xs.length ≤ 1000) (hB : B ≤ w.heap.size) :
    Calls Tryz.prog 68 #[v, .string x] w (PutsR B v (Sp.putB xs x) w) := by
  obtain ⟨k, fnd, hk, hp, hb⟩ := srchS B v xs x w hr hs hn
  obtain ⟨A, c, rfl⟩ := hr.form
  cases fnd with
  | true =>
    have HB := Lib.hid hb
    have HP : Hid (Sp.putB xs x = xs) := Lib.hid hp
    have HR := Lib.hid hr
    rw [HP.out]
    clear hp hb hr hs
    go_enter Tryz.func68, Tryz.ntmps68
    go_wp2_with fail
    refine HB.out.mono ?_
    rintro e w2 ⟨rfl, q, rfl⟩
    go_wp2
    go_ret
    exact ⟨_, rfl, HR.out, ⟨rfl, rfl, rfl, Nat.le_refl _, fun _ _ _ => rfl⟩⟩
  | false =>
    have HB := Lib.hid hb
    have HP : Hid (Sp.putB xs x = xs.take k ++ x :: xs.drop k) := Lib.hid hp
    have HI := Lib.hid (fun q => insert_s B (.slice A xs.length c) xs x k w.heap.size ((w.drewN q).alloc (.cells #[.string x] 9)) (World.ownsRow.alloc (w := w.drewN q) hr _) hk hn (by simp; omega) (by exact Array.getElem?_push_size) (fun e => by
      have := (World.ownsRow.lt hr _ e).2
      omega))
    rw [HP.out]
    clear hp hb hr hs
    go_enter Tryz.func68, Tryz.ntmps68
    go_wp2_with fail
    refine HB.out.mono ?_
    rintro e w2 ⟨rfl, q, rfl⟩
    have HI2 := Lib.hid (HI.out q)
    go_wp2_with fail
    refine HI2.out.mono ?_
    rintro e w3 ⟨v3, rfl, ho3, hg3⟩
    go_wp2
    go_ret
    exact ⟨v3, rfl, ho3, grown_trans (b := (w.drewN q).alloc _) ⟨rfl, rfl, rfl, by simp, fun j hj _ => Lib.alloc_old (w.drewN q) _ j hj⟩ hg3⟩
/-- what put leaves -/
def PutiR (B : Nat) (v : Value) (ys : List Int) (w : World) (e : Ending) (w' : World) : Prop := ∃ v', e = .returned v' ∧ OwnI B v' ys w' ∧ w.grownBy w' v.ownBlock
theorem put_i (B : Nat) (v : Value) (xs : List Int) (x : Int) (w : World) (hr : OwnI B v xs w) (hs : Sp.risesI xs = true) (hn : xs.length ≤ 1000) (hB : B ≤ w.heap.size) :
    Calls Tryz.prog 39 #[v, .int .i64 x] w (PutiR B v (Sp.putI xs x) w) := by
  obtain ⟨k, fnd, hk, hp, hb⟩ := srchI B v xs x w hr hs hn
  obtain ⟨A, c, rfl⟩ := hr.form
  cases fnd with
  | true =>
    have HB := Lib.hid hb
    have HP : Hid (Sp.putI xs x = xs) := Lib.hid hp
    have HR := Lib.hid hr
    rw [HP.out]
    clear hp hb hr hs
    go_enter Tryz.func39, Tryz.ntmps39
    go_wp2_with fail
    refine HB.out.mono ?_
    rintro e w2 ⟨rfl, q, rfl⟩
    go_wp2
    go_ret
    exact ⟨_, rfl, HR.out, ⟨rfl, rfl, rfl, Nat.le_refl _, fun _ _ _ => rfl⟩⟩
  | false =>
    have HB := Lib.hid hb
    have HP : Hid (Sp.putI xs x = xs.take k ++ x :: xs.drop k) := Lib.hid hp
    have HI := Lib.hid (fun q => insert_i B (.slice A xs.length c) xs x k w.heap.size ((w.drewN q).alloc (.cells #[.int .i64 x] 3)) (World.ownsRow.alloc (w := w.drewN q) hr _) hk hn (by simp; omega) (by exact Array.getElem?_push_size) (fun e => by
      have := (World.ownsRow.lt hr _ e).2
      omega))
    rw [HP.out]
    clear hp hb hr hs
    go_enter Tryz.func39, Tryz.ntmps39
    go_wp2_with fail
    refine HB.out.mono ?_
    rintro e w2 ⟨rfl, q, rfl⟩
    have HI2 := Lib.hid (HI.out q)
    go_wp2_with fail
    refine HI2.out.mono ?_
    rintro e w3 ⟨v3, rfl, ho3, hg3⟩
    go_wp2
    go_ret
    exact ⟨v3, rfl, ho3, grown_trans (b := (w.drewN q).alloc _) ⟨rfl, rfl, rfl, by simp, fun j hj _ => Lib.alloc_old (w.drewN q) _ j hj⟩ hg3⟩

end Go.Proofs.YtijfeeiplljnjaaGreatDoor
