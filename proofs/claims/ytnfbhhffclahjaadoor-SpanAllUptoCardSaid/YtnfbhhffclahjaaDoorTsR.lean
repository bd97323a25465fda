/-
  The walk of a span's text, the parts put together.
-/
import Derived.Test.YtnfbhhffclahjaaDoorTsQ
namespace Go.Proofs.YtnfbhhffclahjaaDoor
open Go.RowKit Go.Lib Go.Sort

theorem PS.start (w : World) : PS w w.heap.size [] (.slice none 0 0) (w.alloc (.cells #[.slice none 0 0] 31)) :=
  ⟨by simp, by go_simp, ⟨by simp [strCells], .inl ⟨rfl, rfl⟩⟩, by simp, (Below.refl _ _).alloc (Nat.le_refl _) _⟩
/-- the four parts as texts -/
def partsB (m : Nat) : List ByteArray := putB (m / 86400) ⟨#[100]⟩ ++ putB (m % 86400 / 3600) ⟨#[104]⟩ ++ putB (m % 3600 / 60) ⟨#[109, 105, 110]⟩ ++ putB (m % 60) ⟨#[115]⟩
theorem putB_len (n : Nat) (u : ByteArray) : (putB n u).length ≤ 1 := by unfold putB; split <;> simp
theorem putB_words (n : Nat) (u : ByteArray) : (putB n u).map (fun b => b.data.toList) = Sp.putW n u.data.toList := by
  unfold putB Sp.putW; split <;> simp
theorem partsB_words (m : Nat) : (partsB m).map (fun b => b.data.toList) = Sp.wordsN m := by
  unfold partsB Sp.wordsN
  simp [putB_words]
theorem join_eq : ∀ (l : List (List UInt8)), Lib.join l [32] = Sp.joinW l
  | [] => rfl
  | [w] => by simp [Lib.join_one, Sp.joinW]
  | w :: x :: r => by
    have h := join_eq (x :: r)
    have e : Lib.join (w :: x :: r) [32] = w ++ 32 :: Lib.join (x :: r) [32] := by simp [Lib.join, List.intercalate]
    rw [e, h]
    rfl
theorem put_as (k : Int) (n : Nat) (hk : k = (n : Int)) (u : ByteArray) (hn : n ≤ 6311433600) (hu : u.size ≤ 10) (W : World) (b : Nat) (L : List ByteArray) (v : Value) (hL : L.length ≤ 10) (HT : Hid (Tab b W)) (w : World) (h : PS W b L v w) :
    Calls Tryd.prog 19 #[.int .i64 k, .string u, .pointer (some ⟨b, 0, none⟩)] w fun e w' => e = .returned (.tuple #[]) ∧ ∃ v', PS W b (L ++ putB n u) v' w' := by
  subst hk
  exact put_any n u hn hu W b L v hL HT w h
theorem own_form {w : World} {base : Nat} {e : TypeId} {n : Nat} {v : Value} {xs : List Value} (h : w.ownsRow base e 1 v n xs) (hn : 0 < n) : ∃ g c, v = .slice (some ⟨g, 0, none⟩) n c ∧ n ≤ c ∧ g < w.heap.size ∧ ∀ (j : Nat) u, xs[j]? = some u → w.cell? ⟨g, 0 + j, none⟩ = some u := by
  have hlt := h.lt
  have hc := fun g hg => h.cells (g := g) hg
  rcases h.2 with ⟨rfl, h0⟩ | ⟨g, cap, cur, rfl, hB, hg, hnc, _⟩
  · omega
  · refine ⟨g, cap, rfl, hnc, (hlt g rfl).2, fun j u hu => ?_⟩
    have := hc g rfl j u hu
    rw [← this]
    by_cases hj : j = 0 <;> simp [Addr.add, hj]

theorem joinW_len : ∀ (l : List (List UInt8)) (M : Nat), (∀ w ∈ l, w.length ≤ M) → (Sp.joinW l).length ≤ l.length * (M + 1)
  | [], M, _ => by simp [Sp.joinW]
  | [w], M, h => by have := h w (by simp); simp [Sp.joinW]; omega
  | w :: x :: r, M, h => by
    have h1 := h w (by simp)
    have h2 := joinW_len (x :: r) M fun y hy => h y (List.mem_cons_of_mem _ hy)
    have e : (w :: x :: r).length * (M + 1) = (M + 1) + (x :: r).length * (M + 1) := by rw [List.length_cons, Nat.add_mul]; omega
    rw [e]
    simp only [Sp.joinW, List.length_append, List.length_cons] at h2 ⊢
    omega
theorem words_len (m : Nat) (hm : m ≤ 6311433600) : (Sp.joinW (Sp.wordsN m)).length ≤ 400 := by
  have put : ∀ n u, n < 10000000000 → u.length ≤ 3 → (∀ w ∈ Sp.putW n u, w.length ≤ 20) ∧ (Sp.putW n u).length ≤ 1 := by
    intro n u hn hu
    have := Sp.dec_len n hn
    unfold Sp.putW
    split
    · simp
    · simp; omega
  have a := put (m / 86400) [100] (by omega) (by simp)
  have b := put (m % 86400 / 3600) [104] (by omega) (by simp)
  have c := put (m % 3600 / 60) [109, 105, 110] (by omega) (by simp)
  have d := put (m % 60) [115] (by omega) (by simp)
  have h1 : ∀ w ∈ Sp.wordsN m, w.length ≤ 20 := by
    intro w hw
    unfold Sp.wordsN at hw
    simp only [List.mem_append] at hw
    rcases hw with hw | hw | hw | hw
    · exact a.1 w hw
    · exact b.1 w hw
    · exact c.1 w hw
    · exact d.1 w hw
  have h2 : (Sp.wordsN m).length ≤ 4 := by
    unfold Sp.wordsN
    simp only [List.length_append]
    have := a.2
    have := b.2
    have := c.2
    have := d.2
    omega
  have h3 := joinW_len _ 20 h1
  have h4 : (Sp.wordsN m).length * 21 ≤ 4 * 21 := Nat.mul_le_mul_right _ h2
  omega

set_option maxHeartbeats 2000000 in
theorem print_pos (m : Nat) (h0 : 0 < m) (hm : m ≤ 6311433600) (w : World) (HT : Hid (Tab w.heap.size w)) :
    Calls Tryd.prog 10 #[.int .i64 m] w fun e w' => e = .returned (.string ⟨(Sp.joinW (Sp.wordsN m)).toArray⟩) ∧ Below w.heap.size w w' := by
  go_enter Tryd.func10, Tryd.ntmps10
  go_wp2_with fail
  refine (put_as _ (m / 86400) (by omega) _ (by omega) (by decide) w w.heap.size [] _ (by simp) HT _ (PS.start w)).mono ?_
  rintro e w1 ⟨rfl, v1, hp1⟩
  have hl1 : ([] ++ putB (m / 86400) ⟨#[100]⟩).length ≤ 1 := by simpa using putB_len (m / 86400) ⟨#[100]⟩
  go_wp2_with fail
  refine (put_as _ (m % 86400 / 3600) (by omega) _ (by omega) (by decide) w w.heap.size _ _ (by omega) HT _ hp1).mono ?_
  rintro e w2 ⟨rfl, v2, hp2⟩
  have hl2 : (([] ++ putB (m / 86400) ⟨#[100]⟩) ++ putB (m % 86400 / 3600) ⟨#[104]⟩).length ≤ 2 := by have := putB_len (m % 86400 / 3600) ⟨#[104]⟩; rw [List.length_append]; omega
  go_wp2_with fail
  refine (put_as _ (m % 3600 / 60) (by omega) _ (by omega) (by decide) w w.heap.size _ _ (by omega) HT _ hp2).mono ?_
  rintro e w3 ⟨rfl, v3, hp3⟩
  have hl3 : (([] ++ putB (m / 86400) ⟨#[100]⟩) ++ putB (m % 86400 / 3600) ⟨#[104]⟩ ++ putB (m % 3600 / 60) ⟨#[109, 105, 110]⟩).length ≤ 3 := by have := putB_len (m % 3600 / 60) ⟨#[109, 105, 110]⟩; rw [List.length_append]; omega
  go_wp2_with fail
  refine (put_as _ (m % 60) (by omega) _ (by omega) (by decide) w w.heap.size _ _ (by omega) HT _ hp3).mono ?_
  rintro e w4 ⟨rfl, v4, hp4⟩
  have e4 : ([] ++ putB (m / 86400) ⟨#[100]⟩) ++ putB (m % 86400 / 3600) ⟨#[104]⟩ ++ putB (m % 3600 / 60) ⟨#[109, 105, 110]⟩ ++ putB (m % 60) ⟨#[115]⟩ = partsB m := by simp [partsB]
  rw [e4] at hp4
  clear e4 hl1 hl2 hl3 hp1 hp2 hp3
  have hw := partsB_words m
  have hne : 0 < (partsB m).length := by
    have h1 := Sp.words_some m (by omega)
    rw [← hw] at h1
    exact List.length_pos_iff.2 (by simpa using h1)
  have hj : Lib.join ((partsB m).map (·.data.toList)) [32] = Sp.joinW (Sp.wordsN m) := by rw [join_eq, ← hw]
  have hlen : (Sp.joinW (Sp.wordsN m)).length ≤ 140737488355328 := by
    have := words_len m hm
    omega
  have hl4 : (partsB m).length ≤ 4 := by
    have a := putB_len (m / 86400) ⟨#[100]⟩
    have b := putB_len (m % 86400 / 3600) ⟨#[104]⟩
    have c := putB_len (m % 3600 / 60) ⟨#[109, 105, 110]⟩
    have d := putB_len (m % 60) ⟨#[115]⟩
    unfold partsB
    simp only [List.length_append]
    omega
  generalize partsB m = l at *
  obtain ⟨hc4, _, ho4, hs4, hb4⟩ := hp4
  obtain ⟨g, c, rfl, hgc, hg4, hcells⟩ := own_form ho4 hne
  have HJ := Lib.hid hj
  clear hw ho4 hj
  go_wp2_with fail
  refine (Tryd.strings_Join g 0 c l ⟨#[32]⟩ w4 (fun j x hx => hcells j _ (by simp [strCells, hx])) hg4 (by omega) hgc (by rw [show (ByteArray.mk #[32]).data.toList = [32] from rfl, HJ.out]; exact hlen)).mono ?_
  rintro e w5 ⟨rfl, hb5⟩
  rw [show (ByteArray.mk #[32]).data.toList = [32] from rfl, HJ.out]
  have hb6 := hb4.trans (hb5.mono (by omega))
  go_wp2
  go_ret
  exact ⟨rfl, hb6⟩

theorem print_any (n : Int) (w : World) (h1 : -9223372036854775808 ≤ n) (h2 : n ≤ 9223372036854775807) (HT : Hid (Tab w.heap.size w)) :
    Calls Tryd.prog 10 #[.int .i64 n] w fun e w' => e = .returned (.string ⟨(Sp.printL n).toArray⟩) ∧ Below w.heap.size w w' := by
  by_cases hE : n = 1099511627776
  · subst hE
    go_enter Tryd.func10, Tryd.ntmps10
    go_wp2
    go_ret
    exact ⟨rfl, Below.refl _ _⟩
  by_cases hN : n < 0 ∨ 6311433600 < n
  · have e : Sp.printL n = [] := by unfold Sp.printL; rw [if_neg hE, if_pos hN]
    rw [e]
    have hEb : (n == 1099511627776) = false := by simpa using hE
    clear e hE
    rcases hN with hN | hN
    · go_enter Tryd.func10, Tryd.ntmps10
      go_wp2
      go_ret
      exact ⟨rfl, Below.refl _ _⟩
    · have hn0 : ¬ n < 0 := by omega
      go_enter Tryd.func10, Tryd.ntmps10
      go_wp2
      go_ret
      exact ⟨rfl, Below.refl _ _⟩
  by_cases h0 : n = 0
  · subst h0
    go_enter Tryd.func10, Tryd.ntmps10
    go_wp2
    go_ret
    exact ⟨rfl, Below.refl _ _⟩
  · have e : Sp.printL n = Sp.joinW (Sp.wordsN n.toNat) := by unfold Sp.printL; rw [if_neg hE, if_neg hN, if_neg h0]
    rw [e]
    have hn : ((n.toNat : Nat) : Int) = n := by omega
    have := print_pos n.toNat (by omega) (by omega) w HT
    rw [hn] at this
    exact this

end Go.Proofs.YtnfbhhffclahjaaDoor
