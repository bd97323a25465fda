/-
  The reference Add, and the law about a log that rows make: plain laws, walks.
-/
import Derived.Test.YtkgogenmhiclcaaGreatDoorJe
import Derived.Test.YtkgogenmhiclcaaGreatDoorMem
import Derived.ArgAppend
import Derived.Test.YtkgogenmhiclcaaGreatDoorJh
import Derived.Test.YtkgogenmhiclcaaGreatDoorJo
import Derived.Test.YtkgogenmhiclcaaGreatDoorJi
import Derived.Deep.RegionHeld3
import Derived.Test.YtkgogenmhiclcaaGreatDoorJk
namespace Go.Proofs.YtkgogenmhiclcaaGreatDoor
section
namespace Sp
def Up (D : List RowD) : Prop := D.Pairwise fun a b => lessB a b = true
def Apart (L : List RowD) : Prop := L.Pairwise fun a b => likeB a b = false
theorem like_comm (a b : RowD) : likeB a b = likeB b a := by unfold likeB; exact Bool.and_comm _ _
theorem addR_snoc (L : List RowD) (c : RowD) : addR (L ++ [c]) = putR c (addR L) := by simp [addR, List.foldl_append]
theorem addR_app (L X : List RowD) : addR (L ++ X) = X.foldl (fun D c => putR c D) (addR L) := by simp [addR, List.foldl_append]
theorem insR_mem (c z : RowD) : ∀ D : List RowD, z ∈ insR c D ↔ z = c ∨ z ∈ D
  | [] => by simp [insR]
  | x :: r => by
    rw [insR]
    split
    · simp
    · rw [List.mem_cons, insR_mem c z r, List.mem_cons]
      constructor
      · rintro (h | h | h)
        · exact .inr (.inl h)
        · exact .inl h
        · exact .inr (.inr h)
      · rintro (h | h | h)
        · exact .inr (.inl h)
        · exact .inl h
        · exact .inr (.inr h)
theorem insR_perm (c : RowD) : ∀ D : List RowD, (insR c D).Perm (c :: D)
  | [] => List.Perm.refl _
  | x :: r => by
    rw [insR]
    split
    · exact List.Perm.refl _
    · exact ((insR_perm c r).cons x).trans (List.Perm.swap c x r)
theorem insR_up (c : RowD) : ∀ D : List RowD, Up D → (∀ d ∈ D, likeB d c = false) → Up (insR c D)
  | [], _, _ => by simp [insR, Up]
  | x :: r, h, hl => by
    obtain ⟨h1, h2⟩ := List.pairwise_cons.1 h
    rw [insR]
    split
    · rename_i hc
      refine List.pairwise_cons.2 ⟨fun z hz => ?_, h⟩
      rcases List.mem_cons.1 hz with e | hz
      · rw [e]; exact hc
      · exact less_trans c x z hc (h1 z hz)
    · rename_i hc
      have hx := hl x (by simp)
      have hxc : lessB x c = true := by
        unfold likeB at hx
        cases e : lessB x c
        · cases e2 : lessB c x
          · rw [e, e2] at hx; cases hx
          · exact absurd e2 hc
        · rfl
      refine List.pairwise_cons.2 ⟨fun z hz => ?_, insR_up c r h2 fun d hd => hl d (by simp [hd])⟩
      rcases (insR_mem c z r).1 hz with e | hz
      · rw [e]; exact hxc
      · exact h1 z hz
theorem putR_up (c : RowD) (D : List RowD) (h : Up D) : Up (putR c D) := by
  unfold putR
  split
  · exact h
  · rename_i hn
    refine insR_up c D h fun d hd => ?_
    cases e : likeB d c
    · rfl
    · exact absurd (List.any_eq_true.2 ⟨d, hd, e⟩) hn
theorem fold_up : ∀ (X D : List RowD), Up D → Up (X.foldl (fun D c => putR c D) D)
  | [], _, h => h
  | c :: r, D, h => fold_up r _ (putR_up c D h)
theorem addR_up (L : List RowD) : Up (addR L) := fold_up L [] List.Pairwise.nil
theorem putR_keep (c z : RowD) (D : List RowD) (h : z ∈ D) : z ∈ putR c D := by
  unfold putR
  split
  · exact h
  · exact (insR_mem c z D).2 (.inr h)
theorem fold_keep (z : RowD) : ∀ (X D : List RowD), z ∈ D → z ∈ X.foldl (fun D c => putR c D) D
  | [], _, h => h
  | c :: r, D, h => fold_keep z r _ (putR_keep c z D h)
theorem like_self (c : RowD) : likeB c c = true := by
  unfold likeB
  cases h : lessB c c
  · rfl
  · have := less_asym c c h; rw [h] at this; cases this
theorem put_has (c : RowD) (D : List RowD) : ∃ d ∈ putR c D, likeB d c = true := by
  unfold putR
  split
  · rename_i h
    obtain ⟨d, hd, e⟩ := List.any_eq_true.1 h
    exact ⟨d, hd, e⟩
  · exact ⟨c, (insR_mem c c D).2 (.inl rfl), like_self c⟩
theorem fold_has (x : RowD) : ∀ (X D : List RowD), x ∈ X → ∃ d ∈ X.foldl (fun D c => putR c D) D, likeB d x = true
  | c :: r, D, h => by
    rcases List.mem_cons.1 h with e | h
    · subst e
      obtain ⟨d, hd, e⟩ := put_has x D
      exact ⟨d, fold_keep d r _ hd, e⟩
    · exact fold_has x r _ h
theorem put_skip (c : RowD) (D : List RowD) (h : ∃ d ∈ D, likeB d c = true) : putR c D = D := by
  obtain ⟨d, hd, e⟩ := h
  unfold putR
  rw [if_pos (List.any_eq_true.2 ⟨d, hd, e⟩)]
theorem fold_skip : ∀ (X D : List RowD), (∀ x ∈ X, ∃ d ∈ D, likeB d x = true) → X.foldl (fun D c => putR c D) D = D
  | [], _, _ => rfl
  | c :: r, D, h => by
    rw [List.foldl_cons, put_skip c D (h c (by simp))]
    exact fold_skip r D fun x hx => h x (by simp [hx])
/-- a log that is one stays as it is -/
theorem insR_end (c : RowD) : ∀ D : List RowD, (∀ d ∈ D, lessB d c = true) → insR c D = D ++ [c]
  | [], _ => rfl
  | x :: r, h => by
    have hx := less_asym x c (h x (by simp))
    rw [insR, if_neg (by rw [hx]; simp), insR_end c r fun d hd => h d (by simp [hd])]
    rfl
theorem fold_up_app : ∀ (X D : List RowD), Up (D ++ X) → X.foldl (fun D c => putR c D) D = D ++ X
  | [], D, _ => by simp
  | c :: r, D, h => by
    have h1 : ∀ d ∈ D, lessB d c = true := fun d hd => (List.pairwise_append.1 h).2.2 d hd c (by simp)
    have h2 : putR c D = D ++ [c] := by
      unfold putR
      rw [if_neg, insR_end c D h1]
      intro hh
      obtain ⟨d, hd, e⟩ := List.any_eq_true.1 hh
      unfold likeB at e
      rw [h1 d hd] at e
      cases e
    rw [List.foldl_cons, h2, fold_up_app r (D ++ [c]) (by simpa using h)]
    simp
theorem addR_id (D : List RowD) (h : Up D) : addR D = D := by
  have := fold_up_app D [] (by simpa using h)
  simpa [addR] using this
theorem addR_on (D X : List RowD) (h : Up D) : addR (D ++ X) = X.foldl (fun D c => putR c D) D := by rw [addR_app, addR_id D h]
/-- what is there comes no second time -/
theorem add_again (l a b : List RowD) : addR (addR (addR (l ++ a) ++ b) ++ a) = addR (addR (l ++ a) ++ b) ∧ addR (addR (addR (l ++ a) ++ b) ++ l) = addR (addR (l ++ a) ++ b) := by
  have key : ∀ x, x ∈ l ++ a → ∃ d ∈ addR (addR (l ++ a) ++ b), likeB d x = true := by
    intro x hx
    obtain ⟨d, hd, e⟩ := fold_has x (l ++ a) [] hx
    refine ⟨d, ?_, e⟩
    rw [addR_on _ _ (addR_up _)]
    exact fold_keep d b _ hd
  constructor
  · rw [addR_on _ _ (addR_up _)]
    exact fold_skip a _ fun x hx => key x (by simp [hx])
  · rw [addR_on _ _ (addR_up _)]
    exact fold_skip l _ fun x hx => key x (by simp [hx])
theorem putR_len (c : RowD) (D : List RowD) : (putR c D).length ≤ D.length + 1 := by
  unfold putR
  split
  · omega
  · rw [(insR_perm c D).length_eq]; exact Nat.le_refl _
theorem fold_len : ∀ (X D : List RowD), (X.foldl (fun D c => putR c D) D).length ≤ D.length + X.length
  | [], D => Nat.le_refl _
  | c :: r, D => by
    have h1 := fold_len r (putR c D)
    have h2 := putR_len c D
    rw [List.foldl_cons, List.length_cons]; omega
/-- with as many rows as came none is like another one, and they are those -/
theorem fold_full : ∀ (X D : List RowD), Apart D → (X.foldl (fun D c => putR c D) D).length = D.length + X.length → (X.foldl (fun D c => putR c D) D).Perm (D ++ X) ∧ Apart (D ++ X)
  | [], D, h, _ => by simpa using h
  | c :: r, D, h, hl => by
    have h1 := fold_len r (putR c D)
    have h2 := putR_len c D
    rw [List.foldl_cons, List.length_cons] at hl
    have hp : (putR c D).length = D.length + 1 := by omega
    have hn : ¬ D.any (fun d => likeB d c) = true := by
      intro hh
      have : (putR c D).length = D.length := by unfold putR; rw [if_pos hh]
      omega
    have e : putR c D = insR c D := by unfold putR; rw [if_neg hn]
    have hpm : (putR c D).Perm (c :: D) := by rw [e]; exact insR_perm c D
    have hap : Apart (c :: D) := List.pairwise_cons.2 ⟨fun d hd => by
      rw [like_comm]
      cases e2 : likeB d c
      · rfl
      · exact absurd (List.any_eq_true.2 ⟨d, hd, e2⟩) hn, h⟩
    have hap2 : Apart (putR c D) := (hpm.pairwise_iff (fun {a b} hab => by rw [like_comm]; exact hab)).2 hap
    obtain ⟨g1, g2⟩ := fold_full r (putR c D) hap2 (by omega)
    have hm : (putR c D ++ r).Perm (D ++ c :: r) := (hpm.append_right r).trans List.perm_middle.symm
    exact ⟨by rw [List.foldl_cons]; exact g1.trans hm, (hm.pairwise_iff (fun {a b} hab => by rw [like_comm]; exact hab)).1 g2⟩
theorem fold_apart : ∀ (X D : List RowD), Apart (D ++ X) → (X.foldl (fun D c => putR c D) D).Perm (D ++ X)
  | [], D, _ => by simp
  | c :: r, D, h => by
    have hn : ¬ D.any (fun d => likeB d c) = true := by
      intro hh
      obtain ⟨d, hd, e⟩ := List.any_eq_true.1 hh
      have := (List.pairwise_append.1 h).2.2 d hd c (by simp)
      rw [e] at this; cases this
    have e : putR c D = insR c D := by unfold putR; rw [if_neg hn]
    have hpm : (putR c D).Perm (c :: D) := by rw [e]; exact insR_perm c D
    have hm : (putR c D ++ r).Perm (D ++ c :: r) := (hpm.append_right r).trans List.perm_middle.symm
    rw [List.foldl_cons]
    exact (fold_apart r _ ((hm.pairwise_iff (fun {a b} hab => by rw [like_comm]; exact hab)).2 h)).trans hm
theorem up_apart (D : List RowD) (h : Up D) : Apart D := h.imp fun {a b} hab => by unfold likeB; rw [hab]; rfl
theorem up_eq : ∀ (X Y : List RowD), Up X → Up Y → X.Perm Y → X = Y
  | [], Y, _, _, h => (List.nil_perm.1 h).symm
  | x :: X, [], _, _, h => by have := h.length_eq; simp at this
  | x :: X, y :: Y, hX, hY, h => by
    obtain ⟨h1, h2⟩ := List.pairwise_cons.1 hX
    obtain ⟨h3, h4⟩ := List.pairwise_cons.1 hY
    have e : x = y := by
      have hx : x ∈ y :: Y := h.subset (by simp)
      have hy : y ∈ x :: X := h.symm.subset (by simp)
      rcases List.mem_cons.1 hx with e | hx
      · exact e
      · rcases List.mem_cons.1 hy with e | hy
        · exact e.symm
        · have a1 := h3 x hx
          have a2 := less_asym x y (h1 y hy)
          rw [a1] at a2; cases a2
    subst e
    rw [up_eq X Y h2 h4 (List.perm_cons x |>.1 h)]
/-- it plays no part in which order rows come -/
theorem add_order (l a b : List RowD) (h : (addR (addR (l ++ a) ++ b)).length = l.length + a.length + b.length) :
    addR (addR (l ++ a) ++ b) = addR (addR (l ++ b) ++ a) ∧ addR (addR (l ++ a) ++ b) = addR (b ++ (a ++ l)) := by
  have hD := fold_len (l ++ a) []
  have hE := fold_len b (addR (l ++ a))
  have e0 : addR (addR (l ++ a) ++ b) = b.foldl (fun D c => putR c D) (addR (l ++ a)) := addR_on _ _ (addR_up _)
  have hlen : (addR (l ++ a)).length = l.length + a.length := by
    rw [e0] at h
    have : (addR (l ++ a)).length ≤ 0 + (l ++ a).length := hD
    rw [List.length_append] at this
    omega
  obtain ⟨p1, q1⟩ := fold_full (l ++ a) [] List.Pairwise.nil (by
    have : ((l ++ a).foldl (fun D c => putR c D) []).length = l.length + a.length := hlen
    rw [this]; simp)
  obtain ⟨p2, q2⟩ := fold_full b (addR (l ++ a)) (up_apart _ (addR_up _)) (by rw [← e0, h, hlen])
  rw [List.nil_append] at p1 q1
  have hall : (addR (addR (l ++ a) ++ b)).Perm (l ++ a ++ b) := by
    rw [e0]
    exact p2.trans (List.Perm.append_right b p1)
  have hap : Apart (l ++ a ++ b) := (hall.pairwise_iff (fun {a b} hab => by rw [like_comm]; exact hab)).1 (up_apart _ (addR_up _))
  have sym : ∀ {X Y : List RowD}, X.Perm Y → Apart X → Apart Y := fun hp hx => (hp.pairwise_iff (fun {a b} hab => by rw [like_comm]; exact hab)).1 hx
  have c1 : (l ++ a ++ b).Perm (l ++ b ++ a) := by
    rw [List.append_assoc, List.append_assoc]
    exact (List.perm_append_comm (l₁ := a) (l₂ := b)).append_left l
  have c2 : (l ++ a ++ b).Perm (b ++ (a ++ l)) := (List.perm_append_comm (l₁ := l ++ a) (l₂ := b)).trans ((List.perm_append_comm (l₁ := l) (l₂ := a)).append_left b)
  constructor
  · refine up_eq _ _ (addR_up _) (addR_up _) (hall.trans (c1.trans ?_))
    have hap1 := sym c1 hap
    have r1 : (addR (l ++ b)).Perm (l ++ b) := by
      have := fold_apart (l ++ b) [] (by rw [List.nil_append]; exact (List.pairwise_append.1 hap1).1)
      rwa [List.nil_append] at this
    have r2 := fold_apart a (addR (l ++ b)) (sym (List.Perm.append_right a r1.symm) hap1)
    rw [addR_on _ _ (addR_up _)]
    exact (r2.trans (List.Perm.append_right a r1)).symm
  · refine up_eq _ _ (addR_up _) (addR_up _) (hall.trans (c2.trans ?_))
    have := fold_apart (b ++ (a ++ l)) [] (by rw [List.nil_append]; exact sym c2 hap)
    rw [List.nil_append] at this
    exact this.symm
end Sp
end

section
namespace Sp
theorem insR_through {X Y : List RowD} {c : RowD} (h : ∀ x ∈ X, lessB c x = false) : insR c (X ++ Y) = X ++ insR c Y := by
  induction X with
  | nil => rfl
  | cons x r ih => rw [List.cons_append, insR, if_neg (by rw [h x (by simp)]; simp), ih (fun y hy => h y (by simp [hy]))]; rfl
theorem insR_here {Y : List RowD} {c : RowD} (h : ∀ x ∈ Y, lessB c x = true) : insR c Y = c :: Y := by
  cases Y with
  | nil => rfl
  | cons y r => rw [insR, if_pos (h y (by simp))]
theorem up_lt {D : List RowD} (h : Up D) (i j : Nat) (hij : i < j) (hj : j < D.length) : lessB (D[i]'(by omega)) D[j] = true :=
  List.pairwise_iff_getElem.1 h i j (by omega) hj hij
/-- it is there: nothing is put in -/
theorem put_there {D : List RowD} {c : RowD} (k : Nat) (h0 : 0 < k) (hk : k ≤ D.length) (h1 : lessB c (D[k - 1]'(by omega)) = false) (h2 : lessB (D[k - 1]'(by omega)) c = false) : putR c D = D :=
  put_skip c D ⟨D[k - 1]'(by omega), List.getElem_mem _, by unfold likeB; rw [h1, h2]; rfl⟩
/-- where it is put in -/
theorem put_at {D : List RowD} {c : RowD} (hU : Up D) (k : Nat) (hk : k ≤ D.length) (h1 : ∀ x ∈ D.drop k, lessB c x = true) (h2 : ∀ h : 0 < k, lessB (D[k - 1]'(by omega)) c = true) : putR c D = D.take k ++ ([c] ++ D.drop k) := by
  have hb : ∀ x ∈ D.take k, lessB x c = true := by
    intro x hx
    obtain ⟨j, hj, rfl⟩ := List.mem_iff_getElem.1 hx
    rw [List.length_take] at hj
    rw [List.getElem_take]
    have h3 := h2 (by omega)
    by_cases e : j = k - 1
    · subst e; exact h3
    · exact less_trans _ _ _ (up_lt hU j (k - 1) (by omega) (by omega)) h3
  have hno : ¬ D.any (fun d => likeB d c) = true := by
    intro hh
    obtain ⟨d, hd, e⟩ := List.any_eq_true.1 hh
    unfold likeB at e
    rw [← List.take_append_drop k D] at hd
    rcases List.mem_append.1 hd with hd | hd
    · rw [hb d hd] at e; cases e
    · rw [h1 d hd] at e; simp at e
  unfold putR
  rw [if_neg hno]
  conv => lhs; rw [← List.take_append_drop k D]
  rw [insR_through (fun x hx => less_asym x c (hb x hx)), insR_here h1]; rfl
/-- one more is ahead of what lies behind -/
theorem drop_step {D : List RowD} {c : RowD} (k : Nat) (h0 : 0 < k) (hk : k ≤ D.length) (h : ∀ x ∈ D.drop k, lessB c x = true) (h2 : lessB c (D[k - 1]'(by omega)) = true) : ∀ x ∈ D.drop (k - 1), lessB c x = true := by
  intro x hx
  rw [List.drop_eq_getElem_cons (by omega : k - 1 < D.length)] at hx
  rcases List.mem_cons.1 hx with e | hx
  · rw [e]; exact h2
  · rw [Nat.sub_add_cancel h0] at hx; exact h x hx
theorem addR_take (L : List RowD) (k : Nat) (hk : k < L.length) : addR (L.take (k + 1)) = putR L[k] (addR (L.take k)) := by
  rw [List.take_succ_eq_append_getElem hk, addR_snoc]
end Sp
end

section
open Go.RowKit

section
variable {P : Program} (w : World)
theorem run_grow (base : Nat) (t ty e : TypeId) (i : TypeInfo) (z : Value) (size bytes : Nat) (ht : P.underlying t = some (.slice e)) (hi : P.info? e = some i) (hz : i.zero = some z)
    (hsize : i.size = size) (hby : i.bytes = bytes) (hzs : z.cells.size = size) (hsz : 0 < size)
    (A0 : Option Addr) (n c0 B0 : Nat) (olds : List Value) (hA : A0 = none → c0 = 0) (hr0 : Rd w B0 size A0 n olds)
    (B : Nat) (A : Option Addr) (m c : Nat) (news : List Value) (hr : Rd w B size A m news) (hm : 0 < m) (h1 : ∀ u ∈ news, u.oneCell' = true) (hfull : c0 < n + m)
    (h63 : n + m ≤ maxLen) (hbytes : (n + m) * bytes ≤ 140737488355328) (hbase : base ≤ w.heap.size) :
    ∃ v' w', (Builtin.append_ #[t, t] ty #[.slice A0 n c0, .slice A m c]).run P w = .ok v' w' ∧ w'.ownsRow base e size v' (n + m) (olds ++ news) ∧ w.grownBy w' none := by
  obtain ⟨ad, rfl, _, hc⟩ := hr.here hm
  have low : ∀ v' w', World.ownsRow w' w.heap.size e size v' (n + m) (olds ++ news) → World.ownsRow w' base e size v' (n + m) (olds ++ news) := by
    rintro v' w' ⟨h2, h3 | ⟨g, cap, cur, h4, h5, h6⟩⟩
    · exact ⟨h2, .inl h3⟩
    · exact ⟨h2, .inr ⟨g, cap, cur, h4, by omega, h6⟩⟩
  cases A0 with
  | some b =>
    have holds : ∀ j u, olds[j]? = some u → w.cell? (b.add j) = some u := by
      intro j u hu
      rcases Nat.eq_zero_or_pos n with h0 | h0
      · subst h0
        have hn : olds = [] := List.eq_nil_of_length_eq_zero (by simpa using hr0.1)
        subst hn
        simp at hu
      · obtain ⟨ad', h, _, hc⟩ := hr0.2 h0
        injection h with h
        subst h
        exact hc j u hu
    obtain ⟨v', w', hrun, r1, r2⟩ := run_append_arg_grows (P := P) w t ty e i z size bytes ht hi hz hsize hby hzs hsz b n c0 olds hr0.1 holds ad m c news hr.1 hc hfull h63 hbytes
    exact ⟨v', w', hrun, low _ _ r1, r2⟩
  | none =>
    obtain rfl := hA rfl
    have hn0 : n = 0 := by
      rcases Nat.eq_zero_or_pos n with h0 | h0
      · exact h0
      · obtain ⟨ad, h, _⟩ := hr0.2 h0
        cases h
    subst hn0
    obtain rfl : olds = [] := List.eq_nil_of_length_eq_zero (by simpa using hr0.1)
    obtain ⟨v', w', hrun, r1, r2, _⟩ := run_append_own (P := P) w w.heap.size t ty e i z size bytes ht hi hz hsize hby hzs hsz (.slice none 0 0) 0 [] (World.ownsRow_nil w _ e size) ad m c news hr.1 hc h1 h63 hbytes (Nat.le_refl _)
    exact ⟨v', w', hrun, low _ _ r1, r2⟩

theorem wp_grow {o : Oper} {a : Act} {K : Act → World → Prop} {Q : Exit → Act → World → Prop} (s x : Operand) (t : TypeId)
    (ho : o.op = .call { callee := .builtin .append, args := #[s, x], argTypes := #[t, t] })
    (base : Nat) (e : TypeId) (i : TypeInfo) (z : Value) (size bytes : Nat) (ht : P.underlying t = some (.slice e)) (hi : P.info? e = some i) (hz : i.zero = some z)
    (hsize : i.size = size) (hby : i.bytes = bytes) (hzs : z.cells.size = size) (hsz : 0 < size)
    (A0 : Option Addr) (n c0 B0 : Nat) (olds : List Value) (hs : a.eval s = .slice A0 n c0) (hA : A0 = none → c0 = 0) (hr0 : Rd w B0 size A0 n olds)
    (B : Nat) (A : Option Addr) (m c : Nat) (news : List Value) (hx : a.eval x = .slice A m c) (hr : Rd w B size A m news) (hm : 0 < m) (h1 : ∀ u ∈ news, u.oneCell' = true) (hfull : c0 < n + m)
    (h63 : n + m ≤ maxLen) (hbytes : (n + m) * bytes ≤ 140737488355328) (hbase : base ≤ w.heap.size)
    (h : ∀ v' w', w'.ownsRow base e size v' (n + m) (olds ++ news) → w.grownBy w' none → K (a.put o.dst v') w') : o.wp P a w K Q := by
  obtain ⟨v', w', hrun, h2, h3⟩ := run_grow (P := P) w base t o.type e i z size bytes ht hi hz hsize hby hzs hsz A0 n c0 B0 olds hA hr0 B A m c news hr hm h1 hfull h63 hbytes hbase
  unfold Oper.wp execOp
  simp only [ho, resolve, invoke, builtin, Sem.run_bind, Sem.run_pure, Result.andThen_ok, List.map_toArray, List.map_cons, List.map_nil, hs, hx, hrun]
  exact h v' w' h2 h3

theorem wpList_grow {ops : Array Oper} {rest : List Oper} {o : Oper} {a : Act} {Q : Exit → Act → World → Prop} (hgd : o.guard = none) (s x : Operand) (t : TypeId)
    (ho : o.op = .call { callee := .builtin .append, args := #[s, x], argTypes := #[t, t] })
    (base : Nat) (e : TypeId) (i : TypeInfo) (z : Value) (size bytes : Nat) (ht : P.underlying t = some (.slice e)) (hi : P.info? e = some i) (hz : i.zero = some z)
    (hsize : i.size = size) (hby : i.bytes = bytes) (hzs : z.cells.size = size) (hsz : 0 < size)
    (A0 : Option Addr) (n c0 B0 : Nat) (olds : List Value) (hs : a.eval s = .slice A0 n c0) (hA : A0 = none → c0 = 0) (hr0 : Rd w B0 size A0 n olds)
    (B : Nat) (A : Option Addr) (m c : Nat) (news : List Value) (hx : a.eval x = .slice A m c) (hr : Rd w B size A m news) (hm : 0 < m) (h1 : ∀ u ∈ news, u.oneCell' = true) (hfull : c0 < n + m)
    (h63 : n + m ≤ maxLen) (hbytes : (n + m) * bytes ≤ 140737488355328) (hbase : base ≤ w.heap.size)
    (h : ∀ v' w', w'.ownsRow base e size v' (n + m) (olds ++ news) → w.grownBy w' none → wpList P ops Q rest (a.put o.dst v') w') : wpList P ops Q (o :: rest) a w :=
  wpList_plain hgd fun _ hK => wp_grow w s x t ho base e i z size bytes ht hi hz hsize hby hzs hsz A0 n c0 B0 olds hs hA hr0 B A m c news hx hr hm h1 hfull h63 hbytes hbase fun v' w' h2 h3 => hK _ _ (h v' w' h2 h3)

theorem step_grow {ops : Array Oper} {o : Oper} {a : Act} {K : Act → World → Prop} {Q : Exit → Act → World → Prop} {E : Prop} (hgd : o.guard = none) (s x : Operand) (t : TypeId)
    (ho : o.op = .call { callee := .builtin .append, args := #[s, x], argTypes := #[t, t] })
    (base : Nat) (e : TypeId) (i : TypeInfo) (z : Value) (size bytes : Nat) (ht : P.underlying t = some (.slice e)) (hi : P.info? e = some i) (hz : i.zero = some z)
    (hsize : i.size = size) (hby : i.bytes = bytes) (hzs : z.cells.size = size) (hsz : 0 < size)
    (A0 : Option Addr) (n c0 B0 : Nat) (olds : List Value) (hs : a.eval s = .slice A0 n c0) (hA : A0 = none → c0 = 0) (hr0 : Rd w B0 size A0 n olds)
    (B : Nat) (A : Option Addr) (m c : Nat) (news : List Value) (hx : a.eval x = .slice A m c) (hr : Rd w B size A m news) (hm : 0 < m) (h1 : ∀ u ∈ news, u.oneCell' = true) (hfull : c0 < n + m)
    (h63 : n + m ≤ maxLen) (hbytes : (n + m) * bytes ≤ 140737488355328) (hbase : base ≤ w.heap.size)
    (h : ∀ v' w', w'.ownsRow base e size v' (n + m) (olds ++ news) → w.grownBy w' none → K (a.put o.dst v') w') :
    if Region.wanted o (yielded ops a.tmps) = true then Oper.wp P o a w K Q else E := by
  have hw : Region.wanted o (yielded ops a.tmps) = true := by simp [Region.wanted, hgd]
  rw [if_pos hw]
  exact wp_grow w s x t ho base e i z size bytes ht hi hz hsize hby hzs hsz A0 n c0 B0 olds hs hA hr0 B A m c news hx hr hm h1 hfull h63 hbytes hbase h
end
end

section
open Go.RowKit

theorem own_mono {w : World} {b b' : Nat} {e : TypeId} {size n : Nat} {v : Value} {xs : List Value} (h : w.ownsRow b e size v n xs) (hb : b' ≤ b) : w.ownsRow b' e size v n xs := by
  refine ⟨h.1, ?_⟩
  rcases h.2 with hn | ⟨g, cap, cur, h1, h2, h3⟩
  · exact .inl hn
  · exact .inr ⟨g, cap, cur, h1, Nat.le_trans hb h2, h3⟩
theorem since_grown {W0 W W' : World} {row : Option Nat} (h : Below W0.heap.size W0 W) (hg : W.grownBy W' row) (hr : ∀ k, row = some k → W0.heap.size ≤ k) : Below W0.heap.size W0 W' := h.grown hg h.size hr
theorem own_fresh (X : World) (cs : Array Value) (e : TypeId) (n size : Nat) (h : cs.size = n * size) (hn : n ≤ maxLen) : (X.alloc (.cells cs e)).ownsRow X.heap.size e size (.slice (some ⟨X.heap.size, 0, none⟩) n n) n cs.toList :=
  ⟨by rw [Array.length_toList, h], .inr ⟨X.heap.size, n, cs, rfl, Nat.le_refl _, heap_alloc_new X _, Nat.le_refl _, hn, h, by rw [← h]; exact List.take_of_length_le (by simp)⟩⟩
/-- one thing laid anew, with others behind it -/
theorem step_put {P : Program} {ops : Array Oper} {o : Oper} {a : Act} {K : Act → World → Prop} {Q : Exit → Act → World → Prop} {E : Prop} (W0 X : World) (hS : Below W0.heap.size W0 X) (hgd : o.guard = none) (s x : Operand) (t : TypeId)
    (ho : o.op = .call { callee := .builtin .append, args := #[s, x], argTypes := #[t, t] })
    (e : TypeId) (i : TypeInfo) (z : Value) (size bytes : Nat) (ht : P.underlying t = some (.slice e)) (hi : P.info? e = some i) (hz : i.zero = some z)
    (hsize : i.size = size) (hby : i.bytes = bytes) (hzs : z.cells.size = size) (hsz : 0 < size)
    (cs : Array Value) (hcs : cs.size = size) (hs : a.eval s = .slice (some ⟨X.heap.size, 0, none⟩) 1 1)
    (B : Nat) (A : Option Addr) (m c : Nat) (news : List Value) (hx : a.eval x = .slice A m c) (hr : Rd X B size A m news) (hB : B ≤ X.heap.size) (h1 : ∀ u ∈ news, u.oneCell' = true)
    (h63 : 1 + m ≤ maxLen) (hbytes : (1 + m) * bytes ≤ 140737488355328)
    (h : ∀ A' c' w', Rd w' w'.heap.size size A' (1 + m) (cs.toList ++ news) → Below W0.heap.size W0 w' → K (a.put o.dst (.slice A' (1 + m) c')) w') :
    if Region.wanted o (yielded ops a.tmps) = true then Oper.wp P o a (X.alloc (.cells cs e)) K Q else E := by
  have hown := own_mono (own_fresh X cs e 1 size (by omega) (by unfold maxLen; omega)) hS.size
  refine step_app (X.alloc (.cells cs e)) hgd s x t ho W0.heap.size e i z size bytes ht hi hz hsize hby hzs hsz _ 1 cs.toList hs hown B A m c news hx (hr.alloc hB _) h1 h63 hbytes (Nat.le_trans hS.size (by simp)) ?_
  intro v' w' h2 h3 _
  obtain ⟨A', c', rfl⟩ := own_slice h2
  exact h A' c' w' (Rd.of_own h2) (since_grown (since_alloc hS _) h3 (fun k hk => (hown.lt k hk).1))
theorem rowsC_app (X Y : List RowD) : rowsC X ++ rowsC Y = rowsC (X ++ Y) := by rw [rowsC, rowsC, rowsC, List.flatMap_append]
theorem rowsC_take (L : List RowD) (k : Nat) : (rowsC L).take (k * 5) = rowsC (L.take k) := by
  conv => lhs; rw [← List.take_append_drop k L]
  rw [← rowsC_app]
  by_cases h : k ≤ L.length
  · rw [List.take_append_of_le_length (by rw [rowsC_len, List.length_take]; omega), List.take_of_length_le (by rw [rowsC_len, List.length_take]; omega)]
  · rw [List.drop_eq_nil_of_le (by omega), List.take_of_length_le (by rw [List.length_append, rowsC_len, rowsC_len, List.length_take]; simp; omega)]; simp [rowsC]
theorem rowsC_drop (L : List RowD) (k : Nat) : (rowsC L).drop (k * 5) = rowsC (L.drop k) := by
  have h := List.take_append_drop (k * 5) (rowsC L)
  have h2 : rowsC (L.take k) ++ rowsC (L.drop k) = rowsC L := by rw [rowsC_app, List.take_append_drop]
  rw [rowsC_take, ← h2] at h
  exact List.append_cancel_left (by rw [h2] at h; rw [h2]; exact h)
end

section
open Go.RowKit

set_option maxRecDepth 100000 in
set_option maxHeartbeats 16000000 in
theorem radd_any (l rows : List RowD) (A1 A2 : Option Addr) (n1 c1 n2 c2 : Nat) (w : World) (h1 : Rd w w.heap.size 5 A1 n1 (rowsC l)) (h2 : Rd w w.heap.size 5 A2 n2 (rowsC rows)) (hn : n1 + n2 ≤ 1073741824) :
    Calls Tryz.prog 11 #[.slice A1 n1 c1, .slice A2 n2 c2] w fun e w' => ∃ (A' : Option Addr) (c' : Nat), e = .returned (.slice A' (Sp.addR (l ++ rows)).length c') ∧ Rd w' w'.heap.size 5 A' (Sp.addR (l ++ rows)).length (rowsC (Sp.addR (l ++ rows))) ∧ Below w.heap.size w w' := by
  obtain ⟨i0, hi, hz, hs, hby⟩ := rowInfo
  have HI := Lib.hid hi
  have HIZ := Lib.hid hz
  have HIS := Lib.hid hs
  have HIB := Lib.hid hby
  have HL1 := Lib.hid h1
  have HL2 := Lib.hid (fun W hW => (h2.below (w' := W) hW).more hW.size)
  have g1 : l.length = n1 := by have := h1.1; rw [rowsC_len] at this; omega
  have g2 : rows.length = n2 := by have := h2.1; rw [rowsC_len] at this; omega
  have HLN : Hid ((l ++ rows).length = n1 + n2) := Lib.hid (by rw [List.length_append, g1, g2])
  clear hi hz hs hby h1 h2 g1 g2
  go_enter Tryz.func11, Tryz.ntmps11
  go_wp2_with (at_builtin; refine wpList_append_rd _ rfl _ _ 22 rfl w.heap.size 37 i0 (.agg zeroRow) 5 56 Tryz.underlying22 HI.out HIZ.out HIS.out HIB.out rfl (by decide) (.slice none 0 0) 0 [] rfl ⟨rfl, .inl ⟨rfl, rfl⟩⟩ A1 n1 c1 w.heap.size (rowsC l) rfl HL1.out (rowsC_one _) (by simp only [maxLen]; omega) (by omega) (Nat.le_refl _) ?_)
  intro v1 wa hown1 hgr1
  have HO1 := Lib.hid hown1
  have HBa : Hid (Below w.heap.size w wa) := Lib.hid ((Below.refl _ _).grown hgr1 (Nat.le_refl _) (by intro k hk; cases hk))
  have hsz := HBa.out.size
  have HLa := Lib.hid (HL2.out _ HBa.out)
  clear hown1 hgr1 HL1 HL2
  go_wp2_with (at_builtin; refine wpList_append_rd _ rfl _ _ 22 rfl w.heap.size 37 i0 (.agg zeroRow) 5 56 Tryz.underlying22 HI.out HIZ.out HIS.out HIB.out rfl (by decide) _ _ _ rfl HO1.out A2 n2 c2 wa.heap.size (rowsC rows) rfl HLa.out (rowsC_one _) (by simp only [maxLen]; omega) (by omega) hsz ?_)
  intro v2 wb hown2 hgr2
  have HBb : Hid (Below w.heap.size w wb) := Lib.hid (HBa.out.grown hgr2 HBa.out.size (own_base HO1.out))
  obtain ⟨Av, cv, rfl⟩ := own_slice hown2
  have hcells : rowsC l ++ rowsC rows = rowsC (l ++ rows) := by rw [rowsC, rowsC, rowsC, List.flatMap_append]
  have hrv := (Rd.own hown2).1
  simp only [hcells] at hrv
  have HRV : Hid (Rd wb wb.heap.size 5 Av (n1 + n2) (rowsC (l ++ rows))) := Lib.hid hrv
  have HROW := Lib.hid (fun k hk => Rd.rowAt HRV.out k hk)
  clear hown2 hgr2 hrv hcells HO1 HBa HLa hsz HRV
  generalize hLL : l ++ rows = L at *
  have HLL := Lib.hid hLL
  clear hLL
  try simp only [Nat.zero_add]
  generalize n1 + n2 = N at *
  go_wp2_with fail
  go_loopw [5, 14] (fun v iv wr => ∃ (k n : Nat) (D : List RowD), k ≤ N ∧ iv = .int .i64 k ∧ wr.ownsRow wb.heap.size 37 5 v n (rowsC D) ∧ Below wb.heap.size wb wr ∧ n ≤ k ∧ Hid (D.length = n ∧ D = Sp.addR (L.take k))) (fun _ iv _ => N - (intOf iv).toNat)
  case atStart => exact ⟨0, 0, [], Nat.zero_le _, rfl, ⟨rfl, .inl ⟨rfl, rfl⟩⟩, Below.refl _ _, Nat.le_refl _, Lib.hid ⟨rfl, rfl⟩⟩
  case round =>
    obtain ⟨k, n, D, hk, rfl, hown, hb, hnk, HD⟩ := hrel
    obtain ⟨DA, dc, rfl⟩ := own_slice hown
    generalize wr = wo at *
    by_cases hlt : k < N
    · have hkl : k < L.length := by rw [HLN.out]; exact hlt
      obtain ⟨ad, rfl, hc⟩ := HROW.out k hkl
      obtain ⟨c0, c1, c2, c3, c4⟩ := hc wo hb
      have HTK : Hid (Sp.addR (L.take (k + 1)) = Sp.putR L[k] D) := Lib.hid (by rw [Sp.addR_take L k hkl, ← HD.out.2])
      have HUP : Hid (Sp.Up D) := Lib.hid (by rw [HD.out.2]; exact Sp.addR_up _)
      have HDL : Hid (D.length = n) := Lib.hid HD.out.1
      have HPT := Lib.hid (fun j h0 hj => Sp.put_there (D := D) (c := L[k]) j h0 hj)
      have HPA := Lib.hid (fun j hj => Sp.put_at (c := L[k]) HUP.out j hj)
      have HDS := Lib.hid (fun j h0 hj => Sp.drop_step (D := D) (c := L[k]) j h0 hj)
      have HLESS := Lib.hid (fun q w => rless_any L[k] q w)
      have HLESS2 := Lib.hid (fun q w => rless_any q L[k] w)
      have HRD := Lib.hid (Rd.own hown).1
      have HOWN := Lib.hid hown
      have HDROW := Lib.hid (fun i hi => Rd.rowAt HRD.out i hi)
      clear hc hown
      generalize L[k] = r at *
      obtain ⟨rt, ru, rn, rk, rx⟩ := r
      simp only [rowV, rowC] at HLESS HLESS2
      dsimp only at c0 c1 c2 c3 c4
      have x1 : (0 : Int) ≤ (k : Int) := by omega
      have x2 : (k : Int) < (N : Int) := by omega
      have HXN := Lib.hid (RBox.new wo rt rn rk ru rx)
      have hzN : wo.heap.size < (wo.alloc (.cells #[.int .i64 rt, .string ru, .int .i64 rn, .int .i64 rk, .string rx] 37)).heap.size := by simp
      have HBO := Lib.hid hb
      have hvw : (DA = none ∧ dc = 0 ∧ n = 0) ∨ ∃ g, DA = some ⟨g, 0, none⟩ ∧ n ≤ dc ∧ dc ≤ 9223372036854775807 := by
        rcases HOWN.out.2 with ⟨h0, h1⟩ | ⟨g, cap, cur, h1, _, _, h2, h3, _⟩
        · injection h0 with h2 h3 h4
          exact .inl ⟨h2, h4, h1⟩
        · injection h1 with h4 h5 h6
          subst h6
          exact .inr ⟨g, h4, h2, by unfold maxLen at h3; omega⟩
      clear hb
      have HBN : Hid (Below wo.heap.size wo (wo.alloc (.cells #[.int .i64 rt, .string ru, .int .i64 rn, .int .i64 rk, .string rx] 37))) := Lib.hid ((Below.refl _ _).alloc (Nat.le_refl _) _)
      go_wp2_with fail
      go_loopw [8] (fun kv W => ∃ j : Nat, j ≤ n ∧ kv = .int .i64 j ∧ Below (wo.alloc (.cells #[.int .i64 rt, .string ru, .int .i64 rn, .int .i64 rk, .string rx] 37)).heap.size (wo.alloc (.cells #[.int .i64 rt, .string ru, .int .i64 rn, .int .i64 rk, .string rx] 37)) W ∧ Hid (∀ x ∈ D.drop j, lessB ⟨rt, ru, rn, rk, rx⟩ x = true)) (fun kv _ => (intOf kv).toNat)
      case atStart => exact ⟨n, Nat.le_refl _, rfl, Below.refl _ _, Lib.hid (by rw [List.drop_eq_nil_of_le (by rw [HDL.out]; exact Nat.le_refl _)]; simp)⟩
      case round =>
        obtain ⟨j, hj, rfl, hbW, HG⟩ := hrel
        have HXW := Lib.hid (HXN.out.on hzN hbW)
        have HBW := Lib.hid (HBN.out.trans (hbW.mono HBN.out.size))
        have hzW : wo.heap.size < wr.heap.size := Nat.lt_of_lt_of_le hzN hbW.size
        have HbW := Lib.hid hbW
        clear hbW c0 c1 c2 c3 c4
        have e0 : ∀ p : Since wr.heap.size wr, p.w'.cell? ⟨wo.heap.size, 0, none⟩ = some (.int .i64 rt) := fun p => (HXW.out.on hzW p.hb).c0
        have e1 : ∀ p : Since wr.heap.size wr, p.w'.cell? ⟨wo.heap.size, 1, none⟩ = some (.string ru) := fun p => (HXW.out.on hzW p.hb).c1
        have e2 : ∀ p : Since wr.heap.size wr, p.w'.cell? ⟨wo.heap.size, 2, none⟩ = some (.int .i64 rn) := fun p => (HXW.out.on hzW p.hb).c2
        have e3 : ∀ p : Since wr.heap.size wr, p.w'.cell? ⟨wo.heap.size, 3, none⟩ = some (.int .i64 rk) := fun p => (HXW.out.on hzW p.hb).c3
        have e4 : ∀ p : Since wr.heap.size wr, p.w'.cell? ⟨wo.heap.size, 4, none⟩ = some (.string rx) := fun p => (HXW.out.on hzW p.hb).c4
        rcases Nat.eq_zero_or_pos j with hj0 | hj0
        · have HPX := Lib.hid (HPA.out j (by rw [HDL.out]; exact hj) HG.out (fun h => absurd h (by omega)))
          have y5 : decide ((0 : Int) < (j : Int)) = false := decide_eq_false (by omega)
          have y6 : decide (0 < j) = false := decide_eq_false (by omega)
          go_upto_region 6 with fail
          refine wp_region_since wr.heap.size (by kernel_rfl) (by kernel_rfl) ?_
          repeat (go_big_quiet_step (first | (go_at_call 27; exact Calls.since_of (Nat.le_refl _) (HLESS.out _ _))))
          refine wpQuiet_nil ?_
          intro _ hw'
          obtain ⟨pz, hw''⟩ := hw'
          subst hw''
          have HXw8 := Lib.hid (HXW.out.on hzW pz.hb)
          have HBw8 := Lib.hid (HBW.out.trans (pz.hb.mono HBW.out.size))
          have hzw8 : wo.heap.size < pz.w'.heap.size := Nat.lt_of_lt_of_le hzW pz.hb.size
          clear e0 e1 e2 e3 e4 HXW HBW hzW
          generalize pz.w' = w8 at *
          go_upto_region 8 with fail
          have e0 : ∀ p : Since w8.heap.size w8, p.w'.cell? ⟨wo.heap.size, 0, none⟩ = some (.int .i64 rt) := fun p => (HXw8.out.on hzw8 p.hb).c0
          have e1 : ∀ p : Since w8.heap.size w8, p.w'.cell? ⟨wo.heap.size, 1, none⟩ = some (.string ru) := fun p => (HXw8.out.on hzw8 p.hb).c1
          have e2 : ∀ p : Since w8.heap.size w8, p.w'.cell? ⟨wo.heap.size, 2, none⟩ = some (.int .i64 rn) := fun p => (HXw8.out.on hzw8 p.hb).c2
          have e3 : ∀ p : Since w8.heap.size w8, p.w'.cell? ⟨wo.heap.size, 3, none⟩ = some (.int .i64 rk) := fun p => (HXw8.out.on hzw8 p.hb).c3
          have e4 : ∀ p : Since w8.heap.size w8, p.w'.cell? ⟨wo.heap.size, 4, none⟩ = some (.string rx) := fun p => (HXw8.out.on hzw8 p.hb).c4
          refine wp_region_since w8.heap.size (by kernel_rfl) (by kernel_rfl) ?_
          repeat (go_big_quiet_step (first | (go_at_call 27; exact Calls.since_of (Nat.le_refl _) (HLESS2.out _ _))))
          refine wpQuiet_nil ?_
          intro _ hw'
          obtain ⟨pz, hw''⟩ := hw'
          subst hw''
          have HXw9 := Lib.hid (HXw8.out.on hzw8 pz.hb)
          have HBw9 := Lib.hid (HBw8.out.trans (pz.hb.mono HBw8.out.size))
          have hzw9 : wo.heap.size < pz.w'.heap.size := Nat.lt_of_lt_of_le hzw8 pz.hb.size
          clear e0 e1 e2 e3 e4 HXw8 HBw8 hzw8
          generalize pz.w' = w9 at *
          rcases hvw with ⟨rfl, rfl, rfl⟩ | ⟨g, rfl, hnc, hcm⟩
          · obtain rfl : D = [] := List.eq_nil_of_length_eq_zero HDL.out
            obtain rfl : j = 0 := by omega
            rw [show ((0 : Nat) : Int) = 0 from rfl]
            go_upto_region 9 with fail
            have k0 : ∀ V, Below w9.heap.size w9 V → V.cell? ⟨wo.heap.size, 0, none⟩ = some (.int .i64 rt) := fun V hV => (HXw9.out.on hzw9 hV).c0
            have k1 : ∀ V, Below w9.heap.size w9 V → V.cell? ⟨wo.heap.size, 1, none⟩ = some (.string ru) := fun V hV => (HXw9.out.on hzw9 hV).c1
            have k2 : ∀ V, Below w9.heap.size w9 V → V.cell? ⟨wo.heap.size, 2, none⟩ = some (.int .i64 rn) := fun V hV => (HXw9.out.on hzw9 hV).c2
            have k3 : ∀ V, Below w9.heap.size w9 V → V.cell? ⟨wo.heap.size, 3, none⟩ = some (.int .i64 rk) := fun V hV => (HXw9.out.on hzw9 hV).c3
            have k4 : ∀ V, Below w9.heap.size w9 V → V.cell? ⟨wo.heap.size, 4, none⟩ = some (.string rx) := fun V hV => (HXw9.out.on hzw9 hV).c4
            have hq : Below w9.heap.size w9 w9.drew := (Below.refl _ _).drew
            have HWS : Hid (wb.heap.size ≤ w9.heap.size) := Lib.hid (Nat.le_trans HBO.out.size HBw9.out.size)
            go_region_held3 (fun V => Below w9.heap.size w9 V) (first | assumption | exact since_alloc (by assumption) _) (first | (refine step_put w9 w9.drew hq rfl _ _ 22 rfl 37 i0 (.agg zeroRow) 5 56 Tryz.underlying22 HI.out HIZ.out HIS.out HIB.out rfl (by decide) #[.int .i64 rt, .string ru, .int .i64 rn, .int .i64 rk, .string rx] rfl rfl w9.heap.size none 0 _ (rowsC []) rfl Rd.empty (Nat.le_refl _) (rowsC_one _) (by decide) (by decide) ?_; intro A5 c5 w5 hr5' q5; have hr5 : Rd w5 w5.heap.size 5 A5 (1) (rowsC [⟨rt, ru, rn, rk, rx⟩]) := hr5'; clear hr5') | (refine step_grow _ rfl _ _ 22 rfl w9.heap.size 37 i0 (.agg zeroRow) 5 56 Tryz.underlying22 HI.out HIZ.out HIS.out HIB.out rfl (by decide) none 0 0 w9.heap.size (rowsC []) rfl (fun _ => rfl) Rd.empty w5.heap.size A5 _ c5 _ rfl hr5 (by omega) (rowsC_one _) (by omega) (by decide) (by decide) (Below.size q5) ?_; intro v6 w6 hown6' hgr6; have q6 := since_grown q5 hgr6 (by intro k hk; cases hk); have hown6 := own_mono hown6' HWS.out; clear hown6' hgr6))
            all_goals
              have HFIN := Lib.hid (HBO.out.trans ((HBw9.out.trans (q6.mono HBw9.out.size)).mono HBO.out.size))
              have HOW := Lib.hid hown6
              clear hown6 q6
              go_wp2
              go_roundw
              case rel => exact ⟨k + 1, 1, [⟨rt, ru, rn, rk, rx⟩], by omega, by go_num, HOW.out, HFIN.out, by omega, Lib.hid ⟨rfl, by rw [HTK.out, HPX.out]; rfl⟩⟩
              case measure => first | (simp [intOf]; done) | (simp [intOf]; omega)
          · obtain ⟨x, hx⟩ : ∃ x, x = j := ⟨_, rfl⟩
            rw [← hx]
            rw [← hx] at HPX
            have hxn : x ≤ n := by omega
            clear hx y5 y6 HG hj hj0
            go_upto_region 9 with fail
            have k0 : ∀ V, Below w9.heap.size w9 V → V.cell? ⟨wo.heap.size, 0, none⟩ = some (.int .i64 rt) := fun V hV => (HXw9.out.on hzw9 hV).c0
            have k1 : ∀ V, Below w9.heap.size w9 V → V.cell? ⟨wo.heap.size, 1, none⟩ = some (.string ru) := fun V hV => (HXw9.out.on hzw9 hV).c1
            have k2 : ∀ V, Below w9.heap.size w9 V → V.cell? ⟨wo.heap.size, 2, none⟩ = some (.int .i64 rn) := fun V hV => (HXw9.out.on hzw9 hV).c2
            have k3 : ∀ V, Below w9.heap.size w9 V → V.cell? ⟨wo.heap.size, 3, none⟩ = some (.int .i64 rk) := fun V hV => (HXw9.out.on hzw9 hV).c3
            have k4 : ∀ V, Below w9.heap.size w9 V → V.cell? ⟨wo.heap.size, 4, none⟩ = some (.string rx) := fun V hV => (HXw9.out.on hzw9 hV).c4
            have hq : Below w9.heap.size w9 w9.drew := (Below.refl _ _).drew
            have HWS : Hid (wb.heap.size ≤ w9.heap.size) := Lib.hid (Nat.le_trans HBO.out.size HBw9.out.size)
            have HNONE : Hid ((some ⟨g, 0, none⟩ : Option Addr) = none → x = 0) := Lib.hid (fun e => by cases e)
            have HRW : Hid (∀ V, Below w9.heap.size w9 V → Rd V w9.heap.size 5 (some ⟨g, 0, none⟩) n (rowsC D)) := Lib.hid (fun V hV => ((HRD.out.below HBw9.out).more HBw9.out.size).below hV)
            have HPRE : Hid (∀ V, Below w9.heap.size w9 V → Rd V w9.heap.size 5 (some ⟨g, 0, none⟩) x (rowsC (D.take x))) := Lib.hid (fun V hV => by
              have := (HRW.out V hV).take x hxn
              rwa [rowsC_take] at this)
            have HSUF : Hid (∀ V, Below w9.heap.size w9 V → Rd V w9.heap.size 5 (if dc = x then some ⟨g, 0, none⟩ else some ⟨g, x * 5, none⟩) (n - x) (rowsC (D.drop x))) := Lib.hid (fun V hV => by
              split
              · rw [List.drop_eq_nil_of_le (by rw [HDL.out]; omega), show n - x = 0 from by omega]; exact Rd.empty
              · have := (HRW.out V hV).drop x
                rwa [rowsC_drop, Addr.add_lit, Nat.zero_add] at this)
            have z1 : (0 : Int) ≤ (x : Int) := by omega
            have z2 : (x : Int) ≤ (n : Int) := by omega
            have z3 : (x : Int) ≤ (dc : Int) := by omega
            go_region_held3 (fun V => Below w9.heap.size w9 V) (first | assumption | exact since_alloc (by assumption) _) (first | (refine step_put w9 w9.drew hq rfl _ _ 22 rfl 37 i0 (.agg zeroRow) 5 56 Tryz.underlying22 HI.out HIZ.out HIS.out HIB.out rfl (by decide) #[.int .i64 rt, .string ru, .int .i64 rn, .int .i64 rk, .string rx] rfl rfl w9.heap.size _ _ _ _ rfl (HSUF.out _ hq) (Nat.le_refl _) (rowsC_one _) (by unfold maxLen; omega) (by omega) ?_; intro A5 c5 w5 hr5' q5; have hr5 : Rd w5 w5.heap.size 5 A5 (1 + (n - x)) (rowsC (⟨rt, ru, rn, rk, rx⟩ :: D.drop x)) := hr5'; clear hr5') | (refine step_grow _ rfl _ _ 22 rfl w9.heap.size 37 i0 (.agg zeroRow) 5 56 Tryz.underlying22 HI.out HIZ.out HIS.out HIB.out rfl (by decide) _ _ _ w9.heap.size _ rfl HNONE.out (HPRE.out _ q5) w5.heap.size A5 _ c5 _ rfl hr5 (by omega) (rowsC_one _) (by omega) (by unfold maxLen; omega) (by omega) (Below.size q5) ?_; intro v6 w6 hown6' hgr6; have q6 := since_grown q5 hgr6 (by intro k hk; cases hk); have hown6 := own_mono hown6' HWS.out; clear hown6' hgr6))
            all_goals
              have HFIN := Lib.hid (HBO.out.trans ((HBw9.out.trans (q6.mono HBw9.out.size)).mono HBO.out.size))
              have HOW := Lib.hid hown6
              clear hown6 q6
              go_wp2
              go_roundw
              case rel => exact ⟨k + 1, x + (1 + (n - x)), Sp.putR ⟨rt, ru, rn, rk, rx⟩ D, by omega, by go_num, by rw [HPX.out, ← rowsC_app]; exact HOW.out, HFIN.out, by omega, Lib.hid ⟨by rw [HPX.out]; have := HDL.out; simp; omega, HTK.out.symm⟩⟩
              case measure => first | (simp [intOf]; done) | (simp [intOf]; omega)
        · obtain ⟨i, rfl⟩ : ∃ i, j = i + 1 := ⟨j - 1, by omega⟩
          have hil : i < D.length := by have := HDL.out; omega
          obtain ⟨ga, hga, HQ⟩ := HDROW.out i hil
          have HQ := Lib.hid HQ
          have HGS : Hid (lessB ⟨rt, ru, rn, rk, rx⟩ D[i] = true → ∀ z ∈ D.drop i, lessB ⟨rt, ru, rn, rk, rx⟩ z = true) := Lib.hid (fun h => by
            have := HDS.out (i + 1) (by omega) (by omega) HG.out
            simp only [Nat.add_sub_cancel] at this
            exact this h)
          have HGT : Hid (lessB ⟨rt, ru, rn, rk, rx⟩ D[i] = false → lessB D[i] ⟨rt, ru, rn, rk, rx⟩ = false → Sp.putR ⟨rt, ru, rn, rk, rx⟩ D = D) := Lib.hid (fun h1 h2 => by
            have := HPT.out (i + 1) (by omega) (by omega)
            simp only [Nat.add_sub_cancel] at this
            exact this h1 h2)
          have HGA : Hid (lessB D[i] ⟨rt, ru, rn, rk, rx⟩ = true → Sp.putR ⟨rt, ru, rn, rk, rx⟩ D = D.take (i + 1) ++ ([⟨rt, ru, rn, rk, rx⟩] ++ D.drop (i + 1))) := Lib.hid (fun h => HPA.out (i + 1) (by omega) HG.out (fun _ => by simpa using h))
          have HL1 := Lib.hid (fun w => HLESS.out D[i] w)
          have HL2 := Lib.hid (fun w => HLESS2.out D[i] w)
          clear HLESS HLESS2 HPT HPA HDS HDROW
          generalize D[i] = q at *
          generalize h1 : lessB ⟨rt, ru, rn, rk, rx⟩ q = l1 at *
          generalize h2 : lessB q ⟨rt, ru, rn, rk, rx⟩ = l2 at *
          obtain ⟨qt, qu, qn, qk, qx⟩ := q
          dsimp only at HL1 HL2 HQ
          clear h1 h2
          subst hga
          obtain ⟨g, hgg, hnc, hcm⟩ : ∃ g, ga = ⟨g, 0, none⟩ ∧ n ≤ dc ∧ dc ≤ 9223372036854775807 := by
            rcases hvw with ⟨h, _⟩ | ⟨g, h, h2, h3⟩
            · cases h
            · injection h with h; exact ⟨g, h, h2, h3⟩
          clear hvw
          subst hgg
          have HQ := HQ.out
          simp only [Addr.add_lit, Nat.zero_add] at HQ
          have HQ := Lib.hid HQ
          have y1 : (0 : Int) ≤ (i : Int) := by omega
          have y2 : (i : Int) < (n : Int) := by omega
          have y3 : ((i + 1 : Nat) : Int) = (i : Int) + 1 := by omega
          rw [y3]
          have y4 : IntKind.i64.wrap ((i : Int) + 1 - 1) = (i : Int) := by rw [show (i : Int) + 1 - 1 = (i : Int) from by omega, IntKind.wrap_i64]; omega
          have y5 : decide ((0 : Int) < (i : Int) + 1) = true := decide_eq_true (by omega)
          have y6 : IntKind.i64.wrap (i : Int) = (i : Int) := by rw [IntKind.wrap_i64]; omega
          have y7 : (0 : Int) < (i : Int) + 1 := by omega
          clear y3
          have d0 : ∀ p : Since wr.heap.size wr, p.w'.cell? ⟨g, i * 5, none⟩ = some (.int .i64 qt) := fun p => (HQ.out p.w' (HBW.out.trans (p.hb.mono HBW.out.size))).1
          have d1 : ∀ p : Since wr.heap.size wr, p.w'.cell? ⟨g, i * 5 + 1, none⟩ = some (.string qu) := fun p => (HQ.out p.w' (HBW.out.trans (p.hb.mono HBW.out.size))).2.1
          have d2 : ∀ p : Since wr.heap.size wr, p.w'.cell? ⟨g, i * 5 + 2, none⟩ = some (.int .i64 qn) := fun p => (HQ.out p.w' (HBW.out.trans (p.hb.mono HBW.out.size))).2.2.1
          have d3 : ∀ p : Since wr.heap.size wr, p.w'.cell? ⟨g, i * 5 + 3, none⟩ = some (.int .i64 qk) := fun p => (HQ.out p.w' (HBW.out.trans (p.hb.mono HBW.out.size))).2.2.2.1
          have d4 : ∀ p : Since wr.heap.size wr, p.w'.cell? ⟨g, i * 5 + 4, none⟩ = some (.string qx) := fun p => (HQ.out p.w' (HBW.out.trans (p.hb.mono HBW.out.size))).2.2.2.2
          cases l1 with
          | true =>
            have HG2 := Lib.hid (HGS.out rfl)
            go_upto_region 6 with fail
            refine wp_region_since wr.heap.size (by kernel_rfl) (by kernel_rfl) ?_
            repeat (go_big_quiet_step (first | (go_at_call 27; exact Calls.since_of (Nat.le_refl _) (HL1.out _))))
            refine wpQuiet_nil ?_
            intro _ hw'
            obtain ⟨pz, hw''⟩ := hw'
            subst hw''
            have HBR := Lib.hid (HbW.out.trans (pz.hb.mono HbW.out.size))
            generalize pz.w' = w8 at *
            go_wp2
            go_roundw
            case rel => exact ⟨i, by omega, by go_num, HBR.out, HG2⟩
            case measure => first | (simp [intOf]; done) | (simp [intOf]; omega)
          | false =>
            go_upto_region 6 with fail
            refine wp_region_since wr.heap.size (by kernel_rfl) (by kernel_rfl) ?_
            repeat (go_big_quiet_step (first | (go_at_call 27; exact Calls.since_of (Nat.le_refl _) (HL1.out _))))
            refine wpQuiet_nil ?_
            intro _ hw'
            obtain ⟨pz, hw''⟩ := hw'
            subst hw''
            have HXw8 := Lib.hid (HXW.out.on hzW pz.hb)
            have HBw8 := Lib.hid (HBW.out.trans (pz.hb.mono HBW.out.size))
            have hzw8 : wo.heap.size < pz.w'.heap.size := Nat.lt_of_lt_of_le hzW pz.hb.size
            clear d0 d1 d2 d3 d4 e0 e1 e2 e3 e4 HXW HBW hzW
            generalize pz.w' = w8 at *
            go_upto_region 8 with fail
            have e0 : ∀ p : Since w8.heap.size w8, p.w'.cell? ⟨wo.heap.size, 0, none⟩ = some (.int .i64 rt) := fun p => (HXw8.out.on hzw8 p.hb).c0
            have e1 : ∀ p : Since w8.heap.size w8, p.w'.cell? ⟨wo.heap.size, 1, none⟩ = some (.string ru) := fun p => (HXw8.out.on hzw8 p.hb).c1
            have e2 : ∀ p : Since w8.heap.size w8, p.w'.cell? ⟨wo.heap.size, 2, none⟩ = some (.int .i64 rn) := fun p => (HXw8.out.on hzw8 p.hb).c2
            have e3 : ∀ p : Since w8.heap.size w8, p.w'.cell? ⟨wo.heap.size, 3, none⟩ = some (.int .i64 rk) := fun p => (HXw8.out.on hzw8 p.hb).c3
            have e4 : ∀ p : Since w8.heap.size w8, p.w'.cell? ⟨wo.heap.size, 4, none⟩ = some (.string rx) := fun p => (HXw8.out.on hzw8 p.hb).c4
            have d0 : ∀ p : Since w8.heap.size w8, p.w'.cell? ⟨g, i * 5, none⟩ = some (.int .i64 qt) := fun p => (HQ.out p.w' (HBw8.out.trans (p.hb.mono HBw8.out.size))).1
            have d1 : ∀ p : Since w8.heap.size w8, p.w'.cell? ⟨g, i * 5 + 1, none⟩ = some (.string qu) := fun p => (HQ.out p.w' (HBw8.out.trans (p.hb.mono HBw8.out.size))).2.1
            have d2 : ∀ p : Since w8.heap.size w8, p.w'.cell? ⟨g, i * 5 + 2, none⟩ = some (.int .i64 qn) := fun p => (HQ.out p.w' (HBw8.out.trans (p.hb.mono HBw8.out.size))).2.2.1
            have d3 : ∀ p : Since w8.heap.size w8, p.w'.cell? ⟨g, i * 5 + 3, none⟩ = some (.int .i64 qk) := fun p => (HQ.out p.w' (HBw8.out.trans (p.hb.mono HBw8.out.size))).2.2.2.1
            have d4 : ∀ p : Since w8.heap.size w8, p.w'.cell? ⟨g, i * 5 + 4, none⟩ = some (.string qx) := fun p => (HQ.out p.w' (HBw8.out.trans (p.hb.mono HBw8.out.size))).2.2.2.2
            cases l2 with
            | false =>
              have HSK := Lib.hid (HGT.out rfl rfl)
              refine wp_region_since w8.heap.size (by kernel_rfl) (by kernel_rfl) ?_
              repeat (go_big_quiet_step (first | (go_at_call 27; exact Calls.since_of (Nat.le_refl _) (HL2.out _))))
              refine wpQuiet_nil ?_
              intro _ hw'
              obtain ⟨pz, hw''⟩ := hw'
              subst hw''
              have HXw9 := Lib.hid (HXw8.out.on hzw8 pz.hb)
              have HBw9 := Lib.hid (HBw8.out.trans (pz.hb.mono HBw8.out.size))
              have hzw9 : wo.heap.size < pz.w'.heap.size := Nat.lt_of_lt_of_le hzw8 pz.hb.size
              clear d0 d1 d2 d3 d4 e0 e1 e2 e3 e4 HXw8 HBw8 hzw8
              generalize pz.w' = w9 at *
              have HOW := Lib.hid (own_below HOWN.out HBw9.out)
              have HFIN := Lib.hid (HBO.out.trans (HBw9.out.mono HBO.out.size))
              go_wp2
              go_roundw
              case rel => exact ⟨k + 1, n, D, by omega, by go_num, HOW.out, HFIN.out, by omega, Lib.hid ⟨HDL.out, by rw [HTK.out, HSK.out]⟩⟩
              case measure => first | (simp [intOf]; done) | (simp [intOf]; omega)
            | true =>
              have HPX := Lib.hid (HGA.out rfl)
              refine wp_region_since w8.heap.size (by kernel_rfl) (by kernel_rfl) ?_
              repeat (go_big_quiet_step (first | (go_at_call 27; exact Calls.since_of (Nat.le_refl _) (HL2.out _))))
              refine wpQuiet_nil ?_
              intro _ hw'
              obtain ⟨pz, hw''⟩ := hw'
              subst hw''
              have HXw9 := Lib.hid (HXw8.out.on hzw8 pz.hb)
              have HBw9 := Lib.hid (HBw8.out.trans (pz.hb.mono HBw8.out.size))
              have hzw9 : wo.heap.size < pz.w'.heap.size := Nat.lt_of_lt_of_le hzw8 pz.hb.size
              clear d0 d1 d2 d3 d4 e0 e1 e2 e3 e4 HXw8 HBw8 hzw8
              generalize pz.w' = w9 at *
              obtain ⟨x, hx⟩ : ∃ x, x = i + 1 := ⟨_, rfl⟩
              rw [show (i : Int) + 1 = (x : Int) from by omega]
              rw [← hx] at HPX
              have hxn : x ≤ n := by omega
              clear hx y1 y2 y4 y5 y6 y7 HG HGS HGT HGA hj hj0 hil HQ
              go_upto_region 9 with fail
              have k0 : ∀ V, Below w9.heap.size w9 V → V.cell? ⟨wo.heap.size, 0, none⟩ = some (.int .i64 rt) := fun V hV => (HXw9.out.on hzw9 hV).c0
              have k1 : ∀ V, Below w9.heap.size w9 V → V.cell? ⟨wo.heap.size, 1, none⟩ = some (.string ru) := fun V hV => (HXw9.out.on hzw9 hV).c1
              have k2 : ∀ V, Below w9.heap.size w9 V → V.cell? ⟨wo.heap.size, 2, none⟩ = some (.int .i64 rn) := fun V hV => (HXw9.out.on hzw9 hV).c2
              have k3 : ∀ V, Below w9.heap.size w9 V → V.cell? ⟨wo.heap.size, 3, none⟩ = some (.int .i64 rk) := fun V hV => (HXw9.out.on hzw9 hV).c3
              have k4 : ∀ V, Below w9.heap.size w9 V → V.cell? ⟨wo.heap.size, 4, none⟩ = some (.string rx) := fun V hV => (HXw9.out.on hzw9 hV).c4
              have hq : Below w9.heap.size w9 w9.drew := (Below.refl _ _).drew
              have HWS : Hid (wb.heap.size ≤ w9.heap.size) := Lib.hid (Nat.le_trans HBO.out.size HBw9.out.size)
              have HNONE : Hid ((some ⟨g, 0, none⟩ : Option Addr) = none → x = 0) := Lib.hid (fun e => by cases e)
              have HRW : Hid (∀ V, Below w9.heap.size w9 V → Rd V w9.heap.size 5 (some ⟨g, 0, none⟩) n (rowsC D)) := Lib.hid (fun V hV => ((HRD.out.below HBw9.out).more HBw9.out.size).below hV)
              have HPRE : Hid (∀ V, Below w9.heap.size w9 V → Rd V w9.heap.size 5 (some ⟨g, 0, none⟩) x (rowsC (D.take x))) := Lib.hid (fun V hV => by
                have := (HRW.out V hV).take x hxn
                rwa [rowsC_take] at this)
              have HSUF : Hid (∀ V, Below w9.heap.size w9 V → Rd V w9.heap.size 5 (if dc = x then some ⟨g, 0, none⟩ else some ⟨g, x * 5, none⟩) (n - x) (rowsC (D.drop x))) := Lib.hid (fun V hV => by
                split
                · rw [List.drop_eq_nil_of_le (by rw [HDL.out]; omega), show n - x = 0 from by omega]; exact Rd.empty
                · have := (HRW.out V hV).drop x
                  rwa [rowsC_drop, Addr.add_lit, Nat.zero_add] at this)
              have z1 : (0 : Int) ≤ (x : Int) := by omega
              have z2 : (x : Int) ≤ (n : Int) := by omega
              have z3 : (x : Int) ≤ (dc : Int) := by omega
              go_region_held3 (fun V => Below w9.heap.size w9 V) (first | assumption | exact since_alloc (by assumption) _) (first | (refine step_put w9 w9.drew hq rfl _ _ 22 rfl 37 i0 (.agg zeroRow) 5 56 Tryz.underlying22 HI.out HIZ.out HIS.out HIB.out rfl (by decide) #[.int .i64 rt, .string ru, .int .i64 rn, .int .i64 rk, .string rx] rfl rfl w9.heap.size _ _ _ _ rfl (HSUF.out _ hq) (Nat.le_refl _) (rowsC_one _) (by unfold maxLen; omega) (by omega) ?_; intro A5 c5 w5 hr5' q5; have hr5 : Rd w5 w5.heap.size 5 A5 (1 + (n - x)) (rowsC (⟨rt, ru, rn, rk, rx⟩ :: D.drop x)) := hr5'; clear hr5') | (refine step_grow _ rfl _ _ 22 rfl w9.heap.size 37 i0 (.agg zeroRow) 5 56 Tryz.underlying22 HI.out HIZ.out HIS.out HIB.out rfl (by decide) _ _ _ w9.heap.size _ rfl HNONE.out (HPRE.out _ q5) w5.heap.size A5 _ c5 _ rfl hr5 (by omega) (rowsC_one _) (by omega) (by unfold maxLen; omega) (by omega) (Below.size q5) ?_; intro v6 w6 hown6' hgr6; have q6 := since_grown q5 hgr6 (by intro k hk; cases hk); have hown6 := own_mono hown6' HWS.out; clear hown6' hgr6))
              all_goals
                have HFIN := Lib.hid (HBO.out.trans ((HBw9.out.trans (q6.mono HBw9.out.size)).mono HBO.out.size))
                have HOW := Lib.hid hown6
                clear hown6 q6
                go_wp2
                go_roundw
                case rel => exact ⟨k + 1, x + (1 + (n - x)), Sp.putR ⟨rt, ru, rn, rk, rx⟩ D, by omega, by go_num, by rw [HPX.out, ← rowsC_app]; exact HOW.out, HFIN.out, by omega, Lib.hid ⟨by rw [HPX.out]; have := HDL.out; simp; omega, HTK.out.symm⟩⟩
                case measure => first | (simp [intOf]; done) | (simp [intOf]; omega)
    · have hke : k = N := by omega
      have x2 : ¬ (k : Int) < (N : Int) := by omega
      have HE : Hid (D = Sp.addR L) := Lib.hid (by have := HD.out.2; rwa [List.take_of_length_le (by rw [HLN.out]; omega)] at this)
      have HRD := Lib.hid (Rd.own hown).1
      have HBW := Lib.hid (HBb.out.trans (hb.mono HBb.out.size))
      have hDn : n = (Sp.addR L).length := by rw [← HE.out, HD.out.1]
      clear hown hb HROW HD
      go_wp2
      go_ret
      subst hDn
      rw [HLL.out]
      exact ⟨DA, ⟨dc, rfl⟩, by rw [← HE.out] at HRD ⊢; exact HRD.out, HBW.out⟩
end

section
open Go.RowKit

theorem addR_from (z : RowD) : ∀ (X D : List RowD), z ∈ X.foldl (fun D c => Sp.putR c D) D → z ∈ D ∨ z ∈ X
  | [], D, h => .inl h
  | c :: r, D, h => by
    rcases addR_from z r (Sp.putR c D) h with h | h
    · unfold Sp.putR at h
      split at h
      · exact .inl h
      · rcases (Sp.insR_mem c z D).1 h with e | h
        · exact .inr (by rw [e]; exact List.mem_cons_self)
        · exact .inl h
    · exact .inr (List.mem_cons_of_mem _ h)
theorem fits_addR {L : List RowD} (h : Fits L) : Fits (Sp.addR L) := fun r hr => by
  rcases addR_from r L [] hr with h1 | h1
  · cases h1
  · exact h r h1
theorem fits_app {X Y : List RowD} (h1 : Fits X) (h2 : Fits Y) : Fits (X ++ Y) := fun r hr => (List.mem_append.1 hr).elim (h1 r) (h2 r)
theorem keepL_le (l : List RowD) (most : Int) : (Sp.keepL l most).length ≤ l.length := by
  induction l with
  | nil => exact Nat.le_refl _
  | cons r q ih =>
    unfold Sp.keepL
    split
    · exact Nat.le_refl _
    · exact Nat.le_trans ih (Nat.le_succ _)
theorem Rd.on {w w' : World} {n : Nat} {A : Option Addr} {xs : List Value} (h : Rd w w.heap.size 5 A n xs) (hb : Below w.heap.size w w') : Rd w' w'.heap.size 5 A n xs := (Rd.below h hb).more hb.size

set_option maxRecDepth 100000 in
set_option maxHeartbeats 16000000 in
theorem jadd_any (D1 D2 : RowsD) (most : Int) (w : World) (h1 : RowsGood w D1) (h2 : RowsGood w D2) (E : Env w) :
    Calls Tryz.prog 3 #[rowsV D1, rowsV D2, .int .i64 most] w fun e w' => e = .returned (.bool true) ∧ Below w.heap.size w w' := by
  obtain ⟨A1, n1, c1, l⟩ := D1
  obtain ⟨A2, n2, c2, a⟩ := D2
  have okl := h1.good.ok
  have oka := h2.good.ok
  have fl := h1.good.fits
  have fa := h2.good.fits
  have k1 : n1 ≤ 140737488355328 := h1.bulk
  have k2 : n2 ≤ 140737488355328 := h2.bulk
  have l1 : n1 ≤ c1 := h1.le
  have HL : Hid (∀ W, Below w.heap.size w W → Rd W W.heap.size 5 A1 n1 (rowsC l)) := Lib.hid fun W hW => Rd.on h1.rd hW
  have HA : Hid (∀ W, Below w.heap.size w W → Rd W W.heap.size 5 A2 n2 (rowsC a)) := Lib.hid fun W hW => Rd.on h2.rd hW
  have HEN : Hid (∀ W, Below w.heap.size w W → Env W) := Lib.hid fun W hW => E.on hW
  clear h1 h2
  show Calls Tryz.prog 3 #[.slice A1 n1 c1, .slice A2 n2 c2, .int .i64 most] w _
  have w1 : IntKind.i64.wrap ((n1 : Int) + (n2 : Int)) = (n1 : Int) + (n2 : Int) := by rw [IntKind.wrap_i64]; omega
  go_enter Tryz.func3, Tryz.ntmps3
  go_wp2_with fail
  refine (shown_any w E).mono ?_
  rintro e wa ⟨rfl, hba⟩
  have HBa := Lib.hid hba
  clear hba
  by_cases hn : n1 + n2 > 200
  · have x1 : (n1 : Int) + (n2 : Int) > 200 := by omega
    go_wp2
    go_ret
    exact ⟨rfl, HBa.out⟩
  · have x1 : ¬ (n1 : Int) + (n2 : Int) > 200 := by omega
    have fA : Fits (Sp.addR (l ++ a)) := fits_addR (fits_app fl fa)
    have H1 := Lib.hid (fun W r1 r2 => add_any l a okl oka A1 A2 n1 c1 n2 c2 W r1 r2 (by omega) (by omega))
    have H2 := Lib.hid (fun W r1 r2 => radd_any l a A1 A2 n1 c1 n2 c2 W r1 r2 (by omega))
    have M1 := Lib.hid (fun W r => mayl_any l fl A1 n1 c1 W.heap.size W r (Nat.le_refl _) (by omega))
    have M2 := Lib.hid (fun W r => rmayl_any l fl A1 n1 c1 W.heap.size W r (Nat.le_refl _) (by omega))
    have S1 := Lib.hid (fun W r E => size_any l fl A1 n1 c1 W.heap.size W r (Nat.le_refl _) (by omega) E)
    have S2 := Lib.hid (fun W r => rsize_any l fl A1 n1 c1 W.heap.size W r (Nat.le_refl _) (by omega))
    have K1 := Lib.hid (fun W r E => keep_any l fl A1 n1 c1 W.heap.size most W r (Nat.le_refl _) (by omega) l1 E)
    have K2 := Lib.hid (fun W r => rkeep_any l fl A1 n1 c1 W.heap.size most W r (Nat.le_refl _) (by omega) l1)
    have hkl : (Sp.keepL l most).length ≤ 140737488355328 := by
      have := (HL.out w (Below.refl _ _)).1
      rw [rowsC_len] at this
      have := keepL_le l most
      omega
    have SK := Lib.hid (fun Ax Ay cx cy W r1 r2 => same_any (Sp.keepL l most) Ax Ay (Sp.keepL l most).length cx cy W.heap.size W.heap.size W r1 r2 (Nat.le_refl _) (Nat.le_refl _) hkl)
    clear hkl
    generalize Sp.keepL l most = KL at *
    generalize Sp.addR (l ++ a) = AL at *
    generalize hq : Sp.mayLogB l = q at *
    generalize hz : (Sp.sizeL l : Int) = z at *
    clear hq hz
    have HS := Lib.hid (fun Ax Ay cx cy W r1 r2 hx => same_any AL Ax Ay AL.length cx cy W.heap.size W.heap.size W r1 r2 (Nat.le_refl _) (Nat.le_refl _) hx)
    have MA := Lib.hid (fun A c W r hx => mayl_any AL fA A AL.length c W.heap.size W r (Nat.le_refl _) hx)
    have MB := Lib.hid (fun A c W r hx => rmayl_any AL fA A AL.length c W.heap.size W r (Nat.le_refl _) hx)
    generalize hq : Sp.mayLogB AL = qa at *
    clear hq fA fl fa okl oka l1

    go_wp2_with fail
    refine (H1.out _ (HL.out _ HBa.out) (HA.out _ HBa.out)).mono ?_
    rintro e wb ⟨Ab, cb, rfl, hrb, hcb, hbb⟩
    have HBb : Hid (Below w.heap.size w wb) := Lib.hid (HBa.out.trans (hbb.mono HBa.out.size))
    have HRb := Lib.hid hrb
    have hlb := hcb.1
    clear hrb hcb hbb HBa H1
    go_wp2_with fail
    refine (H2.out _ (HL.out _ HBb.out) (HA.out _ HBb.out)).mono ?_
    rintro e wc ⟨Ac, cc, rfl, hrc, hbc⟩
    have HBc : Hid (Below w.heap.size w wc) := Lib.hid (HBb.out.trans (hbc.mono HBb.out.size))
    have HRc := Lib.hid hrc
    have HRb2 := Lib.hid (Rd.on HRb.out hbc)
    clear hrc hbc HBb HRb H2
    generalize hlen : AL.length = m at *
    clear hlen
    go_wp2_with fail
    refine (HS.out _ _ _ _ _ HRb2.out HRc.out (by omega)).mono ?_
    rintro e w0 ⟨rfl, hb0⟩
    have HB0 : Hid (Below w.heap.size w w0) := Lib.hid (HBc.out.trans (hb0.mono HBc.out.size))
    have HR0 := Lib.hid (Rd.on HRb2.out hb0)
    clear hb0 HBc HRc HRb2 HS
    go_wp2_with fail
    refine (M1.out _ (HL.out _ HB0.out)).mono ?_
    rintro e w1 ⟨rfl, hb⟩
    have HB1 : Hid (Below w.heap.size w w1) := Lib.hid (HB0.out.trans (hb.mono HB0.out.size))
    have HR1 := Lib.hid (Rd.on HR0.out hb)
    clear hb HB0 HR0
    go_wp2_with fail
    refine (M2.out _ (HL.out _ HB1.out)).mono ?_
    rintro e w2 ⟨rfl, hb⟩
    have HB2 : Hid (Below w.heap.size w w2) := Lib.hid (HB1.out.trans (hb.mono HB1.out.size))
    have HR2 := Lib.hid (Rd.on HR1.out hb)
    clear hb HB1 HR1
    have y1 : (q == q) = true := by cases q <;> rfl
    have y2 : (qa == qa) = true := by cases qa <;> rfl
    go_wp2_with fail
    refine (MA.out _ _ _ HR2.out (by omega)).mono ?_
    rintro e w3 ⟨rfl, hb⟩
    have HB3 : Hid (Below w.heap.size w w3) := Lib.hid (HB2.out.trans (hb.mono HB2.out.size))
    have HR3 := Lib.hid (Rd.on HR2.out hb)
    clear hb HB2 HR2
    go_wp2_with fail
    refine (MB.out _ _ _ HR3.out (by omega)).mono ?_
    rintro e w4 ⟨rfl, hb⟩
    have HB4 : Hid (Below w.heap.size w w4) := Lib.hid (HB3.out.trans (hb.mono HB3.out.size))
    have HR4 := Lib.hid (Rd.on HR3.out hb)
    clear hb HB3 HR3
    go_wp2_with fail
    refine (S1.out _ (HL.out _ HB4.out) (HEN.out _ HB4.out)).mono ?_
    rintro e w5 ⟨rfl, hb⟩
    have HB5 : Hid (Below w.heap.size w w5) := Lib.hid (HB4.out.trans (hb.mono HB4.out.size))
    have HR5 := Lib.hid (Rd.on HR4.out hb)
    clear hb HB4 HR4
    go_wp2_with fail
    refine (S2.out _ (HL.out _ HB5.out)).mono ?_
    rintro e w6 ⟨rfl, hb⟩
    have HB6 : Hid (Below w.heap.size w w6) := Lib.hid (HB5.out.trans (hb.mono HB5.out.size))
    have HR6 := Lib.hid (Rd.on HR5.out hb)
    clear hb HB5 HR5
    go_wp2_with fail
    refine (K1.out _ (HL.out _ HB6.out) (HEN.out _ HB6.out)).mono ?_
    rintro e wx ⟨Ax, cx, rfl, hrx, hbx⟩
    have HBx : Hid (Below w.heap.size w wx) := Lib.hid (HB6.out.trans (hbx.mono HB6.out.size))
    have HRx := Lib.hid hrx
    clear hrx hbx
    go_wp2_with fail
    refine (K2.out _ (HL.out _ HBx.out)).mono ?_
    rintro e wy ⟨Ay, cy, rfl, hry, hby⟩
    have HBy : Hid (Below w.heap.size w wy) := Lib.hid (HBx.out.trans (hby.mono HBx.out.size))
    have HRx2 := Lib.hid (Rd.on HRx.out hby)
    have HRy := Lib.hid hry
    clear hry hby
    go_wp2_with fail
    refine (SK.out _ _ _ _ _ HRx2.out HRy.out).mono ?_
    rintro e wz ⟨rfl, hbz⟩
    have HBz : Hid (Below w.heap.size w wz) := Lib.hid (HBy.out.trans (hbz.mono HBy.out.size))
    clear hbz
    go_wp2
    go_ret
    exact ⟨rfl, HBz.out⟩
end

end Go.Proofs.YtkgogenmhiclcaaGreatDoor
