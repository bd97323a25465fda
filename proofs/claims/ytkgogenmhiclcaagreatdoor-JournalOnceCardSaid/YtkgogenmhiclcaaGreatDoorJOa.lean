/-
  The laws that order plays no part, and that who reads on reads each row once: plain laws, walks.
-/
import Derived.Test.YtkgogenmhiclcaaGreatDoorJe
import Derived.Test.YtkgogenmhiclcaaGreatDoorJk
import Derived.Test.YtkgogenmhiclcaaGreatDoorJo
import Derived.Test.YtkgogenmhiclcaaGreatDoorJi
namespace Go.Proofs.YtkgogenmhiclcaaGreatDoor
section
section
namespace Sp
def Up (D : List RowD) : Prop := D.Pairwise fun a b => lessB a b = true
def Apart (L : List RowD) : Prop := L.Pairwise fun a b => likeB a b = false
theorem like_comm (a b : RowD) : likeB a b = likeB b a := by unfold likeB; exact Bool.and_comm _ _
theorem addR_snoc (L : List RowD) (c : RowD) : addR (L ++ [c]) = putR c (addR L) := by simp [addR, List.foldl_append]
theorem addR_app (L X : List RowD) : addR (L ++ X) = X.foldl (fun D c => putR c D) (addR L) := by simp [addR, List.foldl_append]
theorem insR_mem (c z : RowD) : ∀ D : List RowD, z ∈ insR c D ↔ z = c ∨ z ∈ D
  | [] => by simp [insR]
  | x :: r => by
    rw [insR]
    split
    · simp
    · rw [List.mem_cons, insR_mem c z r, List.mem_cons]
      constructor
      · rintro (h | h | h)
        · exact .inr (.inl h)
        · exact .inl h
        · exact .inr (.inr h)
      · rintro (h | h | h)
        · exact .inr (.inl h)
        · exact .inl h
        · exact .inr (.inr h)
theorem insR_perm (c : RowD) : ∀ D : List RowD, (insR c D).Perm (c :: D)
  | [] => List.Perm.refl _
  | x :: r => by
    rw [insR]
    split
    · exact List.Perm.refl _
    · exact ((insR_perm c r).cons x).trans (List.Perm.swap c x r)
theorem insR_up (c : RowD) : ∀ D : List RowD, Up D → (∀ d ∈ D, likeB d c = false) → Up (insR c D)
  | [], _, _ => by simp [insR, Up]
  | x :: r, h, hl => by
    obtain ⟨h1, h2⟩ := List.pairwise_cons.1 h
    rw [insR]
    split
    · rename_i hc
      refine List.pairwise_cons.2 ⟨fun z hz => ?_, h⟩
      rcases List.mem_cons.1 hz with e | hz
      · rw [e]; exact hc
      · exact less_trans c x z hc (h1 z hz)
    · rename_i hc
      have hx := hl x (by simp)
      have hxc : lessB x c = true := by
        unfold likeB at hx
        cases e : lessB x c
        · cases e2 : lessB c x
          · rw [e, e2] at hx; cases hx
          · exact absurd e2 hc
        · rfl
      refine List.pairwise_cons.2 ⟨fun z hz => ?_, insR_up c r h2 fun d hd => hl d (by simp [hd])⟩
      rcases (insR_mem c z r).1 hz with e | hz
      · rw [e]; exact hxc
      · exact h1 z hz
theorem putR_up (c : RowD) (D : List RowD) (h : Up D) : Up (putR c D) := by
  unfold putR
  split
  · exact h
  · rename_i hn
    refine insR_up c D h fun d hd => ?_
    cases e : likeB d c
    · rfl
    · exact absurd (List.any_eq_true.2 ⟨d, hd, e⟩) hn
theorem fold_up : ∀ (X D : List RowD), Up D → Up (X.foldl (fun D c => putR c D) D)
  | [], _, h => h
  | c :: r, D, h => fold_up r _ (putR_up c D h)
theorem addR_up (L : List RowD) : Up (addR L) := fold_up L [] List.Pairwise.nil
theorem putR_keep (c z : RowD) (D : List RowD) (h : z ∈ D) : z ∈ putR c D := by
  unfold putR
  split
  · exact h
  · exact (insR_mem c z D).2 (.inr h)
theorem fold_keep (z : RowD) : ∀ (X D : List RowD), z ∈ D → z ∈ X.foldl (fun D c => putR c D) D
  | [], _, h => h
  | c :: r, D, h => fold_keep z r _ (putR_keep c z D h)
theorem like_self (c : RowD) : likeB c c = true := by
  unfold likeB
  cases h : lessB c c
  · rfl
  · have := less_asym c c h; rw [h] at this; cases this
theorem put_has (c : RowD) (D : List RowD) : ∃ d ∈ putR c D, likeB d c = true := by
  unfold putR
  split
  · rename_i h
    obtain ⟨d, hd, e⟩ := List.any_eq_true.1 h
    exact ⟨d, hd, e⟩
  · exact ⟨c, (insR_mem c c D).2 (.inl rfl), like_self c⟩
theorem fold_has (x : RowD) : ∀ (X D : List RowD), x ∈ X → ∃ d ∈ X.foldl (fun D c => putR c D) D, likeB d x = true
  | c :: r, D, h => by
    rcases List.mem_cons.1 h with e | h
    · subst e
      obtain ⟨d, hd, e⟩ := put_has x D
      exact ⟨d, fold_keep d r _ hd, e⟩
    · exact fold_has x r _ h
theorem put_skip (c : RowD) (D : List RowD) (h : ∃ d ∈ D, likeB d c = true) : putR c D = D := by
  obtain ⟨d, hd, e⟩ := h
  unfold putR
  rw [if_pos (List.any_eq_true.2 ⟨d, hd, e⟩)]
theorem fold_skip : ∀ (X D : List RowD), (∀ x ∈ X, ∃ d ∈ D, likeB d x = true) → X.foldl (fun D c => putR c D) D = D
  | [], _, _ => rfl
  | c :: r, D, h => by
    rw [List.foldl_cons, put_skip c D (h c (by simp))]
    exact fold_skip r D fun x hx => h x (by simp [hx])
/-- a log that is one stays as it is -/
theorem insR_end (c : RowD) : ∀ D : List RowD, (∀ d ∈ D, lessB d c = true) → insR c D = D ++ [c]
  | [], _ => rfl
  | x :: r, h => by
    have hx := less_asym x c (h x (by simp))
    rw [insR, if_neg (by rw [hx]; simp), insR_end c r fun d hd => h d (by simp [hd])]
    rfl
theorem fold_up_app : ∀ (X D : List RowD), Up (D ++ X) → X.foldl (fun D c => putR c D) D = D ++ X
  | [], D, _ => by simp
  | c :: r, D, h => by
    have h1 : ∀ d ∈ D, lessB d c = true := fun d hd => (List.pairwise_append.1 h).2.2 d hd c (by simp)
    have h2 : putR c D = D ++ [c] := by
      unfold putR
      rw [if_neg, insR_end c D h1]
      intro hh
      obtain ⟨d, hd, e⟩ := List.any_eq_true.1 hh
      unfold likeB at e
      rw [h1 d hd] at e
      cases e
    rw [List.foldl_cons, h2, fold_up_app r (D ++ [c]) (by simpa using h)]
    simp
theorem addR_id (D : List RowD) (h : Up D) : addR D = D := by
  have := fold_up_app D [] (by simpa using h)
  simpa [addR] using this
theorem addR_on (D X : List RowD) (h : Up D) : addR (D ++ X) = X.foldl (fun D c => putR c D) D := by rw [addR_app, addR_id D h]
/-- what is there comes no second time -/
theorem add_again (l a b : List RowD) : addR (addR (addR (l ++ a) ++ b) ++ a) = addR (addR (l ++ a) ++ b) ∧ addR (addR (addR (l ++ a) ++ b) ++ l) = addR (addR (l ++ a) ++ b) := by
  have key : ∀ x, x ∈ l ++ a → ∃ d ∈ addR (addR (l ++ a) ++ b), likeB d x = true := by
    intro x hx
    obtain ⟨d, hd, e⟩ := fold_has x (l ++ a) [] hx
    refine ⟨d, ?_, e⟩
    rw [addR_on _ _ (addR_up _)]
    exact fold_keep d b _ hd
  constructor
  · rw [addR_on _ _ (addR_up _)]
    exact fold_skip a _ fun x hx => key x (by simp [hx])
  · rw [addR_on _ _ (addR_up _)]
    exact fold_skip l _ fun x hx => key x (by simp [hx])
theorem putR_len (c : RowD) (D : List RowD) : (putR c D).length ≤ D.length + 1 := by
  unfold putR
  split
  · omega
  · rw [(insR_perm c D).length_eq]; exact Nat.le_refl _
theorem fold_len : ∀ (X D : List RowD), (X.foldl (fun D c => putR c D) D).length ≤ D.length + X.length
  | [], D => Nat.le_refl _
  | c :: r, D => by
    have h1 := fold_len r (putR c D)
    have h2 := putR_len c D
    rw [List.foldl_cons, List.length_cons]; omega
/-- with as many rows as came none is like another one, and they are those -/
theorem fold_full : ∀ (X D : List RowD), Apart D → (X.foldl (fun D c => putR c D) D).length = D.length + X.length → (X.foldl (fun D c => putR c D) D).Perm (D ++ X) ∧ Apart (D ++ X)
  | [], D, h, _ => by simpa using h
  | c :: r, D, h, hl => by
    have h1 := fold_len r (putR c D)
    have h2 := putR_len c D
    rw [List.foldl_cons, List.length_cons] at hl
    have hp : (putR c D).length = D.length + 1 := by omega
    have hn : ¬ D.any (fun d => likeB d c) = true := by
      intro hh
      have : (putR c D).length = D.length := by unfold putR; rw [if_pos hh]
      omega
    have e : putR c D = insR c D := by unfold putR; rw [if_neg hn]
    have hpm : (putR c D).Perm (c :: D) := by rw [e]; exact insR_perm c D
    have hap : Apart (c :: D) := List.pairwise_cons.2 ⟨fun d hd => by
      rw [like_comm]
      cases e2 : likeB d c
      · rfl
      · exact absurd (List.any_eq_true.2 ⟨d, hd, e2⟩) hn, h⟩
    have hap2 : Apart (putR c D) := (hpm.pairwise_iff (fun {a b} hab => by rw [like_comm]; exact hab)).2 hap
    obtain ⟨g1, g2⟩ := fold_full r (putR c D) hap2 (by omega)
    have hm : (putR c D ++ r).Perm (D ++ c :: r) := (hpm.append_right r).trans List.perm_middle.symm
    exact ⟨by rw [List.foldl_cons]; exact g1.trans hm, (hm.pairwise_iff (fun {a b} hab => by rw [like_comm]; exact hab)).1 g2⟩
theorem fold_apart : ∀ (X D : List RowD), Apart (D ++ X) → (X.foldl (fun D c => putR c D) D).Perm (D ++ X)
  | [], D, _ => by simp
  | c :: r, D, h => by
    have hn : ¬ D.any (fun d => likeB d c) = true := by
      intro hh
      obtain ⟨d, hd, e⟩ := List.any_eq_true.1 hh
      have := (List.pairwise_append.1 h).2.2 d hd c (by simp)
      rw [e] at this; cases this
    have e : putR c D = insR c D := by unfold putR; rw [if_neg hn]
    have hpm : (putR c D).Perm (c :: D) := by rw [e]; exact insR_perm c D
    have hm : (putR c D ++ r).Perm (D ++ c :: r) := (hpm.append_right r).trans List.perm_middle.symm
    rw [List.foldl_cons]
    exact (fold_apart r _ ((hm.pairwise_iff (fun {a b} hab => by rw [like_comm]; exact hab)).2 h)).trans hm
theorem up_apart (D : List RowD) (h : Up D) : Apart D := h.imp fun {a b} hab => by unfold likeB; rw [hab]; rfl
theorem up_eq : ∀ (X Y : List RowD), Up X → Up Y → X.Perm Y → X = Y
  | [], Y, _, _, h => (List.nil_perm.1 h).symm
  | x :: X, [], _, _, h => by have := h.length_eq; simp at this
  | x :: X, y :: Y, hX, hY, h => by
    obtain ⟨h1, h2⟩ := List.pairwise_cons.1 hX
    obtain ⟨h3, h4⟩ := List.pairwise_cons.1 hY
    have e : x = y := by
      have hx : x ∈ y :: Y := h.subset (by simp)
      have hy : y ∈ x :: X := h.symm.subset (by simp)
      rcases List.mem_cons.1 hx with e | hx
      · exact e
      · rcases List.mem_cons.1 hy with e | hy
        · exact e.symm
        · have a1 := h3 x hx
          have a2 := less_asym x y (h1 y hy)
          rw [a1] at a2; cases a2
    subst e
    rw [up_eq X Y h2 h4 (List.perm_cons x |>.1 h)]
/-- it plays no part in which order rows come -/
theorem add_order (l a b : List RowD) (h : (addR (addR (l ++ a) ++ b)).length = l.length + a.length + b.length) :
    addR (addR (l ++ a) ++ b) = addR (addR (l ++ b) ++ a) ∧ addR (addR (l ++ a) ++ b) = addR (b ++ (a ++ l)) := by
  have hD := fold_len (l ++ a) []
  have hE := fold_len b (addR (l ++ a))
  have e0 : addR (addR (l ++ a) ++ b) = b.foldl (fun D c => putR c D) (addR (l ++ a)) := addR_on _ _ (addR_up _)
  have hlen : (addR (l ++ a)).length = l.length + a.length := by
    rw [e0] at h
    have : (addR (l ++ a)).length ≤ 0 + (l ++ a).length := hD
    rw [List.length_append] at this
    omega
  obtain ⟨p1, q1⟩ := fold_full (l ++ a) [] List.Pairwise.nil (by
    have : ((l ++ a).foldl (fun D c => putR c D) []).length = l.length + a.length := hlen
    rw [this]; simp)
  obtain ⟨p2, q2⟩ := fold_full b (addR (l ++ a)) (up_apart _ (addR_up _)) (by rw [← e0, h, hlen])
  rw [List.nil_append] at p1 q1
  have hall : (addR (addR (l ++ a) ++ b)).Perm (l ++ a ++ b) := by
    rw [e0]
    exact p2.trans (List.Perm.append_right b p1)
  have hap : Apart (l ++ a ++ b) := (hall.pairwise_iff (fun {a b} hab => by rw [like_comm]; exact hab)).1 (up_apart _ (addR_up _))
  have sym : ∀ {X Y : List RowD}, X.Perm Y → Apart X → Apart Y := fun hp hx => (hp.pairwise_iff (fun {a b} hab => by rw [like_comm]; exact hab)).1 hx
  have c1 : (l ++ a ++ b).Perm (l ++ b ++ a) := by
    rw [List.append_assoc, List.append_assoc]
    exact (List.perm_append_comm (l₁ := a) (l₂ := b)).append_left l
  have c2 : (l ++ a ++ b).Perm (b ++ (a ++ l)) := (List.perm_append_comm (l₁ := l ++ a) (l₂ := b)).trans ((List.perm_append_comm (l₁ := l) (l₂ := a)).append_left b)
  constructor
  · refine up_eq _ _ (addR_up _) (addR_up _) (hall.trans (c1.trans ?_))
    have hap1 := sym c1 hap
    have r1 : (addR (l ++ b)).Perm (l ++ b) := by
      have := fold_apart (l ++ b) [] (by rw [List.nil_append]; exact (List.pairwise_append.1 hap1).1)
      rwa [List.nil_append] at this
    have r2 := fold_apart a (addR (l ++ b)) (sym (List.Perm.append_right a r1.symm) hap1)
    rw [addR_on _ _ (addR_up _)]
    exact (r2.trans (List.Perm.append_right a r1)).symm
  · refine up_eq _ _ (addR_up _) (addR_up _) (hall.trans (c2.trans ?_))
    have := fold_apart (b ++ (a ++ l)) [] (by rw [List.nil_append]; exact sym c2 hap)
    rw [List.nil_append] at this
    exact this.symm
end Sp
end

section
open Go.RowKit

theorem mem_fold (z : RowD) : ∀ (X D : List RowD), z ∈ X.foldl (fun D c => Sp.putR c D) D → z ∈ D ∨ z ∈ X
  | [], D, h => .inl h
  | c :: r, D, h => by
    rcases mem_fold z r (Sp.putR c D) h with h | h
    · unfold Sp.putR at h
      split at h
      · exact .inl h
      · rcases (Sp.insR_mem c z D).1 h with e | h
        · exact .inr (by rw [e]; exact List.mem_cons_self)
        · exact .inl h
    · exact .inr (List.mem_cons_of_mem _ h)
theorem ok_addR {L : List RowD} (h : ∀ r ∈ L, okRow r) : ∀ r ∈ Sp.addR L, okRow r := fun r hr => by
  rcases mem_fold r L [] hr with h1 | h1
  · cases h1
  · exact h r h1
theorem ok_app {X Y : List RowD} (h1 : ∀ r ∈ X, okRow r) (h2 : ∀ r ∈ Y, okRow r) : ∀ r ∈ X ++ Y, okRow r := fun r hr => (List.mem_append.1 hr).elim (h1 r) (h2 r)
theorem wpList_append_rdW {ops : Array Oper} {rest : List Oper} {o : Oper} {a : Act} {Q : Exit → Act → World → Prop} (hgd : Region.wanted o (yielded ops a.tmps) = true) (w : World) (s x : Operand) (t : TypeId)
    (ho : o.op = .call { callee := .builtin .append, args := #[s, x], argTypes := #[t, t] })
    (base : Nat) (e : TypeId) (i : TypeInfo) (z : Value) (size bytes : Nat) (ht : Tryz.prog.underlying t = some (.slice e)) (hi : Tryz.prog.info? e = some i) (hz : i.zero = some z)
    (hsize : i.size = size) (hby : i.bytes = bytes) (hzs : z.cells.size = size) (hsz : 0 < size)
    (v : Value) (n : Nat) (xs : List Value) (hs : a.eval s = v) (hown : w.ownsRow base e size v n xs)
    (A : Option Addr) (m c B : Nat) (news : List Value) (hx : a.eval x = .slice A m c) (hr : Rd w B size A m news) (h1 : ∀ u ∈ news, u.oneCell' = true)
    (h63 : n + m ≤ maxLen) (hbytes : (n + m) * bytes ≤ 140737488355328) (hbase : base ≤ w.heap.size)
    (h : ∀ v' w', w'.ownsRow base e size v' (n + m) (xs ++ news) → w.grownBy w' v.ownBlock → wpList Tryz.prog ops Q rest (a.put o.dst v') w') : wpList Tryz.prog ops Q (o :: rest) a w :=
  BigFrame.wpList_want hgd fun _ hK => wp_append_rd w s x t ho base e i z size bytes ht hi hz hsize hby hzs hsz v n xs hs hown A m c B news hx hr h1 h63 hbytes hbase fun v' w' h2 h3 => hK _ _ (h v' w' h2 h3)

theorem Rd.next {w w' : World} {n : Nat} {A : Option Addr} {xs : List Value} (h : Rd w w.heap.size 5 A n xs) (hb : Below w.heap.size w w') : Rd w' w'.heap.size 5 A n xs := (Rd.below h hb).more hb.size

set_option maxRecDepth 100000 in
set_option maxHeartbeats 16000000 in
theorem jorder_any (D1 D2 D3 : RowsD) (w : World) (h1 : RowsGood w D1) (h2 : RowsGood w D2) (h3 : RowsGood w D3) (E : Env w) :
    Calls Tryz.prog 6 #[rowsV D1, rowsV D2, rowsV D3] w fun e w' => e = .returned (.bool true) ∧ Below w.heap.size w w' := by
  obtain ⟨A1, n1, c1, l⟩ := D1
  obtain ⟨A2, n2, c2, a⟩ := D2
  obtain ⟨A3, n3, c3, b⟩ := D3
  have okl := h1.good.ok
  have oka := h2.good.ok
  have okb := h3.good.ok
  have k1 : n1 ≤ 140737488355328 := h1.bulk
  have k2 : n2 ≤ 140737488355328 := h2.bulk
  have k3 : n3 ≤ 140737488355328 := h3.bulk
  have HL : Hid (∀ W, Below w.heap.size w W → Rd W W.heap.size 5 A1 n1 (rowsC l)) := Lib.hid fun W hW => Rd.next h1.rd hW
  have HA : Hid (∀ W, Below w.heap.size w W → Rd W W.heap.size 5 A2 n2 (rowsC a)) := Lib.hid fun W hW => Rd.next h2.rd hW
  have HB : Hid (∀ W, Below w.heap.size w W → Rd W W.heap.size 5 A3 n3 (rowsC b)) := Lib.hid fun W hW => Rd.next h3.rd hW
  have g1 : l.length = n1 := by have := h1.rd.1; dsimp only at this; rw [rowsC_len] at this; omega
  have g2 : a.length = n2 := by have := h2.rd.1; dsimp only at this; rw [rowsC_len] at this; omega
  have g3 : b.length = n3 := by have := h3.rd.1; dsimp only at this; rw [rowsC_len] at this; omega
  have HG1 := Lib.hid g1
  have HG2 := Lib.hid g2
  have HG3 := Lib.hid g3
  clear h1 h2 h3 g1 g2 g3
  show Calls Tryz.prog 6 #[.slice A1 n1 c1, .slice A2 n2 c2, .slice A3 n3 c3] w _
  have w1 : IntKind.i64.wrap ((n1 : Int) + (n2 : Int)) = (n1 : Int) + (n2 : Int) := by rw [IntKind.wrap_i64]; omega
  have w2 : IntKind.i64.wrap ((n1 : Int) + (n2 : Int) + (n3 : Int)) = (n1 : Int) + (n2 : Int) + (n3 : Int) := by rw [IntKind.wrap_i64]; omega
  go_enter Tryz.func6, Tryz.ntmps6
  go_wp2_with fail
  refine (shown_any w E).mono ?_
  rintro e wa ⟨rfl, hba⟩
  have HBa := Lib.hid hba
  clear hba
  by_cases hn : n1 + n2 + n3 > 100
  · have x1 : (n1 : Int) + (n2 : Int) + (n3 : Int) > 100 := by omega
    go_wp2
    go_ret
    exact ⟨rfl, HBa.out⟩
  · have x1 : ¬ (n1 : Int) + (n2 : Int) + (n3 : Int) > 100 := by omega
    have ea := Sp.add_again l a b
    have eo := Sp.add_order l a b
    rw [HG1.out, HG2.out, HG3.out] at eo
    have okD := ok_addR (ok_app okl oka)
    have okD1 := ok_addR (ok_app okl okb)
    have okA := ok_addR (ok_app okD okb)
    have H1 := Lib.hid (fun W r1 r2 => add_any l a okl oka A1 A2 n1 c1 n2 c2 W r1 r2 (by omega) (by omega))
    have H2 := Lib.hid (fun Ax cx W r1 r2 hx => add_any (Sp.addR (l ++ a)) b okD okb Ax A3 (Sp.addR (l ++ a)).length cx n3 c3 W r1 r2 hx (by omega))
    have H3 := Lib.hid (fun Ax cx W r1 r2 hx => add_any (Sp.addR (Sp.addR (l ++ a) ++ b)) a okA oka Ax A2 (Sp.addR (Sp.addR (l ++ a) ++ b)).length cx n2 c2 W r1 r2 hx (by omega))
    have H4 := Lib.hid (fun Ax cx W r1 r2 hx => add_any (Sp.addR (Sp.addR (l ++ a) ++ b)) l okA okl Ax A1 (Sp.addR (Sp.addR (l ++ a) ++ b)).length cx n1 c1 W r1 r2 hx (by omega))
    have H5 := Lib.hid (fun W r1 r2 => add_any l b okl okb A1 A3 n1 c1 n3 c3 W r1 r2 (by omega) (by omega))
    have H6 := Lib.hid (fun Ax cx W r1 r2 hx => add_any (Sp.addR (l ++ b)) a okD1 oka Ax A2 (Sp.addR (l ++ b)).length cx n2 c2 W r1 r2 hx (by omega))
    have H7 := Lib.hid (fun Ax cx W r1 r2 => add_any b (a ++ l) okb (ok_app oka okl) A3 Ax n3 c3 (n2 + n1) cx W r1 r2 (by omega) (by omega))
    rw [ea.1] at H3
    rw [ea.2] at H4
    have HEO := Lib.hid eo
    clear ea eo okD okD1 okA
    generalize Sp.addR (l ++ a) = D at *
    generalize Sp.addR (l ++ b) = D1 at *
    generalize hAL : Sp.addR (D ++ b) = AL at *
    have HS := Lib.hid (fun Ax Ay cx cy W r1 r2 hx => same_any AL Ax Ay AL.length cx cy W.heap.size W.heap.size W r1 r2 (Nat.le_refl _) (Nat.le_refl _) hx)
    go_wp2_with fail
    refine (H1.out _ (HL.out _ HBa.out) (HA.out _ HBa.out)).mono ?_
    rintro e wb ⟨Ab, cb, rfl, hrb, hcb, hbb⟩
    have HBb : Hid (Below w.heap.size w wb) := Lib.hid (HBa.out.trans (hbb.mono HBa.out.size))
    have HRb := Lib.hid hrb
    have hlb := hcb.1
    clear hrb hcb hbb HBa H1
    go_wp2_with fail
    refine (H2.out _ _ _ HRb.out (HB.out _ HBb.out) (by omega)).mono ?_
    rintro e wc ⟨Ac, cc, rfl, hrc, hcc, hbc⟩
    have HBc : Hid (Below w.heap.size w wc) := Lib.hid (HBb.out.trans (hbc.mono HBb.out.size))
    have HRc := Lib.hid hrc
    have hlc := hcc.1
    clear hrc hcc hbc HBb HRb H2
    generalize hlen : AL.length = m at *
    by_cases hm : m = n1 + n2 + n3
    · have y1 : ((m : Int) != (n1 : Int) + (n2 : Int) + (n3 : Int)) = false := by simp; omega
      obtain ⟨e5, e6⟩ := HEO.out hm
      rw [← e5, hlen] at H6
      rw [← e6, hlen] at H7
      have HR0 := Lib.hid (fun (W : World) (A c : Nat) => trivial)
      clear HEO e5 e6 hlen hAL H3 H4 hm HR0
      go_wp2_with fail
      refine (H5.out _ (HL.out _ HBc.out) (HB.out _ HBc.out)).mono ?_
      rintro e wd ⟨Ad, cd, rfl, hrd, hcd, hbd⟩
      have HBd : Hid (Below w.heap.size w wd) := Lib.hid (HBc.out.trans (hbd.mono HBc.out.size))
      have HRd := Lib.hid hrd
      have HRc1 := Lib.hid (Rd.next HRc.out hbd)
      have hld := hcd.1
      clear hrd hcd hbd HBc HRc H5
      go_wp2_with fail
      refine (H6.out _ _ _ HRd.out (HA.out _ HBd.out) (by omega)).mono ?_
      rintro e we ⟨Ae, ce, rfl, hre, hce, hbe⟩
      have HBe : Hid (Below w.heap.size w we) := Lib.hid (HBd.out.trans (hbe.mono HBd.out.size))
      have HRe := Lib.hid hre
      have HRc2 := Lib.hid (Rd.next HRc1.out hbe)
      clear hre hce hbe HBd HRd HRc1 H6
      go_wp2_with fail
      refine (HS.out _ _ _ _ _ HRc2.out HRe.out (by omega)).mono ?_
      rintro e wf ⟨rfl, hbf⟩
      have HBf : Hid (Below w.heap.size w wf) := Lib.hid (HBe.out.trans (hbf.mono HBe.out.size))
      have HRc3 := Lib.hid (Rd.next HRc2.out hbf)
      clear hbf HBe HRe HRc2
      obtain ⟨i0, hi, hz, hs, hby⟩ := rowInfo
      have HI := Lib.hid hi
      have HIZ := Lib.hid hz
      have HIS := Lib.hid hs
      have HIB := Lib.hid hby
      clear hi hz hs hby
      have HAf := Lib.hid (HA.out _ HBf.out)
      go_wp2_with (at_builtin; refine wpList_append_rdW rfl _ _ _ 22 rfl wf.heap.size 37 i0 (.agg zeroRow) 5 56 Tryz.underlying22 HI.out HIZ.out HIS.out HIB.out rfl (by decide) (.slice none 0 0) 0 [] rfl ⟨rfl, .inl ⟨rfl, rfl⟩⟩ A2 n2 c2 wf.heap.size (rowsC a) rfl HAf.out (rowsC_one _) (by simp only [maxLen]; omega) (by omega) (Nat.le_refl _) ?_)
      intro v1 wg hown1 hgr1
      have HO1 := Lib.hid hown1
      have hfg : Below wf.heap.size wf wg := (Below.refl _ _).grown hgr1 (Nat.le_refl _) (by intro k hk; cases hk)
      have HBg : Hid (Below w.heap.size w wg) := Lib.hid (HBf.out.trans (hfg.mono HBf.out.size))
      have HFG := Lib.hid hfg
      have HLg := Lib.hid (HL.out _ HBg.out)
      have hsz := hfg.size
      clear hown1 hgr1 HAf hfg
      go_wp2_with (at_builtin; refine wpList_append_rdW rfl _ _ _ 22 rfl wf.heap.size 37 i0 (.agg zeroRow) 5 56 Tryz.underlying22 HI.out HIZ.out HIS.out HIB.out rfl (by decide) _ _ _ rfl HO1.out A1 n1 c1 wg.heap.size (rowsC l) rfl HLg.out (rowsC_one _) (by simp only [maxLen]; omega) (by omega) hsz ?_)
      intro v2 wh hown2 hgr2
      have hfh : Below wf.heap.size wf wh := HFG.out.grown hgr2 HFG.out.size (own_base HO1.out)
      have HBh : Hid (Below w.heap.size w wh) := Lib.hid (HBf.out.trans (hfh.mono HBf.out.size))
      have HRc4 := Lib.hid (Rd.next HRc3.out hfh)
      obtain ⟨Av, cv, rfl⟩ := own_slice hown2
      have hcells : rowsC a ++ rowsC l = rowsC (a ++ l) := by rw [rowsC, rowsC, rowsC, List.flatMap_append]
      have hrv := (Rd.own hown2).1
      simp only [hcells] at hrv
      have HRV : Hid (Rd wh wh.heap.size 5 Av (n2 + n1) (rowsC (a ++ l))) := Lib.hid hrv
      clear hown2 hgr2 hfh hrv hcells HO1 HBg HFG HLg HRc3 HBf hsz
      try simp only [Nat.zero_add]
      go_wp2_with fail
      refine (H7.out _ _ _ (HB.out _ HBh.out) HRV.out).mono ?_
      rintro e wi ⟨Ai, ci, rfl, hri, hci, hbi⟩
      have HBi : Hid (Below w.heap.size w wi) := Lib.hid (HBh.out.trans (hbi.mono HBh.out.size))
      have HRi := Lib.hid hri
      have HRc5 := Lib.hid (Rd.next HRc4.out hbi)
      clear hri hci hbi HBh HRV HRc4 H7
      go_wp2_with fail
      refine (HS.out _ _ _ _ _ HRc5.out HRi.out (by omega)).mono ?_
      rintro e wj ⟨rfl, hbj⟩
      have HBj : Hid (Below w.heap.size w wj) := Lib.hid (HBi.out.trans (hbj.mono HBi.out.size))
      clear hbj
      go_wp2
      go_ret
      exact ⟨rfl, HBj.out⟩
    · have y1 : ((m : Int) != (n1 : Int) + (n2 : Int) + (n3 : Int)) = true := by simp; omega
      clear HEO hlen hAL H5 H6 H7
      go_wp2_with fail
      refine (H3.out _ _ _ HRc.out (HA.out _ HBc.out) (by omega)).mono ?_
      rintro e wd ⟨Ad, cd, rfl, hrd, hcd, hbd⟩
      have HBd : Hid (Below w.heap.size w wd) := Lib.hid (HBc.out.trans (hbd.mono HBc.out.size))
      have HRd := Lib.hid hrd
      have HRc1 := Lib.hid (Rd.next HRc.out hbd)
      clear hrd hcd hbd HBc HRc H3
      go_wp2_with fail
      refine (HS.out _ _ _ _ _ HRd.out HRc1.out (by omega)).mono ?_
      rintro e we ⟨rfl, hbe⟩
      have HBe : Hid (Below w.heap.size w we) := Lib.hid (HBd.out.trans (hbe.mono HBd.out.size))
      have HRc2 := Lib.hid (Rd.next HRc1.out hbe)
      clear hbe HBd HRd HRc1
      go_wp2_with fail
      refine (H4.out _ _ _ HRc2.out (HL.out _ HBe.out) (by omega)).mono ?_
      rintro e wf ⟨Af, cf, rfl, hrf, hcf, hbf⟩
      have HBf : Hid (Below w.heap.size w wf) := Lib.hid (HBe.out.trans (hbf.mono HBe.out.size))
      have HRf := Lib.hid hrf
      have HRc3 := Lib.hid (Rd.next HRc2.out hbf)
      clear hrf hcf hbf HBe HRc2 H4
      go_wp2_with fail
      refine (HS.out _ _ _ _ _ HRf.out HRc3.out (by omega)).mono ?_
      rintro e wg ⟨rfl, hbg⟩
      have HBg : Hid (Below w.heap.size w wg) := Lib.hid (HBf.out.trans (hbg.mono HBf.out.size))
      clear hbg
      go_wp2
      go_ret
      exact ⟨rfl, HBg.out⟩
end
end

section
open Go.RowKit
namespace Sp
theorem up_adj : ∀ l : List RowD, (∀ k, k + 1 < l.length → lessB l[k]! l[k + 1]! = true) → Up l
  | [], _ => List.Pairwise.nil
  | x :: q, h => by
    have hq : Up q := up_adj q fun k hk => by
      have := h (k + 1) (by simpa using hk)
      simpa using this
    refine List.Pairwise.cons ?_ hq
    intro y hy
    cases q with
    | nil => cases hy
    | cons z q' =>
      have h0 : lessB x z = true := by simpa using h 0 (by simp)
      rcases List.mem_cons.1 hy with rfl | hy
      · exact h0
      · exact less_trans x z y h0 ((List.pairwise_cons.1 hq).1 y hy)
theorem may_up (l : List RowD) (h : mayLogB l = true) : Up l ∧ ∀ r ∈ l, mayRowB r = true := by
  have hk := mayLog_at l h
  constructor
  · refine up_adj l fun k hk1 => ?_
    have := hk (k + 1) hk1
    simp only [okAt, Bool.and_eq_true, Bool.or_eq_true, decide_eq_true_eq, Nat.add_sub_cancel] at this
    rcases this.2 with h0 | h0
    · omega
    · exact h0
  · intro r hr
    obtain ⟨k, hk1, rfl⟩ := List.getElem_of_mem hr
    have := hk k hk1
    simp only [okAt, Bool.and_eq_true] at this
    rw [getElem!_pos l k hk1] at this
    exact this.1
theorem up_may (l : List RowD) (h1 : Up l) (h2 : ∀ r ∈ l, mayRowB r = true) : mayLogB l = true := mayLog_yes l fun j hj => by
  have e : l[j]! = l[j] := getElem!_pos l j hj
  unfold okAt
  rw [e, h2 _ (List.getElem_mem hj), Bool.true_and, Bool.or_eq_true]
  rcases Nat.eq_zero_or_pos j with h0 | h0
  · exact .inl (decide_eq_true h0)
  · right
    rw [getElem!_pos l (j - 1) (by omega)]
    exact List.pairwise_iff_getElem.1 h1 (j - 1) j (by omega) hj (by omega)
theorem less_irr (r : RowD) : lessB r r = false := by
  cases e : lessB r r
  · rfl
  · have := less_asym _ _ e
    rw [e] at this; cases this
/-- two logs, one ahead of the other -/
theorem up_two (l rows : List RowD) (h1 : mayLogB l = true) (h2 : mayLogB rows = true) (h : ∀ (a : 0 < l.length) (b : 0 < rows.length), lessB (l[l.length - 1]'(by omega)) rows[0] = true) : Up (l ++ rows) ∧ ∀ r ∈ l ++ rows, mayRowB r = true := by
  obtain ⟨u1, m1⟩ := may_up l h1
  obtain ⟨u2, m2⟩ := may_up rows h2
  refine ⟨List.pairwise_append.2 ⟨u1, u2, ?_⟩, fun r hr => (List.mem_append.1 hr).elim (m1 r) (m2 r)⟩
  intro a ha b hb
  obtain ⟨i, hi, rfl⟩ := List.getElem_of_mem ha
  obtain ⟨j, hj, rfl⟩ := List.getElem_of_mem hb
  have h0 := h (by omega) (by omega)
  have p1 := List.pairwise_iff_getElem.1 u1
  have p2 := List.pairwise_iff_getElem.1 u2
  have h3 : lessB l[i] rows[0] = true := by
    rcases Nat.lt_or_ge i (l.length - 1) with h4 | h4
    · exact less_trans _ _ _ (p1 i (l.length - 1) (by omega) (by omega) h4) h0
    · have : i = l.length - 1 := by omega
      subst this; exact h0
  rcases Nat.eq_zero_or_pos j with h4 | h4
  · subst h4; exact h3
  · exact less_trans _ _ _ h3 (p2 0 j (by omega) (by omega) h4)
/-- a cursor that has seen the first j rows -/
def Seen (now : List RowD) (c : ByteArray) (j : Nat) : Prop :=
  j ≤ now.length ∧ ((c = ⟨#[]⟩ ∧ j = 0) ∨ ∃ r, mayRowB r = true ∧ c = toB (cursL r) ∧ (∀ x ∈ now.take j, lessB r x = false) ∧ ∀ x ∈ now.drop j, lessB r x = true)
theorem cursL_small (r : RowD) (h : mayRowB r = true) : (toB (cursL r)).size ≤ 1048576 := by
  obtain ⟨p1, p2, p3, p4, p5, p6, p7, p8, p9⟩ := mayRow_parts r h
  have z1 := decB_size r.time p1 (by omega)
  have z2 := unitW_size r.unit p3
  have z3 := decB_size r.n (by omega) (by omega)
  rw [toB_size] at *
  have e1 : (unitW r.unit).data.toList.length = (unitW r.unit).size := by simp
  simp only [cursL, List.length_append, List.length_cons, e1]
  omega
theorem seen_small {now : List RowD} {c : ByteArray} {j : Nat} (h : Seen now c j) : c.size ≤ 1048576 := by
  rcases h.2 with ⟨rfl, _⟩ | ⟨r, hr, rfl, _⟩
  · decide
  · exact cursL_small r hr
theorem seen_out {now : List RowD} {c : ByteArray} {j : Nat} (h : Seen now c j) (hm : mayLogB now = true) : badB now c = false ∧ ∀ N, outL c.toList.isEmpty (placeRow c) now N = (now.drop j).take N := by
  obtain ⟨_, ⟨rfl, rfl⟩ | ⟨r, hr, rfl, h1, h2⟩⟩ := h
  · have he : (ByteArray.toList ⟨#[]⟩).isEmpty = true := by rw [bytes_list]; rfl
    refine ⟨by unfold badB; rw [hm, he]; rfl, fun N => ?_⟩
    unfold outL
    have ef : now.filter (wants true (placeRow ⟨#[]⟩)) = now := List.filter_eq_self.2 fun x _ => rfl
    rw [he, ef]
    rfl
  · have he : (toB (cursL r)).toList.isEmpty = false := by rw [bytes_list, toB_list]; unfold cursL; simp
    have hp : placeP (toB (cursL r)) = some (atPlace r) := place_some _ _ ⟨rfl, rfl⟩ (atPlace_may r hr).1 (((atPlace_may r hr).2).trans (toB_list _).symm)
    have hrow : placeRow (toB (cursL r)) = ⟨r.time, r.unit, r.n, 0, ⟨#[]⟩⟩ := by unfold placeRow; rw [hp]; rfl
    refine ⟨by unfold badB placeOk; rw [hp, hm]; simp, fun N => ?_⟩
    unfold outL
    have ew : ∀ x, wants false ⟨r.time, r.unit, r.n, 0, ⟨#[]⟩⟩ x = lessB r x := fun x => rfl
    have e : now.filter (wants (toB (cursL r)).toList.isEmpty (placeRow (toB (cursL r)))) = now.drop j := by
      rw [he, hrow]
      conv => lhs; rw [← List.take_append_drop j now]
      rw [List.filter_append, List.filter_eq_nil_iff.2 (fun x hx => by rw [ew, h1 x hx]; simp), List.filter_eq_self.2 (fun x hx => by rw [ew, h2 x hx])]
      rfl
    rw [e]
theorem up_pick (now : List RowD) (hU : Up now) (j : Nat) (hj : j < now.length) : (∀ x ∈ now.take (j + 1), lessB now[j] x = false) ∧ ∀ x ∈ now.drop (j + 1), lessB now[j] x = true := by
  have hp := List.pairwise_iff_getElem.1 hU
  constructor
  · intro x hx
    obtain ⟨i, hi, rfl⟩ := List.getElem_of_mem hx
    rw [List.length_take] at hi
    rw [List.getElem_take]
    rcases Nat.lt_or_ge i j with h | h
    · exact less_asym _ _ (hp i j (by omega) hj h)
    · have : i = j := by omega
      subst this
      exact less_irr _
  · intro x hx
    obtain ⟨i, hi, rfl⟩ := List.getElem_of_mem hx
    rw [List.length_drop] at hi
    rw [List.getElem_drop]
    exact hp j (j + 1 + i) hj (by omega) (by omega)
theorem seen_next {now : List RowD} {c : ByteArray} {j : Nat} (h : Seen now c j) (hm : mayLogB now = true) (N : Nat) (hN : 1 ≤ N) : Seen now (nextS c ((now.drop j).take N)) (min (j + N) now.length) := by
  obtain ⟨hU, hR⟩ := may_up now hm
  rcases Nat.lt_or_ge j now.length with hlt | hge
  · obtain ⟨q, hq⟩ : ∃ q, min (j + N) now.length = q + 1 := ⟨min (j + N) now.length - 1, by omega⟩
    have hql : q < now.length := by omega
    have e : ((now.drop j).take N).getLast? = some now[q] := by
      rw [List.getLast?_eq_getElem?, List.length_take, List.length_drop, List.getElem?_take_of_lt (by omega), List.getElem?_drop]
      rw [show j + (min N (now.length - j) - 1) = q from by omega, List.getElem?_eq_getElem hql]
    rw [hq]
    have hc : nextS c ((now.drop j).take N) = toB (cursL now[q]) := by
      unfold nextS
      rw [e]
      simp only [cursorR, if_pos (hR _ (List.getElem_mem hql))]
    exact ⟨by omega, .inr ⟨now[q], hR _ (List.getElem_mem hql), hc, (up_pick now hU q hql).1, (up_pick now hU q hql).2⟩⟩
  · have hj := h.1
    rw [List.drop_of_length_le hge, List.take_nil, show min (j + N) now.length = j from by omega]
    exact h
theorem seen_none (l : List RowD) : Seen l ⟨#[]⟩ 0 := ⟨Nat.zero_le _, .inl ⟨rfl, rfl⟩⟩
/-- what is read of the log, and how one goes on -/
theorem from_seen {now : List RowD} {c : ByteArray} {j : Nat} (h : Seen now c j) (hm : mayLogB now = true) (n : Int) : fromErr now c = 0 ∧ fromRows now c n = (now.drop j).take n.toNat ∧ fromNext now c n = nextS c ((now.drop j).take n.toNat) := by
  obtain ⟨h1, h2⟩ := seen_out h hm
  unfold fromErr fromRows fromNext
  simp [h1, h2]
theorem seen_first (l rows : List RowD) (hU : Up (l ++ rows)) (hR : ∀ r ∈ l ++ rows, mayRowB r = true) (N : Nat) (hN : 1 ≤ N) (i : Nat) (hi : i ≤ l.length) : Seen (l.drop i ++ rows) (nextS ⟨#[]⟩ (l.take N)) (min N l.length - i) := by
  refine ⟨by rw [List.length_append, List.length_drop]; omega, ?_⟩
  rcases Nat.eq_zero_or_pos l.length with h0 | h0
  · obtain rfl := List.eq_nil_of_length_eq_zero h0
    exact .inl ⟨by rw [List.take_nil]; rfl, by simp⟩
  · right
    obtain ⟨q, hq⟩ : ∃ q, min N l.length = q + 1 := ⟨min N l.length - 1, by omega⟩
    have hql : q < l.length := by omega
    have hqa : q < (l ++ rows).length := by rw [List.length_append]; omega
    have e : (l.take N).getLast? = some l[q] := by
      rw [List.getLast?_eq_getElem?, List.length_take, List.getElem?_take_of_lt (by omega)]
      rw [show min N l.length - 1 = q from by omega, List.getElem?_eq_getElem hql]
    have hr : mayRowB l[q] = true := hR _ (List.mem_append_left _ (List.getElem_mem hql))
    have hp := up_pick (l ++ rows) hU q hqa
    rw [List.getElem_append_left hql] at hp
    have hd : l.drop i ++ rows = (l ++ rows).drop i := (List.drop_append_of_le_length hi).symm
    rw [hq, hd]
    refine ⟨l[q], hr, by unfold nextS; rw [e]; simp only [cursorR, if_pos hr], fun x hx => ?_, fun x hx => ?_⟩
    · rw [← List.drop_take] at hx
      exact hp.1 x (List.mem_of_mem_drop hx)
    · rw [List.drop_drop] at hx
      refine hp.2 x ?_
      rw [show i + (q + 1 - i) = (q + 1) + (i - (q + 1)) from by omega, ← List.drop_drop] at hx
      exact List.mem_of_mem_drop hx
theorem keep_drop (l : List RowD) (most : Int) : ∃ a, a ≤ l.length ∧ keepL l most = l.drop a := by
  induction l with
  | nil => exact ⟨0, Nat.le_refl _, rfl⟩
  | cons r q ih =>
    by_cases h : (sizeL (r :: q) : Int) ≤ most
    · exact ⟨0, Nat.zero_le _, by rw [keepL, if_pos h]; rfl⟩
    · obtain ⟨a, h1, h2⟩ := ih
      exact ⟨a + 1, by simpa using h1, by rw [keepL, if_neg h]; exact h2⟩
theorem up_drop (l rows : List RowD) (hU : Up (l ++ rows)) (i : Nat) (hi : i ≤ l.length) : Up (l.drop i ++ rows) := by
  rw [← List.drop_append_of_le_length hi]
  exact List.Pairwise.sublist (List.drop_sublist _ _) hU
/-- the rows of l that were read, or are left, among the first k -/
def wantL (l : List RowD) (m i k : Nat) : List RowD := l.take (min k m) ++ (l.drop (max m i)).take (k - max m i)
theorem want_yes (l : List RowD) (m i k : Nat) (hk : k < l.length) (h : k < m ∨ i ≤ k) : wantL l m i (k + 1) = wantL l m i k ++ [l[k]] := by
  unfold wantL
  rcases Nat.lt_or_ge k m with h1 | h1
  · rw [show min (k + 1) m = k + 1 from by omega, show min k m = k from by omega, show k + 1 - max m i = 0 from by omega, show k - max m i = 0 from by omega, List.take_zero, List.append_nil, List.append_nil, List.take_succ_eq_append_getElem hk]
  · have h2 : i ≤ k := by omega
    have h3 : k - max m i < (l.drop (max m i)).length := by rw [List.length_drop]; omega
    rw [show min (k + 1) m = min k m from by omega, show k + 1 - max m i = (k - max m i) + 1 from by omega, List.take_succ_eq_append_getElem h3, List.getElem_drop, List.append_assoc]
    congr 3
    simp only [show max m i + (k - max m i) = k from by omega]
theorem want_no (l : List RowD) (m i k : Nat) (h1 : ¬ k < m) (h2 : ¬ i ≤ k) : wantL l m i (k + 1) = wantL l m i k := by
  unfold wantL
  rw [show min (k + 1) m = min k m from by omega, show k + 1 - max m i = 0 from by omega, show k - max m i = 0 from by omega]
theorem want_none (l : List RowD) (m i : Nat) : wantL l m i 0 = [] := by
  unfold wantL
  simp
theorem want_all (l rows : List RowD) (m i : Nat) (hi : i ≤ l.length) (hm : m ≤ l.length) : wantL l m i l.length ++ rows = l.take m ++ (l.drop i ++ rows).drop (m - i) := by
  unfold wantL
  rw [show min l.length m = m from by omega, List.take_of_length_le (l := l.drop (max m i)) (by rw [List.length_drop]; exact Nat.le_refl _), List.drop_append_of_le_length (by rw [List.length_drop]; omega), List.drop_drop, show i + (m - i) = max m i from by omega, List.append_assoc]
end Sp
end

section
open Go.RowKit

namespace Sp
theorem got_step (now : List RowD) (j0 j N : Nat) (h0 : j0 ≤ j) (hj : j ≤ now.length) : (now.drop j0).take (j - j0) ++ (now.drop j).take N = (now.drop j0).take (min (j + N) now.length - j0) := by
  have e : now.drop j = (now.drop j0).drop (j - j0) := by rw [List.drop_drop, show j0 + (j - j0) = j from by omega]
  rw [e, ← List.take_add]
  rcases Nat.lt_or_ge (j + N) now.length with h | h
  · rw [show j - j0 + N = min (j + N) now.length - j0 from by omega]
  · rw [List.take_of_length_le (by rw [List.length_drop]; omega), List.take_of_length_le (by rw [List.length_drop]; omega)]
end Sp
theorem fits_addR {L : List RowD} (h : Fits L) : Fits (Sp.addR L) := fun r hr => by
  rcases mem_fold r L [] hr with h1 | h1
  · cases h1
  · exact h r h1
theorem from_on (now : List RowD) (hl : Fits now) (c : ByteArray) (j : Nat) (hS : Sp.Seen now c j) (hm : Sp.mayLogB now = true) (each : Int) (A : Option Addr) (n cap : Nat) (W : World) (h : Rd W W.heap.size 5 A n (rowsC now)) (hn : n ≤ 137438953472) (E : Env W) :
    Calls Tryz.prog 18 #[.slice A n cap, .string c, .int .i64 each] W fun e w' => ∃ A' c', e = .returned (.tuple #[.slice A' ((now.drop j).take each.toNat).length c', .string (Sp.nextS c ((now.drop j).take each.toNat)), .int .i64 0]) ∧ Rd w' w'.heap.size 5 A' ((now.drop j).take each.toNat).length (rowsC ((now.drop j).take each.toNat)) ∧ Below W.heap.size W w' := by
  have h1 := from_any now hl A n cap W.heap.size c each W h (Nat.le_refl _) hn (Sp.seen_small hS) E
  obtain ⟨e1, e2, e3⟩ := Sp.from_seen hS hm each
  rw [e1, e2, e3] at h1
  exact h1
theorem rows_app (a b : List RowD) : rowsC a ++ rowsC b = rowsC (a ++ b) := by rw [rowsC, rowsC, rowsC, List.flatMap_append]

set_option maxRecDepth 100000 in
set_option maxHeartbeats 16000000 in
theorem jonce_any (D1 D2 : RowsD) (each most : Int) (w : World) (h1 : RowsGood w D1) (h2 : RowsGood w D2) (E : Env w) :
    Calls Tryz.prog 5 #[rowsV D1, rowsV D2, .int .i64 each, .int .i64 most] w fun e w' => e = .returned (.bool true) ∧ Below w.heap.size w w' := by
  obtain ⟨A1, n1, c1, l0⟩ := D1
  obtain ⟨A2, n2, c2, r0⟩ := D2
  have ok1 : ∀ r ∈ l0, okRow r := h1.good.ok
  have ok2 : ∀ r ∈ r0, okRow r := h2.good.ok
  have f1 : Fits l0 := h1.good.fits
  have f2 : Fits r0 := h2.good.fits
  have k1 : n1 * 56 ≤ 140737488351232 := h1.bytes
  have k2 : n2 * 56 ≤ 140737488351232 := h2.bytes
  have HL0 : Hid (∀ W, Below w.heap.size w W → Rd W W.heap.size 5 A1 n1 (rowsC l0)) := Lib.hid fun W hW => Rd.next h1.rd hW
  have HR0 : Hid (∀ W, Below w.heap.size w W → Rd W W.heap.size 5 A2 n2 (rowsC r0)) := Lib.hid fun W hW => Rd.next h2.rd hW
  have HEN : Hid (∀ W, Below w.heap.size w W → Env W) := Lib.hid fun W hW => E.on hW
  clear h1 h2
  show Calls Tryz.prog 5 #[.slice A1 n1 c1, .slice A2 n2 c2, .int .i64 each, .int .i64 most] w _
  have H1 := Lib.hid (fun W r1 r2 => add_big [] l0 (by simp) ok1 none A1 0 0 n1 c1 W r1 r2 (by omega))
  have H2 := Lib.hid (fun W r1 r2 => add_big [] r0 (by simp) ok2 none A2 0 0 n2 c2 W r1 r2 (by omega))
  have fl : Fits (Sp.addR l0) := fits_addR f1
  have fr : Fits (Sp.addR r0) := fits_addR f2
  have okl := ok_addR ok1
  have okr := ok_addR ok2
  simp only [List.nil_append, Nat.zero_add] at H1 H2
  generalize Sp.addR l0 = L at *
  generalize Sp.addR r0 = R at *
  clear ok1 ok2 f1 f2
  go_enter Tryz.func5, Tryz.ntmps5
  go_wp2_with fail
  refine (shown_any w E).mono ?_
  rintro e wa ⟨rfl, hba⟩
  have HBa := Lib.hid hba
  clear hba
  go_wp2_with fail
  refine (H1.out _ Rd.empty (HL0.out _ HBa.out)).mono ?_
  rintro e wb ⟨Al, cl, rfl, hrb, ⟨hlb, hlc⟩, hbb⟩
  have HBb : Hid (Below w.heap.size w wb) := Lib.hid (HBa.out.trans (hbb.mono HBa.out.size))
  have HRl := Lib.hid hrb
  clear hrb hbb HBa H1 HL0
  go_wp2_with fail
  refine (H2.out _ Rd.empty (HR0.out _ HBb.out)).mono ?_
  rintro e wk ⟨Ar, cr, rfl, hrc, ⟨hrb, hrc2⟩, hbc⟩
  have HBc : Hid (Below w.heap.size w wk) := Lib.hid (HBb.out.trans (hbc.mono HBb.out.size))
  have HRl2 := Lib.hid (Rd.next HRl.out hbc)
  have HRr := Lib.hid hrc
  clear hrc hbc HBb HRl H2 HR0
  generalize hm1 : L.length = m1 at *
  generalize hm2 : R.length = m2 at *
  have HM1 := Lib.hid hm1
  have HM2 := Lib.hid hm2
  clear hm1 hm2
  have ww : IntKind.i64.wrap ((m1 : Int) + (m2 : Int)) = (m1 : Int) + (m2 : Int) := by rw [IntKind.wrap_i64]; omega
  have HWL : Hid (∀ W, Below wk.heap.size wk W → Rd W W.heap.size 5 Al m1 (rowsC L)) := Lib.hid fun W hW => Rd.next HRl2.out hW
  have HWR : Hid (∀ W, Below wk.heap.size wk W → Rd W W.heap.size 5 Ar m2 (rowsC R)) := Lib.hid fun W hW => Rd.next HRr.out hW
  have HGO : Hid (∀ W, Below wk.heap.size wk W → Below w.heap.size w W) := Lib.hid fun W hW => HBc.out.trans (hW.mono HBc.out.size)
  go_upto_region 4 with fail
  go_cut [70] from 22 to 149 (fun v W => ∃ b : Bool, v = .bool b ∧ Below wk.heap.size wk W ∧ Hid (b = false → m1 + m2 ≤ 100 ∧ Sp.mayLogB L = true ∧ Sp.mayLogB R = true ∧ 1 ≤ each ∧ ∀ (x : 0 < L.length) (y : 0 < R.length), lessB (L[L.length - 1]'(by omega)) R[0] = true))
  case first =>
    have HML : Hid (m1 + m2 ≤ 100 → ∀ p : Since wk.heap.size wk, Calls Tryz.prog 12 #[.slice Al m1 cl] p.w' fun e w'' => e = .returned (.bool (Sp.mayLogB L)) ∧ ∃ q : Since wk.heap.size wk, w'' = q.w') := Lib.hid fun hx p => Calls.since_of (Nat.le_refl _) (mayl_any L fl Al m1 cl p.w'.heap.size p.w' (HWL.out _ p.hb) (Nat.le_refl _) (by omega))
    have HMR : Hid (m1 + m2 ≤ 100 → ∀ p : Since wk.heap.size wk, Calls Tryz.prog 12 #[.slice Ar m2 cr] p.w' fun e w'' => e = .returned (.bool (Sp.mayLogB R)) ∧ ∃ q : Since wk.heap.size wk, w'' = q.w') := Lib.hid fun hx p => Calls.since_of (Nat.le_refl _) (mayl_any R fr Ar m2 cr p.w'.heap.size p.w' (HWR.out _ p.hb) (Nat.le_refl _) (by omega))
    have HROW1 := Lib.hid (fun k hk => Rd.rowAt HRl2.out k hk)
    have HROW2 := Lib.hid (fun k hk => Rd.rowAt HRr.out k hk)
    by_cases hn : m1 + m2 > 100
    · have x1 : (m1 : Int) + (m2 : Int) > 100 := by omega
      clear HML HMR HROW1 HROW2
      refine wp_region_since wk.heap.size (by kernel_rfl) (by kernel_rfl) ?_
      repeat (go_big_quiet_step (first | (go_at_call_of 12 (Value.slice Al m1 cl); fail) | (go_at_call_of 12 (Value.slice Ar m2 cr); fail) | (go_at_call 20; fail)))
      refine wpQuiet_nil ?_
      intro _ hw'
      obtain ⟨pz, hw''⟩ := hw'
      subst hw''
      have HBZ := Lib.hid pz.hb
      generalize pz.w' = wz at *
      go_wp2_with fail
      go_meet
      exact ⟨true, rfl, HBZ.out, Lib.hid (fun h => by cases h)⟩
    · have x1 : ¬ (m1 : Int) + (m2 : Int) > 100 := by omega
      have hn1 : m1 + m2 ≤ 100 := by omega
      have HML := Lib.hid (HML.out hn1)
      have HMR := Lib.hid (HMR.out hn1)
      generalize hq1 : Sp.mayLogB L = q1 at *
      generalize hq2 : Sp.mayLogB R = q2 at *
      have HQ1 := Lib.hid hq1
      have HQ2 := Lib.hid hq2
      clear hq1 hq2
      cases q1 with
      | false =>
        clear HROW1 HROW2 HMR
        refine wp_region_since wk.heap.size (by kernel_rfl) (by kernel_rfl) ?_
        repeat (go_big_quiet_step (first | (go_at_call_of 12 (Value.slice Al m1 cl); exact HML.out _) | (go_at_call_of 12 (Value.slice Ar m2 cr); fail) | (go_at_call 20; fail)))
        refine wpQuiet_nil ?_
        intro _ hw'
        obtain ⟨pz, hw''⟩ := hw'
        subst hw''
        have HBZ := Lib.hid pz.hb
        generalize pz.w' = wz at *
        go_wp2_with fail
        go_meet
        exact ⟨true, rfl, HBZ.out, Lib.hid (fun h => by cases h)⟩
      | true =>
        cases q2 with
        | false =>
          clear HROW1 HROW2
          refine wp_region_since wk.heap.size (by kernel_rfl) (by kernel_rfl) ?_
          repeat (go_big_quiet_step (first | (go_at_call_of 12 (Value.slice Al m1 cl); exact HML.out _) | (go_at_call_of 12 (Value.slice Ar m2 cr); exact HMR.out _) | (go_at_call 20; fail)))
          refine wpQuiet_nil ?_
          intro _ hw'
          obtain ⟨pz, hw''⟩ := hw'
          subst hw''
          have HBZ := Lib.hid pz.hb
          generalize pz.w' = wz at *
          go_wp2_with fail
          go_meet
          exact ⟨true, rfl, HBZ.out, Lib.hid (fun h => by cases h)⟩
        | true =>
          by_cases he : each < 1
          · clear HROW1 HROW2
            refine wp_region_since wk.heap.size (by kernel_rfl) (by kernel_rfl) ?_
            repeat (go_big_quiet_step (first | (go_at_call_of 12 (Value.slice Al m1 cl); exact HML.out _) | (go_at_call_of 12 (Value.slice Ar m2 cr); exact HMR.out _) | (go_at_call 20; fail)))
            refine wpQuiet_nil ?_
            intro _ hw'
            obtain ⟨pz, hw''⟩ := hw'
            subst hw''
            have HBZ := Lib.hid pz.hb
            generalize pz.w' = wz at *
            go_wp2_with fail
            go_meet
            exact ⟨true, rfl, HBZ.out, Lib.hid (fun h => by cases h)⟩
          · rcases Nat.eq_zero_or_pos m1 with h0 | h0
            · have x2 : ¬ (m1 : Int) > 0 := by omega
              have HE : Hid (L.length = 0) := Lib.hid (by rw [HM1.out]; exact h0)
              have z1 : decide ((0 : Int) < (m1 : Int)) = false := decide_eq_false (by omega)
              have z2 : decide (0 < m1) = false := decide_eq_false (by omega)
              clear HROW1 HROW2 h0
              refine wp_region_since wk.heap.size (by kernel_rfl) (by kernel_rfl) ?_
              repeat (go_big_quiet_step (first | (go_at_call_of 12 (Value.slice Al m1 cl); exact HML.out _) | (go_at_call_of 12 (Value.slice Ar m2 cr); exact HMR.out _) | (go_at_call 20; fail)))
              refine wpQuiet_nil ?_
              intro _ hw'
              obtain ⟨pz, hw''⟩ := hw'
              subst hw''
              have HBZ := Lib.hid pz.hb
              generalize pz.w' = wz at *
              go_wp2_with fail
              go_meet
              exact ⟨false, rfl, HBZ.out, Lib.hid (fun _ => ⟨by omega, by trivial, by trivial, by omega, fun x => absurd x (by rw [HE.out]; omega)⟩)⟩
            · have x2 : (m1 : Int) > 0 := by omega
              have z1 : decide ((0 : Int) < (m1 : Int)) = true := decide_eq_true (by omega)
              have z2 : decide (0 < m1) = true := decide_eq_true (by omega)
              rcases Nat.eq_zero_or_pos m2 with h3 | h3
              · have x3 : ¬ (m2 : Int) > 0 := by omega
                have HE : Hid (R.length = 0) := Lib.hid (by rw [HM2.out]; exact h3)
                have z3 : decide ((0 : Int) < (m2 : Int)) = false := decide_eq_false (by omega)
                have z4 : decide (0 < m2) = false := decide_eq_false (by omega)
                clear HROW1 HROW2 h3
                refine wp_region_since wk.heap.size (by kernel_rfl) (by kernel_rfl) ?_
                repeat (go_big_quiet_step (first | (go_at_call_of 12 (Value.slice Al m1 cl); exact HML.out _) | (go_at_call_of 12 (Value.slice Ar m2 cr); exact HMR.out _) | (go_at_call 20; fail)))
                refine wpQuiet_nil ?_
                intro _ hw'
                obtain ⟨pz, hw''⟩ := hw'
                subst hw''
                have HBZ := Lib.hid pz.hb
                generalize pz.w' = wz at *
                go_wp2_with fail
                go_meet
                exact ⟨false, rfl, HBZ.out, Lib.hid (fun _ => ⟨by omega, by trivial, by trivial, by omega, fun _ y => absurd y (by rw [HE.out]; omega)⟩)⟩
              · have x3 : (m2 : Int) > 0 := by omega
                have z3 : decide ((0 : Int) < (m2 : Int)) = true := decide_eq_true (by omega)
                have z4 : decide (0 < m2) = true := decide_eq_true (by omega)
                have hl1 : m1 - 1 < L.length := by have := HM1.out; omega
                have hl2 : 0 < R.length := by have := HM2.out; omega
                obtain ⟨ad, hA, hc⟩ := HROW1.out (m1 - 1) hl1
                obtain ⟨ae, hA2, hd⟩ := HROW2.out 0 hl2
                have HLESS := Lib.hid (fun w => less_any L[m1 - 1] R[0] w)
                have HLB : Hid (lessB L[m1 - 1] R[0] = true → ∀ (x : 0 < L.length) (y : 0 < R.length), lessB (L[L.length - 1]'(by omega)) R[0] = true) := Lib.hid fun h x y => by
                  have e : L.length - 1 = m1 - 1 := by rw [HM1.out]
                  simp only [e]
                  exact h
                obtain ⟨q, hq1⟩ : ∃ q, m1 = q + 1 := ⟨m1 - 1, by omega⟩
                have hq2 : m1 - 1 = q := by omega
                simp only [hq2] at HLESS HLB hc
                generalize L[q] = ra at *
                generalize R[0] = rb at *
                generalize lessB ra rb = lb at *
                obtain ⟨at_, au, an, ak, ax⟩ := ra
                obtain ⟨bt, bu, bn, bk, bx⟩ := rb
                simp only [rowV, rowC] at HLESS
                dsimp only at hc hd
                simp only [Nat.zero_mul, addr0] at hd
                subst hA
                subst hA2
                have y1 : (m1 : Int) - 1 = (q : Int) := by omega
                have y2 : IntKind.i64.wrap ((m1 : Int) - 1) = (q : Int) := by rw [y1, IntKind.wrap_i64]; omega
                have y3 : IntKind.i64.wrap (q : Int) = (q : Int) := by rw [IntKind.wrap_i64]; omega
                have y4 : (0 : Int) ≤ (q : Int) := by omega
                have y5 : (q : Int) < (m1 : Int) := by omega
                have y6 : (0 : Int) < (m2 : Int) := by omega
                have HQA := Lib.hid y1
                clear hq1 hq2 y1
                have d0 : ∀ p : Since wk.heap.size wk, p.w'.cell? (ad.add (q * 5)) = some (.int .i64 at_) := fun p => (hc p.w' p.hb).1
                have d1 : ∀ p : Since wk.heap.size wk, p.w'.cell? ⟨(ad.add (q * 5)).block, (ad.add (q * 5)).off + 1, none⟩ = some (.string au) := fun p => (hc p.w' p.hb).2.1
                have d2 : ∀ p : Since wk.heap.size wk, p.w'.cell? ⟨(ad.add (q * 5)).block, (ad.add (q * 5)).off + 2, none⟩ = some (.int .i64 an) := fun p => (hc p.w' p.hb).2.2.1
                have d3 : ∀ p : Since wk.heap.size wk, p.w'.cell? ⟨(ad.add (q * 5)).block, (ad.add (q * 5)).off + 3, none⟩ = some (.int .i64 ak) := fun p => (hc p.w' p.hb).2.2.2.1
                have d4 : ∀ p : Since wk.heap.size wk, p.w'.cell? ⟨(ad.add (q * 5)).block, (ad.add (q * 5)).off + 4, none⟩ = some (.string ax) := fun p => (hc p.w' p.hb).2.2.2.2
                have e0 : ∀ p : Since wk.heap.size wk, p.w'.cell? ae = some (.int .i64 bt) := fun p => (hd p.w' p.hb).1
                have e1 : ∀ p : Since wk.heap.size wk, p.w'.cell? ⟨ae.block, ae.off + 1, none⟩ = some (.string bu) := fun p => (hd p.w' p.hb).2.1
                have e2 : ∀ p : Since wk.heap.size wk, p.w'.cell? ⟨ae.block, ae.off + 2, none⟩ = some (.int .i64 bn) := fun p => (hd p.w' p.hb).2.2.1
                have e3 : ∀ p : Since wk.heap.size wk, p.w'.cell? ⟨ae.block, ae.off + 3, none⟩ = some (.int .i64 bk) := fun p => (hd p.w' p.hb).2.2.2.1
                have e4 : ∀ p : Since wk.heap.size wk, p.w'.cell? ⟨ae.block, ae.off + 4, none⟩ = some (.string bx) := fun p => (hd p.w' p.hb).2.2.2.2
                clear hc hd HROW1 HROW2
                cases lb with
                | false =>
                  refine wp_region_since wk.heap.size (by kernel_rfl) (by kernel_rfl) ?_
                  repeat (go_big_quiet_step (first | (go_at_call_of 12 (Value.slice (some ad) m1 cl); exact HML.out _) | (go_at_call_of 12 (Value.slice (some ae) m2 cr); exact HMR.out _) | (go_at_call 20; exact Calls.since_of (Nat.le_refl _) (HLESS.out _))))
                  refine wpQuiet_nil ?_
                  intro _ hw'
                  obtain ⟨pz, hw''⟩ := hw'
                  subst hw''
                  have HBZ := Lib.hid pz.hb
                  generalize pz.w' = wz at *
                  go_wp2_with fail
                  go_meet
                  exact ⟨true, rfl, HBZ.out, Lib.hid (fun h => by cases h)⟩
                | true =>
                  refine wp_region_since wk.heap.size (by kernel_rfl) (by kernel_rfl) ?_
                  repeat (go_big_quiet_step (first | (go_at_call_of 12 (Value.slice (some ad) m1 cl); exact HML.out _) | (go_at_call_of 12 (Value.slice (some ae) m2 cr); exact HMR.out _) | (go_at_call 20; exact Calls.since_of (Nat.le_refl _) (HLESS.out _))))
                  refine wpQuiet_nil ?_
                  intro _ hw'
                  obtain ⟨pz, hw''⟩ := hw'
                  subst hw''
                  have HBZ := Lib.hid pz.hb
                  generalize pz.w' = wz at *
                  go_wp2_with fail
                  go_meet
                  exact ⟨false, rfl, HBZ.out, Lib.hid (fun _ => ⟨by omega, by trivial, by trivial, by omega, by first | exact HLB.out rfl | exact HLB.out trivial⟩)⟩

  case rest =>
    obtain ⟨b, rfl, hb4, HC⟩ := hcut
    have HB4 := Lib.hid hb4
    clear hb4
    cases b with
    | true =>
      go_wp2
      go_ret
      exact ⟨rfl, HGO.out _ HB4.out⟩
    | false =>
      obtain ⟨hc1, hc2, hc3, hc4, hc5⟩ := HC.out rfl
      clear HC
      obtain ⟨hU, hMA⟩ := Sp.up_two L R hc2 hc3 hc5
      obtain ⟨i0, hi0, hK⟩ := Sp.keep_drop L most
      have HFA := Lib.hid (fun A n c W h hn E => from_on L fl ⟨#[]⟩ 0 (Sp.seen_none L) hc2 each A n c W h hn E)
      simp only [List.drop_zero] at HFA
      have HKP := Lib.hid (fun A n c W h hn hc E => keep_any L fl A n c W.heap.size most W h (Nat.le_refl _) hn hc E)
      rw [hK] at HKP
      have hUd := Sp.up_drop L R hU i0 hi0
      have hnowL : (L.drop i0 ++ R).length = m1 - i0 + m2 := by rw [List.length_append, List.length_drop, HM1.out, HM2.out]
      have hMd : ∀ r ∈ L.drop i0 ++ R, mayRowB r = true := fun r hr => hMA r ((List.mem_append.1 hr).elim (fun h => List.mem_append_left _ (List.mem_of_mem_drop h)) (List.mem_append_right _))
      have fd : Fits (L.drop i0 ++ R) := fun r hr => (List.mem_append.1 hr).elim (fun h => fl r (List.mem_of_mem_drop h)) (fr r)
      have hmay := Sp.up_may _ hUd hMd
      have HAD := Lib.hid (fun A1 n1 c1 A2 n2 c2 W h1 h2 hn1 hn2 => add_any (L.drop i0) R (fun r hr => okl r (List.mem_of_mem_drop hr)) okr A1 A2 n1 c1 n2 c2 W h1 h2 hn1 hn2)
      rw [Sp.addR_id _ hUd, hnowL] at HAD
      have HDL : Hid ((L.drop i0).length = m1 - i0) := Lib.hid (by rw [List.length_drop, HM1.out])
      rw [HDL.out] at HKP
      have hi0m : i0 ≤ m1 := by rw [HM1.out] at hi0; exact hi0
      obtain ⟨lk, hlk⟩ : ∃ lk, lk = m1 - i0 := ⟨_, rfl⟩
      rw [← hlk] at HKP HAD hnowL
      have HLK := Lib.hid hlk
      have hlk1 : i0 + lk ≤ m1 := by omega
      have hlk2 : m1 ≤ i0 + lk := by omega
      rw [← hlk] at HDL
      clear hlk
      have hS0 := Sp.seen_first L R hU hMA each.toNat (by omega) i0 hi0
      rw [HM1.out] at hS0 hi0
      obtain ⟨ml, hml⟩ : ∃ ml, ml = min each.toNat m1 := ⟨_, rfl⟩
      have HTL : Hid ((L.take each.toNat).length = ml ∧ L.take each.toNat = L.take ml) := Lib.hid ⟨by rw [List.length_take, HM1.out, hml], by
        rcases Nat.le_total each.toNat m1 with h | h
        · rw [hml, Nat.min_eq_left h]
        · rw [hml, Nat.min_eq_right h, List.take_of_length_le (by rw [HM1.out]; exact h), List.take_of_length_le (by rw [HM1.out]; exact Nat.le_refl _)]⟩
      rw [HTL.out.1, HTL.out.2] at HFA
      rw [HTL.out.2, ← hml] at hS0
      have hmlm : ml ≤ m1 := by omega
      have HWANT := Lib.hid (Sp.want_all L R ml i0 (by rw [HM1.out]; exact hi0) (by rw [HM1.out]; exact hmlm))
      rw [HM1.out] at HWANT
      have HWY := Lib.hid (Sp.want_yes L ml i0)
      have HWN := Lib.hid (Sp.want_no L ml i0)
      have HW0 := Lib.hid (Sp.want_none L ml i0)
      have HFN := Lib.hid (fun c j hS A n cap W h hn E => from_on (L.drop i0 ++ R) fd c j hS hmay each A n cap W h hn E)
      have HNX := Lib.hid (fun c j hS => Sp.seen_next (now := L.drop i0 ++ R) (c := c) (j := j) hS hmay each.toNat (by omega))
      have HGS := Lib.hid (fun j hj => Sp.got_step (L.drop i0 ++ R) (ml - i0) j each.toNat hj)
      rw [hnowL] at HNX HGS
      have HNL := Lib.hid hnowL
      have HS0 := Lib.hid hS0
      clear hnowL hS0 hmay hMd hUd hU hMA hK hc5 hc2 hc3 fd HTL
      generalize hnow : L.drop i0 ++ R = NOW at *
      generalize Sp.nextS ⟨#[]⟩ (L.take ml) = cc0 at *
      have HNOW := Lib.hid hnow
      clear hnow hml fl fr okl okr
      go_wp2_with fail
      refine (HFA.out _ _ _ _ (HWL.out _ HB4.out) (by omega) (HEN.out _ (HGO.out _ HB4.out))).mono ?_
      rintro e w5 ⟨Aa, ca, rfl, hra, hb5⟩
      have HB5 : Hid (Below wk.heap.size wk w5) := Lib.hid (HB4.out.trans (hb5.mono HB4.out.size))
      have HRa := Lib.hid hra
      clear hra hb5 HFA
      go_wp2_with fail
      refine (HKP.out _ _ _ _ (HWL.out _ HB5.out) (by omega) hlc (HEN.out _ (HGO.out _ HB5.out))).mono ?_
      rintro e w6 ⟨Ak, ck, rfl, hrk, hb6⟩
      have HB6 : Hid (Below wk.heap.size wk w6) := Lib.hid (HB5.out.trans (hb6.mono HB5.out.size))
      have HRa2 := Lib.hid (Rd.next HRa.out hb6)
      have HRk := Lib.hid hrk
      clear hrk hb6 HKP HRa HB5
      go_wp2_with fail
      refine (HAD.out _ _ _ _ _ _ _ HRk.out (HWR.out _ HB6.out) (by omega) (by omega)).mono ?_
      rintro e w7 ⟨An, cn, rfl, hrn, -, hb7⟩
      have HB7 : Hid (Below wk.heap.size wk w7) := Lib.hid (HB6.out.trans (hb7.mono HB6.out.size))
      have HRa3 := Lib.hid (Rd.next HRa2.out hb7)
      have HRn := Lib.hid hrn
      clear hrn hb7 HAD HRa2 HRk HB6
      obtain ⟨i1, hi, hz, hs, hby⟩ := rowInfo
      have HI := Lib.hid hi
      have HIZ := Lib.hid hz
      have HIS := Lib.hid hs
      have HIB := Lib.hid hby
      clear hi hz hs hby
      go_wp2_with (at_builtin; refine wpList_append_rdW rfl _ _ _ 22 rfl w7.heap.size 37 i1 (.agg zeroRow) 5 56 Tryz.underlying22 HI.out HIZ.out HIS.out HIB.out rfl (by decide) (.slice none 0 0) 0 [] rfl ⟨rfl, .inl ⟨rfl, rfl⟩⟩ Aa ml ca w7.heap.size (rowsC (L.take ml)) rfl HRa3.out (rowsC_one _) (by simp only [maxLen]; omega) (by omega) (Nat.le_refl _) ?_)
      intro v8 w8 hown8 hgr8
      have HO8 : Hid (w8.ownsRow w7.heap.size 37 5 v8 ml (rowsC (L.take ml))) := Lib.hid (by simpa only [Nat.zero_add, List.nil_append] using hown8)
      have hf8 : Below w7.heap.size w7 w8 := (Below.refl _ _).grown hgr8 (Nat.le_refl _) (by intro k hk; cases hk)
      have HF8 := Lib.hid hf8
      have HWN7 : Hid (∀ W, Below w7.heap.size w7 W → Rd W W.heap.size 5 An (lk + m2) (rowsC NOW)) := Lib.hid fun W hW => Rd.next HRn.out hW
      have HGO7 : Hid (∀ W, Below w7.heap.size w7 W → Below wk.heap.size wk W) := Lib.hid fun W hW => HB7.out.trans (hW.mono HB7.out.size)
      clear hown8 hgr8 hf8 HRa3 HRn HB7 HB4
      obtain ⟨A8, c8, rfl⟩ := own_slice HO8.out
      obtain ⟨j0, hj0⟩ : ∃ j0, j0 = ml - i0 := ⟨_, rfl⟩
      rw [← hj0] at HS0 HGS HWANT
      have HJ0 := Lib.hid hj0
      have hj0l : j0 ≤ ml := by omega
      have hj0m : j0 ≤ lk + m2 := by omega
      clear hj0
      have HT0 : Hid (L.take ml ++ (NOW.drop j0).take (j0 - j0) = L.take ml) := Lib.hid (by rw [Nat.sub_self, List.take_zero, List.append_nil])
      go_wp2_with fail
      go_loopw [10, 14, 15] (fun cv gv kv wr => ∃ (k j n : Nat) (cc : ByteArray), k + j0 ≤ j ∧ kv = .int .i64 k ∧ cv = .string cc ∧ wr.ownsRow w7.heap.size 37 5 gv n (rowsC (L.take ml ++ (NOW.drop j0).take (j - j0))) ∧ Below w7.heap.size w7 wr ∧ Hid (n = ml + (j - j0)) ∧ j ≤ lk + m2 ∧ Hid (Sp.Seen NOW cc j)) (fun _ _ kv _ => 1000 - (intOf kv).toNat)
      case atStart => exact ⟨0, j0, ml, cc0, by omega, rfl, rfl, by rw [HT0.out]; exact HO8.out, HF8.out, Lib.hid (by omega), by omega, HS0⟩
      case round =>
        obtain ⟨k, j, n, cc, hk, rfl, rfl, hown, hb, HNN, hj, HSJ⟩ := hrel
        have hnb : n ≤ 300 := by have := HNN.out; omega
        obtain ⟨Ag, cg, rfl⟩ := own_slice hown
        have HO := Lib.hid hown
        have HB := Lib.hid hb
        clear hown hb HO8 HF8 HS0 HT0
        generalize wr = wo at *
        have x1 : (k : Int) ≤ (m1 : Int) + (m2 : Int) := by omega
        have HF := Lib.hid (HFN.out cc j HSJ.out An (lk + m2) cn wo (HWN7.out _ HB.out) (by omega) (HEN.out _ (HGO.out _ (HGO7.out _ HB.out))))
        have HN := Lib.hid (HNX.out cc j HSJ.out)
        have HG := Lib.hid (HGS.out j (by omega) hj)
        obtain ⟨q, hq⟩ : ∃ q, q = min each.toNat (lk + m2 - j) := ⟨_, rfl⟩
        have hQ : ((NOW.drop j).take each.toNat).length = q := by rw [List.length_take, List.length_drop, HNL.out, hq]
        rw [hQ] at HF
        have HQ := Lib.hid hq
        have hqb : q ≤ 100 := by omega
        have hqe : (q : Int) ≤ each := by omega
        have hqz : q = 0 → j = lk + m2 := by omega
        have hqn : min (j + each.toNat) (lk + m2) = j + q := by omega
        have hqj : j + q ≤ lk + m2 := by omega
        rw [hqn] at HN HG
        have HQZ := Lib.hid hqz
        clear hq hqn hqz
        have HBQ : Hid ((rowsC ((NOW.drop j).take each.toNat)).length = q * 5) := Lib.hid (by rw [rowsC_len, hQ])
        generalize Sp.nextS cc ((NOW.drop j).take each.toNat) = cd at *
        clear hQ
        generalize (NOW.drop j).take each.toNat = BL at *
        go_wp2_with fail
        refine HF.out.mono ?_
        rintro e w9 ⟨Ab, cb, rfl, hrb, hb9⟩
        have HB9 : Hid (Below w7.heap.size w7 w9) := Lib.hid (HB.out.trans (hb9.mono HB.out.size))
        have HO9 := Lib.hid (own_below HO.out hb9)
        have HRb := Lib.hid hrb
        clear hrb hb9 HF HO HB
        have x2 : ¬ (q : Int) > each := by omega
        have HQE := Lib.hid hqe
        clear hqe
        rcases Nat.eq_zero_or_pos q with h0 | h0
        · have x3 : ((q : Int) == 0) = true := by simp; omega
          have hjm : j = lk + m2 := HQZ.out h0
          have HFIN : Hid (L.take ml ++ (NOW.drop j0).take (j - j0) = Sp.wantL L ml i0 m1 ++ R) := Lib.hid (by
            rw [HWANT.out, List.take_of_length_le (l := NOW.drop j0) (i := j - j0) (by rw [List.length_drop, HNL.out]; omega)])
          rw [HFIN.out] at HO9
          have HRG := Lib.hid (Rd.own HO9.out).1
          clear HFIN HWANT HG HN HNX HGS HFN HBQ HRb HO9
          have HJM := Lib.hid hjm
          clear hjm
          subst h0
          go_wp2_with fail
          obtain ⟨wp, hwp⟩ : ∃ wp : World, wp = w9 := ⟨_, rfl⟩
          have HROW := Lib.hid (fun k hk => Rd.rowAt (HWL.out _ (HGO7.out _ HB9.out)) k hk)
          go_loopw [19, 122] (fun wv iv wr => ∃ (k n : Nat), k ≤ m1 ∧ iv = .int .i64 k ∧ wr.ownsRow w9.heap.size 37 5 wv n (rowsC (Sp.wantL L ml i0 k)) ∧ Below w9.heap.size w9 wr ∧ n ≤ k) (fun _ iv _ => m1 - (intOf iv).toNat)
          case atStart => exact ⟨0, 0, Nat.zero_le _, rfl, by rw [HW0.out]; exact ⟨rfl, .inl ⟨rfl, rfl⟩⟩, Below.refl _ _, Nat.le_refl _⟩
          case round =>
            obtain ⟨k, n2, hk, rfl, hown, hb, hn2⟩ := hrel
            obtain ⟨Aw, cw, rfl⟩ := own_slice hown
            have HO := Lib.hid hown
            have HB := Lib.hid hb
            clear hown hb
            generalize wr = wi at *
            by_cases hlt : k < m1
            · have hkl : k < L.length := by rw [HM1.out]; exact hlt
              obtain ⟨ad, rfl, hc⟩ := HROW.out k hkl
              obtain ⟨c0, c1, c2, c3, c4⟩ := hc wi HB.out
              have HY := Lib.hid (HWY.out k hkl)
              have HNO := Lib.hid (HWN.out k)
              clear hc
              generalize L[k] = r at *
              have HROWC : Hid (rowsC (Sp.wantL L ml i0 k) ++ rowC r = rowsC (Sp.wantL L ml i0 k ++ [r])) := Lib.hid (by simp [rowsC])
              obtain ⟨rt, ru, rn, rk, rx⟩ := r
              have HRC : Hid ((#[.int .i64 rt, .string ru, .int .i64 rn, .int .i64 rk, .string rx] : Array Value).toList = rowC ⟨rt, ru, rn, rk, rx⟩) := Lib.hid rfl
              dsimp only at c0 c1 c2 c3 c4
              have x1 : (0 : Int) ≤ (k : Int) := by omega
              have x2 : (k : Int) < (m1 : Int) := by omega
              have hwi : w9.heap.size ≤ wi.heap.size := HB.out.size
              have HRA := Lib.hid (RBox.new wi rt rn rk ru rx)
              have HBA : Hid (Below w9.heap.size w9 (wi.alloc (.cells #[.int .i64 rt, .string ru, .int .i64 rn, .int .i64 rk, .string rx] 37))) := Lib.hid (HB.out.alloc hwi _)
              have HOA := Lib.hid (own_below HO.out ((Below.refl _ _).alloc (Nat.le_refl _) (.cells #[.int .i64 rt, .string ru, .int .i64 rn, .int .i64 rk, .string rx] 37)))
              have HOB : Hid (∀ q, (Value.slice Aw n2 cw).ownBlock = some q → q < wi.heap.size) := Lib.hid (own_lt HO.out)
              have hza : wi.heap.size < (wi.alloc (.cells #[.int .i64 rt, .string ru, .int .i64 rn, .int .i64 rk, .string rx] 37)).heap.size := by simp
              clear HO HB
              go_upto_region 24 with fail
              clear c0 c1 c2 c3 c4
              generalize (wi.alloc (.cells #[.int .i64 rt, .string ru, .int .i64 rn, .int .i64 rk, .string rx] 37)) = w11 at *
              generalize wi.heap.size = br at *
              obtain ⟨r0, r1, r2, r3, r4, -, -, -, -, -⟩ := HRA.out
              dsimp only at r0 r1 r2 r3 r4
              have ww1 : IntKind.i64.wrap ((m1 : Int) - (lk : Int)) = (i0 : Int) := by rw [show (m1 : Int) - (lk : Int) = (i0 : Int) from by omega, IntKind.wrap_i64]; omega
              have HAPP := Lib.hid (fun (h : k < ml ∨ i0 ≤ k) => HY.out h)
              by_cases hin : k < ml ∨ i0 ≤ k
              · have HE := Lib.hid (HAPP.out hin)
                have HRB := Lib.hid (Rd.fresh w11 #[.int .i64 rt, .string ru, .int .i64 rn, .int .i64 rk, .string rx] 37 1 5 rfl)
                by_cases hkm : k < ml
                · have z1 : (k : Int) < (ml : Int) := by omega
                  go_wp2_with (at_builtin; refine wpList_append_rd _ rfl _ _ 22 rfl w9.heap.size 37 i1 (.agg zeroRow) 5 56 Tryz.underlying22 HI.out HIZ.out HIS.out HIB.out rfl (by decide) _ n2 _ rfl (World.ownsRow.alloc HOA.out _) (some ⟨w11.heap.size, 0, none⟩) 1 1 (w11.heap.size + 1) _ rfl HRB.out (by intro u hu; rw [HRC.out] at hu; exact rowsC_one [⟨rt, ru, rn, rk, rx⟩] u (by simpa [rowsC] using hu)) (by simp only [maxLen]; omega) (by omega) (by have := HBA.out.size; simp; omega) ?_)
                  intro v14 w14 hown14 hgr14
                  have HB14 : Hid (Below w9.heap.size w9 w14) := Lib.hid ((HBA.out.alloc HBA.out.size _).grown hgr14 (by have := HBA.out.size; simp; omega) (own_base HOA.out))
                  rw [HRC.out, HROWC.out, ← HE.out] at hown14
                  have HO14 := Lib.hid hown14
                  clear hown14 hgr14 HOA HBA HRA HRB r0 r1 r2 r3 r4
                  go_wp2
                  go_roundw
                  case rel => exact ⟨k + 1, n2 + 1, by omega, by go_num, HO14.out, HB14.out, by omega⟩
                  case measure => first | (simp [intOf]; done) | (simp [intOf]; omega)
                · have z1 : ¬ (k : Int) < (ml : Int) := by omega
                  have z2 : (k : Int) ≥ (i0 : Int) := by omega
                  go_wp2_with (at_builtin; refine wpList_append_rd _ rfl _ _ 22 rfl w9.heap.size 37 i1 (.agg zeroRow) 5 56 Tryz.underlying22 HI.out HIZ.out HIS.out HIB.out rfl (by decide) _ n2 _ rfl (World.ownsRow.alloc HOA.out _) (some ⟨w11.heap.size, 0, none⟩) 1 1 (w11.heap.size + 1) _ rfl HRB.out (by intro u hu; rw [HRC.out] at hu; exact rowsC_one [⟨rt, ru, rn, rk, rx⟩] u (by simpa [rowsC] using hu)) (by simp only [maxLen]; omega) (by omega) (by have := HBA.out.size; simp; omega) ?_)
                  intro v14 w14 hown14 hgr14
                  have HB14 : Hid (Below w9.heap.size w9 w14) := Lib.hid ((HBA.out.alloc HBA.out.size _).grown hgr14 (by have := HBA.out.size; simp; omega) (own_base HOA.out))
                  rw [HRC.out, HROWC.out, ← HE.out] at hown14
                  have HO14 := Lib.hid hown14
                  clear hown14 hgr14 HOA HBA HRA HRB r0 r1 r2 r3 r4
                  go_wp2
                  go_roundw
                  case rel => exact ⟨k + 1, n2 + 1, by omega, by go_num, HO14.out, HB14.out, by omega⟩
                  case measure => first | (simp [intOf]; done) | (simp [intOf]; omega)
              · have HE := Lib.hid (HNO.out (by omega) (by omega))
                have z1 : ¬ (k : Int) < (ml : Int) := by omega
                have z2 : ¬ (k : Int) ≥ (i0 : Int) := by omega
                go_wp2
                go_roundw
                case rel => exact ⟨k + 1, n2, by omega, by go_num, by rw [HE.out]; exact HOA.out, HBA.out, by omega⟩
                case measure => first | (simp [intOf]; done) | (simp [intOf]; omega)
            · obtain rfl : k = m1 := by omega
              have x2 : ¬ (k : Int) < (k : Int) := by omega
              have hsz2 := HB.out.size
              have HWRf := Lib.hid (HWR.out _ (HGO7.out _ (HB9.out.trans (HB.out.mono HB9.out.size))))
              have HRG2 := Lib.hid (Rd.next HRG.out HB.out)
              go_wp2_with (at_builtin; refine wpList_append_rd _ rfl _ _ 22 rfl w9.heap.size 37 i1 (.agg zeroRow) 5 56 Tryz.underlying22 HI.out HIZ.out HIS.out HIB.out rfl (by decide) _ n2 _ rfl HO.out Ar m2 cr wi.heap.size (rowsC R) rfl HWRf.out (rowsC_one _) (by simp only [maxLen]; omega) (by omega) hsz2 ?_)
              intro v12 w12 hown12 hgr12
              have HG12 : Hid (Below w9.heap.size w9 w12) := Lib.hid (HB.out.grown hgr12 hsz2 (own_base HO.out))
              obtain ⟨Ae, ce, rfl⟩ := own_slice hown12
              rw [rows_app] at hown12
              have HRE := Lib.hid (Rd.own hown12).1
              have HRG3 := Lib.hid (Rd.next HRG.out HG12.out)
              have HLW : Hid ((Sp.wantL L ml i0 k ++ R).length = n + 0 ∧ n2 + m2 = n) := Lib.hid (by
                have h1 := HRG.out.1
                have h2 := HRE.out.1
                rw [rowsC_len] at h1 h2
                omega)
              have hnn : n2 + m2 = n := HLW.out.2
              rw [hnn] at HRE
              have HSM := Lib.hid (same_any (Sp.wantL L ml i0 k ++ R) Ag Ae n cg ce w12.heap.size w12.heap.size w12 HRG3.out HRE.out (Nat.le_refl _) (Nat.le_refl _) (by omega))
              have HFB : Hid (Below w.heap.size w w12) := Lib.hid (HGO.out _ (HGO7.out _ (HB9.out.trans (HG12.out.mono HB9.out.size))))
              clear hown12 hgr12
              rw [hnn]
              go_wp2_with fail
              refine HSM.out.mono ?_
              rintro e w13 ⟨rfl, hb13⟩
              have HZ : Hid (Below w.heap.size w w13) := Lib.hid (HFB.out.trans (hb13.mono HFB.out.size))
              go_wp2
              go_ret
              exact ⟨rfl, HZ.out⟩
        · have x3 : ((q : Int) == 0) = false := by simp; omega
          have hsz := HB9.out.size
          go_wp2_with (at_builtin; refine wpList_append_rd _ rfl _ _ 22 rfl w7.heap.size 37 i1 (.agg zeroRow) 5 56 Tryz.underlying22 HI.out HIZ.out HIS.out HIB.out rfl (by decide) _ n _ rfl HO9.out Ab q cb w9.heap.size (rowsC BL) rfl HRb.out (rowsC_one _) (by simp only [maxLen]; omega) (by omega) hsz ?_)
          intro v10 w10 hown10 hgr10
          have HB10 : Hid (Below w7.heap.size w7 w10) := Lib.hid (HB9.out.grown hgr10 hsz (own_base HO9.out))
          rw [rows_app, List.append_assoc, HG.out] at hown10
          have HO10 := Lib.hid hown10
          clear hown10 hgr10 HO9 HRb HG HB9
          go_wp2
          go_roundw
          case rel => exact ⟨k + 1, j + q, n + q, cd, by omega, by go_num, rfl, HO10.out, HB10.out, Lib.hid (by have := HNN.out; omega), hqj, HN⟩
          case measure => first | (simp [intOf]; done) | (simp [intOf]; omega)
end

end Go.Proofs.YtkgogenmhiclcaaGreatDoor
