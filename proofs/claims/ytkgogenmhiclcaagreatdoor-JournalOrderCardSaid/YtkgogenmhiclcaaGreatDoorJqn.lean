/-
  The order of rows: plain laws, and the law JournalOrder walked (XJn and XJq in one text).
-/
import Derived.Test.YtkgogenmhiclcaaGreatDoorJe
import Derived.Test.YtkgogenmhiclcaaGreatDoorJk
import Derived.Test.YtkgogenmhiclcaaGreatDoorJo
namespace Go.Proofs.YtkgogenmhiclcaaGreatDoor
section
namespace Sp
def Up (D : List RowD) : Prop := D.Pairwise fun a b => lessB a b = true
def Apart (L : List RowD) : Prop := L.Pairwise fun a b => likeB a b = false
theorem like_comm (a b : RowD) : likeB a b = likeB b a := by unfold likeB; exact Bool.and_comm _ _
theorem addR_snoc (L : List RowD) (c : RowD) : addR (L ++ [c]) = putR c (addR L) := by simp [addR, List.foldl_append]
theorem addR_app (L X : List RowD) : addR (L ++ X) = X.foldl (fun D c => putR c D) (addR L) := by simp [addR, List.foldl_append]
theorem insR_mem (c z : RowD) : ∀ D : List RowD, z ∈ insR c D ↔ z = c ∨ z ∈ D
  | [] => by simp [insR]
  | x :: r => by
    rw [insR]
    split
    · simp
    · rw [List.mem_cons, insR_mem c z r, List.mem_cons]
      constructor
      · rintro (h | h | h)
        · exact .inr (.inl h)
        · exact .inl h
        · exact .inr (.inr h)
      · rintro (h | h | h)
        · exact .inr (.inl h)
        · exact .inl h
        · exact .inr (.inr h)
theorem insR_perm (c : RowD) : ∀ D : List RowD, (insR c D).Perm (c :: D)
  | [] => List.Perm.refl _
  | x :: r => by
    rw [insR]
    split
    · exact List.Perm.refl _
    · exact ((insR_perm c r).cons x).trans (List.Perm.swap c x r)
theorem insR_up (c : RowD) : ∀ D : List RowD, Up D → (∀ d ∈ D, likeB d c = false) → Up (insR c D)
  | [], _, _ => by simp [insR, Up]
  | x :: r, h, hl => by
    obtain ⟨h1, h2⟩ := List.pairwise_cons.1 h
    rw [insR]
    split
    · rename_i hc
      refine List.pairwise_cons.2 ⟨fun z hz => ?_, h⟩
      rcases List.mem_cons.1 hz with e | hz
      · rw [e]; exact hc
      · exact less_trans c x z hc (h1 z hz)
    · rename_i hc
      have hx := hl x (by simp)
      have hxc : lessB x c = true := by
        unfold likeB at hx
        cases e : lessB x c
        · cases e2 : lessB c x
          · rw [e, e2] at hx; cases hx
          · exact absurd e2 hc
        · rfl
      refine List.pairwise_cons.2 ⟨fun z hz => ?_, insR_up c r h2 fun d hd => hl d (by simp [hd])⟩
      rcases (insR_mem c z r).1 hz with e | hz
      · rw [e]; exact hxc
      · exact h1 z hz
theorem putR_up (c : RowD) (D : List RowD) (h : Up D) : Up (putR c D) := by
  unfold putR
  split
  · exact h
  · rename_i hn
    refine insR_up c D h fun d hd => ?_
    cases e : likeB d c
    · rfl
    · exact absurd (List.any_eq_true.2 ⟨d, hd, e⟩) hn
theorem fold_up : ∀ (X D : List RowD), Up D → Up (X.foldl (fun D c => putR c D) D)
  | [], _, h => h
  | c :: r, D, h => fold_up r _ (putR_up c D h)
theorem addR_up (L : List RowD) : Up (addR L) := fold_up L [] List.Pairwise.nil
theorem putR_keep (c z : RowD) (D : List RowD) (h : z ∈ D) : z ∈ putR c D := by
  unfold putR
  split
  · exact h
  · exact (insR_mem c z D).2 (.inr h)
theorem fold_keep (z : RowD) : ∀ (X D : List RowD), z ∈ D → z ∈ X.foldl (fun D c => putR c D) D
  | [], _, h => h
  | c :: r, D, h => fold_keep z r _ (putR_keep c z D h)
theorem like_self (c : RowD) : likeB c c = true := by
  unfold likeB
  cases h : lessB c c
  · rfl
  · have := less_asym c c h; rw [h] at this; cases this
theorem put_has (c : RowD) (D : List RowD) : ∃ d ∈ putR c D, likeB d c = true := by
  unfold putR
  split
  · rename_i h
    obtain ⟨d, hd, e⟩ := List.any_eq_true.1 h
    exact ⟨d, hd, e⟩
  · exact ⟨c, (insR_mem c c D).2 (.inl rfl), like_self c⟩
theorem fold_has (x : RowD) : ∀ (X D : List RowD), x ∈ X → ∃ d ∈ X.foldl (fun D c => putR c D) D, likeB d x = true
  | c :: r, D, h => by
    rcases List.mem_cons.1 h with e | h
    · subst e
      obtain ⟨d, hd, e⟩ := put_has x D
      exact ⟨d, fold_keep d r _ hd, e⟩
    · exact fold_has x r _ h
theorem put_skip (c : RowD) (D : List RowD) (h : ∃ d ∈ D, likeB d c = true) : putR c D = D := by
  obtain ⟨d, hd, e⟩ := h
  unfold putR
  rw [if_pos (List.any_eq_true.2 ⟨d, hd, e⟩)]
theorem fold_skip : ∀ (X D : List RowD), (∀ x ∈ X, ∃ d ∈ D, likeB d x = true) → X.foldl (fun D c => putR c D) D = D
  | [], _, _ => rfl
  | c :: r, D, h => by
    rw [List.foldl_cons, put_skip c D (h c (by simp))]
    exact fold_skip r D fun x hx => h x (by simp [hx])
/-- a log that is one stays as it is -/
theorem insR_end (c : RowD) : ∀ D : List RowD, (∀ d ∈ D, lessB d c = true) → insR c D = D ++ [c]
  | [], _ => rfl
  | x :: r, h => by
    have hx := less_asym x c (h x (by simp))
    rw [insR, if_neg (by rw [hx]; simp), insR_end c r fun d hd => h d (by simp [hd])]
    rfl
theorem fold_up_app : ∀ (X D : List RowD), Up (D ++ X) → X.foldl (fun D c => putR c D) D = D ++ X
  | [], D, _ => by simp
  | c :: r, D, h => by
    have h1 : ∀ d ∈ D, lessB d c = true := fun d hd => (List.pairwise_append.1 h).2.2 d hd c (by simp)
    have h2 : putR c D = D ++ [c] := by
      unfold putR
      rw [if_neg, insR_end c D h1]
      intro hh
      obtain ⟨d, hd, e⟩ := List.any_eq_true.1 hh
      unfold likeB at e
      rw [h1 d hd] at e
      cases e
    rw [List.foldl_cons, h2, fold_up_app r (D ++ [c]) (by simpa using h)]
    simp
theorem addR_id (D : List RowD) (h : Up D) : addR D = D := by
  have := fold_up_app D [] (by simpa using h)
  simpa [addR] using this
theorem addR_on (D X : List RowD) (h : Up D) : addR (D ++ X) = X.foldl (fun D c => putR c D) D := by rw [addR_app, addR_id D h]
/-- what is there comes no second time -/
theorem add_again (l a b : List RowD) : addR (addR (addR (l ++ a) ++ b) ++ a) = addR (addR (l ++ a) ++ b) ∧ addR (addR (addR (l ++ a) ++ b) ++ l) = addR (addR (l ++ a) ++ b) := by
  have key : ∀ x, x ∈ l ++ a → ∃ d ∈ addR (addR (l ++ a) ++ b), likeB d x = true := by
    intro x hx
    obtain ⟨d, hd, e⟩ := fold_has x (l ++ a) [] hx
    refine ⟨d, ?_, e⟩
    rw [addR_on _ _ (addR_up _)]
    exact fold_keep d b _ hd
  constructor
  · rw [addR_on _ _ (addR_up _)]
    exact fold_skip a _ fun x hx => key x (by simp [hx])
  · rw [addR_on _ _ (addR_up _)]
    exact fold_skip l _ fun x hx => key x (by simp [hx])
theorem putR_len (c : RowD) (D : List RowD) : (putR c D).length ≤ D.length + 1 := by
  unfold putR
  split
  · omega
  · rw [(insR_perm c D).length_eq]; exact Nat.le_refl _
theorem fold_len : ∀ (X D : List RowD), (X.foldl (fun D c => putR c D) D).length ≤ D.length + X.length
  | [], D => Nat.le_refl _
  | c :: r, D => by
    have h1 := fold_len r (putR c D)
    have h2 := putR_len c D
    rw [List.foldl_cons, List.length_cons]; omega
/-- with as many rows as came none is like another one, and they are those -/
theorem fold_full : ∀ (X D : List RowD), Apart D → (X.foldl (fun D c => putR c D) D).length = D.length + X.length → (X.foldl (fun D c => putR c D) D).Perm (D ++ X) ∧ Apart (D ++ X)
  | [], D, h, _ => by simpa using h
  | c :: r, D, h, hl => by
    have h1 := fold_len r (putR c D)
    have h2 := putR_len c D
    rw [List.foldl_cons, List.length_cons] at hl
    have hp : (putR c D).length = D.length + 1 := by omega
    have hn : ¬ D.any (fun d => likeB d c) = true := by
      intro hh
      have : (putR c D).length = D.length := by unfold putR; rw [if_pos hh]
      omega
    have e : putR c D = insR c D := by unfold putR; rw [if_neg hn]
    have hpm : (putR c D).Perm (c :: D) := by rw [e]; exact insR_perm c D
    have hap : Apart (c :: D) := List.pairwise_cons.2 ⟨fun d hd => by
      rw [like_comm]
      cases e2 : likeB d c
      · rfl
      · exact absurd (List.any_eq_true.2 ⟨d, hd, e2⟩) hn, h⟩
    have hap2 : Apart (putR c D) := (hpm.pairwise_iff (fun {a b} hab => by rw [like_comm]; exact hab)).2 hap
    obtain ⟨g1, g2⟩ := fold_full r (putR c D) hap2 (by omega)
    have hm : (putR c D ++ r).Perm (D ++ c :: r) := (hpm.append_right r).trans List.perm_middle.symm
    exact ⟨by rw [List.foldl_cons]; exact g1.trans hm, (hm.pairwise_iff (fun {a b} hab => by rw [like_comm]; exact hab)).1 g2⟩
theorem fold_apart : ∀ (X D : List RowD), Apart (D ++ X) → (X.foldl (fun D c => putR c D) D).Perm (D ++ X)
  | [], D, _ => by simp
  | c :: r, D, h => by
    have hn : ¬ D.any (fun d => likeB d c) = true := by
      intro hh
      obtain ⟨d, hd, e⟩ := List.any_eq_true.1 hh
      have := (List.pairwise_append.1 h).2.2 d hd c (by simp)
      rw [e] at this; cases this
    have e : putR c D = insR c D := by unfold putR; rw [if_neg hn]
    have hpm : (putR c D).Perm (c :: D) := by rw [e]; exact insR_perm c D
    have hm : (putR c D ++ r).Perm (D ++ c :: r) := (hpm.append_right r).trans List.perm_middle.symm
    rw [List.foldl_cons]
    exact (fold_apart r _ ((hm.pairwise_iff (fun {a b} hab => by rw [like_comm]; exact hab)).2 h)).trans hm
theorem up_apart (D : List RowD) (h : Up D) : Apart D := h.imp fun {a b} hab => by unfold likeB; rw [hab]; rfl
theorem up_eq : ∀ (X Y : List RowD), Up X → Up Y → X.Perm Y → X = Y
  | [], Y, _, _, h => (List.nil_perm.1 h).symm
  | x :: X, [], _, _, h => by have := h.length_eq; simp at this
  | x :: X, y :: Y, hX, hY, h => by
    obtain ⟨h1, h2⟩ := List.pairwise_cons.1 hX
    obtain ⟨h3, h4⟩ := List.pairwise_cons.1 hY
    have e : x = y := by
      have hx : x ∈ y :: Y := h.subset (by simp)
      have hy : y ∈ x :: X := h.symm.subset (by simp)
      rcases List.mem_cons.1 hx with e | hx
      · exact e
      · rcases List.mem_cons.1 hy with e | hy
        · exact e.symm
        · have a1 := h3 x hx
          have a2 := less_asym x y (h1 y hy)
          rw [a1] at a2; cases a2
    subst e
    rw [up_eq X Y h2 h4 (List.perm_cons x |>.1 h)]
/-- it plays no part in which order rows come -/
theorem add_order (l a b : List RowD) (h : (addR (addR (l ++ a) ++ b)).length = l.length + a.length + b.length) :
    addR (addR (l ++ a) ++ b) = addR (addR (l ++ b) ++ a) ∧ addR (addR (l ++ a) ++ b) = addR (b ++ (a ++ l)) := by
  have hD := fold_len (l ++ a) []
  have hE := fold_len b (addR (l ++ a))
  have e0 : addR (addR (l ++ a) ++ b) = b.foldl (fun D c => putR c D) (addR (l ++ a)) := addR_on _ _ (addR_up _)
  have hlen : (addR (l ++ a)).length = l.length + a.length := by
    rw [e0] at h
    have : (addR (l ++ a)).length ≤ 0 + (l ++ a).length := hD
    rw [List.length_append] at this
    omega
  obtain ⟨p1, q1⟩ := fold_full (l ++ a) [] List.Pairwise.nil (by
    have : ((l ++ a).foldl (fun D c => putR c D) []).length = l.length + a.length := hlen
    rw [this]; simp)
  obtain ⟨p2, q2⟩ := fold_full b (addR (l ++ a)) (up_apart _ (addR_up _)) (by rw [← e0, h, hlen])
  rw [List.nil_append] at p1 q1
  have hall : (addR (addR (l ++ a) ++ b)).Perm (l ++ a ++ b) := by
    rw [e0]
    exact p2.trans (List.Perm.append_right b p1)
  have hap : Apart (l ++ a ++ b) := (hall.pairwise_iff (fun {a b} hab => by rw [like_comm]; exact hab)).1 (up_apart _ (addR_up _))
  have sym : ∀ {X Y : List RowD}, X.Perm Y → Apart X → Apart Y := fun hp hx => (hp.pairwise_iff (fun {a b} hab => by rw [like_comm]; exact hab)).1 hx
  have c1 : (l ++ a ++ b).Perm (l ++ b ++ a) := by
    rw [List.append_assoc, List.append_assoc]
    exact (List.perm_append_comm (l₁ := a) (l₂ := b)).append_left l
  have c2 : (l ++ a ++ b).Perm (b ++ (a ++ l)) := (List.perm_append_comm (l₁ := l ++ a) (l₂ := b)).trans ((List.perm_append_comm (l₁ := l) (l₂ := a)).append_left b)
  constructor
  · refine up_eq _ _ (addR_up _) (addR_up _) (hall.trans (c1.trans ?_))
    have hap1 := sym c1 hap
    have r1 : (addR (l ++ b)).Perm (l ++ b) := by
      have := fold_apart (l ++ b) [] (by rw [List.nil_append]; exact (List.pairwise_append.1 hap1).1)
      rwa [List.nil_append] at this
    have r2 := fold_apart a (addR (l ++ b)) (sym (List.Perm.append_right a r1.symm) hap1)
    rw [addR_on _ _ (addR_up _)]
    exact (r2.trans (List.Perm.append_right a r1)).symm
  · refine up_eq _ _ (addR_up _) (addR_up _) (hall.trans (c2.trans ?_))
    have := fold_apart (b ++ (a ++ l)) [] (by rw [List.nil_append]; exact sym c2 hap)
    rw [List.nil_append] at this
    exact this.symm
end Sp
end

section
open Go.RowKit

theorem mem_fold (z : RowD) : ∀ (X D : List RowD), z ∈ X.foldl (fun D c => Sp.putR c D) D → z ∈ D ∨ z ∈ X
  | [], D, h => .inl h
  | c :: r, D, h => by
    rcases mem_fold z r (Sp.putR c D) h with h | h
    · unfold Sp.putR at h
      split at h
      · exact .inl h
      · rcases (Sp.insR_mem c z D).1 h with e | h
        · exact .inr (by rw [e]; exact List.mem_cons_self)
        · exact .inl h
    · exact .inr (List.mem_cons_of_mem _ h)
theorem ok_addR {L : List RowD} (h : ∀ r ∈ L, okRow r) : ∀ r ∈ Sp.addR L, okRow r := fun r hr => by
  rcases mem_fold r L [] hr with h1 | h1
  · cases h1
  · exact h r h1
theorem ok_app {X Y : List RowD} (h1 : ∀ r ∈ X, okRow r) (h2 : ∀ r ∈ Y, okRow r) : ∀ r ∈ X ++ Y, okRow r := fun r hr => (List.mem_append.1 hr).elim (h1 r) (h2 r)
theorem wpList_append_rdW {ops : Array Oper} {rest : List Oper} {o : Oper} {a : Act} {Q : Exit → Act → World → Prop} (hgd : Region.wanted o (yielded ops a.tmps) = true) (w : World) (s x : Operand) (t : TypeId)
    (ho : o.op = .call { callee := .builtin .append, args := #[s, x], argTypes := #[t, t] })
    (base : Nat) (e : TypeId) (i : TypeInfo) (z : Value) (size bytes : Nat) (ht : Tryz.prog.underlying t = some (.slice e)) (hi : Tryz.prog.info? e = some i) (hz : i.zero = some z)
    (hsize : i.size = size) (hby : i.bytes = bytes) (hzs : z.cells.size = size) (hsz : 0 < size)
    (v : Value) (n : Nat) (xs : List Value) (hs : a.eval s = v) (hown : w.ownsRow base e size v n xs)
    (A : Option Addr) (m c B : Nat) (news : List Value) (hx : a.eval x = .slice A m c) (hr : Rd w B size A m news) (h1 : ∀ u ∈ news, u.oneCell' = true)
    (h63 : n + m ≤ maxLen) (hbytes : (n + m) * bytes ≤ 140737488355328) (hbase : base ≤ w.heap.size)
    (h : ∀ v' w', w'.ownsRow base e size v' (n + m) (xs ++ news) → w.grownBy w' v.ownBlock → wpList Tryz.prog ops Q rest (a.put o.dst v') w') : wpList Tryz.prog ops Q (o :: rest) a w :=
  BigFrame.wpList_want hgd fun _ hK => wp_append_rd w s x t ho base e i z size bytes ht hi hz hsize hby hzs hsz v n xs hs hown A m c B news hx hr h1 h63 hbytes hbase fun v' w' h2 h3 => hK _ _ (h v' w' h2 h3)

theorem Rd.next {w w' : World} {n : Nat} {A : Option Addr} {xs : List Value} (h : Rd w w.heap.size 5 A n xs) (hb : Below w.heap.size w w') : Rd w' w'.heap.size 5 A n xs := (Rd.below h hb).more hb.size

set_option maxRecDepth 100000 in
set_option maxHeartbeats 16000000 in
theorem jorder_any (D1 D2 D3 : RowsD) (w : World) (h1 : RowsGood w D1) (h2 : RowsGood w D2) (h3 : RowsGood w D3) (E : Env w) :
    Calls Tryz.prog 6 #[rowsV D1, rowsV D2, rowsV D3] w fun e w' => e = .returned (.bool true) ∧ Below w.heap.size w w' := by
  obtain ⟨A1, n1, c1, l⟩ := D1
  obtain ⟨A2, n2, c2, a⟩ := D2
  obtain ⟨A3, n3, c3, b⟩ := D3
  have okl := h1.good.ok
  have oka := h2.good.ok
  have okb := h3.good.ok
  have k1 : n1 ≤ 140737488355328 := h1.bulk
  have k2 : n2 ≤ 140737488355328 := h2.bulk
  have k3 : n3 ≤ 140737488355328 := h3.bulk
  have HL : Hid (∀ W, Below w.heap.size w W → Rd W W.heap.size 5 A1 n1 (rowsC l)) := Lib.hid fun W hW => Rd.next h1.rd hW
  have HA : Hid (∀ W, Below w.heap.size w W → Rd W W.heap.size 5 A2 n2 (rowsC a)) := Lib.hid fun W hW => Rd.next h2.rd hW
  have HB : Hid (∀ W, Below w.heap.size w W → Rd W W.heap.size 5 A3 n3 (rowsC b)) := Lib.hid fun W hW => Rd.next h3.rd hW
  have g1 : l.length = n1 := by have := h1.rd.1; dsimp only at this; rw [rowsC_len] at this; omega
  have g2 : a.length = n2 := by have := h2.rd.1; dsimp only at this; rw [rowsC_len] at this; omega
  have g3 : b.length = n3 := by have := h3.rd.1; dsimp only at this; rw [rowsC_len] at this; omega
  have HG1 := Lib.hid g1
  have HG2 := Lib.hid g2
  have HG3 := Lib.hid g3
  clear h1 h2 h3 g1 g2 g3
  show Calls Tryz.prog 6 #[.slice A1 n1 c1, .slice A2 n2 c2, .slice A3 n3 c3] w _
  have w1 : IntKind.i64.wrap ((n1 : Int) + (n2 : Int)) = (n1 : Int) + (n2 : Int) := by rw [IntKind.wrap_i64]; omega
  have w2 : IntKind.i64.wrap ((n1 : Int) + (n2 : Int) + (n3 : Int)) = (n1 : Int) + (n2 : Int) + (n3 : Int) := by rw [IntKind.wrap_i64]; omega
  go_enter Tryz.func6, Tryz.ntmps6
  go_wp2_with fail
  refine (shown_any w E).mono ?_
  rintro e wa ⟨rfl, hba⟩
  have HBa := Lib.hid hba
  clear hba
  by_cases hn : n1 + n2 + n3 > 100
  · have x1 : (n1 : Int) + (n2 : Int) + (n3 : Int) > 100 := by omega
    go_wp2
    go_ret
    exact ⟨rfl, HBa.out⟩
  · have x1 : ¬ (n1 : Int) + (n2 : Int) + (n3 : Int) > 100 := by omega
    have ea := Sp.add_again l a b
    have eo := Sp.add_order l a b
    rw [HG1.out, HG2.out, HG3.out] at eo
    have okD := ok_addR (ok_app okl oka)
    have okD1 := ok_addR (ok_app okl okb)
    have okA := ok_addR (ok_app okD okb)
    have H1 := Lib.hid (fun W r1 r2 => add_any l a okl oka A1 A2 n1 c1 n2 c2 W r1 r2 (by omega) (by omega))
    have H2 := Lib.hid (fun Ax cx W r1 r2 hx => add_any (Sp.addR (l ++ a)) b okD okb Ax A3 (Sp.addR (l ++ a)).length cx n3 c3 W r1 r2 hx (by omega))
    have H3 := Lib.hid (fun Ax cx W r1 r2 hx => add_any (Sp.addR (Sp.addR (l ++ a) ++ b)) a okA oka Ax A2 (Sp.addR (Sp.addR (l ++ a) ++ b)).length cx n2 c2 W r1 r2 hx (by omega))
    have H4 := Lib.hid (fun Ax cx W r1 r2 hx => add_any (Sp.addR (Sp.addR (l ++ a) ++ b)) l okA okl Ax A1 (Sp.addR (Sp.addR (l ++ a) ++ b)).length cx n1 c1 W r1 r2 hx (by omega))
    have H5 := Lib.hid (fun W r1 r2 => add_any l b okl okb A1 A3 n1 c1 n3 c3 W r1 r2 (by omega) (by omega))
    have H6 := Lib.hid (fun Ax cx W r1 r2 hx => add_any (Sp.addR (l ++ b)) a okD1 oka Ax A2 (Sp.addR (l ++ b)).length cx n2 c2 W r1 r2 hx (by omega))
    have H7 := Lib.hid (fun Ax cx W r1 r2 => add_any b (a ++ l) okb (ok_app oka okl) A3 Ax n3 c3 (n2 + n1) cx W r1 r2 (by omega) (by omega))
    rw [ea.1] at H3
    rw [ea.2] at H4
    have HEO := Lib.hid eo
    clear ea eo okD okD1 okA
    generalize Sp.addR (l ++ a) = D at *
    generalize Sp.addR (l ++ b) = D1 at *
    generalize hAL : Sp.addR (D ++ b) = AL at *
    have HS := Lib.hid (fun Ax Ay cx cy W r1 r2 hx => same_any AL Ax Ay AL.length cx cy W.heap.size W.heap.size W r1 r2 (Nat.le_refl _) (Nat.le_refl _) hx)
    go_wp2_with fail
    refine (H1.out _ (HL.out _ HBa.out) (HA.out _ HBa.out)).mono ?_
    rintro e wb ⟨Ab, cb, rfl, hrb, hcb, hbb⟩
    have HBb : Hid (Below w.heap.size w wb) := Lib.hid (HBa.out.trans (hbb.mono HBa.out.size))
    have HRb := Lib.hid hrb
    have hlb := hcb.1
    clear hrb hcb hbb HBa H1
    go_wp2_with fail
    refine (H2.out _ _ _ HRb.out (HB.out _ HBb.out) (by omega)).mono ?_
    rintro e wc ⟨Ac, cc, rfl, hrc, hcc, hbc⟩
    have HBc : Hid (Below w.heap.size w wc) := Lib.hid (HBb.out.trans (hbc.mono HBb.out.size))
    have HRc := Lib.hid hrc
    have hlc := hcc.1
    clear hrc hcc hbc HBb HRb H2
    generalize hlen : AL.length = m at *
    by_cases hm : m = n1 + n2 + n3
    · have y1 : ((m : Int) != (n1 : Int) + (n2 : Int) + (n3 : Int)) = false := by simp; omega
      obtain ⟨e5, e6⟩ := HEO.out hm
      rw [← e5, hlen] at H6
      rw [← e6, hlen] at H7
      have HR0 := Lib.hid (fun (W : World) (A c : Nat) => trivial)
      clear HEO e5 e6 hlen hAL H3 H4 hm HR0
      go_wp2_with fail
      refine (H5.out _ (HL.out _ HBc.out) (HB.out _ HBc.out)).mono ?_
      rintro e wd ⟨Ad, cd, rfl, hrd, hcd, hbd⟩
      have HBd : Hid (Below w.heap.size w wd) := Lib.hid (HBc.out.trans (hbd.mono HBc.out.size))
      have HRd := Lib.hid hrd
      have HRc1 := Lib.hid (Rd.next HRc.out hbd)
      have hld := hcd.1
      clear hrd hcd hbd HBc HRc H5
      go_wp2_with fail
      refine (H6.out _ _ _ HRd.out (HA.out _ HBd.out) (by omega)).mono ?_
      rintro e we ⟨Ae, ce, rfl, hre, hce, hbe⟩
      have HBe : Hid (Below w.heap.size w we) := Lib.hid (HBd.out.trans (hbe.mono HBd.out.size))
      have HRe := Lib.hid hre
      have HRc2 := Lib.hid (Rd.next HRc1.out hbe)
      clear hre hce hbe HBd HRd HRc1 H6
      go_wp2_with fail
      refine (HS.out _ _ _ _ _ HRc2.out HRe.out (by omega)).mono ?_
      rintro e wf ⟨rfl, hbf⟩
      have HBf : Hid (Below w.heap.size w wf) := Lib.hid (HBe.out.trans (hbf.mono HBe.out.size))
      have HRc3 := Lib.hid (Rd.next HRc2.out hbf)
      clear hbf HBe HRe HRc2
      obtain ⟨i0, hi, hz, hs, hby⟩ := rowInfo
      have HI := Lib.hid hi
      have HIZ := Lib.hid hz
      have HIS := Lib.hid hs
      have HIB := Lib.hid hby
      clear hi hz hs hby
      have HAf := Lib.hid (HA.out _ HBf.out)
      go_wp2_with (at_builtin; refine wpList_append_rdW rfl _ _ _ 22 rfl wf.heap.size 37 i0 (.agg zeroRow) 5 56 Tryz.underlying22 HI.out HIZ.out HIS.out HIB.out rfl (by decide) (.slice none 0 0) 0 [] rfl ⟨rfl, .inl ⟨rfl, rfl⟩⟩ A2 n2 c2 wf.heap.size (rowsC a) rfl HAf.out (rowsC_one _) (by simp only [maxLen]; omega) (by omega) (Nat.le_refl _) ?_)
      intro v1 wg hown1 hgr1
      have HO1 := Lib.hid hown1
      have hfg : Below wf.heap.size wf wg := (Below.refl _ _).grown hgr1 (Nat.le_refl _) (by intro k hk; cases hk)
      have HBg : Hid (Below w.heap.size w wg) := Lib.hid (HBf.out.trans (hfg.mono HBf.out.size))
      have HFG := Lib.hid hfg
      have HLg := Lib.hid (HL.out _ HBg.out)
      have hsz := hfg.size
      clear hown1 hgr1 HAf hfg
      go_wp2_with (at_builtin; refine wpList_append_rdW rfl _ _ _ 22 rfl wf.heap.size 37 i0 (.agg zeroRow) 5 56 Tryz.underlying22 HI.out HIZ.out HIS.out HIB.out rfl (by decide) _ _ _ rfl HO1.out A1 n1 c1 wg.heap.size (rowsC l) rfl HLg.out (rowsC_one _) (by simp only [maxLen]; omega) (by omega) hsz ?_)
      intro v2 wh hown2 hgr2
      have hfh : Below wf.heap.size wf wh := HFG.out.grown hgr2 HFG.out.size (own_base HO1.out)
      have HBh : Hid (Below w.heap.size w wh) := Lib.hid (HBf.out.trans (hfh.mono HBf.out.size))
      have HRc4 := Lib.hid (Rd.next HRc3.out hfh)
      obtain ⟨Av, cv, rfl⟩ := own_slice hown2
      have hcells : rowsC a ++ rowsC l = rowsC (a ++ l) := by rw [rowsC, rowsC, rowsC, List.flatMap_append]
      have hrv := (Rd.own hown2).1
      simp only [hcells] at hrv
      have HRV : Hid (Rd wh wh.heap.size 5 Av (n2 + n1) (rowsC (a ++ l))) := Lib.hid hrv
      clear hown2 hgr2 hfh hrv hcells HO1 HBg HFG HLg HRc3 HBf hsz
      try simp only [Nat.zero_add]
      go_wp2_with fail
      refine (H7.out _ _ _ (HB.out _ HBh.out) HRV.out).mono ?_
      rintro e wi ⟨Ai, ci, rfl, hri, hci, hbi⟩
      have HBi : Hid (Below w.heap.size w wi) := Lib.hid (HBh.out.trans (hbi.mono HBh.out.size))
      have HRi := Lib.hid hri
      have HRc5 := Lib.hid (Rd.next HRc4.out hbi)
      clear hri hci hbi HBh HRV HRc4 H7
      go_wp2_with fail
      refine (HS.out _ _ _ _ _ HRc5.out HRi.out (by omega)).mono ?_
      rintro e wj ⟨rfl, hbj⟩
      have HBj : Hid (Below w.heap.size w wj) := Lib.hid (HBi.out.trans (hbj.mono HBi.out.size))
      clear hbj
      go_wp2
      go_ret
      exact ⟨rfl, HBj.out⟩
    · have y1 : ((m : Int) != (n1 : Int) + (n2 : Int) + (n3 : Int)) = true := by simp; omega
      clear HEO hlen hAL H5 H6 H7
      go_wp2_with fail
      refine (H3.out _ _ _ HRc.out (HA.out _ HBc.out) (by omega)).mono ?_
      rintro e wd ⟨Ad, cd, rfl, hrd, hcd, hbd⟩
      have HBd : Hid (Below w.heap.size w wd) := Lib.hid (HBc.out.trans (hbd.mono HBc.out.size))
      have HRd := Lib.hid hrd
      have HRc1 := Lib.hid (Rd.next HRc.out hbd)
      clear hrd hcd hbd HBc HRc H3
      go_wp2_with fail
      refine (HS.out _ _ _ _ _ HRd.out HRc1.out (by omega)).mono ?_
      rintro e we ⟨rfl, hbe⟩
      have HBe : Hid (Below w.heap.size w we) := Lib.hid (HBd.out.trans (hbe.mono HBd.out.size))
      have HRc2 := Lib.hid (Rd.next HRc1.out hbe)
      clear hbe HBd HRd HRc1
      go_wp2_with fail
      refine (H4.out _ _ _ HRc2.out (HL.out _ HBe.out) (by omega)).mono ?_
      rintro e wf ⟨Af, cf, rfl, hrf, hcf, hbf⟩
      have HBf : Hid (Below w.heap.size w wf) := Lib.hid (HBe.out.trans (hbf.mono HBe.out.size))
      have HRf := Lib.hid hrf
      have HRc3 := Lib.hid (Rd.next HRc2.out hbf)
      clear hrf hcf hbf HBe HRc2 H4
      go_wp2_with fail
      refine (HS.out _ _ _ _ _ HRf.out HRc3.out (by omega)).mono ?_
      rintro e wg ⟨rfl, hbg⟩
      have HBg : Hid (Below w.heap.size w wg) := Lib.hid (HBf.out.trans (hbg.mono HBf.out.size))
      clear hbg
      go_wp2
      go_ret
      exact ⟨rfl, HBg.out⟩
end

end Go.Proofs.YtkgogenmhiclcaaGreatDoor
