/-
  A calendar's days, one after another: the iterator's walk.
-/
import Derived.Test.YtpkpoglmmjaoeaaGreatDoorDb
namespace Go.Proofs.YtpkpoglmmjaoeaaGreatDoor
open Go.RowKit Go.Shelf
attribute [local go_sem] Oper.semAt_some

theorem Keeps1.boxed {n₀ r b : Nat} {A B : World} {t : TypeId} {v : Value} (h : Boxed A b t v) (k : Keeps1 n₀ r A B) (hb : b < n₀) (hr : b ≠ r) : Boxed B b t v := (k.block b hb hr).trans h
theorem Keeps1.under {n₀ r m : Nat} {A B : World} (k : Keeps1 n₀ r A B) (h1 : m ≤ n₀) (h2 : m ≤ r) : Below m A B := ⟨k.os, k.tape, k.output, k.size, fun j hj => k.block j (by omega) (by omega)⟩
theorem keeps1_from {n₀ l : Nat} {A0 A B : World} (hb : Below A0.heap.size A0 A) (h : Keeps1 n₀ l A B) (hn : A0.heap.size ≤ n₀) : KeepsFrom (l + 1) A0 B :=
  ⟨Nat.le_trans hb.size h.size, fun k o hk h0 ho => by
    have hlt := (Array.getElem?_eq_some_iff.1 h0).1
    exact (h.block k (by omega) (by omega)).trans ((hb.block k hlt).trans h0)⟩
theorem keeps1_after {n₁ n₂ l : Nat} {A0 A B : World} (hb : Below A0.heap.size A0 A) (h : Keeps1 n₂ l A B) (h1 : n₁ ≤ A0.heap.size) (h2 : n₁ ≤ n₂) : Keeps1 n₁ l A0 B :=
  ⟨h.os.trans hb.os, h.tape.trans hb.tape, h.output.trans hb.output, Nat.le_trans hb.size h.size, fun k hk hne => (h.block k (by omega) hne).trans (hb.block k (by omega))⟩
theorem keeps1_grown {n₀ l : Nat} {A B : World} (h : A.grownBy B (some l)) (hn : n₀ ≤ A.heap.size) : Keeps1 n₀ l A B :=
  ⟨h.os, h.tape, h.output, h.size, fun k hk hne => h.block k (by omega) (fun e => hne (by cases e; rfl))⟩
theorem ownFrom_grow {β : Type} {B : Nat} {I : β → World → Prop} (h : OwnFrom B I) {s : β} {X Y : World} (hs : I s X) (hb : Below X.heap.size X Y) : I s Y := h s X Y none hs (grown_of_below hb) (fun r e => by cases e)
theorem ownFrom_map {α β : Type} {B B' : Nat} {I : β → World → Prop} (f : α → β) (hB : B ≤ B') (h : OwnFrom B I) : OwnFrom B' (fun s W => I (f s) W) := fun s X Y row hs hg hr => h (f s) X Y row hs hg (fun r e => ⟨Nat.le_trans hB (hr r e).1, (hr r e).2⟩)
theorem ownFrom_some {α β : Type} {B B' : Nat} {I : β → World → Prop} (p : α → β → Prop) (hB : B ≤ B') (h : OwnFrom B I) : OwnFrom B' (fun s W => ∃ q, p s q ∧ I q W) := fun s X Y row hs hg hr => by
  obtain ⟨q, h1, h2⟩ := hs
  exact ⟨q, h1, h q X Y row h2 hg (fun r e => ⟨Nat.le_trans hB (hr r e).1, (hr r e).2⟩)⟩
theorem grown_but {A B : World} (h : A.grownBy B none) (row : Option Nat) : A.grownBy B row := ⟨h.os, h.tape, h.output, h.size, fun i hi _ => h.block i hi (by simp)⟩
theorem roundIn_any {n m : Nat} {a b c : Nat} {P : Program} {l : Nat} {f : FuncId} {tmps : Array Value} {assign body : Code} {w : World} {R : Ending → World → Prop} (h : RoundIn Fence.wide n P l f tmps assign body w R) :
    RoundIn (((Fence.wide.inRound a).inRound b).inRound c) m P l f tmps assign body w R := ⟨trivial, fun x xs _ => h.2 x xs (room_wide _)⟩
/-- a calendar in a box -/
structure CBox (w : World) (b : Nat) (s : CalS) : Prop where
  c0 : w.cell? ⟨b, 0, none⟩ = some (slV s.d)
  c1 : w.cell? ⟨b, 1, none⟩ = some (slV s.f0)
  c2 : w.cell? ⟨b, 2, none⟩ = some (slV s.f1)
  c3 : w.cell? ⟨b, 3, none⟩ = some (slV s.f2)
  c4 : w.cell? ⟨b, 4, none⟩ = some (slV s.f3)
  c5 : w.cell? ⟨b, 5, none⟩ = some (slV s.f4)
  c6 : w.cell? ⟨b, 6, none⟩ = some (slV s.f5)
theorem CBox.on {w w' : World} {b n : Nat} {s : CalS} (h : CBox w b s) (hb : Below n w w') (hlt : b < n) : CBox w' b s :=
  ⟨(hb.cell (p := ⟨b, 0, none⟩) hlt).trans h.c0, (hb.cell (p := ⟨b, 1, none⟩) hlt).trans h.c1, (hb.cell (p := ⟨b, 2, none⟩) hlt).trans h.c2, (hb.cell (p := ⟨b, 3, none⟩) hlt).trans h.c3, (hb.cell (p := ⟨b, 4, none⟩) hlt).trans h.c4, (hb.cell (p := ⟨b, 5, none⟩) hlt).trans h.c5, (hb.cell (p := ⟨b, 6, none⟩) hlt).trans h.c6⟩
theorem to_day (y m d : Int) (w : World) (h : Sp.okDay y m d = true) :
    Calls Tryz.prog 46 #[.agg #[.int .i64 y, .int .i64 m, .int .i64 d, .int .i64 0, .int .i64 0, .int .i64 0, .int .i64 0]] w fun e w' => e = .returned (.tuple #[.int .i64 (Sp.dayOf y m d * 86400), .bool true]) ∧ Below w.heap.size w w' := by
  obtain ⟨h1, h2⟩ := Sp.sec_of_day y m d h
  have h3 := to_any ⟨y, m, d, 0, 0, 0, 0⟩ w
  rw [h1, h2, if_pos rfl] at h3
  exact h3
theorem to_noday (y m d : Int) (w : World) (h : Sp.okDay y m d = false) :
    Calls Tryz.prog 46 #[.agg #[.int .i64 y, .int .i64 m, .int .i64 d, .int .i64 0, .int .i64 0, .int .i64 0, .int .i64 0]] w fun e w' => e = .returned (.tuple #[.int .i64 0, .bool false]) ∧ Below w.heap.size w w' := by
  have h1 := Sp.sec_of_none y m d h
  have h3 := to_any ⟨y, m, d, 0, 0, 0, 0⟩ w
  rw [h1, if_neg (by decide)] at h3
  exact h3
theorem of_sec (t : Int) (D : Sp.DateD) (hD : D = Sp.ofT t) (w : World) (ht : -9223372036854775808 ≤ t ∧ t ≤ 9223372036854775807) :
    Calls Tryz.prog 13 #[.int .i64 t] w fun e w' => (∃ ok, e = .returned (.tuple #[.agg #[.int .i64 D.year, .int .i64 D.month, .int .i64 D.day, .int .i64 D.hour, .int .i64 D.min, .int .i64 D.sec, .int .i64 D.wday], .bool ok])) ∧ Below w.heap.size w w' :=
  (of_any t w ht).mono fun _ _ ⟨h1, h2⟩ => ⟨⟨_, by rw [hD]; exact h1⟩, h2⟩
set_option maxRecDepth 100000 in
set_option maxHeartbeats 8000000 in
theorem days1_seq (n : Nat) (hn : 12 ≤ n) (bc bd : Nat) (s : CalS) (y0 : Int) (w : World) (hbc : bc < w.heap.size) (hbd : bd < w.heap.size) (h : CalGood w s) (hm : Sp.mayCal s.cal = true)
    (hc : CBox w bc s) (hd : w.cell? ⟨bd, 0, none⟩ = some (.int .i64 y0)) :
    SeqGen n Tryz.prog 44 #[.pointer (some ⟨bc, 0, none⟩), .pointer (some ⟨bd, 0, none⟩)] (fun x : Sp.DayT => #[.int .i64 x.t]) (fun xs => xs = Sp.daysT s.cal y0) (fun pre => pre <+: Sp.daysT s.cal y0) (fun _ _ => True) Eq (fun l A B => A.grownBy B (some l)) w := by
  intro l J Jx W hl hlW hW hJ _ hJx hY h0
  have h1 : 1 ≤ n := by omega
  obtain ⟨⟨dA, dn, dc⟩, ⟨A0, n0, c0⟩, ⟨A1, n1, c1⟩, ⟨A2, n2, c2⟩, ⟨A3, n3, c3⟩, ⟨A4, n4, c4⟩, ⟨A5, n5, c5⟩, cal⟩ := s
  have HG := Lib.hid h
  have HML := Lib.hid (Sp.mayCal_lists hm)
  have HC := Lib.hid hc
  have HY := Lib.hid hY
  have q1 : W.cell? ⟨bc, 1, none⟩ = some (.slice A0 n0 c0) := (hc.on hW hbc).c1
  have q2 : W.cell? ⟨bd, 0, none⟩ = some (.int .i64 y0) := (hW.cell (p := ⟨bd, 0, none⟩) hbd).trans hd
  have hsWw := hW.size
  clear h hm hc hd hY
  try dsimp only at *
  have q1a := alloc_keep (O := .cells #[.func (.yield l) #[] #[]] 76) q1 (by omega)
  have q2a := alloc_keep (O := .cells #[.func (.yield l) #[] #[]] 76) q2 (by omega)
  refine callsIn_of_wp_marks Tryz.func44 rfl trivial ?_ rfl
  simp only [Tryz.ntmps44, List.size_toArray, List.length_cons, List.length_nil, Nat.reduceAdd, Nat.reduceSub, Array.replicate_succ, Array.replicate_zero, List.push_toArray, List.append_toArray, List.nil_append, List.cons_append]
  gi_wp2_with fail
  refine ⟨trivial, (callsIn_wide.2 (numbers_any _ _ _ _ _ _)).mono ?_⟩
  rintro e w' ⟨rfl, rfl⟩
  gi_wp2_with fail
  have hsz : ((((W.alloc (.cells #[.func (.yield l) #[] #[]] 76)).alloc (.cells #[.slice A0 n0 c0] 23)).alloc (.cells #[.int .i64 0] 3)).alloc (.cells #[.int .i64 y0] 3)).heap.size = W.heap.size + 4 := by simp
  have hB0 : Below W.heap.size W ((((W.alloc (.cells #[.func (.yield l) #[] #[]] 76)).alloc (.cells #[.slice A0 n0 c0] 23)).alloc (.cells #[.int .i64 0] 3)).alloc (.cells #[.int .i64 y0] 3)) := ((((Below.refl _ W).alloc (Nat.le_refl _) _).alloc (by simp) _).alloc (by simp; omega) _).alloc (by simp; omega) _
  have hyv : Boxed ((((W.alloc (.cells #[.func (.yield l) #[] #[]] 76)).alloc (.cells #[.slice A0 n0 c0] 23)).alloc (.cells #[.int .i64 0] 3)).alloc (.cells #[.int .i64 y0] 3)) (W.heap.size) 76 (.func (.yield l) #[] #[]) := Boxed.alloc (Boxed.alloc (Boxed.alloc (Boxed.new W 76 (.func (.yield l) #[] #[])) _) _) _
  have hk4 : Boxed ((((W.alloc (.cells #[.func (.yield l) #[] #[]] 76)).alloc (.cells #[.slice A0 n0 c0] 23)).alloc (.cells #[.int .i64 0] 3)).alloc (.cells #[.int .i64 y0] 3)) ((W.alloc (.cells #[.func (.yield l) #[] #[]] 76)).heap.size) 23 (.slice A0 n0 c0) := Boxed.alloc (Boxed.alloc (Boxed.new (W.alloc (.cells #[.func (.yield l) #[] #[]] 76)) 23 (.slice A0 n0 c0)) (.cells #[.int .i64 0] 3)) (.cells #[.int .i64 y0] 3)
  have hk5 : Boxed ((((W.alloc (.cells #[.func (.yield l) #[] #[]] 76)).alloc (.cells #[.slice A0 n0 c0] 23)).alloc (.cells #[.int .i64 0] 3)).alloc (.cells #[.int .i64 y0] 3)) ((W.alloc (.cells #[.func (.yield l) #[] #[]] 76)).heap.size + 1) 3 (.int .i64 0) := by
    have h := Boxed.alloc (Boxed.new ((W.alloc (.cells #[.func (.yield l) #[] #[]] 76)).alloc (.cells #[.slice A0 n0 c0] 23)) 3 (.int .i64 0)) (.cells #[.int .i64 y0] 3)
    rw [World.size_alloc] at h
    exact h
  have hk6 : Boxed ((((W.alloc (.cells #[.func (.yield l) #[] #[]] 76)).alloc (.cells #[.slice A0 n0 c0] 23)).alloc (.cells #[.int .i64 0] 3)).alloc (.cells #[.int .i64 y0] 3)) ((W.alloc (.cells #[.func (.yield l) #[] #[]] 76)).heap.size + 2) 3 (.int .i64 y0) := by
    have h := Boxed.new (((W.alloc (.cells #[.func (.yield l) #[] #[]] 76)).alloc (.cells #[.slice A0 n0 c0] 23)).alloc (.cells #[.int .i64 0] 3)) 3 (.int .i64 y0)
    rw [World.size_alloc, World.size_alloc] at h
    exact h
  simp only [World.size_alloc] at hk4 hk5 hk6
  have hj0 : J [] ((((W.alloc (.cells #[.func (.yield l) #[] #[]] 76)).alloc (.cells #[.slice A0 n0 c0] 23)).alloc (.cells #[.int .i64 0] 3)).alloc (.cells #[.int .i64 y0] 3)) := ownFrom_grow hJ h0 hB0
  generalize (((W.alloc (.cells #[.func (.yield l) #[] #[]] 76)).alloc (.cells #[.slice A0 n0 c0] 23)).alloc (.cells #[.int .i64 0] 3)).alloc (.cells #[.int .i64 y0] 3) = W0 at *
  have hBw0 : Below w.heap.size w W0 := hW.trans (hB0.mono hsWw)
  have HG0 := Lib.hid (HG.out.on hBw0)
  have hgood : ∀ b, b < w.heap.size → b < W0.heap.size ∧ b ≠ l := fun b hb => ⟨by omega, by omega⟩
  have hrd : ∀ i, i < 6 → Rd W0 w.heap.size 3 ((⟨⟨dA, dn, dc⟩, ⟨A0, n0, c0⟩, ⟨A1, n1, c1⟩, ⟨A2, n2, c2⟩, ⟨A3, n3, c3⟩, ⟨A4, n4, c4⟩, ⟨A5, n5, c5⟩, cal⟩ : CalS).sl i).A ((⟨⟨dA, dn, dc⟩, ⟨A0, n0, c0⟩, ⟨A1, n1, c1⟩, ⟨A2, n2, c2⟩, ⟨A3, n3, c3⟩, ⟨A4, n4, c4⟩, ⟨A5, n5, c5⟩, cal⟩ : CalS).sl i).n (partsC (cal.field i)) := fun i hi => (HG.out.rf i hi).below hBw0
  have HRD := Lib.hid hrd
  clear hrd
  refine wpIn_rangeFunc_ownH rfl h1 (gf := 71) (lb := #[.pointer (some ⟨W.heap.size + 1 + 1, 0, none⟩), .pointer (some ⟨W.heap.size + 1 + 2, 0, none⟩), .pointer (some ⟨W.heap.size + 1, 0, none⟩)]) rfl trivial (enters_of Tryz.func71 (by kernel_rfl) rfl)
    (numbers_stops_on (n - 1) (by omega) (W.heap.size + 1 + 1) (W.heap.size + 1 + 2) (W.heap.size + 1) w.heap.size W0.heap.size (Keeps1 W0.heap.size l) _ (keeps1_on _ _) cal.year 0 y0 A0 n0 c0 (HG0.out.bf 0) (HML.out 0 (by decide)) ⟨by omega, by omega⟩ ⟨by omega, by omega⟩ W0 (Nat.le_refl _) (by omega) (by omega) (by omega) (by omega) hgood (HRD.out 0 (by decide)) hk5.cell hk6.cell hk4.cell)
    keeps1_t (keeps1_b (Nat.le_refl _)) (Below.refl _ _) (fun _ => rfl)
    (fun ys Wx => J (Sp.D1 cal ys) Wx ∧ Keeps1 W0.heap.size l W0 Wx)
    (fun c ys Wx => c = .ret ∧ ∃ q, q <+: Sp.D1 cal ys ∧ Jx q Wx)
    (OwnFrom.and (ownFrom_map _ (by omega) hJ) (ownFrom_keeps1 (Nat.le_refl _) (Nat.le_refl _)))
    (fun c => OwnFrom.and (ownFrom_pure _ _) (ownFrom_some (fun ys q => q <+: Sp.D1 cal ys) (by omega) hJx))
    ⟨hj0, (keeps1_on _ _).refl _⟩
    (fun x a' Wx => ∃ Bx, W0.heap.size ≤ Bx ∧ Boxed Wx Bx 3 (.int .i64 x.1) ∧ a' = { tmps := #[.func (.yield l) #[] #[], .pointer (some ⟨bc, 0, none⟩), .pointer (some ⟨bd, 0, none⟩), .pointer (some ⟨W.heap.size, 0, none⟩), .pointer (some ⟨Bx, 0, none⟩), undef, undef, undef, undef, undef, undef, .pointer (some ⟨bc, 1, none⟩), .slice A0 n0 c0, .pointer (some ⟨bd, 0, none⟩), .int .i64 y0, .func (.func 71) #[] #[.pointer (some ⟨W.heap.size + 1 + 1, 0, none⟩), .pointer (some ⟨W.heap.size + 1 + 2, 0, none⟩), .pointer (some ⟨W.heap.size + 1, 0, none⟩)], .int .i64 x.1, undef, undef, undef, undef, undef, undef, undef, undef, undef, undef, undef, undef, undef, undef, undef, undef, undef, undef, undef, undef, undef, undef, undef, undef, undef, undef, undef, undef, undef, undef, undef, undef, undef, undef], defers := [] })
    (fun x a' _ X Y row hs hg hr => by obtain ⟨Bx, e1, e2, e3⟩ := hs; exact ⟨Bx, e1, boxed_own Bx 3 (fun (_ : Unit) => Value.int .i64 x.1) () X Y row e2 hg (fun r e => (hr r e).2), e3⟩)
    ?assign ?body ?done ?stop
  case assign =>
    rintro l1 pre x Wx K ⟨hj, hkk⟩ hK
    gi_wp2
    have hal : Below Wx.heap.size Wx (Wx.alloc (.cells #[.int .i64 x.1] 3)) := (Below.refl _ _).alloc (Nat.le_refl _) _
    have hk2 : Keeps1 W0.heap.size l Wx (Wx.alloc (.cells #[.int .i64 x.1] 3)) := (keeps1_on _ _).below hkk.size hal
    exact hK _ _ ((KeepsOthers.alloc _ _).from _) hk2 ⟨ownFrom_grow hJ hj hal, keeps1_t hkk hk2⟩ ⟨Wx.heap.size, hkk.size, Boxed.new Wx 3 _, rfl⟩
  case body =>
    rintro l1 pre x a' Wa hl1 ⟨r, hr⟩ ⟨hj, hka⟩ ⟨Bx, hBx, bX, rfl⟩ hlt
    have h1' : 1 ≤ n - 1 - 1 := by omega
    have hsWa := hka.size
    have hBwa : Below w.heap.size w Wa := hBw0.trans (hka.under (by omega) hl)
    have p1 : Wa.cell? ⟨bc, 2, none⟩ = some (.slice A1 n1 c1) := (HC.out.on hBwa hbc).c2
    gi_wp2_with fail
    refine ⟨trivial, (CallsIn.inRound l1 (callsIn_wide.2 (numbers_any _ _ _ _ _ _))).mono ?_⟩
    rintro e w' ⟨rfl, rfl⟩
    gi_wp2_with fail
    have hsz1 : ((((Wa).alloc (.cells #[.slice A1 n1 c1] 23)).alloc (.cells #[.int .i64 1] 3)).alloc (.cells #[.int .i64 1] 3)).heap.size = Wa.heap.size + 3 := by simp
    have hBa1 : Below Wa.heap.size Wa ((((Wa).alloc (.cells #[.slice A1 n1 c1] 23)).alloc (.cells #[.int .i64 1] 3)).alloc (.cells #[.int .i64 1] 3)) := (((Below.refl _ Wa).alloc (Nat.le_refl _) _).alloc (by simp) _).alloc (by simp; omega) _
    have hm4 : Boxed ((((Wa).alloc (.cells #[.slice A1 n1 c1] 23)).alloc (.cells #[.int .i64 1] 3)).alloc (.cells #[.int .i64 1] 3)) ((Wa).heap.size) 23 (.slice A1 n1 c1) := Boxed.alloc (Boxed.alloc (Boxed.new (Wa) 23 (.slice A1 n1 c1)) (.cells #[.int .i64 1] 3)) (.cells #[.int .i64 1] 3)
    have hm5 : Boxed ((((Wa).alloc (.cells #[.slice A1 n1 c1] 23)).alloc (.cells #[.int .i64 1] 3)).alloc (.cells #[.int .i64 1] 3)) ((Wa).heap.size + 1) 3 (.int .i64 1) := by
      have h := Boxed.alloc (Boxed.new ((Wa).alloc (.cells #[.slice A1 n1 c1] 23)) 3 (.int .i64 1)) (.cells #[.int .i64 1] 3)
      rw [World.size_alloc] at h
      exact h
    have hm6 : Boxed ((((Wa).alloc (.cells #[.slice A1 n1 c1] 23)).alloc (.cells #[.int .i64 1] 3)).alloc (.cells #[.int .i64 1] 3)) ((Wa).heap.size + 2) 3 (.int .i64 1) := by
      have h := Boxed.new (((Wa).alloc (.cells #[.slice A1 n1 c1] 23)).alloc (.cells #[.int .i64 1] 3)) 3 (.int .i64 1)
      rw [World.size_alloc, World.size_alloc] at h
      exact h
    have hj1 : J (Sp.D1 cal pre) ((((Wa).alloc (.cells #[.slice A1 n1 c1] 23)).alloc (.cells #[.int .i64 1] 3)).alloc (.cells #[.int .i64 1] 3)) := ownFrom_grow hJ hj hBa1
    generalize (((Wa).alloc (.cells #[.slice A1 n1 c1] 23)).alloc (.cells #[.int .i64 1] 3)).alloc (.cells #[.int .i64 1] 3) = W1 at *
    have hBw1 : Below w.heap.size w W1 := hBwa.trans (hBa1.mono (by omega))
    have hgood1 : ∀ b, b < w.heap.size → b < W1.heap.size ∧ b ≠ l := fun b hb => ⟨by omega, by omega⟩
    have hl1W : l1 < Wa.heap.size := (Array.getElem?_eq_some_iff.1 hr).1
    have hr' : W1.heap[l1]? = some (.loop r) := (hBa1.block l1 hl1W).trans hr
    refine wpIn_rangeFunc_ownN (l₀ := l1) (r₀ := r) rfl hr' h1' (gf := 71) (lb := #[.pointer (some ⟨Wa.heap.size + 1, 0, none⟩), .pointer (some ⟨Wa.heap.size + 2, 0, none⟩), .pointer (some ⟨Wa.heap.size, 0, none⟩)]) rfl trivial (enters_of Tryz.func71 (by kernel_rfl) rfl)
      ((numbers_stops_on (n - 1 - 1 - 1) (by omega) (Wa.heap.size + 1) (Wa.heap.size + 2) (Wa.heap.size) w.heap.size W1.heap.size (Keeps1 W1.heap.size l) _ (keeps1_on _ _) cal.month 1 1 A1 n1 c1 (HG0.out.bf 1) (HML.out 1 (by decide)) ⟨by omega, by omega⟩ ⟨by omega, by omega⟩ W1 (Nat.le_refl _) (by omega) (by omega) (by omega) (by omega) hgood1 ((HG.out.rf 1 (by decide)).below hBw1) hm5.cell hm6.cell hm4.cell).inRound l1)
      keeps1_t (keeps1_b (Nat.le_refl _)) (Below.refl _ _) (fun _ => rfl)
      (fun ms Wx => J (Sp.D1 cal pre ++ Sp.D2 cal x.1 ms) Wx ∧ Keeps1 W1.heap.size l W1 Wx)
      (fun c ms Wx => (c = .ret ∧ ∃ q, q <+: Sp.D1 cal pre ++ Sp.D2 cal x.1 ms ∧ Jx q Wx) ∧ KeepsFrom (l + 1) Wa Wx)
      (OwnFrom.and (ownFrom_map (fun ms => Sp.D1 cal pre ++ Sp.D2 cal x.1 ms) (by omega) hJ) (ownFrom_keeps1 (Nat.le_refl _) (Nat.le_refl _)))
      (fun c => OwnFrom.and (OwnFrom.and (ownFrom_pure _ _) (ownFrom_some (fun ms q => q <+: Sp.D1 cal pre ++ Sp.D2 cal x.1 ms) (by omega) hJx)) (ownFrom_keepsFrom (by omega)))
      ⟨by rw [show Sp.D2 cal x.1 [] = [] from rfl, List.append_nil]; exact hj1, (keeps1_on _ _).refl _⟩
      (fun y a' Wx => ∃ By, W1.heap.size ≤ By ∧ Boxed Wx By 3 (.int .i64 y.1) ∧ a' = { tmps := #[.func (.yield l) #[] #[], .pointer (some ⟨bc, 0, none⟩), .pointer (some ⟨bd, 0, none⟩), .pointer (some ⟨W.heap.size, 0, none⟩), .pointer (some ⟨Bx, 0, none⟩), .pointer (some ⟨By, 0, none⟩), undef, undef, undef, undef, undef, .pointer (some ⟨bc, 1, none⟩), .slice A0 n0 c0, .pointer (some ⟨bd, 0, none⟩), .int .i64 y0, .func (.func 71) #[] #[.pointer (some ⟨W.heap.size + 1 + 1, 0, none⟩), .pointer (some ⟨W.heap.size + 1 + 2, 0, none⟩), .pointer (some ⟨W.heap.size + 1, 0, none⟩)], .int .i64 x.1, .pointer (some ⟨bc, 2, none⟩), .slice A1 n1 c1, .func (.func 71) #[] #[.pointer (some ⟨Wa.heap.size + 1, 0, none⟩), .pointer (some ⟨Wa.heap.size + 2, 0, none⟩), .pointer (some ⟨Wa.heap.size, 0, none⟩)], .int .i64 y.1, undef, undef, undef, undef, undef, undef, undef, undef, undef, undef, undef, undef, undef, undef, undef, undef, undef, undef, undef, undef, undef, undef, undef, undef, undef, undef, undef, undef, undef, undef], defers := [] })
      (fun y a' _ X Y row hs hg hr => by obtain ⟨By, e1, e2, e3⟩ := hs; exact ⟨By, e1, boxed_own By 3 (fun (_ : Unit) => Value.int .i64 y.1) () X Y row e2 hg (fun r e => (hr r e).2), e3⟩)
      ?assign2 ?body2 ?done2 ?stop2
    case assign2 =>
      rintro l2 pre2 y Wx K ⟨hj, hkk⟩ hK
      gi_wp2
      have hal : Below Wx.heap.size Wx (Wx.alloc (.cells #[.int .i64 y.1] 3)) := (Below.refl _ _).alloc (Nat.le_refl _) _
      have hk2 : Keeps1 W1.heap.size l Wx (Wx.alloc (.cells #[.int .i64 y.1] 3)) := (keeps1_on _ _).below hkk.size hal
      exact hK _ _ ((KeepsOthers.alloc _ _).from _) hk2 ⟨ownFrom_grow hJ hj hal, keeps1_t hkk hk2⟩ ⟨Wx.heap.size, hkk.size, Boxed.new Wx 3 _, rfl⟩
    case body2 =>
      rintro l2 pre2 y a' Wb hl2 ⟨r2, hr2⟩ ⟨hj2, hkb⟩ ⟨By, hBy, bY, rfl⟩ hlt2
      have h1'' : 1 ≤ n - 1 - 1 - 1 - 1 := by omega
      have hsWb := hkb.size
      have hBxlt : Bx < Wa.heap.size := bX.lt
      have hBwb : Below w.heap.size w Wb := hBw1.trans (hkb.under (by omega) hl)
      have p2 : Wb.cell? ⟨bc, 3, none⟩ = some (.slice A2 n2 c2) := (HC.out.on hBwb hbc).c3
      gi_wp2_with fail
      refine ⟨trivial, (CallsIn.inRound l2 (callsIn_wide.2 (numbers_any _ _ _ _ _ _))).mono ?_⟩
      rintro e w' ⟨rfl, rfl⟩
      gi_wp2_with fail
      have hsz2 : ((((Wb).alloc (.cells #[.slice A2 n2 c2] 23)).alloc (.cells #[.int .i64 2] 3)).alloc (.cells #[.int .i64 1] 3)).heap.size = Wb.heap.size + 3 := by simp
      have hBb2 : Below Wb.heap.size Wb ((((Wb).alloc (.cells #[.slice A2 n2 c2] 23)).alloc (.cells #[.int .i64 2] 3)).alloc (.cells #[.int .i64 1] 3)) := (((Below.refl _ Wb).alloc (Nat.le_refl _) _).alloc (by simp) _).alloc (by simp; omega) _
      have hd4 : Boxed ((((Wb).alloc (.cells #[.slice A2 n2 c2] 23)).alloc (.cells #[.int .i64 2] 3)).alloc (.cells #[.int .i64 1] 3)) ((Wb).heap.size) 23 (.slice A2 n2 c2) := Boxed.alloc (Boxed.alloc (Boxed.new (Wb) 23 (.slice A2 n2 c2)) (.cells #[.int .i64 2] 3)) (.cells #[.int .i64 1] 3)
      have hd5 : Boxed ((((Wb).alloc (.cells #[.slice A2 n2 c2] 23)).alloc (.cells #[.int .i64 2] 3)).alloc (.cells #[.int .i64 1] 3)) ((Wb).heap.size + 1) 3 (.int .i64 2) := by
        have h := Boxed.alloc (Boxed.new ((Wb).alloc (.cells #[.slice A2 n2 c2] 23)) 3 (.int .i64 2)) (.cells #[.int .i64 1] 3)
        rw [World.size_alloc] at h
        exact h
      have hd6 : Boxed ((((Wb).alloc (.cells #[.slice A2 n2 c2] 23)).alloc (.cells #[.int .i64 2] 3)).alloc (.cells #[.int .i64 1] 3)) ((Wb).heap.size + 2) 3 (.int .i64 1) := by
        have h := Boxed.new (((Wb).alloc (.cells #[.slice A2 n2 c2] 23)).alloc (.cells #[.int .i64 2] 3)) 3 (.int .i64 1)
        rw [World.size_alloc, World.size_alloc] at h
        exact h
      have hj3 : J (Sp.D1 cal pre ++ Sp.D2 cal x.1 pre2) ((((Wb).alloc (.cells #[.slice A2 n2 c2] 23)).alloc (.cells #[.int .i64 2] 3)).alloc (.cells #[.int .i64 1] 3)) := ownFrom_grow hJ hj2 hBb2
      generalize (((Wb).alloc (.cells #[.slice A2 n2 c2] 23)).alloc (.cells #[.int .i64 2] 3)).alloc (.cells #[.int .i64 1] 3) = W2 at *
      have hBw2 : Below w.heap.size w W2 := hBwb.trans (hBb2.mono (by omega))
      have hgood2 : ∀ b, b < w.heap.size → b < W2.heap.size ∧ b ≠ l := fun b hb => ⟨by omega, by omega⟩
      have hl2W : l2 < Wb.heap.size := (Array.getElem?_eq_some_iff.1 hr2).1
      have hr2' : W2.heap[l2]? = some (.loop r2) := (hBb2.block l2 hl2W).trans hr2
      have bX2 : Boxed W2 Bx 3 (.int .i64 x.1) := Boxed.below (hkb.boxed (Boxed.below bX hBa1 hBxlt) (by omega) (by omega)) hBb2 (by omega)
      have bY2 : Boxed W2 By 3 (.int .i64 y.1) := Boxed.below bY hBb2 bY.lt
      have bYlt := bY.lt
      have hyv2 : Boxed W2 (W.heap.size) 76 (.func (.yield l) #[] #[]) := Boxed.below (hkb.boxed (Boxed.below (hka.boxed hyv (by omega) (by omega)) hBa1 (by omega)) (by omega) (by omega)) hBb2 (by omega)
      have hkf2 : ∀ Wx, Keeps1 W2.heap.size l W2 Wx → KeepsFrom (l + 1) Wb Wx := fun Wx hk => keeps1_from hBb2 hk (by omega)
      have hkf1 : ∀ Wx, Keeps1 W2.heap.size l W2 Wx → KeepsFrom (l + 1) Wa Wx := fun Wx hk => keeps1_from hBa1 (keeps1_t hkb (keeps1_after hBb2 hk (by omega) (by omega))) (by omega)
      refine wpIn_rangeFunc_ownN (l₀ := l2) (r₀ := r2) rfl hr2' h1'' (gf := 71) (lb := #[.pointer (some ⟨Wb.heap.size + 1, 0, none⟩), .pointer (some ⟨Wb.heap.size + 2, 0, none⟩), .pointer (some ⟨Wb.heap.size, 0, none⟩)]) rfl trivial (enters_of Tryz.func71 (by kernel_rfl) rfl)
        ((numbers_stops_on (n - 1 - 1 - 1 - 1 - 1) (by omega) (Wb.heap.size + 1) (Wb.heap.size + 2) (Wb.heap.size) w.heap.size W2.heap.size (Keeps1 W2.heap.size l) _ (keeps1_on _ _) cal.day 2 1 A2 n2 c2 (HG0.out.bf 2) (HML.out 2 (by decide)) ⟨by omega, by omega⟩ ⟨by omega, by omega⟩ W2 (Nat.le_refl _) (by omega) (by omega) (by omega) (by omega) hgood2 ((HG.out.rf 2 (by decide)).below hBw2) hd5.cell hd6.cell hd4.cell).inRound l2)
        keeps1_t (keeps1_b (Nat.le_refl _)) (Below.refl _ _) (fun _ => rfl)
        (fun ds Wx => J (Sp.D1 cal pre ++ Sp.D2 cal x.1 pre2 ++ Sp.D3 cal x.1 y.1 ds) Wx ∧ Keeps1 W2.heap.size l W2 Wx)
        (fun c ds Wx => ((c = .ret ∧ ∃ q, q <+: Sp.D1 cal pre ++ Sp.D2 cal x.1 pre2 ++ Sp.D3 cal x.1 y.1 ds ∧ Jx q Wx) ∧ KeepsFrom (l + 1) Wa Wx) ∧ KeepsFrom (l + 1) Wb Wx)
        (OwnFrom.and (ownFrom_map (fun ds => Sp.D1 cal pre ++ Sp.D2 cal x.1 pre2 ++ Sp.D3 cal x.1 y.1 ds) (by omega) hJ) (ownFrom_keeps1 (Nat.le_refl _) (Nat.le_refl _)))
        (fun c => OwnFrom.and (OwnFrom.and (OwnFrom.and (ownFrom_pure _ _) (ownFrom_some (fun ds q => q <+: Sp.D1 cal pre ++ Sp.D2 cal x.1 pre2 ++ Sp.D3 cal x.1 y.1 ds) (by omega) hJx)) (ownFrom_keepsFrom (by omega))) (ownFrom_keepsFrom (by omega)))
        ⟨by rw [show Sp.D3 cal x.1 y.1 [] = [] from rfl, List.append_nil]; exact hj3, (keeps1_on _ _).refl _⟩
        (fun z a3 _ => a3 = { tmps := #[.func (.yield l) #[] #[], .pointer (some ⟨bc, 0, none⟩), .pointer (some ⟨bd, 0, none⟩), .pointer (some ⟨W.heap.size, 0, none⟩), .pointer (some ⟨Bx, 0, none⟩), .pointer (some ⟨By, 0, none⟩), .int .i64 z.1, undef, undef, undef, undef, .pointer (some ⟨bc, 1, none⟩), .slice A0 n0 c0, .pointer (some ⟨bd, 0, none⟩), .int .i64 y0, .func (.func 71) #[] #[.pointer (some ⟨W.heap.size + 1 + 1, 0, none⟩), .pointer (some ⟨W.heap.size + 1 + 2, 0, none⟩), .pointer (some ⟨W.heap.size + 1, 0, none⟩)], .int .i64 x.1, .pointer (some ⟨bc, 2, none⟩), .slice A1 n1 c1, .func (.func 71) #[] #[.pointer (some ⟨Wa.heap.size + 1, 0, none⟩), .pointer (some ⟨Wa.heap.size + 2, 0, none⟩), .pointer (some ⟨Wa.heap.size, 0, none⟩)], .int .i64 y.1, .pointer (some ⟨bc, 3, none⟩), .slice A2 n2 c2, .func (.func 71) #[] #[.pointer (some ⟨Wb.heap.size + 1, 0, none⟩), .pointer (some ⟨Wb.heap.size + 2, 0, none⟩), .pointer (some ⟨Wb.heap.size, 0, none⟩)], .int .i64 z.1, undef, undef, undef, undef, undef, undef, undef, undef, undef, undef, undef, undef, undef, undef, undef, undef, undef, undef, undef, undef, undef, undef, undef, undef, undef, undef], defers := [] })
        (fun _ _ _ _ _ _ hs _ _ => hs)
        ?assign3 ?body3 ?done3 ?stop3
      case assign3 =>
        rintro l3 pre3 z Wx K hi hK
        gi_wp2
        exact hK _ _ (KeepsFrom.refl _ _) ((keeps1_on _ _).refl _) hi rfl
      case body3 =>
        rintro l3 pre3 z a3 Wx hl3 _ ⟨hj4, hkx⟩ rfl _
        have h1q : 1 ≤ n - 1 - 1 - 1 - 1 - 1 - 1 := by omega
        have cX := (hkx.boxed bX2 (by omega) (by omega)).cell
        have cY := (hkx.boxed bY2 (by omega) (by omega)).cell
        have cV := (hkx.boxed hyv2 (by omega) (by omega)).cell
        have hBwx : Below w.heap.size w Wx := hBw2.trans (hkx.under (by omega) hl)
        have hsWx := hkx.size
        have HKX := Lib.hid hkx
        have HJ4 := Lib.hid hj4
        have hbcx : bc < Wx.heap.size := by omega
        have hSx : W.heap.size < Wx.heap.size := by omega
        have HCx := Lib.hid (HC.out.on hBwx hbc)
        have HGx := Lib.hid (HG.out.on hBwx)
        have HFin : Hid (∀ Wy, Wx.grownBy Wy (some l) → KeepsFrom W2.heap.size Wx Wy ∧ Keeps1 W2.heap.size l Wx Wy ∧ Keeps1 W2.heap.size l W2 Wy) := Lib.hid (fun Wy hg => ⟨keepsFrom_up (by omega) (keepsFrom_turn hg), keeps1_grown hg hkx.size, keeps1_t hkx (keeps1_grown hg hkx.size)⟩)
        have HFx : Hid (∀ Wy, KeepsFrom (l + 1) Wx Wy → KeepsFrom W2.heap.size Wx Wy ∧ KeepsFrom (l + 1) Wa Wy ∧ KeepsFrom (l + 1) Wb Wy) := Lib.hid (fun Wy hg => ⟨keepsFrom_up (by omega) hg, (hkf1 Wx hkx).trans hg, (hkf2 Wx hkx).trans hg⟩)
        clear hsz hsz1 hsz2 hj hj2 hj4 hkx hj0 hj1 hj3
        cases hok : Sp.okDay x.1 y.1 z.1 with
        | false =>
          have HSN : Hid (Sp.D3 cal x.1 y.1 (pre3 ++ [z]) = Sp.D3 cal x.1 y.1 pre3) := Lib.hid (by rw [Sp.D3_snoc, Sp.one_none _ _ _ _ hok, List.append_nil])
          obtain ⟨D, hD⟩ : ∃ D, D = Sp.ofT 0 := ⟨_, rfl⟩
          have HOF : Hid (∀ w, Calls Tryz.prog 13 #[.int .i64 0] w fun e w' => (∃ ok, e = .returned (.tuple #[.agg #[.int .i64 D.year, .int .i64 D.month, .int .i64 D.day, .int .i64 D.hour, .int .i64 D.min, .int .i64 D.sec, .int .i64 D.wday], .bool ok])) ∧ Below w.heap.size w w') := Lib.hid (fun w => of_sec 0 D hD w (by decide))
          clear hD
          have HNO := Lib.hid (fun w => to_noday x.1 y.1 z.1 w hok)
          clear hok
          gi_wp2_with fail
          refine ⟨trivial, (CallsIn.inRound l3 (callsIn_wide.2 (HNO.out _))).mono ?_⟩
          rintro e Wc ⟨rfl, hbc1⟩
          gi_wp2_with fail
          refine ⟨trivial, (CallsIn.inRound l3 (callsIn_wide.2 (HOF.out _))).mono ?_⟩
          rintro e Wd ⟨⟨ok, rfl⟩, hbd1⟩
          have hbcd : Below Wx.heap.size Wx Wd := hbc1.trans (hbd1.mono hbc1.size)
          have hsd := hbcd.size
          have hbf : Below Wx.heap.size Wx (Wd.alloc (.cells #[.int .i64 D.year, .int .i64 D.month, .int .i64 D.day, .int .i64 D.hour, .int .i64 D.min, .int .i64 D.sec, .int .i64 D.wday] 37)) := hbcd.alloc hsd _
          have HBF := Lib.hid hbf
          clear hbc1 hbd1 hbcd hbf
          gi_wp2_with fail
          refine ⟨trivial, ?_⟩
          gi_wp2_with fail
          refine ⟨fun _ h => (by cases h), ?_⟩
          gi_wp2
          obtain ⟨e1, e2, e3⟩ := HFin.out _ (grown_but (grown_of_below HBF.out) (some l))
          exact ⟨e1, e2, by rw [HSN.out]; exact ownFrom_grow hJ HJ4.out HBF.out, e3⟩
        | true =>
          obtain ⟨hrg, hwd⟩ : (0 ≤ Sp.dayOf x.1 y.1 z.1 ∧ Sp.dayOf x.1 y.1 z.1 < 73049) ∧ (Sp.ofT (Sp.dayOf x.1 y.1 z.1 * 86400)).wday = (Sp.dayOf x.1 y.1 z.1 + 5) % 7 + 1 := ⟨Sp.dayOf_range _ _ _ hok, (Sp.wday_of_day _ _ _ hok).2⟩
          have HO := Lib.hid (Sp.one_hit cal x.1 y.1 z.1 hok)
          have HN := Lib.hid (Sp.one_other cal x.1 y.1 z.1)
          have HXT : Hid ((⟨x.1, y.1, z.1, hok⟩ : Sp.DayT).t = Sp.dayOf x.1 y.1 z.1 * 86400) := Lib.hid rfl
          have hto := fun w => to_day x.1 y.1 z.1 w hok
          rw [← hwd] at HO HN
          obtain ⟨t, ht⟩ : ∃ t, t = Sp.dayOf x.1 y.1 z.1 * 86400 := ⟨_, rfl⟩
          have htr : 0 ≤ t ∧ t < 6311433600 := by omega
          rw [← ht] at HXT HO HN
          simp only [← ht] at hto
          clear hwd hrg
          obtain ⟨D, hD⟩ : ∃ D, D = Sp.ofT t := ⟨_, rfl⟩
          rw [← hD] at HO HN
          have HTO := Lib.hid hto
          have HOF : Hid (∀ w, Calls Tryz.prog 13 #[.int .i64 t] w fun e w' => (∃ ok, e = .returned (.tuple #[.agg #[.int .i64 D.year, .int .i64 D.month, .int .i64 D.day, .int .i64 D.hour, .int .i64 D.min, .int .i64 D.sec, .int .i64 D.wday], .bool ok])) ∧ Below w.heap.size w w') := Lib.hid (fun w => of_sec t D hD w (by omega))
          clear hto hD ht htr
          gi_wp2_with fail
          refine ⟨trivial, (CallsIn.inRound l3 (callsIn_wide.2 (HTO.out _))).mono ?_⟩
          rintro e Wc ⟨rfl, hbc1⟩
          gi_wp2_with fail
          refine ⟨trivial, (CallsIn.inRound l3 (callsIn_wide.2 (HOF.out _))).mono ?_⟩
          rintro e Wd ⟨⟨ok, rfl⟩, hbd1⟩
          have hbcd : Below Wx.heap.size Wx Wd := hbc1.trans (hbd1.mono hbc1.size)
          have hsd := hbcd.size
          have hbf : Below Wx.heap.size Wx (Wd.alloc (.cells #[.int .i64 D.year, .int .i64 D.month, .int .i64 D.day, .int .i64 D.hour, .int .i64 D.min, .int .i64 D.sec, .int .i64 D.wday] 37)) := hbcd.alloc hsd _
          have k0 : (Wd.alloc (.cells #[.int .i64 D.year, .int .i64 D.month, .int .i64 D.day, .int .i64 D.hour, .int .i64 D.min, .int .i64 D.sec, .int .i64 D.wday] 37)).cell? ⟨bc, 0, none⟩ = some (.slice dA dn dc) := (HCx.out.on hbf hbcx).c0
          have k1 : (Wd.alloc (.cells #[.int .i64 D.year, .int .i64 D.month, .int .i64 D.day, .int .i64 D.hour, .int .i64 D.min, .int .i64 D.sec, .int .i64 D.wday] 37)).cell? ⟨bc, 1, none⟩ = some (.slice A0 n0 c0) := (HCx.out.on hbf hbcx).c1
          have k2 : (Wd.alloc (.cells #[.int .i64 D.year, .int .i64 D.month, .int .i64 D.day, .int .i64 D.hour, .int .i64 D.min, .int .i64 D.sec, .int .i64 D.wday] 37)).cell? ⟨bc, 2, none⟩ = some (.slice A1 n1 c1) := (HCx.out.on hbf hbcx).c2
          have k3 : (Wd.alloc (.cells #[.int .i64 D.year, .int .i64 D.month, .int .i64 D.day, .int .i64 D.hour, .int .i64 D.min, .int .i64 D.sec, .int .i64 D.wday] 37)).cell? ⟨bc, 3, none⟩ = some (.slice A2 n2 c2) := (HCx.out.on hbf hbcx).c3
          have k4 : (Wd.alloc (.cells #[.int .i64 D.year, .int .i64 D.month, .int .i64 D.day, .int .i64 D.hour, .int .i64 D.min, .int .i64 D.sec, .int .i64 D.wday] 37)).cell? ⟨bc, 4, none⟩ = some (.slice A3 n3 c3) := (HCx.out.on hbf hbcx).c4
          have k5 : (Wd.alloc (.cells #[.int .i64 D.year, .int .i64 D.month, .int .i64 D.day, .int .i64 D.hour, .int .i64 D.min, .int .i64 D.sec, .int .i64 D.wday] 37)).cell? ⟨bc, 5, none⟩ = some (.slice A4 n4 c4) := (HCx.out.on hbf hbcx).c5
          have k6 : (Wd.alloc (.cells #[.int .i64 D.year, .int .i64 D.month, .int .i64 D.day, .int .i64 D.hour, .int .i64 D.min, .int .i64 D.sec, .int .i64 D.wday] 37)).cell? ⟨bc, 6, none⟩ = some (.slice A5 n5 c5) := (HCx.out.on hbf hbcx).c6
          have kd6 : (Wd.alloc (.cells #[.int .i64 D.year, .int .i64 D.month, .int .i64 D.day, .int .i64 D.hour, .int .i64 D.min, .int .i64 D.sec, .int .i64 D.wday] 37)).cell? ⟨Wd.heap.size, 6, none⟩ = some (.int .i64 D.wday) := by simp
          have kv : (Wd.alloc (.cells #[.int .i64 D.year, .int .i64 D.month, .int .i64 D.day, .int .i64 D.hour, .int .i64 D.min, .int .i64 D.sec, .int .i64 D.wday] 37)).cell? ⟨W.heap.size, 0, none⟩ = some (.func (.yield l) #[] #[]) := (hbf.cell (p := ⟨W.heap.size, 0, none⟩) hSx).trans cV
          have HGf := Lib.hid (HGx.out.on hbf)
          have HBF := Lib.hid hbf
          clear hbc1 hbd1 hbcd hbf
          cases hw : Sp.wdayB cal.days D.wday with
          | false =>
            have HSN : Hid (Sp.D3 cal x.1 y.1 (pre3 ++ [z]) = Sp.D3 cal x.1 y.1 pre3) := Lib.hid (by rw [Sp.D3_snoc, HN.out hw, List.append_nil])
            have HW := Lib.hid (wday_any ⟨⟨dA, dn, dc⟩, ⟨A0, n0, c0⟩, ⟨A1, n1, c1⟩, ⟨A2, n2, c2⟩, ⟨A3, n3, c3⟩, ⟨A4, n4, c4⟩, ⟨A5, n5, c5⟩, cal⟩ D.wday _ HGf.out)
            simp only [calV, slV, hw] at HW
            gi_wp2_with fail
            refine ⟨trivial, (CallsIn.inRound l3 (callsIn_wide.2 HW.out)).mono ?_⟩
            rintro e We ⟨rfl, hbe⟩
            have HBE := Lib.hid (HBF.out.trans (hbe.mono HBF.out.size))
            clear hbe
            gi_wp2_with fail
            refine ⟨fun _ h => (by cases h), ?_⟩
            gi_wp2
            obtain ⟨e1, e2, e3⟩ := HFin.out _ (grown_but (grown_of_below HBE.out) (some l))
            exact ⟨e1, e2, by rw [HSN.out]; exact ownFrom_grow hJ HJ4.out HBE.out, e3⟩
          | true =>
            have HSN : Hid (Sp.D3 cal x.1 y.1 (pre3 ++ [z]) = Sp.D3 cal x.1 y.1 pre3 ++ [⟨x.1, y.1, z.1, hok⟩]) := Lib.hid (by rw [Sp.D3_snoc, HO.out hw])
            have HW := Lib.hid (wday_any ⟨⟨dA, dn, dc⟩, ⟨A0, n0, c0⟩, ⟨A1, n1, c1⟩, ⟨A2, n2, c2⟩, ⟨A3, n3, c3⟩, ⟨A4, n4, c4⟩, ⟨A5, n5, c5⟩, cal⟩ D.wday _ HGf.out)
            simp only [calV, slV, hw] at HW
            gi_wp2_with fail
            refine ⟨trivial, (CallsIn.inRound l3 (callsIn_wide.2 HW.out)).mono ?_⟩
            rintro e We ⟨rfl, hbe⟩
            have kve : We.cell? ⟨W.heap.size, 0, none⟩ = some (.func (.yield l) #[] #[]) := (hbe.cell (p := ⟨W.heap.size, 0, none⟩) (Nat.lt_of_lt_of_le hSx HBF.out.size)).trans kv
            have HBE := Lib.hid (HBF.out.trans (hbe.mono HBF.out.size))
            clear hbe
            have hy0 := HY.out (Sp.D1 cal pre ++ Sp.D2 cal x.1 pre2 ++ Sp.D3 cal x.1 y.1 pre3) ⟨x.1, y.1, z.1, hok⟩ We (ownFrom_grow hJ HJ4.out HBE.out) trivial
            rw [HXT.out] at hy0
            obtain ⟨fn, tmps, assign, body, hy, hR⟩ := hy0
            have HR := Lib.hid hR
            clear hR
            gi_wp2_with fail
            refine (roundIn_any HR.out).mono ?_
            rintro e W3 (⟨rfl, hJ3, hg3⟩ | ⟨rfl, hJx3, hk3⟩)
            · have HJ3 : Hid (J (Sp.D1 cal pre ++ Sp.D2 cal x.1 pre2 ++ Sp.D3 cal x.1 y.1 (pre3 ++ [z])) W3) := Lib.hid (by rw [HSN.out, ← List.append_assoc]; exact hJ3)
              have HG3 := Lib.hid (grown_t (grown_but (grown_of_below HBE.out) (some l)) hg3)
              clear hJ3 hg3
              gi_wp2
              obtain ⟨e1, e2, e3⟩ := HFin.out _ HG3.out
              exact ⟨e1, e2, HJ3.out, e3⟩
            · have HJ3 : Hid (Jx (Sp.D1 cal pre ++ Sp.D2 cal x.1 pre2 ++ Sp.D3 cal x.1 y.1 (pre3 ++ [z])) W3) := Lib.hid (by rw [HSN.out, ← List.append_assoc]; exact hJx3)
              have HG3 := Lib.hid ((KeepsFrom.of_grownBy (B := l + 1) (grown_of_below HBE.out) (fun j e => by cases e)).trans hk3)
              clear hJx3 hk3
              gi_wp2
              obtain ⟨e1, e2, e3⟩ := HFx.out _ HG3.out
              exact ⟨e1, ⟨⟨rfl, _, List.prefix_rfl, HJ3.out⟩, e2⟩, e3⟩
      case done3 =>
        rintro zs Wx rfl ⟨hj, hkk⟩
        gi_wp2
        exact ⟨keepsFrom_up (by omega) (hkf2 Wx hkk), keeps1_after hBb2 hkk (by omega) (by omega), by rw [Sp.D2_snoc, ← List.append_assoc]; exact hj, keeps1_t hkb (keeps1_after hBb2 hkk (by omega) (by omega))⟩
      case stop3 =>
        rintro c pre3 Wx hpre ⟨⟨⟨rfl, q, hq, hjx⟩, hkfa⟩, hkfb⟩
        gi_wp2
        exact ⟨keepsFrom_up (by omega) hkfb, ⟨rfl, q, by rw [Sp.D2_snoc, ← List.append_assoc]; exact hq.trans (Sp.pre_app _ (Sp.D3_pre _ _ _ hpre)), hjx⟩, hkfa⟩
    case done2 =>
      rintro zs Wx rfl ⟨hj, hkk⟩
      gi_wp2
      exact ⟨keepsFrom_up (by omega) (keeps1_from hBa1 hkk (by omega)), keeps1_after hBa1 hkk (by omega) (by omega), by rw [Sp.D1_snoc]; exact hj, keeps1_t hka (keeps1_after hBa1 hkk (by omega) (by omega))⟩
    case stop2 =>
      rintro c pre2 Wx hpre ⟨⟨rfl, q, hq, hjx⟩, hkf⟩
      gi_wp2
      exact ⟨keepsFrom_up (by omega) hkf, rfl, q, by rw [Sp.D1_snoc]; exact hq.trans (Sp.pre_app _ (Sp.D2_pre _ _ hpre)), hjx⟩
  case done =>
    rintro D zs Wx hD rfl ⟨hj, hkk⟩ hK
    gi_wp2
    refine ⟨by simp, .inl ⟨_, _, rfl, run_takeDeferred hK, ?_⟩⟩
    exact ⟨_, results_none rfl _ _ _, ⟨_, rfl⟩, .inl ⟨_, rfl, hJ.putObj _ hj (by omega) hK rfl⟩⟩
  case stop =>
    rintro D c pre Wx hD hpre ⟨rfl, q, hq, hjx⟩ hK
    gi_wp2
    refine ⟨by simp, .inl ⟨_, _, rfl, run_takeDeferred hK, ?_⟩⟩
    exact ⟨_, results_none rfl _ _ _, ⟨_, rfl⟩, .inr ⟨q, hq.trans (Sp.D1_pre _ hpre), hJx.putObj _ hjx (by omega) hK rfl⟩⟩

end Go.Proofs.YtpkpoglmmjaoeaaGreatDoor
