/-
  A loop over an iterator whose rounds turn nothing but the loop's own record.
-/
import Derived.Test.YtpkpoglmmjaoeaaGreatDoorDa
namespace Go.Proofs.YtpkpoglmmjaoeaaGreatDoor
open Go.RowKit Go.Shelf

theorem yieldAt_wide {n m : Nat} {P : Program} {l : Nat} {args : Array Value} {W : World} {R : Ending → World → Prop} (h : YieldAt Fence.wide n P l args W R) : YieldAt Fence.wide m P l args W R := by
  obtain ⟨fn, tmps, assign, body, hy, hf, hr⟩ := h
  exact ⟨fn, tmps, assign, body, hy, hf, fun c cs _ => hr c cs (room_wide _)⟩
theorem grown_t {A B C : World} {row : Option Nat} (h : A.grownBy B row) (k : B.grownBy C row) : A.grownBy C row := h.trans k
theorem keepsFrom_up {B B' : Nat} {X Y : World} (hB : B ≤ B') (h : KeepsFrom B X Y) : KeepsFrom B' X Y := ⟨h.size, fun k o hk => h.same k o (by omega)⟩
theorem keepsFrom_turn {l : Nat} {X Y : World} (h : X.grownBy Y (some l)) : KeepsFrom (l + 1) X Y := KeepsFrom.of_grownBy h (fun j e => by cases e; omega)
theorem ownFrom_up {β : Type} {B B' : Nat} {I : β → World → Prop} (hB : B ≤ B') (h : OwnFrom B I) : OwnFrom B' I := fun s X Y row hs hg hr => h s X Y row hs hg (fun r e => ⟨Nat.le_trans hB (hr r e).1, (hr r e).2⟩)
/-- an iterator whose own turns are Ab, between rounds that keep Kb of the loop's record -/
def SeqGen {α : Type} (n : Nat) (P : Program) (gf : Nat) (lb : Array Value) (encs : α → Array Value) (S Sx : List α → Prop) (Kn : List α → α → Prop) (Ab : World → World → Prop) (Kb : Nat → World → World → Prop) (w : World) : Prop :=
  ∀ (l : Nat) (J Jx : List α → World → Prop) (W : World), w.heap.size ≤ l → l < W.heap.size → Below w.heap.size w W → OwnFrom W.heap.size J → (∀ s X Y, J s X → Ab X Y → J s Y) → OwnFrom W.heap.size Jx →
    (∀ pre x W1, J pre W1 → Kn pre x → YieldAt Fence.wide (n - 1) P l (encs x) W1 fun e W' => (e = .returned (.bool true) ∧ J (pre ++ [x]) W' ∧ Kb l W1 W') ∨ (e = .returned (.bool false) ∧ Jx (pre ++ [x]) W' ∧ KeepsFrom (l + 1) W1 W')) →
    J [] W → CallsIn Fence.wide n P gf (#[.func (.yield l) #[] #[]] ++ lb) W fun e W' => (∃ v, e = .returned v) ∧ ((∃ xs, S xs ∧ J xs W') ∨ (∃ pre, Sx pre ∧ Jx pre W'))
/-- how a round's body is left -/
def turnPost {α : Type} (B : Nat) (Kb : Nat → World → World → Prop) (I : List α → World → Prop) (Ix : Code → List α → World → Prop) (xs : List α) (W : World) : Exit → Act → World → Prop
  | .normal, _, W' => KeepsFrom B W W' ∧ Kb (B + 1) W W' ∧ I xs W'
  | .ret, _, W' => KeepsFrom B W W' ∧ Ix .ret xs W'
  | .exit id, _, W' => KeepsFrom B W W' ∧ Ix (.exit id) xs W'
  | .goto t, _, W' => KeepsFrom B W W' ∧ Ix (.goto t) xs W'
  | .panic _, _, _ => False
  | .outgrown, _, _ => False
theorem range_gen {α : Type} {P : Program} {n : Nat} {g : Operand} {ps : Array Tmp} {assign body : Code} {Q : Exit → Act → World → Prop} {a : Act} {w : World}
    (h1 : 1 ≤ n) {gf : Nat} {lb : Array Value} (hg : a.eval g = .func (.func gf) #[] lb) (eg : ∀ args w, (callFunc gf args).run P w = .ok (.enter gf args) w)
    {encs : α → Array Value} {S Sx : List α → Prop} {Kn : List α → α → Prop} {Ab : World → World → Prop} {Kb : Nat → World → World → Prop} (hseq : SeqGen (n - 1) P gf lb encs S Sx Kn Ab Kb w) (hKt : ∀ {A B C : World}, Kb (w.heap.size + 1) A B → Kb (w.heap.size + 1) B C → Kb (w.heap.size + 1) A C) (hKl : ∀ (W : World) (o : Obj), Kb (w.heap.size + 1) W (W.putObj (w.heap.size + 1) o)) (hAr : ∀ X Y k, Ab X Y → w.heap.size ≤ k → Y.heap[k]? = X.heap[k]?) (hps : ∀ x, (encs x).size = ps.size)
    (I : List α → World → Prop) (Ix : Code → List α → World → Prop) (hI : OwnFrom w.heap.size I) (hIx : ∀ c, OwnFrom w.heap.size (Ix c)) (h0 : I [] w) (hAi : ∀ s X Y, I s X → Ab X Y → I s Y) (a₁ : α → Act)
    (hassign : ∀ (x : α) (W : World) (K : Act → World → Prop), K (a₁ x) W →
      assign.wpIn (Fence.wide.inRound (w.heap.size + 1)) (n - 1 - 1) P (Exit.then K (fun _ _ _ => False)) { tmps := (ps.zip (encs x)).foldl (fun t (p, v) => t.setIfInBounds p v) a.tmps, defers := [] } W)
    (hbody : ∀ (pre : List α) (x : α) (W : World), Kn pre x → I pre W → body.wpIn (Fence.wide.inRound (w.heap.size + 1)) (n - 1 - 1) P (turnPost w.heap.size Kb I Ix (pre ++ [x]) W) (a₁ x) W)
    (hdone : ∀ (xs : List α) (W : World), S xs → I xs W → W.heap[w.heap.size]? = some (.deferred (some [])) → Q .normal { a with defers := { target := .collected w.heap.size, args := #[] } :: a.defers } W)
    (hstop : ∀ (c : Code) (pre : List α) (W : World), Sx pre → Ix c pre W → W.heap[w.heap.size]? = some (.deferred (some [])) → c.wpIn Fence.wide n P Q { a with defers := { target := .collected w.heap.size, args := #[] } :: a.defers } W) :
    (Code.rangeFunc g ps assign body).wpIn Fence.wide n P Q a w := by
  refine wpIn_rangeFunc fun fn _ => ?_
  obtain ⟨B, hB⟩ : ∃ B, B = w.heap.size := ⟨_, rfl⟩
  obtain ⟨rec, hrec⟩ : ∃ rec : LoopState → Option Code → Loop, rec = fun st pe => { state := st, pending := pe, fn, tmps := a.tmps, params := ps, assign, body, defers := w.heap.size } := ⟨_, rfl⟩
  have hent : (Instr.enterLoop fn a.tmps ps assign body Fence.wide.round).run P w = .ok (w.heap.size + 1, [{ target := .collected w.heap.size, args := #[] }]) ((w.alloc (.deferred (some []))).alloc (.loop (rec .ready none))) := by
    rw [hrec]; exact run_enterLoop_outer fn a.tmps ps assign body
  have hz : ((w.alloc (.deferred (some []))).alloc (.loop (rec .ready none))).heap.size = w.heap.size + 2 := by simp
  have hl0 : ((w.alloc (.deferred (some []))).alloc (.loop (rec .ready none))).heap[w.heap.size + 1]? = some (.loop (rec .ready none)) := by
    have := World.alloc_heap_new (w.alloc (.deferred (some []))) (.loop (rec .ready none))
    rwa [World.size_alloc] at this
  have hd0 : ((w.alloc (.deferred (some []))).alloc (.loop (rec .ready none))).heap[w.heap.size]? = some (.deferred (some [])) :=
    (Below.heap_alloc _ _ _ (by simp)).trans (World.alloc_heap_new w _)
  have hi0 : I [] ((w.alloc (.deferred (some []))).alloc (.loop (rec .ready none))) := hI.alloc _ (hI.alloc _ h0)
  have hbw : Below w.heap.size w ((w.alloc (.deferred (some []))).alloc (.loop (rec .ready none))) := ((Below.refl _ w).alloc (Nat.le_refl _) _).alloc (by simp) _
  generalize (w.alloc (.deferred (some []))).alloc (.loop (rec .ready none)) = W1 at *
  have hown : ∀ (k : Nat) (o : Obj), k < W1.heap.size → OwnFrom W1.heap.size (fun (_ : List α) W => W.heap[k]? = some o) := fun k o hk _ X Y row hs hg' hr =>
    (hg'.block k (Array.getElem?_eq_some_iff.1 hs).1 (fun e => by have := (hr k e.symm).1; omega)).trans hs
  have hup : w.heap.size ≤ W1.heap.size := by omega
  refine ⟨w.heap.size + 1, _, W1, { target := .fn (.func gf) lb, args := #[.func (.yield (w.heap.size + 1)) #[] #[]] }, W1, gf, #[.func (.yield (w.heap.size + 1)) #[] #[]] ++ lb, W1, hent, ?_, fun _ _ => trivial, ?_, fun _ => h1, ?_⟩
  · simp only [resolve, hg]
    simp [go_sem]
  · simp [invoke, go_sem, eg]
  refine (hseq (w.heap.size + 1)
    (fun pre W => I pre W ∧ (W.heap[w.heap.size + 1]? = some (.loop (rec .ready none)) ∧ W.heap[w.heap.size]? = some (.deferred (some []))))
    (fun pre W => ∃ c, Ix c pre W ∧ (W.heap[w.heap.size + 1]? = some (.loop (rec .done (some c))) ∧ W.heap[w.heap.size]? = some (.deferred (some []))))
    W1 (by omega) (by omega) hbw
    (OwnFrom.and (ownFrom_up hup hI) (OwnFrom.and (hown _ _ (by omega)) (hown _ _ (by omega))))
    (fun s X Y hs ha => ⟨hAi s X Y hs.1 ha, (hAr X Y _ ha (by omega)).trans hs.2.1, (hAr X Y _ ha (Nat.le_refl _)).trans hs.2.2⟩)
    (fun pre X Y row hs hg' hr => by
      obtain ⟨c, hc, hk⟩ := hs
      exact ⟨c, ownFrom_up hup (hIx c) pre X Y row hc hg' hr, OwnFrom.and (hown _ _ (by omega)) (hown _ _ (by omega)) pre X Y row hk hg' hr⟩)
    ?_ ⟨hi0, hl0, hd0⟩).mono ?_
  · rintro pre x W ⟨hi, hl, hd⟩ hkn
    have hlt : w.heap.size + 1 < W.heap.size := (Array.getElem?_eq_some_iff.1 hl).1
    have hy := run_yield (P := P) (args := encs x) hl (by rw [hrec]; exact hps x)
    rw [hrec] at hy
    refine ⟨fn, _, assign, body, hy, roundIn_of_wpIn trivial (hassign x W _ ⟨_, run_beginRound hl (by rw [hrec]), ?_⟩)⟩
    clear hy
    have g2 : W.grownBy (W.putObj (w.heap.size + 1) (.loop { rec .ready none with state := .busy })) (some (w.heap.size + 1)) := grownBy_putObj' _ _ _
    have k2 : Kb (w.heap.size + 1) W (W.putObj (w.heap.size + 1) (.loop { rec .ready none with state := .busy })) := hKl _ _
    have hl2 : (W.putObj (w.heap.size + 1) (.loop { rec .ready none with state := .busy })).heap[w.heap.size + 1]? = some (.loop { rec .ready none with state := .busy }) := World.putObj_heap_same hlt
    have hd2 : (W.putObj (w.heap.size + 1) (.loop { rec .ready none with state := .busy })).heap[w.heap.size]? = some (.deferred (some [])) := (World.putObj_heap_other (by omega)).trans hd
    have hi2 : I pre (W.putObj (w.heap.size + 1) (.loop { rec .ready none with state := .busy })) := hI.putObj _ hi (by omega) hl rfl
    generalize W.putObj (w.heap.size + 1) (.loop { rec .ready none with state := .busy }) = W2 at *
    refine wpIn_mono (hbody pre x W2 hkn hi2) ?_
    have fin : ∀ (jump : Option Code) (W3 : World), KeepsFrom w.heap.size W2 W3 → ∃ W4, (Instr.endRound (w.heap.size + 1) jump).run P W3 = .ok (.bool jump.isNone) W4 ∧
        W4 = W3.putObj (w.heap.size + 1) (.loop (rec (if jump.isNone then .ready else .done) jump)) ∧ (W3.grownBy W4 (some (w.heap.size + 1)) ∧ Kb (w.heap.size + 1) W3 W4) ∧ W3.heap[w.heap.size + 1]? = some (.loop { rec .ready none with state := .busy }) ∧
        (W4.heap[w.heap.size + 1]? = some (.loop (rec (if jump.isNone then .ready else .done) jump)) ∧ W4.heap[w.heap.size]? = some (.deferred (some []))) := fun jump W3 hk => by
      have hl3 := hk.same _ _ (by omega) hl2 rfl
      have he := run_endRound (P := P) jump hl3
      refine ⟨_, ?_, rfl, ⟨grownBy_putObj' _ _ _, hKl _ _⟩, hl3, World.putObj_heap_same (Array.getElem?_eq_some_iff.1 hl3).1, (World.putObj_heap_other (by omega)).trans (hk.same _ _ (Nat.le_refl _) hd2 rfl)⟩
      rw [hrec] at he ⊢
      exact he
    have leave : ∀ (c : Code) (W3 : World), KeepsFrom w.heap.size W2 W3 → Ix c (pre ++ [x]) W3 → ∃ v w', (Instr.endRound (w.heap.size + 1) (some c)).run P W3 = .ok v w' ∧
        ((Ending.returned v = .returned (.bool true) ∧ (I (pre ++ [x]) w' ∧ (w'.heap[w.heap.size + 1]? = some (.loop (rec .ready none)) ∧ w'.heap[w.heap.size]? = some (.deferred (some [])))) ∧ Kb (w.heap.size + 1) W w') ∨
        (Ending.returned v = .returned (.bool false) ∧ (∃ c, Ix c (pre ++ [x]) w' ∧ (w'.heap[w.heap.size + 1]? = some (.loop (rec .done (some c))) ∧ w'.heap[w.heap.size]? = some (.deferred (some [])))) ∧ KeepsFrom (w.heap.size + 1 + 1) W w')) := fun c W3 hk hx => by
      obtain ⟨W4, he, e4, g4, hl3, hl4⟩ := fin (some c) W3 hk
      refine ⟨_, W4, he, .inr ⟨rfl, ⟨c, ?_, hl4⟩, (keepsFrom_turn g2).trans ((keepsFrom_up (by omega) hk).trans (keepsFrom_turn g4.1))⟩⟩
      rw [e4]
      exact (hIx c).putObj _ hx (by omega) hl3 rfl
    rintro e a3 W3 hp
    cases e with
    | normal =>
      obtain ⟨hf3, hk3, hi3⟩ := hp
      obtain ⟨W4, he, e4, g4, hl3, hl4⟩ := fin none W3 hf3
      refine ⟨_, W4, he, .inl ⟨rfl, ⟨?_, hl4⟩, hKt (hKt k2 hk3) g4.2⟩⟩
      rw [e4]
      exact hI.putObj _ hi3 (by omega) hl3 rfl
    | ret => exact leave .ret W3 hp.1 hp.2
    | exit id => exact leave (.exit id) W3 hp.1 hp.2
    | goto t => exact leave (.goto t) W3 hp.1 hp.2
    | panic ch => exact hp.elim
    | outgrown => exact hp.elim
  · rintro e W2 ⟨⟨v, rfl⟩, (⟨xs, hS, hi, hl, hk⟩ | ⟨pre, hSx, c, hi, hl, hk⟩)⟩
    · refine ⟨none, W2.putObj (w.heap.size + 1) (.loop { rec .ready none with state := .exhausted }), ?_, ?_⟩
      · have := run_endLoop (P := P) hl (by rw [hrec]; simp)
        rw [hrec] at this ⊢
        exact this
      · exact hdone xs _ hS (hI.putObj _ hi (by omega) hl rfl) ((World.putObj_heap_other (by omega)).trans hk)
    · refine ⟨some c, W2.putObj (w.heap.size + 1) (.loop { rec .done (some c) with state := .exhausted }), ?_, ?_⟩
      · have := run_endLoop (P := P) hl (by rw [hrec]; simp)
        rw [hrec] at this ⊢
        exact this
      · exact hstop c pre _ hSx ((hIx c).putObj _ hi (by omega) hl rfl) ((World.putObj_heap_other (by omega)).trans hk)

end Go.Proofs.YtpkpoglmmjaoeaaGreatDoor
