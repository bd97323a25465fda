/-
  A chain of comparisons of two boxes' fields, reckoned by symbols: whatever the frame's width, one closed reckoning.
-/
import Derived.Test.YtkgkipohalekmaaDoorBe
namespace Go.Proofs.YtkgkipohalekmaaDoor
open Go.RowKit
/-- what a temporary holds, as far as is known: a box's address, a field read, a truth value -/
inductive SV where
  | any
  | box (b : Bool) (off : Nat)
  | cel (t : TypeId) (b : Bool) (j : Nat)
  | bl (x : Bool)
/-- what is known beside: where fields lie, what may be read, which fields are equal, what calls answer -/
structure Sy where
  offs : TypeId → Nat → Option Nat
  one : TypeId → Nat → Bool
  E : TypeId → Nat → Option Bool
  CL : Nat → TypeId → Nat → Option Bool
def SV.Is (base : Bool → Nat) (val : TypeId → Bool → Nat → Value) : SV → Value → Prop
  | .any, _ => True
  | .box b off, v => v = .pointer (some ⟨base b, off, none⟩)
  | .cel t b j, v => v = val t b j
  | .bl x, v => v = .bool x
def sval (F : Nat → SV) : Operand → SV
  | .tmp n => F n
  | .const (.bool x) => .bl x
  | _ => .any
def sput (F : Nat → SV) (d : Nat) (v : SV) : Nat → SV := fun i => if d = i then v else F i
def scmp (Y : Sy) (t : TypeId) : SV → SV → Option Bool
  | .cel t1 false j, .cel t2 true k => if t1 = t ∧ t2 = t ∧ j = k then Y.E t j else none
  | _, _ => none
def scall (Y : Sy) (f : Nat) : SV → SV → Option Bool
  | .cel t1 false j, .cel t2 true k => if t1 = t2 ∧ j = k then Y.CL f t1 j else none
  | _, _ => none
def sop (Y : Sy) (F : Nat → SV) (o : Oper) : Option SV :=
  match o.op with
  | .move x => some (sval F x)
  | .assign x => some (sval F x)
  | .pick c x y => match sval F c with
    | .bl true => some (sval F x)
    | .bl false => some (sval F y)
    | _ => none
  | .fieldAddr s x f => match sval F x with
    | .box b off => (Y.offs s f).map fun k => .box b (off + k)
    | _ => none
  | .load t x => match sval F x with
    | .box b off => if Y.one t off = true then some (.cel t b off) else none
    | _ => none
  | .binOp .eql t x y _ => (scmp Y t (sval F x) (sval F y)).map .bl
  | .binOp .neq t x y _ => (scmp Y t (sval F x) (sval F y)).map fun e => .bl (!e)
  | .unOp .not _ x => match sval F x with
    | .bl b => some (.bl (!b))
    | _ => none
  | .call c => match c.callee, c.args.toList with
    | .value (.func f), [x, y] => (scall Y f (sval F x) (sval F y)).map .bl
    | _, _ => none
  | _ => none
def swant (ops : Array Oper) (F : Nat → SV) (o : Oper) : Option Bool :=
  match o.guard with
  | none => some true
  | some (j, want) => match (ops[j]?).bind (·.dst) with
    | some d => match F d with
      | .bl x => some (x == want)
      | _ => none
    | none => none
def srun (Y : Sy) (N : Nat) (ops : Array Oper) : List Oper → (Nat → SV) → Option (Nat → SV)
  | [], F => some F
  | o :: r, F => match o.dst with
    | none => none
    | some d => if d < N then
        match swant ops F o with
        | some true => (sop Y F o).bind fun v => srun Y N ops r (sput F d v)
        | some false => srun Y N ops r (sput F d .any)
        | none => none
      else none
/-- what the reckoning leans on -/
structure Ora (P : Program) (C : World → Prop) (base : Bool → Nat) (val : TypeId → Bool → Nat → Value) (Y : Sy) : Prop where
  fld : ∀ s f k b off w, Y.offs s f = some k → (Instr.fieldAt s (.pointer (some ⟨base b, off, none⟩)) f).run P w = .ok (.pointer (some ⟨base b, off + k, none⟩)) w
  ld : ∀ t b j w, Y.one t j = true → C w → (Instr.loadAt t (.pointer (some ⟨base b, j, none⟩))).run P w = .ok (val t b j) w
  eql : ∀ t j e x y w, Y.E t j = some e → ((do eqGuard .eql t x y (val t false j) (val t true j); binOp .eql t (val t false j) (val t true j) : Sem Value)).run P w = .ok (.bool e) w
  neq : ∀ t j e x y w, Y.E t j = some e → ((do eqGuard .neq t x y (val t false j) (val t true j); binOp .neq t (val t false j) (val t true j) : Sem Value)).run P w = .ok (.bool (!e)) w
  call : ∀ f t j e (a : Act) (o : Oper) (x y : Operand) w, Y.CL f t j = some e → C w → a.eval x = val t false j → a.eval y = val t true j → ∀ c : Call, o.op = .call c → c.callee = .value (.func f) → c.args.toList = [x, y] → o.quietAt P a C w (.bool e)
section
variable {P : Program} {C : World → Prop} {base : Bool → Nat} {val : TypeId → Bool → Nat → Value} {Y : Sy} {N : Nat} {ops : Array Oper}
def Fits (base : Bool → Nat) (val : TypeId → Bool → Nat → Value) (N : Nat) (F : Nat → SV) (a : Act) : Prop := a.tmps.size = N ∧ ∀ i, (F i).Is base val (a.tmps.getD i undef)
theorem sval_is {F : Nat → SV} {a : Act} (h : Fits base val N F a) (x : Operand) : (sval F x).Is base val (a.eval x) := by
  unfold sval
  split
  · exact h.2 _
  · rfl
  · trivial
theorem Fits.put {F : Nat → SV} {a : Act} {d : Nat} {v : SV} {u : Value} (h : Fits base val N F a) (hd : d < N) (hv : v.Is base val u) : Fits base val N (sput F d v) (a.put (some d) u) := by
  refine ⟨by show (a.tmps.setIfInBounds d u).size = N; rw [Array.size_setIfInBounds]; exact h.1, fun i => ?_⟩
  unfold sput
  show SV.Is base val _ ((a.tmps.setIfInBounds d u).getD i undef)
  have hg : (a.tmps.setIfInBounds d u).getD i undef = if d = i then u else a.tmps.getD i undef := by
    rw [Array.getD_eq_getD_getElem?, Array.getD_eq_getD_getElem?, Array.getElem?_setIfInBounds]
    by_cases e : d = i
    · subst e
      rw [if_pos rfl, if_pos rfl, if_pos (by rw [h.1]; exact hd)]
      rfl
    · rw [if_neg e, if_neg e]
  rw [hg]
  by_cases e : d = i
  · rw [if_pos e, if_pos e]
    exact hv
  · rw [if_neg e, if_neg e]
    exact h.2 i
theorem swant_is {F : Nat → SV} {a : Act} {o : Oper} {b : Bool} (h : Fits base val N F a) (hw : swant ops F o = some b) (hN : ∀ (j : Nat) (d : Nat), (ops[j]?).bind (·.dst) = some d → d < N) : Region.wanted o (yielded ops a.tmps) = b := by
  unfold swant at hw
  unfold Region.wanted
  split at hw
  · rename_i hg
    rw [hg]
    injection hw
  · rename_i j want hg
    rw [hg]
    split at hw
    · rename_i d hd
      split at hw
      · rename_i x hx
        have h1 := h.2 d
        rw [hx] at h1
        have h2 : a.tmps[d]? = some (.bool x) := by
          have hlt : d < a.tmps.size := by rw [h.1]; exact hN j d hd
          rw [Array.getElem?_eq_getElem hlt]
          have h3 : a.tmps.getD d undef = a.tmps[d] := by rw [Array.getD_eq_getD_getElem?, Array.getElem?_eq_getElem hlt]; rfl
          rw [h3] at h1
          rw [show a.tmps[d] = Value.bool x from h1]
        have h4 : yielded ops a.tmps j = some x := by
          unfold yielded
          simp only [hd, Option.bind_some, h2]
        show (yielded ops a.tmps j == some want) = b
        rw [h4]
        exact Option.some.inj hw
      · cases hw
    · cases hw
theorem scmp_is {F : Nat → SV} {a : Act} {t : TypeId} {x y : Operand} {e : Bool} (h : Fits base val N F a) (hc : scmp Y t (sval F x) (sval F y) = some e) : ∃ j, Y.E t j = some e ∧ a.eval x = val t false j ∧ a.eval y = val t true j := by
  have hx := sval_is h x
  have hy := sval_is h y
  unfold scmp at hc
  split at hc
  · rename_i t1 j t2 k e1 e2
    split at hc
    · rename_i hh
      obtain ⟨rfl, rfl, rfl⟩ := hh
      rw [e1] at hx
      rw [e2] at hy
      exact ⟨j, hc, hx, hy⟩
    · cases hc
  · cases hc
theorem scall_is {F : Nat → SV} {a : Act} {f : Nat} {x y : Operand} {e : Bool} (h : Fits base val N F a) (hc : scall Y f (sval F x) (sval F y) = some e) : ∃ t j, Y.CL f t j = some e ∧ a.eval x = val t false j ∧ a.eval y = val t true j := by
  have hx := sval_is h x
  have hy := sval_is h y
  unfold scall at hc
  split at hc
  · rename_i t1 j t2 k e1 e2
    split at hc
    · rename_i hh
      obtain ⟨rfl, rfl⟩ := hh
      rw [e1] at hx
      rw [e2] at hy
      exact ⟨t1, j, hc, hx, hy⟩
    · cases hc
  · cases hc
theorem sop_is {F : Nat → SV} {a : Act} {o : Oper} {v : SV} (O : Ora P C base val Y) (h : Fits base val N F a) (hs : sop Y F o = some v) : ∃ u, v.Is base val u ∧ ∀ w, C w → o.quietAt P a C w u := by
  unfold sop at hs
  split at hs
  · rename_i x ho
    injection hs with hs
    subst hs
    exact ⟨_, sval_is h x, fun w _ => by simp [Oper.quietAt, Oper.quietUpon, execOp, ho]⟩
  · rename_i x ho
    injection hs with hs
    subst hs
    exact ⟨_, sval_is h x, fun w _ => by simp [Oper.quietAt, Oper.quietUpon, execOp, ho]⟩
  · rename_i c x y ho
    have hc := sval_is h c
    split at hs
    · rename_i e
      rw [e] at hc
      injection hs with hs
      subst hs
      exact ⟨_, sval_is h x, fun w _ => by simp [Oper.quietAt, Oper.quietUpon, execOp, ho, show a.eval c = .bool true from hc, asBool]⟩
    · rename_i e
      rw [e] at hc
      injection hs with hs
      subst hs
      exact ⟨_, sval_is h y, fun w _ => by simp [Oper.quietAt, Oper.quietUpon, execOp, ho, show a.eval c = .bool false from hc, asBool]⟩
    · cases hs
  · rename_i s x f ho
    have hx := sval_is h x
    split at hs
    · rename_i b off e
      rw [e] at hx
      cases hk : Y.offs s f with
      | none => rw [hk] at hs; cases hs
      | some k =>
        rw [hk] at hs
        injection hs with hs
        subst hs
        exact ⟨_, rfl, fun w _ => by simp [Oper.quietAt, Oper.quietUpon, execOp, ho, show a.eval x = _ from hx, O.fld s f k b off w hk]⟩
    · cases hs
  · rename_i t x ho
    have hx := sval_is h x
    split at hs
    · rename_i b off e
      rw [e] at hx
      split at hs
      · rename_i hone
        injection hs with hs
        subst hs
        exact ⟨_, rfl, fun w hw => by simp [Oper.quietAt, Oper.quietUpon, execOp, ho, show a.eval x = _ from hx, O.ld t b off w hone hw]⟩
      · cases hs
    · cases hs
  · rename_i t x y t2 ho
    cases hc : scmp Y t (sval F x) (sval F y) with
    | none => rw [hc] at hs; cases hs
    | some e =>
      rw [hc] at hs
      injection hs with hs
      subst hs
      obtain ⟨j, h1, h2, h3⟩ := scmp_is h hc
      refine ⟨.bool e, rfl, fun w _ => ?_⟩
      have h4 := O.eql t j e x y w h1
      unfold Oper.quietAt execOp
      simp only [ho, h2, h3]
      rw [Sem.run_bind, h4]
      exact ⟨rfl, rfl⟩
  · rename_i t x y t2 ho
    cases hc : scmp Y t (sval F x) (sval F y) with
    | none => rw [hc] at hs; cases hs
    | some e =>
      rw [hc] at hs
      injection hs with hs
      subst hs
      obtain ⟨j, h1, h2, h3⟩ := scmp_is h hc
      refine ⟨.bool (!e), rfl, fun w _ => ?_⟩
      have h4 := O.neq t j e x y w h1
      unfold Oper.quietAt execOp
      simp only [ho, h2, h3]
      rw [Sem.run_bind, h4]
      exact ⟨rfl, rfl⟩
  · rename_i t x ho
    have hx := sval_is h x
    split at hs
    · rename_i b e
      rw [e] at hx
      injection hs with hs
      subst hs
      exact ⟨.bool (!b), rfl, fun w _ => by simp [Oper.quietAt, Oper.quietUpon, execOp, ho, show a.eval x = .bool b from hx, Op.unary]⟩
    · cases hs
  · rename_i c ho
    split at hs
    · rename_i f x y e1 e2
      cases hc : scall Y f (sval F x) (sval F y) with
      | none => rw [hc] at hs; cases hs
      | some e =>
        rw [hc] at hs
        injection hs with hs
        subst hs
        obtain ⟨t, j, h1, h2, h3⟩ := scall_is h hc
        exact ⟨.bool e, rfl, fun w hw => O.call f t j e a o x y w h1 hw h2 h3 c ho e1 e2⟩
    · cases hs
  · cases hs
theorem srun_is (O : Ora P C base val Y) (hN : ∀ (j : Nat) (d : Nat), (ops[j]?).bind (·.dst) = some d → d < N) {K : Act → Prop} : ∀ (l : List Oper) (F F' : Nat → SV) (a : Act), srun Y N ops l F = some F' → Fits base val N F a → (∀ a', a'.defers = a.defers → Fits base val N F' a' → K a') → wpQuiet P ops C K l a
  | [], F, F', a, hs, hf, hk => by
    unfold srun at hs
    injection hs with hs
    subst hs
    exact hk a rfl hf
  | o :: r, F, F', a, hs, hf, hk => by
    unfold srun at hs
    split at hs
    · cases hs
    · rename_i d hd
      split at hs
      · rename_i hdN
        unfold wpQuiet
        split at hs
        · rename_i hw
          rw [if_pos (swant_is hf hw hN)]
          cases hv : sop Y F o with
          | none => rw [hv] at hs; cases hs
          | some v =>
            rw [hv] at hs
            obtain ⟨u, h1, h2⟩ := sop_is O hf hv
            refine ⟨u, h2, srun_is O hN r _ F' _ hs (by rw [hd]; exact hf.put hdN h1) (fun a' e => hk a' (by rw [e, hd]; rfl))⟩
        · rename_i hw
          rw [if_neg (by rw [swant_is hf hw hN]; decide)]
          exact srun_is O hN r _ F' _ hs (by rw [hd]; exact hf.put hdN trivial) (fun a' e => hk a' (by rw [e, hd]; rfl))
        · cases hs
      · cases hs
/-- a plain region, by a walk that asks no world -/
theorem wp_plain_quiet {id : Nat} {Q : Exit → Act → World → Prop} {a : Act} {w : World} {l : List Oper} (hw : C w) (h : wpQuiet P l.toArray C (fun a' => ∀ w', C w' → Q .normal a' w') l a) : (Code.region id l.toArray false).wp P Q a w := by
  refine wp_region_lit ?_
  have key : ∀ (m : List Oper) (a : Act) (w : World), C w → wpQuiet P l.toArray C (fun a' => ∀ w', C w' → Q .normal a' w') m a → wpList P l.toArray Q m a w := by
    intro m
    induction m with
    | nil => exact fun a w hw h => h w hw
    | cons o r ih =>
      intro a w hw h
      unfold wpQuiet at h
      unfold wpList
      split at h
      · rename_i hwn
        rw [if_pos hwn]
        obtain ⟨v, h1, h2⟩ := h
        refine .inl ?_
        have h3 := h1 w hw
        unfold Oper.quietAt at h3
        unfold Oper.wp
        cases hr : (execOp a.eval o).run P w with
        | ok n w' =>
          rw [hr] at h3
          match n, h3 with
          | .value u, h3 =>
            obtain ⟨rfl, rfl⟩ := h3
            exact ih _ _ hw h2
          | .skip, h3 =>
            obtain ⟨rfl, rfl⟩ := h3
            exact ih _ _ hw h2
          | .enter f args, h3 =>
            obtain ⟨rfl, h4⟩ := h3
            exact h4.mono fun e w'' ⟨he, hc⟩ => by
              subst he
              exact ih _ _ hc h2
        | halt _ _ => rw [hr] at h3; exact h3.elim
      · rename_i hwn
        rw [if_neg hwn]
        exact ih _ w hw h
  exact key l a w hw h
end

end Go.Proofs.YtkgkipohalekmaaDoor
