/-
  A region that draws its order, by what each operation leaves: one goal an operation, whatever the order.
-/
import Derived.Deep.RegionHeld3
namespace Go.Proofs.YtopmdffiikajnaaGreatDoor
section
variable {P : Program} {Q : Exit → Act → World → Prop}
def updB (D : Nat → Bool) (k : Nat) : Nat → Bool := fun i => if i = k then true else D i
def updV (x : Nat → Value) (k : Nat) (v : Value) : Nat → Value := fun i => if i = k then v else x i
/-- the frame in which each operation's temporary holds its value -/
def fillO : List Oper → Nat → (Nat → Value) → Act → Act
  | [], _, _, a => a
  | o :: r, k, x, a => fillO r (k + 1) x (a.put o.dst (x k))
def dstsO (l : List Oper) : List Nat := l.filterMap (·.dst)
def distO : List Nat → Bool
  | [] => true
  | d :: r => !r.contains d && distO r
theorem fill_put (v : Value) : ∀ (l : List Oper) (k : Nat) (x : Nat → Value) (a : Act) (d : Option Nat), (∀ e, d = some e → (dstsO l).contains e = false) → (fillO l k x a).put d v = fillO l k x (a.put d v)
  | [], _, _, _, _, _ => rfl
  | o :: r, k, x, a, d, h => by
    unfold fillO
    have h1 : ∀ e, d = some e → (dstsO r).contains e = false := fun e he => by
      have h2 := h e he
      unfold dstsO at h2 ⊢
      rw [List.filterMap_cons] at h2
      split at h2
      · exact h2
      · rw [List.contains_cons, Bool.or_eq_false_iff] at h2; exact h2.2
    rw [fill_put v r (k + 1) x _ d h1]
    congr 1
    refine Act.put_comm a (x k) v (fun e he hd => ?_)
    have h2 := h e hd
    unfold dstsO at h2
    rw [List.filterMap_cons, he] at h2
    simp at h2
theorem fill_same : ∀ (l : List Oper) (k : Nat) (x y : Nat → Value) (a : Act), (∀ i, k ≤ i → x i = y i) → fillO l k x a = fillO l k y a
  | [], _, _, _, _, _ => rfl
  | o :: r, k, x, y, a, h => by
    unfold fillO
    rw [h k (Nat.le_refl _)]
    exact fill_same r (k + 1) x y _ (fun i hi => h i (by omega))
theorem put_put (a : Act) (d : Option Nat) (u v : Value) : (a.put d u).put d v = a.put d v := by
  cases d with
  | none => rfl
  | some d => simp [Act.put]
theorem fill_upd (v : Value) : ∀ (l : List Oper) (k : Nat) (x : Nat → Value) (a : Act) (j : Nat) (o : Oper), distO (dstsO l) = true → l[j]? = some o → (fillO l k x a).put o.dst v = fillO l k (updV x (k + j) v) a
  | [], _, _, _, _, _, _, h => by cases h
  | o :: r, k, x, a, 0, o', hd, h => by
    obtain rfl : o = o' := by simpa using h
    unfold fillO
    have h1 : ∀ e, o.dst = some e → (dstsO r).contains e = false := fun e he => by
      unfold dstsO at hd ⊢
      rw [List.filterMap_cons, he] at hd
      simp only [distO, Bool.and_eq_true, Bool.not_eq_true'] at hd
      exact hd.1
    rw [fill_put v r (k + 1) x _ _ h1, put_put]
    rw [fill_same r (k + 1) x (updV x (k + 0) v) _ (fun i hi => by unfold updV; rw [if_neg (by omega)])]
    congr 2
    unfold updV
    rw [if_pos (by omega)]
  | o :: r, k, x, a, j + 1, o', hd, h => by
    unfold fillO
    have h1 : distO (dstsO r) = true := by
      unfold dstsO at hd ⊢
      rw [List.filterMap_cons] at hd
      split at hd
      · exact hd
      · simp only [distO, Bool.and_eq_true] at hd; exact hd.2
    rw [fill_upd v r (k + 1) x _ j o' h1 (by simpa using h)]
    have e : k + 1 + j = k + (j + 1) := by omega
    rw [e]
    congr 2
    unfold updV
    rw [if_neg (by omega)]
theorem put_self (a : Act) (d : Option Nat) : a.put d ((d.bind (a.tmps[·]?)).getD undef) = a := by
  cases d with
  | none => rfl
  | some d =>
    unfold Act.put
    show ({ a with tmps := a.tmps.setIfInBounds d ((a.tmps[d]?).getD undef) } : Act) = a
    rcases Nat.lt_or_ge d a.tmps.size with h | h
    · have e : a.tmps.setIfInBounds d ((a.tmps[d]?).getD undef) = a.tmps := by
        rw [Array.getElem?_eq_getElem h, Option.getD_some]
        apply Array.ext_getElem?
        intro i
        rw [Array.getElem?_setIfInBounds]
        split
        · rename_i he; subst he; rw [Array.getElem?_eq_getElem h]
        · rfl
      rw [e]
    · rw [Array.setIfInBounds_eq_of_size_le h]
def oldV (l : List Oper) (a : Act) (k i : Nat) : Value := (((l[i - k]?).bind (·.dst)).bind (a.tmps[·]?)).getD undef
theorem fill_old (a : Act) : ∀ (l : List Oper) (k : Nat), fillO l k (oldV l a k) a = a
  | [], _ => rfl
  | o :: r, k => by
    unfold fillO
    have e : oldV (o :: r) a k k = (o.dst.bind (a.tmps[·]?)).getD undef := by unfold oldV; simp
    rw [e, put_self]
    rw [fill_same r (k + 1) (oldV (o :: r) a k) (oldV r a (k + 1)) a (fun i hi => by
      unfold oldV
      obtain ⟨q, rfl⟩ : ∃ q, i = k + 1 + q := ⟨i - (k + 1), by omega⟩
      have e1 : k + 1 + q - k = q + 1 := by omega
      have e2 : k + 1 + q - (k + 1) = q := by omega
      rw [e1, e2, List.getElem?_cons_succ])]
    exact fill_old a r (k + 1)
/-- the operations that come ahead of one -/
def predsO (o : Oper) : List Nat := (o.after.toList.filter (Region.binds .any)).map (·.on)
structure StepO (P : Program) (Q : Exit → Act → World → Prop) (ops : Array Oper) (J : (Nat → Bool) → (Nat → Value) → World → Prop) (a : Act) (k : Nat) (o : Oper) : Prop where
  out : ∀ (D : Nat → Bool) (x : Nat → Value) (w : World), J D x w → (∀ j ∈ predsO o, D j = true) → D k = false → (∀ i o', ops[i]? = some o' → D i = true → ∀ j ∈ predsO o', D j = true) →
    ∀ K : Act → World → Prop, Shut (∀ v w', J (updB D k) (updV x k v) w' → K ((fillO ops.toList 0 x a).put o.dst v) w') →
      if Region.wanted o (yielded ops (fillO ops.toList 0 x a).tmps) = true then Oper.wp P o (fillO ops.toList 0 x a) w K Q else K ((fillO ops.toList 0 x a).put o.dst undef) w
/-- a goal that no tactic looks into till it is opened -/
structure Wrap (p : Prop) : Prop where
  out : p
theorem stepO_plain {ops : Array Oper} {J : (Nat → Bool) → (Nat → Value) → World → Prop} {a : Act} {k : Nat} {o : Oper} (hg : o.guard = none)
    (h : ∀ (D : Nat → Bool) (x : Nat → Value) (w : World), J D x w → (∀ j ∈ predsO o, D j = true) → D k = false → (∀ i o', ops[i]? = some o' → D i = true → ∀ j ∈ predsO o', D j = true) →
      ∀ K : Act → World → Prop, Shut (∀ v w', J (updB D k) (updV x k v) w' → K ((fillO ops.toList 0 x a).put o.dst v) w') → Wrap (Oper.wp P o (fillO ops.toList 0 x a) w K Q)) : StepO P Q ops J a k o := ⟨fun D x w hJ hp hn hcl K hK => by
  have e : Region.wanted o (yielded ops (fillO ops.toList 0 x a).tmps) = true := by unfold Region.wanted; rw [hg]
  rw [if_pos e]
  exact (h D x w hJ hp hn hcl K hK).out⟩
def StepsO (P : Program) (Q : Exit → Act → World → Prop) (ops : Array Oper) (J : (Nat → Bool) → (Nat → Value) → World → Prop) (a : Act) : Nat → List Oper → Prop
  | _, [] => True
  | k, o :: r => StepO P Q ops J a k o ∧ StepsO P Q ops J a (k + 1) r
theorem StepsO.at {ops : Array Oper} {J : (Nat → Bool) → (Nat → Value) → World → Prop} {a : Act} : ∀ (l : List Oper) (k : Nat), StepsO P Q ops J a k l → ∀ i o, l[i]? = some o → StepO P Q ops J a (k + i) o
  | [], _, _, _, _, h => by cases h
  | o :: r, k, hs, 0, o', h => by
    obtain rfl : o = o' := by simpa using h
    exact hs.1
  | o :: r, k, hs, i + 1, o', h => by
    have e : k + (i + 1) = k + 1 + i := by omega
    rw [e]
    exact StepsO.at r (k + 1) hs.2 i o' (by simpa using h)
def backO : Nat → List Oper → Bool
  | _, [] => true
  | k, o :: r => (predsO o).all (fun j => decide (j < k)) && backO (k + 1) r
theorem backO.at : ∀ (l : List Oper) (k : Nat), backO k l = true → ∀ i o, l[i]? = some o → ∀ j ∈ predsO o, j < k + i
  | [], _, _, _, _, h => by cases h
  | o :: r, k, hs, 0, o', h => by
    obtain rfl : o = o' := by simpa using h
    unfold backO at hs
    rw [Bool.and_eq_true, List.all_eq_true] at hs
    exact fun j hj => of_decide_eq_true (hs.1 j hj)
  | o :: r, k, hs, i + 1, o', h => by
    unfold backO at hs
    rw [Bool.and_eq_true] at hs
    have := backO.at r (k + 1) hs.2 i o' (by simpa using h)
    intro j hj
    have := this j hj
    omega
theorem all_listed {ops : Array Oper} (hb : backO 0 ops.toList = true) (L : Array Bool) (hsz : L.size = ops.size) (hr : Region.ready .any ops L = []) : ∀ i, i < ops.size → L.getD i false = true := by
  intro i
  induction i using Nat.strongRecOn with
  | ind i ih =>
    intro hi
    cases h : L.getD i false with
    | true => rfl
    | false =>
      have ho : ops[i]? = some ops[i] := Array.getElem?_eq_getElem hi
      have hm : i ∈ Region.ready .any ops L := mem_ready.2 ⟨by
        have hi3 : i < L.size := by omega
        rw [Array.getD_eq_getD_getElem?, Array.getElem?_eq_getElem hi3, Option.getD_some] at h ⊢
        exact h, ops[i], ho, fun e he hbd => by
        have hj : e.on ∈ predsO ops[i] := List.mem_map.2 ⟨e, List.mem_filter.2 ⟨by simp [he], hbd⟩, rfl⟩
        have hlt := backO.at ops.toList 0 hb i ops[i] (by simp [ho]) e.on hj
        exact ih e.on (by omega) (by omega)⟩
      rw [hr] at hm
      cases hm
theorem countSet : ∀ (L : Array Bool) (i : Nat) (h : i < L.size), L[i] = false → ((L.setIfInBounds i true).toList.filter (! ·)).length + 1 = (L.toList.filter (! ·)).length := by
  intro L i h hf
  obtain ⟨l⟩ := L
  simp only [List.setIfInBounds_toArray, List.getElem_toArray] at *
  induction l generalizing i with
  | nil => simp at h
  | cons b r ih =>
    cases i with
    | zero =>
      obtain rfl : b = false := hf
      simp
    | succ i =>
      have h' : i < r.length := by simpa using h
      have := ih i h' (by simpa using hf)
      simp only [List.set_cons_succ]
      cases b <;> simp_all
theorem wpAny_inv {ops : Array Oper} {a : Act} (J : (Nat → Bool) → (Nat → Value) → World → Prop) (hd : distO (dstsO ops.toList) = true) (hback : backO 0 ops.toList = true) (hs : StepsO P Q ops J a 0 ops.toList)
    (hf : ∀ x w, J (fun i => decide (i < ops.size)) x w → Q .normal (fillO ops.toList 0 x a) w) :
    ∀ (fuel : Nat) (L : Array Bool) (x : Nat → Value) (w : World), L.size = ops.size → (L.toList.filter (! ·)).length ≤ fuel → J (fun i => L.getD i false) x w →
      (∀ i o', ops[i]? = some o' → L.getD i false = true → ∀ j ∈ predsO o', L.getD j false = true) → wpAny P .any ops Q fuel L (fillO ops.toList 0 x a) w := by
  have fin : ∀ (L : Array Bool) (x : Nat → Value) (w : World), L.size = ops.size → (∀ i, i < ops.size → L.getD i false = true) → J (fun i => L.getD i false) x w → Q .normal (fillO ops.toList 0 x a) w := fun L x w hsz hall hJ => by
    refine hf x w ?_
    have e : (fun i => L.getD i false) = fun i => decide (i < ops.size) := by
      funext i
      by_cases h : i < ops.size
      · rw [hall i h, decide_eq_true h]
      · rw [decide_eq_false h, Array.getD_eq_getD_getElem?, Array.getElem?_eq_none (by omega)]; rfl
    rw [← e]; exact hJ
  intro fuel
  induction fuel with
  | zero =>
    intro L x w hsz hc hJ hcl
    have hall : ∀ i, i < ops.size → L.getD i false = true := fun i hi => by
      have h0 : (L.toList.filter (! ·)) = [] := List.length_eq_zero_iff.1 (by omega)
      have hi2 : i < L.size := by omega
      rw [Array.getD_eq_getD_getElem?, Array.getElem?_eq_getElem hi2, Option.getD_some]
      have hm : L[i] ∈ L.toList := by simp
      cases hb : L[i] with
      | true => rfl
      | false =>
        rw [hb] at hm
        have : false ∈ L.toList.filter (! ·) := List.mem_filter.2 ⟨hm, rfl⟩
        rw [h0] at this; cases this
    refine ⟨?_, fin L x w hsz hall hJ⟩
    unfold Region.ready
    rw [List.filter_eq_nil_iff]
    intro i hi
    have hi2 : i < ops.size := by simpa using hi
    have h1 := hall i hi2
    have hi3 : i < L.size := by omega
    rw [Array.getD_eq_getD_getElem?, Array.getElem?_eq_getElem hi3, Option.getD_some] at h1
    rw [Array.getD_eq_getD_getElem?, Array.getElem?_eq_getElem hi3, Option.getD_some, h1]
    simp
  | succ fuel ih =>
    intro L x w hsz hc hJ hcl
    refine ⟨fun hr => fin L x w hsz (fun i hi => all_listed hback L hsz hr i hi) hJ, fun i hi => ?_⟩
    · obtain ⟨hun, o, ho, hall⟩ := mem_ready.1 hi
      have hi2 : i < ops.size := by
        rcases Nat.lt_or_ge i ops.size with h | h
        · exact h
        · rw [Array.getElem?_eq_none h] at ho; cases ho
      have hi3 : i < L.size := by omega
      have hfalse : L.getD i false = false := by
        rw [Array.getD_eq_getD_getElem?, Array.getElem?_eq_getElem hi3, Option.getD_some] at hun ⊢
        exact hun
      have hpre : ∀ j ∈ predsO o, L.getD j false = true := fun j hj => by
        unfold predsO at hj
        obtain ⟨e, he, rfl⟩ := List.mem_map.1 hj
        obtain ⟨he1, he2⟩ := List.mem_filter.1 he
        exact hall e (by simpa using he1) he2
      have hstep := StepsO.at (P := P) (Q := Q) (ops := ops) (J := J) (a := a) ops.toList 0 hs i o (by simpa using ho)
      rw [Nat.zero_add] at hstep
      refine wpOp_step ho (fun K' hK => hstep.out _ x w hJ hpre hfalse hcl K' (fun v w' hJ' => hK _ _ ?_))
      rw [fill_upd v ops.toList 0 x a i o hd (by simpa using ho), Nat.zero_add]
      have eL : (fun j => (L.setIfInBounds i true).getD j false) = updB (fun j => L.getD j false) i := by
        funext j
        unfold updB
        by_cases h : j = i
        · subst h
          rw [if_pos rfl, Array.getD_eq_getD_getElem?, Array.getElem?_setIfInBounds]
          simp [hi3]
        · rw [if_neg h, Array.getD_eq_getD_getElem?, Array.getElem?_setIfInBounds_ne (fun e => h e.symm), ← Array.getD_eq_getD_getElem?]
      refine ih (L.setIfInBounds i true) (updV x i v) w' (by simpa using hsz) ?_ ?_ ?_
      · have := countSet L i hi3 (by rw [Array.getD_eq_getD_getElem?, Array.getElem?_eq_getElem hi3, Option.getD_some] at hfalse; exact hfalse)
        omega
      · rw [eL]; exact hJ'
      · intro p o' hp hpt j hj
        have g : ∀ q, (L.setIfInBounds i true).getD q false = updB (fun j => L.getD j false) i q := fun q => congrFun eL q
        rw [g] at hpt ⊢
        unfold updB at hpt ⊢
        by_cases hji : j = i
        · rw [if_pos hji]
        · rw [if_neg hji]
          by_cases hpi : p = i
          · subst hpi
            obtain rfl : o = o' := by rw [ho] at hp; injection hp
            exact hpre j hj
          · rw [if_neg hpi] at hpt
            exact hcl p o' hp hpt j hj
/-- THE LAW: 'J' says what holds of those operations that have come up (D), of what they left (x), of the world. One step an operation. -/
theorem wp_region_inv {id : Nat} {ops : Array Oper} {a : Act} {w : World} (hm : P.follows .mixedOrders = true) (J : (Nat → Bool) → (Nat → Value) → World → Prop) (hd : distO (dstsO ops.toList) = true) (hback : backO 0 ops.toList = true)
    (h0 : ∀ x, J (fun _ => false) x w.drew) (hs : StepsO P Q ops J a 0 ops.toList) (hf : ∀ x w, J (fun i => decide (i < ops.size)) x w → Q .normal (fillO ops.toList 0 x a) w) : (Code.region id ops true).wp P Q a w := by
  refine wp_region_any hm ?_
  have e := fill_old a ops.toList 0
  have h := wpAny_inv (P := P) (Q := Q) (ops := ops) (a := a) J hd hback hs hf ops.size (Array.replicate ops.size false) (oldV ops.toList a 0) w.drew (by simp) (by simp) (by
    have e2 : (fun i => (Array.replicate ops.size false).getD i false) = fun _ => false := by
      funext i
      rw [Array.getD_eq_getD_getElem?, Array.getElem?_replicate]
      split <;> rfl
    rw [e2]; exact h0 _) (fun i o' _ hi => by
    have e2 : (Array.replicate ops.size false).getD i false = false := by
      rw [Array.getD_eq_getD_getElem?, Array.getElem?_replicate]
      split <;> rfl
    rw [e2] at hi; cases hi)
  rw [e] at h
  exact h
end

end Go.Proofs.YtopmdffiikajnaaGreatDoor
