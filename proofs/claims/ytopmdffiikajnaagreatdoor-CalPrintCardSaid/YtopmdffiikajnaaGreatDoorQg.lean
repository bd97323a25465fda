/-
  A region that draws its order, by what each operation leaves: operations under a test.
-/
import Derived.Test.YtopmdffiikajnaaGreatDoorQr
namespace Go.Proofs.YtopmdffiikajnaaGreatDoor

section
variable {P : Program} {Q : Exit → Act → World → Prop}
theorem put_size (a : Act) (d : Option Nat) (v : Value) : (a.put d v).tmps.size = a.tmps.size := by
  cases d with
  | none => rfl
  | some d => simp [Act.put]
theorem fill_size : ∀ (l : List Oper) (k : Nat) (x : Nat → Value) (a : Act), (fillO l k x a).tmps.size = a.tmps.size
  | [], _, _, _ => rfl
  | o :: r, k, x, a => by
    unfold fillO
    rw [fill_size r (k + 1) x, put_size]
theorem updV_self (x : Nat → Value) (k : Nat) : updV x k (x k) = x := by
  funext i
  unfold updV
  split
  · rename_i h; rw [h]
  · rfl
theorem fill_get (l : List Oper) (x : Nat → Value) (a : Act) (j d : Nat) (o : Oper) (hd : distO (dstsO l) = true) (hj : l[j]? = some o) (ho : o.dst = some d) (hsz : d < a.tmps.size) : (fillO l 0 x a).tmps[d]? = some (x j) := by
  have h := fill_upd (x j) l 0 x a j o hd hj
  rw [Nat.zero_add, updV_self, ho] at h
  rw [← h]
  show ((fillO l 0 x a).tmps.setIfInBounds d (x j))[d]? = _
  rw [Array.getElem?_setIfInBounds_self_of_lt (by rw [fill_size]; exact hsz)]
/-- an operation under a test that holds -/
theorem stepO_on {ops : Array Oper} {J : (Nat → Bool) → (Nat → Value) → World → Prop} {a : Act} {k : Nat} {o oj : Oper} {j d : Nat} {b : Bool} (hg : o.guard = some (j, b)) (hj : ops[j]? = some oj) (hjd : oj.dst = some d) (hsz : d < a.tmps.size) (hd : distO (dstsO ops.toList) = true)
    (h : ∀ (D : Nat → Bool) (x : Nat → Value) (w : World), J D x w → (∀ j ∈ predsO o, D j = true) → D k = false → (∀ i o', ops[i]? = some o' → D i = true → ∀ j ∈ predsO o', D j = true) →
      ∀ K : Act → World → Prop, Shut (∀ v w', J (updB D k) (updV x k v) w' → K ((fillO ops.toList 0 x a).put o.dst v) w') → x j = .bool b ∧ Wrap (Oper.wp P o (fillO ops.toList 0 x a) w K Q)) : StepO P Q ops J a k o := ⟨fun D x w hJ hp hn hcl K hK => by
  obtain ⟨hx, hw⟩ := h D x w hJ hp hn hcl K hK
  have e : Region.wanted o (yielded ops (fillO ops.toList 0 x a).tmps) = true := by
    unfold Region.wanted yielded
    rw [hg]
    simp only [hj, Option.bind_some, hjd, fill_get ops.toList x a j d oj hd (by simpa using hj) hjd hsz, hx]
    simp
  rw [if_pos e]
  exact hw.out⟩
/-- an operation under a test that does not hold -/
theorem stepO_off {ops : Array Oper} {J : (Nat → Bool) → (Nat → Value) → World → Prop} {a : Act} {k : Nat} {o oj : Oper} {j d : Nat} {b : Bool} (hg : o.guard = some (j, b)) (hj : ops[j]? = some oj) (hjd : oj.dst = some d) (hsz : d < a.tmps.size) (hd : distO (dstsO ops.toList) = true)
    (h : ∀ (D : Nat → Bool) (x : Nat → Value) (w : World), J D x w → (∀ j ∈ predsO o, D j = true) → D k = false → (∀ i o', ops[i]? = some o' → D i = true → ∀ j ∈ predsO o', D j = true) →
      x j = .bool (!b) ∧ J (updB D k) (updV x k undef) w) : StepO P Q ops J a k o := ⟨fun D x w hJ hp hn hcl K hK => by
  obtain ⟨hx, hw⟩ := h D x w hJ hp hn hcl
  have e : Region.wanted o (yielded ops (fillO ops.toList 0 x a).tmps) = false := by
    unfold Region.wanted yielded
    rw [hg]
    simp only [hj, Option.bind_some, hjd, fill_get ops.toList x a j d oj hd (by simpa using hj) hjd hsz, hx]
    cases b <;> rfl
  rw [if_neg (by rw [e]; decide)]
  exact hK.out undef w hw⟩
end

end Go.Proofs.YtopmdffiikajnaaGreatDoor
