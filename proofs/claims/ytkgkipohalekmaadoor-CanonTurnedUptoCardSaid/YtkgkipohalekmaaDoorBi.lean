/-
  What the reckoning by symbols leans on: fields, loads, comparisons.
-/
import Derived.Test.YtkgkipohalekmaaDoorBg
namespace Go.Proofs.YtkgkipohalekmaaDoor
open Go.RowKit
section
variable {P : Program}
theorem run_fieldAt_mid (w : World) (b off k : Nat) (s : TypeId) (f : Nat) (fs : Array Field) (hu : P.underlying s = some (.struct fs)) (fl : Field) (hf : fs[f]? = some fl) (ho : fl.offset = k) (m : Nat) (hm : (P.info? fl.type).map (·.size) = some m) (hm0 : m ≠ 0) :
    (Instr.fieldAt s (.pointer (some ⟨b, off, none⟩)) f).run P w = .ok (.pointer (some ⟨b, off + k, none⟩)) w := by
  have u := run_underlying hu
  have hs : (sizeOf fl.type).run P w = .ok m w := by
    cases hi : P.info? fl.type with
    | none => rw [hi] at hm; cases hm
    | some i =>
      rw [hi] at hm
      injection hm with hm
      simp [sizeOf, typeInfo, hi, hm]
  simp [Instr.fieldAt, u, hf, Instr.sureAddr, fieldPlace, ho, hs, hm0, Addr.add_mid]
theorem run_loadAt_cell (w : World) (b off : Nat) (t : TypeId) (d : TypeDesc) (v : Value) (hu : P.underlying t = some d) (hd : d.isRow = false) (hc : w.cell? ⟨b, off, none⟩ = some v) :
    (Instr.loadAt t (.pointer (some ⟨b, off, none⟩))).run P w = .ok v w := by
  have u := run_underlying hu w
  have hagg : (isAgg t).run P w = .ok false w := by
    unfold isAgg
    rw [Sem.run_bind, u]
    cases d <;> simp_all
  simp [Instr.loadAt, Instr.sureAddr, loadVar, Sem.run_bind, hagg, hc]
theorem call_quiet {C : World → Prop} {f : Nat} (hf : ∀ args w, (callFunc f args).run P w = .ok (.enter f args) w) {o : Oper} {a : Act} {x y : Operand} {c : Call} {v : Value} {w : World} (ho : o.op = .call c) (h1 : c.callee = .value (.func f)) (h2 : c.args.toList = [x, y])
    (h : Calls P f #[a.eval x, a.eval y] w fun e w' => e = .returned v ∧ C w') : o.quietAt P a C w v := by
  obtain ⟨callee, args, ts⟩ := c
  have e1 : callee = .value (.func f) := h1
  have e2 : args = #[x, y] := Array.toList_inj.1 h2
  subst e1
  subst e2
  unfold Oper.quietAt execOp
  simp only [ho]
  have e3 : a.eval (.func f) = .func (.func f) #[] #[] := rfl
  simp [resolve, e3, invoke, hf, Oper.quietUpon, Deferred.ofValue]
  exact h
theorem eql_int (w : World) (t : TypeId) (x y : Operand) (n m : Int) (hu : P.underlying t = some (.int .i64)) (e : Bool) (he : e = true ↔ n = m) :
    ((do eqGuard .eql t x y (.int .i64 n) (.int .i64 m); binOp .eql t (.int .i64 n) (.int .i64 m) : Sem Value)).run P w = .ok (.bool e) w := by
  have u := run_underlying hu
  go_simp
  rw [Bool.eq_iff_iff, he, beq_iff_eq]
theorem eql_str (w : World) (t : TypeId) (x y : Operand) (n m : ByteArray) (hu : P.underlying t = some (.string)) (e : Bool) (he : e = true ↔ n = m) :
    ((do eqGuard .eql t x y (.string n) (.string m); binOp .eql t (.string n) (.string m) : Sem Value)).run P w = .ok (.bool e) w := by
  have u := run_underlying hu
  go_simp
  rw [Bool.eq_iff_iff, he, beq_iff_eq, bt_inj]
theorem eql_bool (w : World) (t : TypeId) (x y : Operand) (n m : Bool) (hu : P.underlying t = some (.bool)) (e : Bool) (he : e = true ↔ n = m) :
    ((do eqGuard .eql t x y (.bool n) (.bool m); binOp .eql t (.bool n) (.bool m) : Sem Value)).run P w = .ok (.bool e) w := by
  have u := run_underlying hu
  go_simp
  rw [Bool.eq_iff_iff, he, beq_iff_eq]
theorem neq_int (w : World) (t : TypeId) (x y : Operand) (n m : Int) (hu : P.underlying t = some (.int .i64)) (e : Bool) (he : e = true ↔ n = m) :
    ((do eqGuard .neq t x y (.int .i64 n) (.int .i64 m); binOp .neq t (.int .i64 n) (.int .i64 m) : Sem Value)).run P w = .ok (.bool (!e)) w := by
  have u := run_underlying hu
  go_simp
  unfold bne
  congr 1
  rw [Bool.eq_iff_iff, he, beq_iff_eq]
theorem neq_str (w : World) (t : TypeId) (x y : Operand) (n m : ByteArray) (hu : P.underlying t = some (.string)) (e : Bool) (he : e = true ↔ n = m) :
    ((do eqGuard .neq t x y (.string n) (.string m); binOp .neq t (.string n) (.string m) : Sem Value)).run P w = .ok (.bool (!e)) w := by
  have u := run_underlying hu
  go_simp
  rw [Bool.eq_iff_iff, he, beq_iff_eq, bt_inj]
theorem neq_bool (w : World) (t : TypeId) (x y : Operand) (n m : Bool) (hu : P.underlying t = some (.bool)) (e : Bool) (he : e = true ↔ n = m) :
    ((do eqGuard .neq t x y (.bool n) (.bool m); binOp .neq t (.bool n) (.bool m) : Sem Value)).run P w = .ok (.bool (!e)) w := by
  have u := run_underlying hu
  go_simp
  rw [Bool.eq_iff_iff, he, beq_iff_eq]
/-- what is known of some slots, and no more -/
def Gk (ks : List Nat) (vs : List SV) : Nat → SV := fun i => ((ks.zip vs).lookup i).getD .any
theorem gk_is {base : Bool → Nat} {val : TypeId → Bool → Nat → Value} {F : Nat → SV} (hF : ∀ i, ∃ v : Value, (F i).Is base val v) {g : Nat → Value} : ∀ (ks : List Nat), (∀ i, (F i).Is base val (g i)) → ∀ i, (((ks.zip (ks.map F)).lookup i).getD SV.any).Is base val (g i)
  | [], _, _ => trivial
  | k :: r, h, i => by
    rw [List.map_cons, List.zip_cons_cons, List.lookup_cons]
    by_cases e : i = k
    · subst e
      simp only [beq_self_eq_true]
      exact h i
    · have e2 : (i == k) = false := by simp [e]
      rw [e2]
      exact gk_is hF r h i
theorem srun_kn {C : World → Prop} {base : Bool → Nat} {val : TypeId → Bool → Nat → Value} {Y : Sy} {N : Nat} {ops : Array Oper} (O : Ora P C base val Y) (hN : ops.toList.all (fun o => match o.dst with | some d => decide (d < N) | none => true) = true) {K : Act → Prop} {l : List Oper} {F : Nat → SV} {a : Act} (ks : List Nat) (vs : List SV)
    (hs : (srun Y N ops l F).map (fun F' => ks.map F') = some vs) (hf : Fits base val N F a) (hk : ∀ a', a'.defers = a.defers → Fits base val N (Gk ks vs) a' → K a') : wpQuiet P ops C K l a := by
  cases hr : srun Y N ops l F with
  | none => rw [hr] at hs; cases hs
  | some F' =>
    rw [hr] at hs
    injection hs with hs
    refine srun_is O (fun j d hd => ?_) l F F' a hr hf (fun a' hd hf' => hk a' hd ⟨hf'.1, fun i => ?_⟩)
    · cases ho : ops[j]? with
      | none => rw [ho] at hd; cases hd
      | some o =>
        rw [ho] at hd
        have h1 := List.all_eq_true.1 hN o (Array.mem_toList_iff.2 (Array.mem_of_getElem? ho))
        have h2 : o.dst = some d := hd
        rw [h2] at h1
        exact of_decide_eq_true h1
    · unfold Gk
      rw [← hs]
      exact gk_is (fun i => ⟨_, hf'.2 i⟩) ks hf'.2 i
end

end Go.Proofs.YtkgkipohalekmaaDoor
