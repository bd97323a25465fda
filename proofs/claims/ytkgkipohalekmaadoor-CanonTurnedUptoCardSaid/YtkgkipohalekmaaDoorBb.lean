/-
  What comes in by value, whatever nested lists it holds, opened.
-/
import Derived.Test.YtkgkipohalekmaaDoorBa
import Derived.Test.YtkgkipohalekmaaDoorGr
import Derived.Test.YtkgkipohalekmaaDoorRows
namespace Go.Proofs.YtkgkipohalekmaaDoor
open Go.ChangeShapes Go.WideShapes Go.Deep Go.RowKit Go.Joins
mutual
def Ce.At (w : World) (B : Nat) : Ce → Value → Prop
  | .i n, v => v = .int .i64 n
  | .b x, v => v = .bool x
  | .s t, v => v = .string t
  | .l n cs, v => ∃ (A : Option Addr) (cap k : Nat) (vs : List Value), v = .slice A n cap ∧ n ≤ cap ∧ Rd w B k A n vs ∧ Ce.Ats w B cs vs
def Ce.Ats (w : World) (B : Nat) : List Ce → List Value → Prop
  | [], vs => vs = []
  | c :: r, vs => ∃ v q, vs = v :: q ∧ c.At w B v ∧ Ce.Ats w B r q
end
mutual
def Ce.bulk : Ce → Nat
  | .i _ => 1
  | .b _ => 1
  | .s t => t.size + 1
  | .l _ cs => Ce.bulks cs + 1
def Ce.bulks : List Ce → Nat
  | [] => 0
  | c :: r => c.bulk + Ce.bulks r
end
theorem Ce.bulk_pos (c : Ce) : 1 ≤ c.bulk := by
  cases c <;> unfold Ce.bulk <;> omega
theorem Ce.bulks_length : ∀ (cs : List Ce), cs.length ≤ Ce.bulks cs
  | [] => Nat.zero_le _
  | c :: r => by
    have := Ce.bulks_length r
    have := Ce.bulk_pos c
    rw [Ce.bulks, List.length_cons]
    omega
theorem Ce.bulks_append : ∀ (a z : List Ce), Ce.bulks (a ++ z) = Ce.bulks a + Ce.bulks z
  | [], z => by rw [List.nil_append, Ce.bulks, Nat.zero_add]
  | c :: r, z => by rw [List.cons_append, Ce.bulks, Ce.bulks_append r z, Ce.bulks, Nat.add_assoc]
theorem Ce.ats_length {w : World} {B : Nat} : ∀ (cs : List Ce) (vs : List Value), Ce.Ats w B cs vs → vs.length = cs.length
  | [], vs, h => by
    unfold Ce.Ats at h
    rw [h]
    rfl
  | c :: r, vs, h => by
    unfold Ce.Ats at h
    obtain ⟨v, q, rfl, _, h2⟩ := h
    rw [List.length_cons, List.length_cons, Ce.ats_length r q h2]
theorem Ce.ats_append {w : World} {B : Nat} : ∀ (cs : List Ce) (vs : List Value) {cs2 : List Ce} {vs2 : List Value}, Ce.Ats w B cs vs → Ce.Ats w B cs2 vs2 → Ce.Ats w B (cs ++ cs2) (vs ++ vs2)
  | [], vs, _, _, h, h2 => by
    unfold Ce.Ats at h
    rw [h]
    exact h2
  | c :: r, vs, cs2, vs2, h, h2 => by
    unfold Ce.Ats at h
    obtain ⟨v, q, rfl, h1, h3⟩ := h
    show Ce.Ats w B (c :: (r ++ cs2)) (v :: (q ++ vs2))
    unfold Ce.Ats
    exact ⟨v, _, rfl, h1, Ce.ats_append r q h3 h2⟩
theorem Ce.ats_split {w : World} {B : Nat} : ∀ (k : Nat) (cs : List Ce) (vs : List Value), Ce.Ats w B cs vs → Ce.Ats w B (cs.take k) (vs.take k) ∧ Ce.Ats w B (cs.drop k) (vs.drop k)
  | 0, cs, vs, h => ⟨by simp [Ce.Ats], by simpa using h⟩
  | k + 1, [], vs, h => by
    unfold Ce.Ats at h
    rw [h]
    exact ⟨by simp [Ce.Ats], by simp [Ce.Ats]⟩
  | k + 1, c :: r, vs, h => by
    unfold Ce.Ats at h
    obtain ⟨v, q, rfl, h1, h3⟩ := h
    obtain ⟨g1, g2⟩ := Ce.ats_split k r q h3
    simp only [List.take_succ_cons, List.drop_succ_cons]
    refine ⟨?_, g2⟩
    unfold Ce.Ats
    exact ⟨v, _, rfl, h1, g1⟩
theorem Rd.grow {w w' : World} {B B' k n : Nat} {A : Option Addr} {vs : List Value} (h : Rd w B k A n vs) (hb : Below B w w') (hB : B ≤ B') : Rd w' B' k A n vs :=
  (Rd.below h hb).more hB
mutual
theorem Ce.At.grow {w w' : World} {B B' : Nat} (hb : Below B w w') (hB : B ≤ B') : ∀ (c : Ce) (v : Value), c.At w B v → c.At w' B' v
  | .i n, v, h => by unfold Ce.At at h ⊢; exact h
  | .b n, v, h => by unfold Ce.At at h ⊢; exact h
  | .s n, v, h => by unfold Ce.At at h ⊢; exact h
  | .l n cs, v, h => by
    unfold Ce.At at h ⊢
    obtain ⟨A, cap, k, vs, h1, h2, h3, h4⟩ := h
    exact ⟨A, cap, k, vs, h1, h2, h3.grow hb hB, Ce.Ats.grow hb hB cs vs h4⟩
theorem Ce.Ats.grow {w w' : World} {B B' : Nat} (hb : Below B w w') (hB : B ≤ B') : ∀ (cs : List Ce) (vs : List Value), Ce.Ats w B cs vs → Ce.Ats w' B' cs vs
  | [], vs, h => by unfold Ce.Ats at h ⊢; exact h
  | c :: r, vs, h => by
    unfold Ce.Ats at h ⊢
    obtain ⟨v, q, h1, h2, h3⟩ := h
    exact ⟨v, q, h1, Ce.At.grow hb hB c v h2, Ce.Ats.grow hb hB r q h3⟩
end
/-- the type of a value of nested lists, by the program's table -/
def shapeFs (P : Program) (f : TypeId → Option (List Ty)) : List Field → Nat → Option (List Ty)
  | [], _ => some []
  | x :: r, o => (f x.type).bind fun q => if x.offset = o ∧ P.cellsOf x.type = q.length then (shapeFs P f r (o + q.length)).map fun p => q ++ p else none
def shapeOf (P : Program) : Nat → TypeId → Option (List Ty)
  | 0, _ => none
  | n + 1, t =>
    match P.underlying t with
    | some .bool => some [.b]
    | some (.int .i64) => some [.i]
    | some .string => some [.s]
    | some (.slice e) => (shapeOf P n e).bind fun q => if P.cellsOf e = q.length ∧ 0 < q.length ∧ 0 < P.bytesOf e then some [.l (P.bytesOf e) q] else none
    | some (.struct fs) => (shapeFs P (shapeOf P n) fs.toList 0).bind fun q => if P.cellsOf t = q.length then some q else none
    | _ => none
theorem shape_fs {H : Type} {P : Program} {f : TypeId → Option (List Ty)} {w : World} {B : Nat} {cs : List Value} : ∀ (fs : List Field) (ps : List (DataW H)) (o : Nat) (q : List Ty), ps.length = fs.length → shapeFs P f fs o = some q →
    (∀ (j : Nat) (x : Field) p (d : DataW H), fs[j]? = some x → ps[j]? = some d → f x.type = some p → ∃ ds, Ce.Oks ds p ∧ Ce.Ats w B ds ((cs.drop x.offset).take (P.cellsOf x.type)) ∧ Ce.bulks ds ≤ Rows.uptoBulk d) → ∃ ds, Ce.Oks ds q ∧ Ce.Ats w B ds ((cs.drop o).take q.length) ∧ Ce.bulks ds ≤ Rows.uptoBulkAll ps
  | [], [], o, q, _, h, _ => by
    unfold shapeFs at h
    injection h with h
    subst h
    exact ⟨[], by simp [Ce.Oks], by simp [Ce.Ats], by simp [Ce.bulks]⟩
  | [], _ :: _, _, _, hl, _, _ => by simp at hl
  | _ :: _, [], _, _, hl, _, _ => by simp at hl
  | x :: r, d :: ps, o, q, hl, h, hx => by
    unfold shapeFs at h
    cases hf : f x.type with
    | none => rw [hf] at h; cases h
    | some p =>
      rw [hf] at h
      simp only [Option.bind_some] at h
      split at h
      · rename_i hc
        cases hr : shapeFs P f r (o + p.length) with
        | none => rw [hr] at h; cases h
        | some p2 =>
          rw [hr] at h
          injection h with h
          subst h
          obtain ⟨ds, h1, h2, hb1⟩ := hx 0 x p d rfl rfl hf
          obtain ⟨ds2, h3, h4, hb2⟩ := shape_fs r ps (o + p.length) p2 (by simpa using hl) hr (fun j y p d hj hd hp => hx (j + 1) y p d (by simpa using hj) (by simpa using hd) hp)
          rw [hc.1, hc.2] at h2
          refine ⟨ds ++ ds2, Ce.oks_append _ _ h1 h3, ?_, by rw [Ce.bulks_append, Rows.uptoBulkAll]; omega⟩
          have e : (cs.drop o).take (p ++ p2).length = (cs.drop o).take p.length ++ (cs.drop (o + p.length)).take p2.length := by
            rw [List.length_append, List.take_add, List.drop_drop]
          rw [e]
          exact Ce.ats_append _ _ h2 h4
      · cases h
theorem flat_len2 {α β : Type} (C : α → List β) (k : Nat) : ∀ (l : List α), (∀ q ∈ l, (C q).length = k) → (l.flatMap C).length = l.length * k
  | [], _ => by simp
  | p :: r, h => by
    rw [List.flatMap_cons, List.length_append, List.length_cons, flat_len2 C k r (fun q hq => h q (List.mem_cons_of_mem _ hq)), h p List.mem_cons_self, Nat.add_mul, Nat.one_mul]
    omega
theorem flat_at2 {α β : Type} (C : α → List β) (k : Nat) : ∀ (l : List α), (∀ q ∈ l, (C q).length = k) → ∀ (i j : Nat) (q : α), l[i]? = some q → j < k → (l.flatMap C)[i * k + j]? = (C q)[j]?
  | [], _, i, _, _, hi, _ => by simp at hi
  | p :: r, h, 0, j, q, hi, hj => by
    simp only [List.getElem?_cons_zero, Option.some.injEq] at hi
    subst hi
    rw [List.flatMap_cons, Nat.zero_mul, Nat.zero_add, List.getElem?_append_left (by rw [h p List.mem_cons_self]; exact hj)]
  | p :: r, h, i + 1, j, q, hi, hj => by
    simp only [List.getElem?_cons_succ] at hi
    have hp := h p List.mem_cons_self
    rw [List.flatMap_cons, show (i + 1) * k + j = (i * k + j) + (C p).length from by rw [hp, Nat.add_mul, Nat.one_mul]; omega, List.getElem?_append_right (by omega), Nat.add_sub_cancel]
    exact flat_at2 C k r (fun q hq => h q (List.mem_cons_of_mem _ hq)) i j q hi hj
theorem flat_oks {α : Type} (C : α → List Ce) (q : List Ty) : ∀ (l : List α), (∀ x ∈ l, Ce.Oks (C x) q) → Ce.Oks (l.flatMap C) (List.replicate l.length q).flatten
  | [], _ => by simp [Ce.Oks]
  | p :: r, h => by
    rw [List.flatMap_cons, List.length_cons, List.replicate_succ, List.flatten_cons]
    exact Ce.oks_append _ _ (h p List.mem_cons_self) (flat_oks C q r fun x hx => h x (List.mem_cons_of_mem _ hx))
theorem flat_ats {α : Type} {w : World} {B : Nat} (C : α → List Ce) (V : α → List Value) : ∀ (l : List α), (∀ x ∈ l, Ce.Ats w B (C x) (V x)) → Ce.Ats w B (l.flatMap C) (l.flatMap V)
  | [], _ => by simp [Ce.Ats]
  | p :: r, h => by
    rw [List.flatMap_cons, List.flatMap_cons]
    exact Ce.ats_append _ _ (h p List.mem_cons_self) (flat_ats C V r fun x hx => h x (List.mem_cons_of_mem _ hx))
theorem flat_bulk {α H : Type} (C : α → List Ce) : ∀ (l : List α) (ds : List (DataW H)), l.length = ds.length → (∀ (i : Nat) (x : α) (d : DataW H), l[i]? = some x → ds[i]? = some d → Ce.bulks (C x) ≤ Rows.uptoBulk d) → Ce.bulks (l.flatMap C) ≤ Rows.uptoBulkAll ds
  | [], _, _, _ => by simp [Ce.bulks]
  | _ :: _, [], hl, _ => by simp at hl
  | p :: r, d :: ds, hl, h => by
    have h1 := h 0 p d rfl rfl
    have h2 := flat_bulk C r ds (by simpa using hl) (fun i x d hi hd => h (i + 1) x d (by simpa using hi) (by simpa using hd))
    rw [List.flatMap_cons, Ce.bulks_append, Rows.uptoBulkAll]
    omega
section
variable {H : Type} {enc : TypeId × Value → H} {P : Program} {w : World} {base : Nat} {held : Bool}
theorem open_ce : ∀ (N : Nat) (t : TypeId) (q : List Ty), shapeOf P N t = some q → ∀ (fuel : Nat) (cs : List Value) (x : DataW H × List MemPlace), DataW.trod enc P w base (fun _ => true) held fuel t cs = some x →
    (∀ p ∈ x.2, p.block < w.heap.size) → (∀ m ∈ x.1.weights P t, m ≤ reachBytes) → ∃ ds, Ce.Oks ds q ∧ Ce.Ats w w.heap.size ds cs ∧ Ce.bulks ds ≤ Rows.uptoBulk x.1
  | 0, t, q, hs, _, _, _, _, _, _ => by unfold shapeOf at hs; cases hs
  | N + 1, t, q, hs, 0, cs, x, h, _, _ => by unfold DataW.trod at h; cases h
  | N + 1, t, q, hs, fuel + 1, cs, x, h, hp, hw => by
    unfold shapeOf at hs
    split at hs
    · rename_i hu
      injection hs with hs
      subst hs
      unfold DataW.trod at h
      rw [hu] at h
      split at h <;> simp_all
      rename_i b
      obtain rfl := h
      exact ⟨[.b b], by simp [Ce.Oks, Ce.Ok], by simp [Ce.Ats, Ce.At], by simp [Ce.bulks, Ce.bulk, Rows.uptoBulk]⟩
    · rename_i hu
      injection hs with hs
      subst hs
      unfold DataW.trod at h
      rw [hu] at h
      split at h <;> simp_all
      rename_i k k' n hk
      obtain ⟨⟨hkk, hwf⟩, hx⟩ := h
      subst hkk
      subst hx
      subst hk
      refine ⟨[.i n], ?_, by simp [Ce.Ats, Ce.At], by simp [Ce.bulks, Ce.bulk, Rows.uptoBulk]⟩
      have h2 := hwf
      simp [Lit.wf, IntKind.min, IntKind.max, IntKind.signed, IntKind.bits] at h2
      simp only [Ce.Oks, Ce.Ok, and_true]
      omega
    · rename_i hu
      injection hs with hs
      subst hs
      unfold DataW.trod at h
      rw [hu] at h
      split at h <;> simp_all
      rename_i s
      obtain ⟨hm, rfl⟩ := h
      refine ⟨[.s s], ?_, by simp [Ce.Ats, Ce.At], by simp [Ce.bulks, Ce.bulk, Rows.uptoBulk]⟩
      simp only [Ce.Oks, Ce.Ok, and_true]
      have : maxLen ≤ 9223372036854775807 := by decide
      omega
    · rename_i e hu
      cases hq : shapeOf P N e with
      | none => rw [hq] at hs; cases hs
      | some qe =>
        rw [hq] at hs
        simp only [Option.bind_some] at hs
        split at hs
        · rename_i hk
          injection hs with hs
          subst hs
          rcases open_slice hu h with ⟨rfl, rfl⟩ | ⟨a, len, cap, m, n, D, Pl, rfl, _, hl, _, hm, rfl, hi⟩
          · refine ⟨[.l 0 []], ?_, ?_, by simp [Ce.bulks, Ce.bulk, Rows.uptoBulk]⟩
            · simp [Ce.Oks, Ce.Ok]
            · unfold Ce.Ats
              refine ⟨_, [], rfl, ?_, by simp [Ce.Ats]⟩
              unfold Ce.At
              exact ⟨none, 0, 0, [], rfl, Nat.le_refl _, Rd.empty, by simp [Ce.Ats]⟩
          · simp only [if_true] at hm
            subst hm
            have hbytes : len * P.bytesOf e ≤ reachBytes := by
              have h1 := hw _ (by simp only [DataW.weights, hu]; exact List.mem_cons_self)
              simp only [List.length_map, List.length_range] at h1
              refine Nat.le_trans (Nat.mul_le_mul_right _ ?_) h1
              omega
            obtain ⟨l, hll, hr⟩ := pick (R := fun i (q : List Ce × List Value) => Ce.Oks q.1 qe ∧ Ce.Ats w w.heap.size q.1 q.2 ∧ q.2.length = qe.length ∧ (∀ j, j < qe.length → w.cell? (a.add (i * qe.length + j)) = q.2[j]?) ∧ Ce.bulks q.1 ≤ Rows.uptoBulk (D i)) len (by
              intro i hil
              obtain ⟨cs', hc, ht⟩ := hi i (by omega)
              obtain ⟨_, hcl, hat⟩ := World.cells?_some hc
              have hmem : D i ∈ (List.range len).map D := List.mem_map.2 ⟨i, by simpa using hil, rfl⟩
              obtain ⟨ds, g1, g2, g3⟩ := open_ce N e qe hq n cs' (D i, Pl i) ht (fun p hpp => hp p (List.mem_append_right _ (List.mem_flatMap.2 ⟨i, by simp; omega, hpp⟩))) (fun m hm => hw m (weights_slice hu hmem hm))
              refine ⟨(ds, cs'), g1, g2, by rw [hcl, hk.1], fun j hj => ?_, g3⟩
              rw [← hk.1, ← Go.Deep.add_add]
              exact hat j (by rw [hk.1]; exact hj))
            refine ⟨[.l len (l.flatMap (·.1))], ?_, ?_, ?_⟩
            · unfold Ce.Oks
              refine ⟨?_, by simp [Ce.Oks]⟩
              unfold Ce.Ok
              refine ⟨⟨Nat.le_trans (Nat.le_mul_of_pos_right _ hk.2.2) hbytes, hbytes⟩, ?_⟩
              rw [← hll]
              exact flat_oks _ _ l fun x hx => by
                obtain ⟨i, hi⟩ := List.getElem?_of_mem hx
                exact (hr i x hi).1
            · unfold Ce.Ats
              refine ⟨_, [], rfl, ?_, by simp [Ce.Ats]⟩
              unfold Ce.At
              have hvl : ∀ q ∈ l, q.2.length = qe.length := fun x hx => by
                obtain ⟨i, hi⟩ := List.getElem?_of_mem hx
                exact (hr i x hi).2.2.1
              refine ⟨some a, m, qe.length, l.flatMap (·.2), rfl, hl, ⟨by rw [flat_len2 _ _ l hvl, hll], fun hn => ⟨a, rfl, ?_, ?_⟩⟩, flat_ats _ _ l fun x hx => ?_⟩
              · refine hp (.cell a.block (a.off + 0)) (List.mem_append_left _ (MemPlace.mem_row.2 ⟨0, ?_, rfl⟩))
                rw [hk.1]
                exact Nat.mul_pos (by omega) hk.2.1
              · intro j u hu2
                have hj : j < l.length * qe.length := by have := (List.getElem?_eq_some_iff.1 hu2).1; rwa [flat_len2 _ _ l hvl] at this
                have hi2 : j / qe.length < l.length := Nat.div_lt_of_lt_mul (by rw [Nat.mul_comm]; exact hj)
                have hj2 : j % qe.length < qe.length := Nat.mod_lt _ hk.2.1
                have hx := List.getElem?_eq_getElem hi2
                have h5 := (hr _ _ hx).2.2.2.1 _ hj2
                have h6 := flat_at2 (·.2) qe.length l hvl _ _ _ hx hj2
                rw [show j / qe.length * qe.length + j % qe.length = j from by rw [Nat.mul_comm]; exact Nat.div_add_mod _ _] at h5 h6
                rw [h5, ← h6]
                exact hu2
              · obtain ⟨i, hi⟩ := List.getElem?_of_mem hx
                exact (hr i x hi).2.1
            · have hfb := flat_bulk (H := H) (·.1) l ((List.range len).map D) (by simp [hll]) (fun i x d hi hd => by
                have h7 := (hr i x hi).2.2.2.2
                have hil : i < len := by have := (List.getElem?_eq_some_iff.1 hi).1; omega
                rw [List.getElem?_map, List.getElem?_range hil] at hd
                injection hd with hd
                rw [← hd]
                exact h7)
              simp only [Ce.bulks, Ce.bulk, Rows.uptoBulk]
              omega
        · cases hs
    · rename_i fs hu
      cases hq : shapeFs P (shapeOf P N) fs.toList 0 with
      | none => rw [hq] at hs; cases hs
      | some qe =>
        rw [hq] at hs
        simp only [Option.bind_some] at hs
        split at hs
        · rename_i hk
          injection hs with hs
          subst hs
          obtain ⟨ys, n', hn', rfl, hlen, hyl, hf⟩ := DataW.trod_struct hu h
          have hx := shape_fs (H := H) (w := w) (B := w.heap.size) (cs := cs) fs.toList (ys.map (·.1)) 0 qe (by simp [hyl]) hq (fun j x p d hj hd hsx => by
            rw [Array.getElem?_toList] at hj
            have h1 := hf j x hj
            have hjl : j < ys.length := by rw [hyl]; exact (Array.getElem?_eq_some_iff.1 hj).1
            rw [List.getElem?_eq_getElem hjl] at h1
            rw [List.getElem?_map, List.getElem?_eq_getElem hjl] at hd
            injection hd with hd
            rw [← hd]
            refine open_ce N x.type p hsx n' _ ys[j] h1 (fun pl hpl => hp pl (List.mem_flatMap.2 ⟨ys[j], List.getElem_mem _, hpl⟩)) (fun m hm => hw m ?_)
            exact weights_agg hu hj (by rw [List.getElem?_map, List.getElem?_eq_getElem hjl]; rfl) hm)
          rw [List.drop_zero, ← hk, ← hlen, List.take_length] at hx
          obtain ⟨ds, q1, q2, q3⟩ := hx
          exact ⟨ds, q1, q2, by rw [Rows.uptoBulk]; omega⟩
        · cases hs
    · cases hs
end

end Go.Proofs.YtkgkipohalekmaaDoor
