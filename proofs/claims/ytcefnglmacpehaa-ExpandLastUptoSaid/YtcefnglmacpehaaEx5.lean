/-
  The walks of a variable's value.
-/
import Derived.Test.YtcefnglmacpehaaEx3
import Derived.Test.YtcefnglmacpehaaMem
namespace Go.Proofs.Ytcefnglmacpehaa
open Go.RowKit

/-- the cells of name and value, pair by pair -/
def pairCells (env : List (ByteArray × ByteArray)) : List Value := env.flatMap fun p => [.string p.1, .string p.2]
def envL (env : List (ByteArray × ByteArray)) : List (List UInt8 × List UInt8) := env.map fun p => (p.1.data.toList, p.2.data.toList)
theorem pairCells_len (env : List (ByteArray × ByteArray)) : (pairCells env).length = env.length * 2 := by
  induction env with
  | nil => rfl
  | cons p r ih => simp [pairCells] at ih ⊢; omega
theorem pairCells_at (env : List (ByteArray × ByteArray)) (k : Nat) (h : k < env.length) : (pairCells env)[k * 2]? = some (.string env[k].1) ∧ (pairCells env)[k * 2 + 1]? = some (.string env[k].2) := by
  induction env generalizing k with
  | nil => simp at h
  | cons p r ih =>
    cases k with
    | zero => simp [pairCells]
    | succ k =>
      have h2 := ih k (by simpa using h)
      simp only [pairCells, List.flatMap_cons] at h2 ⊢
      rw [show (k + 1) * 2 = k * 2 + 2 from by omega, show k * 2 + 2 + 1 = (k * 2 + 1) + 2 from by omega]
      rw [List.getElem?_append_right (by simp), List.getElem?_append_right (by simp)]
      simpa using h2
theorem envL_take (env : List (ByteArray × ByteArray)) (k : Nat) (h : k < env.length) : envL (env.take (k + 1)) = envL (env.take k) ++ [(env[k].1.data.toList, env[k].2.data.toList)] := by
  unfold envL
  rw [List.take_succ_eq_append_getElem h]
  simp only [List.map_append, List.map_cons, List.map_nil]

/-- where the loop of value stands: so many pairs are left to look at -/
def ValRel (env : List (ByteArray × ByteArray)) (v : List UInt8) (k : Nat) : Prop := Sp.valueL (envL env) v = Sp.valueL (envL (env.take k)) v
theorem ValRel.start (env : List (ByteArray × ByteArray)) (v : List UInt8) : ValRel env v env.length := by unfold ValRel; rw [List.take_length]
theorem ValRel.hit {env : List (ByteArray × ByteArray)} {v : List UInt8} {k : Nat} (h : ValRel env v (k + 1)) (hk : k < env.length) (he : env[k].1.data.toList = v) : Sp.valueL (envL env) v = env[k].2.data.toList := by
  unfold ValRel at h; rw [h, envL_take env k hk, Sp.valueL_snoc, if_pos he]
theorem ValRel.miss {env : List (ByteArray × ByteArray)} {v : List UInt8} {k : Nat} (h : ValRel env v (k + 1)) (hk : k < env.length) (he : ¬ env[k].1.data.toList = v) : ValRel env v k := by
  unfold ValRel at h ⊢; rw [h, envL_take env k hk, Sp.valueL_snoc, if_neg he]
theorem ValRel.none {env : List (ByteArray × ByteArray)} {v : List UInt8} (h : ValRel env v 0) : Sp.valueL (envL env) v = [] := by
  unfold ValRel at h; rw [h]; rfl

set_option maxHeartbeats 1000000 in
theorem value_any (A : Option Addr) (n c B : Nat) (env : List (ByteArray × ByteArray)) (v : ByteArray) (w : World) (h : Rd w B 2 A n (pairCells env)) (hn : n ≤ 140737488355328) :
    Calls Try.prog 27 #[.slice A n c, .string v] w fun e w' => e = .returned (.string ⟨(Sp.valueL (envL env) v.data.toList).toArray⟩) ∧ w = w' := by
  have hl : env.length = n := by have h1 := h.1; rw [pairCells_len] at h1; omega
  have y1 : (-9223372036854775808 : Int) ≤ (n : Int) - 1 := by omega
  have y2 : (n : Int) - 1 ≤ 9223372036854775807 := by omega
  go_enter Try.func27, Try.ntmps27
  go_wp2_with fail
  go_loop [5] (fun i => ∃ k : Nat, k ≤ n ∧ i = .int .i64 ((k : Int) - 1) ∧ Hid (ValRel env v.data.toList k)) (fun i => (intOf i + 1).toNat)
  case atStart => exact ⟨n, Nat.le_refl _, by go_num, Lib.hid (hl ▸ ValRel.start env _)⟩
  case round =>
    obtain ⟨k, hk, rfl, HV⟩ := hrel
    match k, hk, HV with
    | 0, _, HV =>
      go_wp2
      go_ret
      exact ⟨ret_str (by rw [HV.out.none]), rfl⟩
    | k + 1, hk, HV =>
      obtain ⟨ad, rfl, hb, hc⟩ := h.here (by omega)
      have hke : k < env.length := by omega
      obtain ⟨p1, p2⟩ := pairCells_at env k hke
      have c1 := hc _ _ p1
      have c2 := hc _ _ p2
      rw [Mem.add_field _ _ 1 (by omega)] at c2
      have x1 : (0 : Int) ≤ (k : Int) := by omega
      have x2 : (k : Int) < (n : Int) := by omega
      rw [show (((k + 1 : Nat) : Int) - 1) = (k : Int) from by omega]
      by_cases he : env[k].1.data.toList = v.data.toList
      · have heb : (env[k].1.toList == v.toList) = true := by rw [Lib.toList_data, Lib.toList_data, he]; simp
        have HE := Lib.hid he
        clear he
        go_wp2
        go_ret
        exact ⟨ret_str (by rw [HV.out.hit hke HE.out]), rfl⟩
      · have heb : (env[k].1.toList == v.toList) = false := by rw [Lib.toList_data, Lib.toList_data]; exact beq_eq_false_iff_ne.2 he
        have HE := Lib.hid he
        clear he
        go_wp2
        go_round
        case rel => exact ⟨k, by omega, by go_num, Lib.hid (HV.out.miss hke HE.out)⟩
        case measure => simp [intOf]

set_option maxHeartbeats 1000000 in
theorem rvalue_any (A : Option Addr) (n c B : Nat) (env : List (ByteArray × ByteArray)) (v : ByteArray) (w : World) (h : Rd w B 2 A n (pairCells env)) (hn : n ≤ 140737488355328) :
    Calls Try.prog 29 #[.slice A n c, .string v] w fun e w' => e = .returned (.string ⟨(Sp.valueL (envL env) v.data.toList).toArray⟩) ∧ w = w' := by
  have hl : env.length = n := by have h1 := h.1; rw [pairCells_len] at h1; omega
  have y1 : (-9223372036854775808 : Int) ≤ (n : Int) - 1 := by omega
  have y2 : (n : Int) - 1 ≤ 9223372036854775807 := by omega
  go_enter Try.func29, Try.ntmps29
  go_wp2_with fail
  go_loop [5] (fun i => ∃ k : Nat, k ≤ n ∧ i = .int .i64 ((k : Int) - 1) ∧ Hid (ValRel env v.data.toList k)) (fun i => (intOf i + 1).toNat)
  case atStart => exact ⟨n, Nat.le_refl _, by go_num, Lib.hid (hl ▸ ValRel.start env _)⟩
  case round =>
    obtain ⟨k, hk, rfl, HV⟩ := hrel
    match k, hk, HV with
    | 0, _, HV =>
      go_wp2
      go_ret
      exact ⟨ret_str (by rw [HV.out.none]), rfl⟩
    | k + 1, hk, HV =>
      obtain ⟨ad, rfl, hb, hc⟩ := h.here (by omega)
      have hke : k < env.length := by omega
      obtain ⟨p1, p2⟩ := pairCells_at env k hke
      have c1 := hc _ _ p1
      have c2 := hc _ _ p2
      rw [Mem.add_field _ _ 1 (by omega)] at c2
      have x1 : (0 : Int) ≤ (k : Int) := by omega
      have x2 : (k : Int) < (n : Int) := by omega
      rw [show (((k + 1 : Nat) : Int) - 1) = (k : Int) from by omega]
      by_cases he : env[k].1.data.toList = v.data.toList
      · have heb : (env[k].1.toList == v.toList) = true := by rw [Lib.toList_data, Lib.toList_data, he]; simp
        have HE := Lib.hid he
        clear he
        go_wp2
        go_ret
        exact ⟨ret_str (by rw [HV.out.hit hke HE.out]), rfl⟩
      · have heb : (env[k].1.toList == v.toList) = false := by rw [Lib.toList_data, Lib.toList_data]; exact beq_eq_false_iff_ne.2 he
        have HE := Lib.hid he
        clear he
        go_wp2
        go_round
        case rel => exact ⟨k, by omega, by go_num, Lib.hid (HV.out.miss hke HE.out)⟩
        case measure => simp [intOf]

end Go.Proofs.Ytcefnglmacpehaa
