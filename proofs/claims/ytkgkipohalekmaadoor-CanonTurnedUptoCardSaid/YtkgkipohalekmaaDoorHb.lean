/-
  Machines that are built in memory of constants.
-/
import Derived.Test.YtkgkipohalekmaaDoorHa
namespace Go.Proofs.YtkgkipohalekmaaDoor
open Go.RowKit Go.Shelf
theorem wpList_builtP {P : Program} {ops : Array Oper} {rest : List Oper} {o : Oper} {a : Act} {w : World} {Q : Exit → Act → World → Prop} (hg : o.guard = none) (t : TypeId) (parts : Array (Nat × Operand)) (ho : o.op = .build t parts) (L : List (Nat × Value)) (hL : (parts.map fun (i, x) => (i, a.eval x)).toList = L) (cells : Array Value)
    (hc : P.built t L = some cells) (h : wpList P ops Q rest (a.put o.dst (.agg cells)) w) : wpList P ops Q (o :: rest) a w :=
  wpList_build hg t parts ho (by rw [hL, hc]; rfl) (by rw [hL, hc]; exact h)
/-- cells without lists, and the empty list -/
def Ce.val : Ce → Value
  | .i n => .int .i64 n
  | .b x => .bool x
  | .s t => .string t
  | .l _ _ => .slice none 0 0
def Ce.flat : Ce → Bool
  | .l 0 [] => true
  | .l _ _ => false
  | _ => true
theorem Ce.flat_at {w : World} {B : Nat} : ∀ (c : Ce), c.flat = true → c.At w B c.val
  | .i n, _ => by unfold Ce.At Ce.val; rfl
  | .b n, _ => by unfold Ce.At Ce.val; rfl
  | .s n, _ => by unfold Ce.At Ce.val; rfl
  | .l 0 [], _ => by unfold Ce.At Ce.val; exact ⟨none, 0, 0, [], rfl, Nat.le_refl _, Rd.empty, by simp [Ce.Ats]⟩
  | .l (n + 1) _, h => by cases h
  | .l 0 (_ :: _), h => by cases h
theorem Ce.flat_ats {w : World} {B : Nat} : ∀ (cs : List Ce), cs.all (·.flat) = true → Ce.Ats w B cs (cs.map Ce.val)
  | [], _ => by simp [Ce.Ats]
  | c :: r, h => by
    rw [List.all_cons, Bool.and_eq_true] at h
    unfold Ce.Ats
    exact ⟨_, _, rfl, Ce.flat_at c h.1, Ce.flat_ats r h.2⟩
mutual
def Ce.okb : Ce → Ty → Bool
  | .i n, .i => decide (-9223372036854775808 ≤ n) && decide (n ≤ 9223372036854775807)
  | .b _, .b => true
  | .s t, .s => decide (t.size ≤ 9223372036854775807)
  | .l n cs, .l nb e => decide (n ≤ 140737488351232) && decide (n * nb ≤ 140737488351232) && Ce.okbs cs (List.replicate n e).flatten
  | _, _ => false
def Ce.okbs : List Ce → List Ty → Bool
  | [], [] => true
  | c :: r, t :: q => c.okb t && Ce.okbs r q
  | _, _ => false
end
mutual
theorem Ce.okb_ok : ∀ (c : Ce) (t : Ty), c.okb t = true → c.Ok t
  | .i n, .i, h => by
    unfold Ce.okb at h
    unfold Ce.Ok
    simpa using h
  | .b _, .b, _ => by unfold Ce.Ok; trivial
  | .s t, .s, h => by
    unfold Ce.okb at h
    unfold Ce.Ok
    simpa using h
  | .l n cs, .l nb e, h => by
    unfold Ce.okb at h
    unfold Ce.Ok
    simp only [Bool.and_eq_true, decide_eq_true_eq] at h
    exact ⟨h.1, Ce.okbs_ok cs _ h.2⟩
  | .i _, .b, h => by unfold Ce.okb at h; cases h
  | .i _, .s, h => by unfold Ce.okb at h; cases h
  | .i _, .l _ _, h => by unfold Ce.okb at h; cases h
  | .b _, .i, h => by unfold Ce.okb at h; cases h
  | .b _, .s, h => by unfold Ce.okb at h; cases h
  | .b _, .l _ _, h => by unfold Ce.okb at h; cases h
  | .s _, .i, h => by unfold Ce.okb at h; cases h
  | .s _, .b, h => by unfold Ce.okb at h; cases h
  | .s _, .l _ _, h => by unfold Ce.okb at h; cases h
  | .l _ _, .i, h => by unfold Ce.okb at h; cases h
  | .l _ _, .b, h => by unfold Ce.okb at h; cases h
  | .l _ _, .s, h => by unfold Ce.okb at h; cases h
theorem Ce.okbs_ok : ∀ (cs : List Ce) (q : List Ty), Ce.okbs cs q = true → Ce.Oks cs q
  | [], [], _ => by unfold Ce.Oks; trivial
  | c :: r, t :: q, h => by
    unfold Ce.okbs at h
    unfold Ce.Oks
    rw [Bool.and_eq_true] at h
    exact ⟨Ce.okb_ok c t h.1, Ce.okbs_ok r q h.2⟩
  | [], _ :: _, h => by unfold Ce.okbs at h; cases h
  | _ :: _, [], h => by unfold Ce.okbs at h; cases h
end
/-- a row that is a whole block -/
theorem rd_block {W : World} {b B : Nat} {vs : Array Value} {t : TypeId} {fr : Nat × Nat} (n k : Nat) (h : W.heap[b]? = some (.cells vs t fr)) (hB : b < B) (hs : vs.size = n * k) : Rd W B k (some ⟨b, 0, none⟩) n vs.toList :=
  ⟨by rw [Array.length_toList, hs], fun _ => ⟨_, rfl, hB, fun j u hu => by
    have e1 : (⟨b, 0, none⟩ : Addr).add j = ⟨b, j, none⟩ := by rw [Addr.add_mid, Nat.zero_add]
    rw [e1, cell_of_row _ _ _ _ _ _ h]
    simpa using hu⟩⟩
theorem one_at {W : World} {b B : Nat} {cs : List Ce} {t : TypeId} {fr : Nat × Nat} (h : W.heap[b]? = some (.cells (cs.map Ce.val).toArray t fr)) (hB : b < B) (hf : cs.all (·.flat) = true) : (Ce.l 1 cs).At W B (.slice (some ⟨b, 0, none⟩) 1 1) := by
  unfold Ce.At
  refine ⟨some ⟨b, 0, none⟩, 1, cs.length, _, rfl, Nat.le_refl _, rd_block 1 cs.length h hB (by simp), ?_⟩
  have := Ce.flat_ats (w := W) (B := B) cs hf
  simpa using this
def upName : ByteArray := ⟨#[97, 46, 116, 97, 114, 103, 101, 116]⟩
def upUc : List Ce := [.s upName, .i 4, .s ⟨#[]⟩, .b false, .l 0 [], .i 0, .i 0, .i 0, .l 0 [], .l 0 [], .l 0 [], .l 0 [], .l 0 [], .b false, .i 0, .i 0, .i 0, .i 0, .l 0 [], .l 0 [], .l 0 [], .l 0 [], .i 0, .s ⟨#[]⟩, .s ⟨#[]⟩, .l 0 [], .l 0 [], .l 0 [], .l 0 [], .b false, .l 0 [], .l 0 [], .l 0 [], .l 0 [], .s ⟨#[]⟩]
def upCc (att : Int) : List Ce := upUc ++ [.i 4, .i 0, .i att, .l 0 [], .i 0, .i 0, .i 0, .i 0, .i 0, .i 0, .b false, .i 0, .i 0, .i 0, .i 0, .i 0, .b false, .i 0, .b false, .b false, .l 0 [], .l 0 [], .i 0, .i 0, .i 0, .i 1099511627776, .i 0]
def upAc : List Ce := [.i 0, .s upName, .i 2]
def upMc (att : Int) : List Ce := [.i 5, .i 0, .i 1, .i 0, .l 0 [], .l 0 [], .l 0 [], .l 1 upUc, .l 1 (upCc att), .l 0 [], .l 1 upAc, .l 0 [], .l 0 [], .l 0 [], .l 0 [], .i 0]
def upUv : Array Value := (upUc.map Ce.val).toArray
def upCv (att : Int) : Array Value := ((upCc att).map Ce.val).toArray
def upAv : Array Value := (upAc.map Ce.val).toArray
@[reducible] def upMv (b2 b3 b4 : Nat) : Array Value := #[.int .i64 5, .int .i64 0, .int .i64 1, .int .i64 0, .slice none 0 0, .slice none 0 0, .slice none 0 0, .slice (some ⟨b2, 0, none⟩) 1 1, .slice (some ⟨b3, 0, none⟩) 1 1, .slice none 0 0, .slice (some ⟨b4, 0, none⟩) 1 1, .slice none 0 0, .slice none 0 0, .slice none 0 0, .slice none 0 0, .int .i64 0]
def zMv : Array Value := #[.int .i64 0, .int .i64 0, .int .i64 0, .int .i64 0, .slice none 0 0, .slice none 0 0, .slice none 0 0, .slice none 0 0, .slice none 0 0, .slice none 0 0, .slice none 0 0, .slice none 0 0, .slice none 0 0, .slice none 0 0, .slice none 0 0, .int .i64 0]
def zUv : Array Value := #[.string ⟨#[]⟩, .int .i64 0, .string ⟨#[]⟩, .bool false, .slice none 0 0, .int .i64 0, .int .i64 0, .int .i64 0, .slice none 0 0, .slice none 0 0, .slice none 0 0, .slice none 0 0, .slice none 0 0, .bool false, .int .i64 0, .int .i64 0, .int .i64 0, .int .i64 0, .slice none 0 0, .slice none 0 0, .slice none 0 0, .slice none 0 0, .int .i64 0, .string ⟨#[]⟩, .string ⟨#[]⟩, .slice none 0 0, .slice none 0 0, .slice none 0 0, .slice none 0 0, .bool false, .slice none 0 0, .slice none 0 0, .slice none 0 0, .slice none 0 0, .string ⟨#[]⟩]
theorem bt_unit : Tryd.prog.built 47 [(0, .string ⟨#[97, 46, 116, 97, 114, 103, 101, 116]⟩), (1, .int .i64 4)] = some upUv := by kernel_rfl
theorem bt_cell : Tryd.prog.built 51 [(0, .agg upUv), (1, .int .i64 4), (3, .int .i64 1), (16, .int .i64 1099511627776)] = some (upCv 1) := by kernel_rfl
theorem bt_ask : Tryd.prog.built 73 [(1, .string ⟨#[97, 46, 116, 97, 114, 103, 101, 116]⟩), (2, .int .i64 2)] = some upAv := by kernel_rfl
theorem bt_mach (b2 b3 b4 : Nat) : Tryd.prog.built 34 [(0, .int .i64 5), (2, .int .i64 1), (6, .slice (some ⟨b2, 0, none⟩) 1 1), (7, .slice (some ⟨b3, 0, none⟩) 1 1), (9, .slice (some ⟨b4, 0, none⟩) 1 1)] = some (upMv b2 b3 b4) := by kernel_rfl
theorem zr_mach (w : World) : (zeroValue 34).run Tryd.prog w = .ok (.agg zMv) w := by kernel_rfl
theorem zr_unit0 (w : World) : (zeroValue 47).run Tryd.prog w = .ok (.agg zUv) w := by kernel_rfl
theorem su_unit : zUv.size = upUv.size := by decide
theorem so_unit : upUv.all (·.oneCell') = true := by kernel_rfl
theorem sy_unit : (Tryd.prog.info? 47).map (·.size) = some upUv.size := by kernel_rfl
theorem su_mach (b2 b3 b4 : Nat) : zMv.size = (upMv b2 b3 b4).size := rfl
theorem so_mach (b2 b3 b4 : Nat) : (upMv b2 b3 b4).all (·.oneCell') = true := by kernel_rfl
theorem sy_mach (b2 b3 b4 : Nat) : (Tryd.prog.info? 34).map (·.size) = some (upMv b2 b3 b4).size := by kernel_rfl
theorem sz_uU : upUv.size = 35 := by decide
theorem sz_uC : (upCv 1).size = 62 := by decide
theorem sz_uA : upAv.size = 3 := by decide
theorem sz_Machine : (Tryd.prog.info? 34).map (·.size) = some 16 := by kernel_rfl
theorem up_oks1 : Ce.Oks (upMc 1) qMach := Ce.okbs_ok _ _ (by kernel_rfl)
theorem up_oks12 : Ce.Oks (upMc (-12)) qMach := Ce.okbs_ok _ _ (by kernel_rfl)

end Go.Proofs.YtkgkipohalekmaaDoor
