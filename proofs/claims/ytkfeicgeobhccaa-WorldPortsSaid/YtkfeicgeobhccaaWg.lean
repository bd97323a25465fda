/-
  The walk that finds what a command does.
-/
import Derived.Test.YtkfeicgeobhccaaWf
namespace Go.Proofs.Ytkfeicgeobhccaa
open Go.RowKit

/-- a world that is told, as it lies -/
structure WorldD where
  aA : Option Addr
  an : Nat
  ac : Nat
  acts : List ActD
  cA : Option Addr
  cn : Nat
  cc : Nat
  calls : List (Int × Int × Int)
  kA : Option Addr
  kn : Nat
  kc : Nat
  asks : List (Int × ByteArray × Int)
def worldV (d : WorldD) : Value := .agg #[.slice d.aA d.an d.ac, .slice d.cA d.cn d.cc, .slice d.kA d.kn d.kc]
def callCells (l : List (Int × Int × Int)) : List Value := l.flatMap fun p => [.int .i64 p.1, .int .i64 p.2.1, .int .i64 p.2.2]
def askCells (l : List (Int × ByteArray × Int)) : List Value := l.flatMap fun p => [.int .i64 p.1, .string p.2.1, .int .i64 p.2.2]
def ActsIn (w : World) (B : Nat) (A : Option Addr) (n : Nat) (l : List ActD) : Prop := Rd w B 9 A n (actCells l) ∧ n ≤ 1099511627776 ∧ (∀ a ∈ l, ActIn w B a ∧ a.sn ≤ 5864062014805)
theorem ActIn.below {w w' : World} {B : Nat} {a : ActD} (h : ActIn w B a) (hb : Below B w w') : ActIn w' B a := ⟨h.1.below hb, h.2⟩
theorem ActsIn.below {w w' : World} {B n : Nat} {A : Option Addr} {l : List ActD} (h : ActsIn w B A n l) (hb : Below B w w') : ActsIn w' B A n l := ⟨h.1.below hb, h.2.1, fun a ha => ⟨(h.2.2 a ha).1.below hb, (h.2.2 a ha).2⟩⟩

/-- the first such among them -/
def firstOf (l : List ActD) (u : ByteArray) (part p q : Int) : Option ActD := l.find? fun x => ofB x u part p q
def findAct (l : List ActD) (u : ByteArray) (part num att : Int) : Option ActD :=
  match firstOf l u part num att with
  | some a => some a
  | none => match firstOf l u part (-1) att with
    | some a => some a
    | none => match firstOf l u part num 0 with
      | some a => some a
      | none => firstOf l u part (-1) 0
theorem first_take (l : List ActD) (u : ByteArray) (part p q : Int) (k : Nat) (h : k < l.length) (h0 : firstOf (l.take k) u part p q = none) :
    (ofB l[k] u part p q = true → firstOf l u part p q = some l[k]) ∧ (ofB l[k] u part p q = false → firstOf (l.take (k + 1)) u part p q = none) := by
  unfold firstOf at h0 ⊢
  refine ⟨fun ht => ?_, fun hf => ?_⟩
  · have e : l = l.take k ++ (l[k] :: l.drop (k + 1)) := by rw [← List.drop_eq_getElem_cons h, List.take_append_drop]
    conv => lhs; rw [e]
    rw [List.find?_append, h0, Option.none_or, List.find?_cons, ht]
  · rw [List.take_succ_eq_append_getElem h, List.find?_append, h0, Option.none_or]
    simp [hf]
@[go_sem] theorem idx4_0 (a b c d e f g h : Value) (w : World) : (Instr.index 63 (.agg #[a, b, c, d, e, f, g, h]) (.int .i64 0)).run Try.prog w = .ok (.agg #[a, b]) w := by kernel_rfl
@[go_sem] theorem idx4_1 (a b c d e f g h : Value) (w : World) : (Instr.index 63 (.agg #[a, b, c, d, e, f, g, h]) (.int .i64 1)).run Try.prog w = .ok (.agg #[c, d]) w := by kernel_rfl
@[go_sem] theorem idx4_2 (a b c d e f g h : Value) (w : World) : (Instr.index 63 (.agg #[a, b, c, d, e, f, g, h]) (.int .i64 2)).run Try.prog w = .ok (.agg #[e, f]) w := by kernel_rfl
@[go_sem] theorem idx4_3 (a b c d e f g h : Value) (w : World) : (Instr.index 63 (.agg #[a, b, c, d, e, f, g, h]) (.int .i64 3)).run Try.prog w = .ok (.agg #[g, h]) w := by kernel_rfl
theorem actAt_new (w : World) (un : ByteArray) (pa nu at_ la co re di : Int) (sA : Option Addr) (sn sc : Nat) (sy : List (Int × ByteArray)) (t : TypeId) :
    ActAt (w.alloc (.cells #[.string un, .int .i64 pa, .int .i64 nu, .int .i64 at_, .int .i64 la, .int .i64 co, .int .i64 re, .int .i64 di, .slice sA sn sc] t)) ⟨w.heap.size, 0, none⟩ ⟨un, pa, nu, at_, la, co, re, di, sA, sn, sc, sy⟩ :=
  ⟨by go_simp, by go_simp, by go_simp, by go_simp, by go_simp, by go_simp, by go_simp, by go_simp, by go_simp⟩
def zeroAct : ActD := ⟨⟨#[]⟩, 0, 0, 0, 0, 0, 0, 0, none, 0, 0, []⟩
def findE (a : ActD) (b : Bool) : Value := .tuple #[actV a, .bool b]
/-- what Find leaves -/
def FindPost (o : Option ActD) (w : World) (e : Ending) (w' : World) : Prop :=
  Below w.heap.size w w' ∧ match o with
    | none => e = .returned (findE zeroAct false)
    | some x => ∃ A' c', e = .returned (findE { x with sA := A', sc := c' } true) ∧ w'.ownsRow w.heap.size 66 2 (.slice A' x.sn c') x.sn (sayCells x.says)
theorem own_mono {w : World} {b b' : Nat} {e : TypeId} {size n : Nat} {v : Value} {xs : List Value} (h : w.ownsRow b e size v n xs) (hb : b' ≤ b) : w.ownsRow b' e size v n xs := by
  refine ⟨h.1, ?_⟩
  rcases h.2 with hn | ⟨g, cap, cur, h1, h2, h3⟩
  · exact .inl hn
  · exact .inr ⟨g, cap, cur, h1, Nat.le_trans hb h2, h3⟩
/-- where the outer loop of Find stands: what is not found yet -/
def NoneTo (l : List ActD) (u : ByteArray) (part num att : Int) (k : Nat) : Prop :=
  (1 ≤ k → firstOf l u part num att = none) ∧ (2 ≤ k → firstOf l u part (-1) att = none) ∧ (3 ≤ k → firstOf l u part num 0 = none) ∧ (4 ≤ k → firstOf l u part (-1) 0 = none)

set_option maxRecDepth 100000 in
set_option maxHeartbeats 8000000 in
theorem find_any (aA : Option Addr) (an ac : Nat) (cA : Option Addr) (cn cc : Nat) (kA : Option Addr) (kn kc : Nat) (l : List ActD) (u : ByteArray) (part num att : Int) (w : World) (B : Nat) (h : ActsIn w B aA an l) (hB : B ≤ w.heap.size) :
    Calls Try.prog 13 #[.agg #[.slice aA an ac, .slice cA cn cc, .slice kA kn kc], .string u, .int .i64 part, .int .i64 num, .int .i64 att] w fun e w' => FindPost (findAct l u part num att) w e w' := by
  obtain ⟨hr, hn, hin⟩ := h
  have hl : l.length = an := by have h1 := hr.1; rw [actCells_len] at h1; omega
  have HL := Lib.hid hl
  have HIN := Lib.hid hin
  clear hl hin
  go_enter Try.func13, Try.ntmps13
  go_wp2_with fail
  go_loopw [25] (fun iv wr => ∃ k : Nat, k ≤ 4 ∧ iv = .int .i64 k ∧ Below (w.heap.size + 2) ((w.alloc (.cells #[.slice aA an ac, .slice cA cn cc, .slice kA kn kc] 26)).alloc (.cells #[.string ⟨#[]⟩, .int .i64 0, .int .i64 0, .int .i64 0, .int .i64 0, .int .i64 0, .int .i64 0, .int .i64 0, .slice none 0 0] 38)) wr ∧ Hid (NoneTo l u part num att k)) (fun iv _ => 4 - (intOf iv).toNat)
  case atStart => exact ⟨0, by omega, rfl, Below.refl _ _, Lib.hid ⟨fun h => by omega, fun h => by omega, fun h => by omega, fun h => by omega⟩⟩
  case round =>
    obtain ⟨k, hk, rfl, hb, HK⟩ := hrel
    have hw0 : w.heap.size + 2 ≤ wr.heap.size := by have := hb.size; simp at this; omega
    have hbw : Below w.heap.size w wr := (((Below.refl w.heap.size w).alloc (Nat.le_refl _) (.cells #[.slice aA an ac, .slice cA cn cc, .slice kA kn kc] 26)).alloc (by simp) (.cells #[.string ⟨#[]⟩, .int .i64 0, .int .i64 0, .int .i64 0, .int .i64 0, .int .i64 0, .int .i64 0, .int .i64 0, .slice none 0 0] 38)).trans (hb.mono (by omega))
    have q0 : ∀ o, (wr.alloc o).cell? ⟨w.heap.size, 0, none⟩ = some (.slice aA an ac) := fun o => (World.cell?_alloc_lt wr o ⟨w.heap.size, 0, none⟩ (by simp; omega)).trans ((hb.cell (p := ⟨w.heap.size, 0, none⟩) (by simp)).trans (by go_simp))
    match k, hk, HK with
    | 0, hk, HK =>
      rw [show (((0 : Nat)) : Int) = 0 from rfl]
      go_wp2_with fail
      obtain ⟨W1, hW1⟩ : ∃ x, x = wr := ⟨wr, rfl⟩
      subst hW1
      go_loopw [31] (fun iv wr => ∃ j : Nat, j ≤ an ∧ iv = .int .i64 j ∧ Below (W1.heap.size + 1) (W1.alloc (.cells #[.int .i64 num, .int .i64 att] 62)) wr ∧ Hid (firstOf (l.take j) u part num att = none)) (fun iv _ => an - (intOf iv).toNat)
      case atStart => exact ⟨0, Nat.zero_le _, rfl, Below.refl _ _, Lib.hid rfl⟩
      case round =>
        obtain ⟨j, hj, rfl, hbi, HJ⟩ := hrel
        have hwi : W1.heap.size + 1 ≤ wr.heap.size := by have := hbi.size; simpa using this
        have hbwi : Below w.heap.size w wr := (hbw.alloc hbw.size (.cells #[.int .i64 num, .int .i64 att] 62)).trans (hbi.mono (by omega))
        have p0 : ∀ o, (wr.alloc o).cell? ⟨W1.heap.size, 0, none⟩ = some (.int .i64 num) := fun o => (World.cell?_alloc_lt wr o ⟨W1.heap.size, 0, none⟩ (by simp; omega)).trans ((hbi.cell (p := ⟨W1.heap.size, 0, none⟩) (by simp)).trans (by go_simp))
        have p1 : ∀ o, (wr.alloc o).cell? ⟨W1.heap.size, 1, none⟩ = some (.int .i64 att) := fun o => (World.cell?_alloc_lt wr o ⟨W1.heap.size, 1, none⟩ (by simp; omega)).trans ((hbi.cell (p := ⟨W1.heap.size, 1, none⟩) (by simp)).trans (by go_simp))
        by_cases hlt : j < an
        · obtain ⟨ad, rfl, hadB, hjl, h0, h1, h2, h3, h4, h5, h6, h7, h8⟩ := acts_here (hr.below (hbwi.mono hB)) j hlt
          have HT := Lib.hid (first_take l u part num att j hjl HJ.out)
          have hof := fun w => wof_any l[j] u part num att w
          have hin := HIN.out _ (List.getElem_mem hjl)
          generalize hx : l[j] = x at *
          obtain ⟨un, pa, nu, at_, la, co, re, di, sA, sn, sc, sy⟩ := x
          dsimp only at h0 h1 h2 h3 h4 h5 h6 h7 h8 hin
          have HOF := Lib.hid hof
          have HX := Lib.hid hin
          clear hx hof hin
          have x1 : (0 : Int) ≤ (j : Int) := by omega
          have x2 : (j : Int) < (an : Int) := by omega
          go_wp2_with fail
          refine (HOF.out _).mono ?_
          rintro e w2 ⟨rfl, hb2⟩
          have hbw2 : Below w.heap.size w w2 := (hbwi.alloc hbwi.size (.cells #[.string un, .int .i64 pa, .int .i64 nu, .int .i64 at_, .int .i64 la, .int .i64 co, .int .i64 re, .int .i64 di, .slice sA sn sc] 38)).trans (hb2.mono (by have := hbwi.size; simp; omega))
          have hbi2 : Below (W1.heap.size + 1) (W1.alloc (.cells #[.int .i64 num, .int .i64 att] 62)) w2 := (hbi.alloc hwi (.cells #[.string un, .int .i64 pa, .int .i64 nu, .int .i64 at_, .int .i64 la, .int .i64 co, .int .i64 re, .int .i64 di, .slice sA sn sc] 38)).trans (hb2.mono (by simp; omega))
          cases hof : ofB ⟨un, pa, nu, at_, la, co, re, di, sA, sn, sc, sy⟩ u part num att with
          | false =>
            have HN := Lib.hid (HT.out.2 hof)
            clear hof
            go_wp2
            go_roundw
            case rel => exact ⟨j + 1, by omega, by go_num, hbi2, HN⟩
            case measure => first | (simp [intOf]; done) | (simp [intOf]; omega)
          | true =>
            have HN := Lib.hid (HT.out.1 hof)
            clear hof
            have g9 := (actAt_new wr un pa nu at_ la co re di sA sn sc sy 38).below hb2 (by simp)
            obtain ⟨g0, g1, g2, g3, g4, g5, g6, g7, g8⟩ := g9
            simp only [Nat.zero_add] at g0 g1 g2 g3 g4 g5 g6 g7 g8
            go_wp2_with fail
            have hin2 := HX.out
            refine (copied_any ⟨un, pa, nu, at_, la, co, re, di, sA, sn, sc, sy⟩ w2 B (hin2.1.below (hbw2.mono hB)) (Nat.le_trans hB hbw2.size) hin2.2).mono ?_
            rintro e w3 ⟨A', c', rfl, hown3, hb3⟩
            have hs2 := hbw2.size
            have hs21 := hbi2.size
            have hs22 : w.heap.size + 2 ≤ w2.heap.size := by simp at hs21; omega
            have H3 := ((hb.alloc hw0 (.cells #[.int .i64 num, .int .i64 att] 62)).trans (hbi2.mono (by omega))).trans (hb3.mono hs22)
            have hbw3 := hbw2.trans (hb3.mono hs2)
            have d0 : w3.cell? ⟨w.heap.size + 1, 0, none⟩ = some (.string ⟨#[]⟩) := (H3.cell (p := ⟨w.heap.size + 1, 0, none⟩) (by simp)).trans (by go_simp)
            have f0 : w3.frozen? ⟨w.heap.size + 1, 0, none⟩ = false := (H3.frozen (p := ⟨w.heap.size + 1, 0, none⟩) (by simp)).trans (by go_simp)
            have d1 : w3.cell? ⟨w.heap.size + 1, 1, none⟩ = some (.int .i64 0) := (H3.cell (p := ⟨w.heap.size + 1, 1, none⟩) (by simp)).trans (by go_simp)
            have f1 : w3.frozen? ⟨w.heap.size + 1, 1, none⟩ = false := (H3.frozen (p := ⟨w.heap.size + 1, 1, none⟩) (by simp)).trans (by go_simp)
            have d2 : w3.cell? ⟨w.heap.size + 1, 2, none⟩ = some (.int .i64 0) := (H3.cell (p := ⟨w.heap.size + 1, 2, none⟩) (by simp)).trans (by go_simp)
            have f2 : w3.frozen? ⟨w.heap.size + 1, 2, none⟩ = false := (H3.frozen (p := ⟨w.heap.size + 1, 2, none⟩) (by simp)).trans (by go_simp)
            have d3 : w3.cell? ⟨w.heap.size + 1, 3, none⟩ = some (.int .i64 0) := (H3.cell (p := ⟨w.heap.size + 1, 3, none⟩) (by simp)).trans (by go_simp)
            have f3 : w3.frozen? ⟨w.heap.size + 1, 3, none⟩ = false := (H3.frozen (p := ⟨w.heap.size + 1, 3, none⟩) (by simp)).trans (by go_simp)
            have d4 : w3.cell? ⟨w.heap.size + 1, 4, none⟩ = some (.int .i64 0) := (H3.cell (p := ⟨w.heap.size + 1, 4, none⟩) (by simp)).trans (by go_simp)
            have f4 : w3.frozen? ⟨w.heap.size + 1, 4, none⟩ = false := (H3.frozen (p := ⟨w.heap.size + 1, 4, none⟩) (by simp)).trans (by go_simp)
            have d5 : w3.cell? ⟨w.heap.size + 1, 5, none⟩ = some (.int .i64 0) := (H3.cell (p := ⟨w.heap.size + 1, 5, none⟩) (by simp)).trans (by go_simp)
            have f5 : w3.frozen? ⟨w.heap.size + 1, 5, none⟩ = false := (H3.frozen (p := ⟨w.heap.size + 1, 5, none⟩) (by simp)).trans (by go_simp)
            have d6 : w3.cell? ⟨w.heap.size + 1, 6, none⟩ = some (.int .i64 0) := (H3.cell (p := ⟨w.heap.size + 1, 6, none⟩) (by simp)).trans (by go_simp)
            have f6 : w3.frozen? ⟨w.heap.size + 1, 6, none⟩ = false := (H3.frozen (p := ⟨w.heap.size + 1, 6, none⟩) (by simp)).trans (by go_simp)
            have d7 : w3.cell? ⟨w.heap.size + 1, 7, none⟩ = some (.int .i64 0) := (H3.cell (p := ⟨w.heap.size + 1, 7, none⟩) (by simp)).trans (by go_simp)
            have f7 : w3.frozen? ⟨w.heap.size + 1, 7, none⟩ = false := (H3.frozen (p := ⟨w.heap.size + 1, 7, none⟩) (by simp)).trans (by go_simp)
            have d8 : w3.cell? ⟨w.heap.size + 1, 8, none⟩ = some (.slice none 0 0) := (H3.cell (p := ⟨w.heap.size + 1, 8, none⟩) (by simp)).trans (by go_simp)
            have f8 : w3.frozen? ⟨w.heap.size + 1, 8, none⟩ = false := (H3.frozen (p := ⟨w.heap.size + 1, 8, none⟩) (by simp)).trans (by go_simp)
            have HOWN := Lib.hid hown3
            clear hown3 g0 g1 g2 g3 g4 g5 g6 g7 g8 h0 h1 h2 h3 h4 h5 h6 h7 h8 p0 p1 q0 H3 hb3 hbi2 hbi hb2
            simp only [actV, actC]
            have HF : Hid (findAct l u part num att = some ⟨un, pa, nu, at_, la, co, re, di, sA, sn, sc, sy⟩) := Lib.hid (by unfold findAct; rw [HN.out])
            go_wp2_with fail
            refine bodyPost_ret (v := .tuple #[.agg #[.string un, .int .i64 pa, .int .i64 nu, .int .i64 at_, .int .i64 la, .int .i64 co, .int .i64 re, .int .i64 di, .slice A' sn c'], .bool true]) (by simp [results, Try.results13, go_sem, d0, d1, d2, d3, d4, d5, d6, d7, d8]) rfl ?_
            rw [HF.out]
            exact ⟨(Below.setCell (Below.setCell (Below.setCell (Below.setCell (Below.setCell (Below.setCell (Below.setCell (Below.setCell (Below.setCell hbw3 (by simp) _) (by simp) _) (by simp) _) (by simp) _) (by simp) _) (by simp) _) (by simp) _) (by simp) _) (by simp) _), A', c', rfl, own_mono (ownsRow_setCell_below (ownsRow_setCell_below (ownsRow_setCell_below (ownsRow_setCell_below (ownsRow_setCell_below (ownsRow_setCell_below (ownsRow_setCell_below (ownsRow_setCell_below (ownsRow_setCell_below HOWN.out (by simp; omega) _) (by simp; omega) _) (by simp; omega) _) (by simp; omega) _) (by simp; omega) _) (by simp; omega) _) (by simp; omega) _) (by simp; omega) _) (by simp; omega) _) (by omega)⟩
        · have hnone : firstOf l u part num att = none := by have := HJ.out; rw [List.take_of_length_le (by rw [HL.out]; omega)] at this; exact this
          have HK2 : Hid (NoneTo l u part num att 1) := Lib.hid ⟨fun _ => hnone, fun h => by omega, fun h => by omega, fun h => by omega⟩
          have x1 : ¬ (j : Int) < (an : Int) := by omega
          have H4 := (hb.alloc hw0 (.cells #[.int .i64 num, .int .i64 att] 62)).trans (hbi.mono (by omega))
          clear hnone
          go_wp2
          go_roundw
          case rel => exact ⟨1, by omega, by go_num, H4, HK2⟩
          case measure => first | (simp [intOf]; done) | (simp [intOf]; omega)
    | 1, hk, HK =>
      rw [show (((1 : Nat)) : Int) = 1 from rfl]
      go_wp2_with fail
      obtain ⟨W1, hW1⟩ : ∃ x, x = wr := ⟨wr, rfl⟩
      subst hW1
      go_loopw [31] (fun iv wr => ∃ j : Nat, j ≤ an ∧ iv = .int .i64 j ∧ Below (W1.heap.size + 1) (W1.alloc (.cells #[.int .i64 (-1), .int .i64 att] 62)) wr ∧ Hid (firstOf (l.take j) u part (-1) att = none)) (fun iv _ => an - (intOf iv).toNat)
      case atStart => exact ⟨0, Nat.zero_le _, rfl, Below.refl _ _, Lib.hid rfl⟩
      case round =>
        obtain ⟨j, hj, rfl, hbi, HJ⟩ := hrel
        have hwi : W1.heap.size + 1 ≤ wr.heap.size := by have := hbi.size; simpa using this
        have hbwi : Below w.heap.size w wr := (hbw.alloc hbw.size (.cells #[.int .i64 (-1), .int .i64 att] 62)).trans (hbi.mono (by omega))
        have p0 : ∀ o, (wr.alloc o).cell? ⟨W1.heap.size, 0, none⟩ = some (.int .i64 (-1)) := fun o => (World.cell?_alloc_lt wr o ⟨W1.heap.size, 0, none⟩ (by simp; omega)).trans ((hbi.cell (p := ⟨W1.heap.size, 0, none⟩) (by simp)).trans (by go_simp))
        have p1 : ∀ o, (wr.alloc o).cell? ⟨W1.heap.size, 1, none⟩ = some (.int .i64 att) := fun o => (World.cell?_alloc_lt wr o ⟨W1.heap.size, 1, none⟩ (by simp; omega)).trans ((hbi.cell (p := ⟨W1.heap.size, 1, none⟩) (by simp)).trans (by go_simp))
        by_cases hlt : j < an
        · obtain ⟨ad, rfl, hadB, hjl, h0, h1, h2, h3, h4, h5, h6, h7, h8⟩ := acts_here (hr.below (hbwi.mono hB)) j hlt
          have HT := Lib.hid (first_take l u part (-1) att j hjl HJ.out)
          have hof := fun w => wof_any l[j] u part (-1) att w
          have hin := HIN.out _ (List.getElem_mem hjl)
          generalize hx : l[j] = x at *
          obtain ⟨un, pa, nu, at_, la, co, re, di, sA, sn, sc, sy⟩ := x
          dsimp only at h0 h1 h2 h3 h4 h5 h6 h7 h8 hin
          have HOF := Lib.hid hof
          have HX := Lib.hid hin
          clear hx hof hin
          have x1 : (0 : Int) ≤ (j : Int) := by omega
          have x2 : (j : Int) < (an : Int) := by omega
          go_wp2_with fail
          refine (HOF.out _).mono ?_
          rintro e w2 ⟨rfl, hb2⟩
          have hbw2 : Below w.heap.size w w2 := (hbwi.alloc hbwi.size (.cells #[.string un, .int .i64 pa, .int .i64 nu, .int .i64 at_, .int .i64 la, .int .i64 co, .int .i64 re, .int .i64 di, .slice sA sn sc] 38)).trans (hb2.mono (by have := hbwi.size; simp; omega))
          have hbi2 : Below (W1.heap.size + 1) (W1.alloc (.cells #[.int .i64 (-1), .int .i64 att] 62)) w2 := (hbi.alloc hwi (.cells #[.string un, .int .i64 pa, .int .i64 nu, .int .i64 at_, .int .i64 la, .int .i64 co, .int .i64 re, .int .i64 di, .slice sA sn sc] 38)).trans (hb2.mono (by simp; omega))
          cases hof : ofB ⟨un, pa, nu, at_, la, co, re, di, sA, sn, sc, sy⟩ u part (-1) att with
          | false =>
            have HN := Lib.hid (HT.out.2 hof)
            clear hof
            go_wp2
            go_roundw
            case rel => exact ⟨j + 1, by omega, by go_num, hbi2, HN⟩
            case measure => first | (simp [intOf]; done) | (simp [intOf]; omega)
          | true =>
            have HN := Lib.hid (HT.out.1 hof)
            clear hof
            have g9 := (actAt_new wr un pa nu at_ la co re di sA sn sc sy 38).below hb2 (by simp)
            obtain ⟨g0, g1, g2, g3, g4, g5, g6, g7, g8⟩ := g9
            simp only [Nat.zero_add] at g0 g1 g2 g3 g4 g5 g6 g7 g8
            go_wp2_with fail
            have hin2 := HX.out
            refine (copied_any ⟨un, pa, nu, at_, la, co, re, di, sA, sn, sc, sy⟩ w2 B (hin2.1.below (hbw2.mono hB)) (Nat.le_trans hB hbw2.size) hin2.2).mono ?_
            rintro e w3 ⟨A', c', rfl, hown3, hb3⟩
            have hs2 := hbw2.size
            have hs21 := hbi2.size
            have hs22 : w.heap.size + 2 ≤ w2.heap.size := by simp at hs21; omega
            have H3 := ((hb.alloc hw0 (.cells #[.int .i64 (-1), .int .i64 att] 62)).trans (hbi2.mono (by omega))).trans (hb3.mono hs22)
            have hbw3 := hbw2.trans (hb3.mono hs2)
            have d0 : w3.cell? ⟨w.heap.size + 1, 0, none⟩ = some (.string ⟨#[]⟩) := (H3.cell (p := ⟨w.heap.size + 1, 0, none⟩) (by simp)).trans (by go_simp)
            have f0 : w3.frozen? ⟨w.heap.size + 1, 0, none⟩ = false := (H3.frozen (p := ⟨w.heap.size + 1, 0, none⟩) (by simp)).trans (by go_simp)
            have d1 : w3.cell? ⟨w.heap.size + 1, 1, none⟩ = some (.int .i64 0) := (H3.cell (p := ⟨w.heap.size + 1, 1, none⟩) (by simp)).trans (by go_simp)
            have f1 : w3.frozen? ⟨w.heap.size + 1, 1, none⟩ = false := (H3.frozen (p := ⟨w.heap.size + 1, 1, none⟩) (by simp)).trans (by go_simp)
            have d2 : w3.cell? ⟨w.heap.size + 1, 2, none⟩ = some (.int .i64 0) := (H3.cell (p := ⟨w.heap.size + 1, 2, none⟩) (by simp)).trans (by go_simp)
            have f2 : w3.frozen? ⟨w.heap.size + 1, 2, none⟩ = false := (H3.frozen (p := ⟨w.heap.size + 1, 2, none⟩) (by simp)).trans (by go_simp)
            have d3 : w3.cell? ⟨w.heap.size + 1, 3, none⟩ = some (.int .i64 0) := (H3.cell (p := ⟨w.heap.size + 1, 3, none⟩) (by simp)).trans (by go_simp)
            have f3 : w3.frozen? ⟨w.heap.size + 1, 3, none⟩ = false := (H3.frozen (p := ⟨w.heap.size + 1, 3, none⟩) (by simp)).trans (by go_simp)
            have d4 : w3.cell? ⟨w.heap.size + 1, 4, none⟩ = some (.int .i64 0) := (H3.cell (p := ⟨w.heap.size + 1, 4, none⟩) (by simp)).trans (by go_simp)
            have f4 : w3.frozen? ⟨w.heap.size + 1, 4, none⟩ = false := (H3.frozen (p := ⟨w.heap.size + 1, 4, none⟩) (by simp)).trans (by go_simp)
            have d5 : w3.cell? ⟨w.heap.size + 1, 5, none⟩ = some (.int .i64 0) := (H3.cell (p := ⟨w.heap.size + 1, 5, none⟩) (by simp)).trans (by go_simp)
            have f5 : w3.frozen? ⟨w.heap.size + 1, 5, none⟩ = false := (H3.frozen (p := ⟨w.heap.size + 1, 5, none⟩) (by simp)).trans (by go_simp)
            have d6 : w3.cell? ⟨w.heap.size + 1, 6, none⟩ = some (.int .i64 0) := (H3.cell (p := ⟨w.heap.size + 1, 6, none⟩) (by simp)).trans (by go_simp)
            have f6 : w3.frozen? ⟨w.heap.size + 1, 6, none⟩ = false := (H3.frozen (p := ⟨w.heap.size + 1, 6, none⟩) (by simp)).trans (by go_simp)
            have d7 : w3.cell? ⟨w.heap.size + 1, 7, none⟩ = some (.int .i64 0) := (H3.cell (p := ⟨w.heap.size + 1, 7, none⟩) (by simp)).trans (by go_simp)
            have f7 : w3.frozen? ⟨w.heap.size + 1, 7, none⟩ = false := (H3.frozen (p := ⟨w.heap.size + 1, 7, none⟩) (by simp)).trans (by go_simp)
            have d8 : w3.cell? ⟨w.heap.size + 1, 8, none⟩ = some (.slice none 0 0) := (H3.cell (p := ⟨w.heap.size + 1, 8, none⟩) (by simp)).trans (by go_simp)
            have f8 : w3.frozen? ⟨w.heap.size + 1, 8, none⟩ = false := (H3.frozen (p := ⟨w.heap.size + 1, 8, none⟩) (by simp)).trans (by go_simp)
            have HOWN := Lib.hid hown3
            clear hown3 g0 g1 g2 g3 g4 g5 g6 g7 g8 h0 h1 h2 h3 h4 h5 h6 h7 h8 p0 p1 q0 H3 hb3 hbi2 hbi hb2
            simp only [actV, actC]
            have HF : Hid (findAct l u part num att = some ⟨un, pa, nu, at_, la, co, re, di, sA, sn, sc, sy⟩) := Lib.hid (by unfold findAct; rw [HK.out.1 (by omega), HN.out])
            go_wp2_with fail
            refine bodyPost_ret (v := .tuple #[.agg #[.string un, .int .i64 pa, .int .i64 nu, .int .i64 at_, .int .i64 la, .int .i64 co, .int .i64 re, .int .i64 di, .slice A' sn c'], .bool true]) (by simp [results, Try.results13, go_sem, d0, d1, d2, d3, d4, d5, d6, d7, d8]) rfl ?_
            rw [HF.out]
            exact ⟨(Below.setCell (Below.setCell (Below.setCell (Below.setCell (Below.setCell (Below.setCell (Below.setCell (Below.setCell (Below.setCell hbw3 (by simp) _) (by simp) _) (by simp) _) (by simp) _) (by simp) _) (by simp) _) (by simp) _) (by simp) _) (by simp) _), A', c', rfl, own_mono (ownsRow_setCell_below (ownsRow_setCell_below (ownsRow_setCell_below (ownsRow_setCell_below (ownsRow_setCell_below (ownsRow_setCell_below (ownsRow_setCell_below (ownsRow_setCell_below (ownsRow_setCell_below HOWN.out (by simp; omega) _) (by simp; omega) _) (by simp; omega) _) (by simp; omega) _) (by simp; omega) _) (by simp; omega) _) (by simp; omega) _) (by simp; omega) _) (by simp; omega) _) (by omega)⟩
        · have hnone : firstOf l u part (-1) att = none := by have := HJ.out; rw [List.take_of_length_le (by rw [HL.out]; omega)] at this; exact this
          have HK2 : Hid (NoneTo l u part num att 2) := Lib.hid ⟨fun _ => HK.out.1 (by omega), fun _ => hnone, fun h => by omega, fun h => by omega⟩
          have x1 : ¬ (j : Int) < (an : Int) := by omega
          have H4 := (hb.alloc hw0 (.cells #[.int .i64 (-1), .int .i64 att] 62)).trans (hbi.mono (by omega))
          clear hnone
          go_wp2
          go_roundw
          case rel => exact ⟨2, by omega, by go_num, H4, HK2⟩
          case measure => first | (simp [intOf]; done) | (simp [intOf]; omega)
    | 2, hk, HK =>
      rw [show (((2 : Nat)) : Int) = 2 from rfl]
      go_wp2_with fail
      obtain ⟨W1, hW1⟩ : ∃ x, x = wr := ⟨wr, rfl⟩
      subst hW1
      go_loopw [31] (fun iv wr => ∃ j : Nat, j ≤ an ∧ iv = .int .i64 j ∧ Below (W1.heap.size + 1) (W1.alloc (.cells #[.int .i64 num, .int .i64 0] 62)) wr ∧ Hid (firstOf (l.take j) u part num 0 = none)) (fun iv _ => an - (intOf iv).toNat)
      case atStart => exact ⟨0, Nat.zero_le _, rfl, Below.refl _ _, Lib.hid rfl⟩
      case round =>
        obtain ⟨j, hj, rfl, hbi, HJ⟩ := hrel
        have hwi : W1.heap.size + 1 ≤ wr.heap.size := by have := hbi.size; simpa using this
        have hbwi : Below w.heap.size w wr := (hbw.alloc hbw.size (.cells #[.int .i64 num, .int .i64 0] 62)).trans (hbi.mono (by omega))
        have p0 : ∀ o, (wr.alloc o).cell? ⟨W1.heap.size, 0, none⟩ = some (.int .i64 num) := fun o => (World.cell?_alloc_lt wr o ⟨W1.heap.size, 0, none⟩ (by simp; omega)).trans ((hbi.cell (p := ⟨W1.heap.size, 0, none⟩) (by simp)).trans (by go_simp))
        have p1 : ∀ o, (wr.alloc o).cell? ⟨W1.heap.size, 1, none⟩ = some (.int .i64 0) := fun o => (World.cell?_alloc_lt wr o ⟨W1.heap.size, 1, none⟩ (by simp; omega)).trans ((hbi.cell (p := ⟨W1.heap.size, 1, none⟩) (by simp)).trans (by go_simp))
        by_cases hlt : j < an
        · obtain ⟨ad, rfl, hadB, hjl, h0, h1, h2, h3, h4, h5, h6, h7, h8⟩ := acts_here (hr.below (hbwi.mono hB)) j hlt
          have HT := Lib.hid (first_take l u part num 0 j hjl HJ.out)
          have hof := fun w => wof_any l[j] u part num 0 w
          have hin := HIN.out _ (List.getElem_mem hjl)
          generalize hx : l[j] = x at *
          obtain ⟨un, pa, nu, at_, la, co, re, di, sA, sn, sc, sy⟩ := x
          dsimp only at h0 h1 h2 h3 h4 h5 h6 h7 h8 hin
          have HOF := Lib.hid hof
          have HX := Lib.hid hin
          clear hx hof hin
          have x1 : (0 : Int) ≤ (j : Int) := by omega
          have x2 : (j : Int) < (an : Int) := by omega
          go_wp2_with fail
          refine (HOF.out _).mono ?_
          rintro e w2 ⟨rfl, hb2⟩
          have hbw2 : Below w.heap.size w w2 := (hbwi.alloc hbwi.size (.cells #[.string un, .int .i64 pa, .int .i64 nu, .int .i64 at_, .int .i64 la, .int .i64 co, .int .i64 re, .int .i64 di, .slice sA sn sc] 38)).trans (hb2.mono (by have := hbwi.size; simp; omega))
          have hbi2 : Below (W1.heap.size + 1) (W1.alloc (.cells #[.int .i64 num, .int .i64 0] 62)) w2 := (hbi.alloc hwi (.cells #[.string un, .int .i64 pa, .int .i64 nu, .int .i64 at_, .int .i64 la, .int .i64 co, .int .i64 re, .int .i64 di, .slice sA sn sc] 38)).trans (hb2.mono (by simp; omega))
          cases hof : ofB ⟨un, pa, nu, at_, la, co, re, di, sA, sn, sc, sy⟩ u part num 0 with
          | false =>
            have HN := Lib.hid (HT.out.2 hof)
            clear hof
            go_wp2
            go_roundw
            case rel => exact ⟨j + 1, by omega, by go_num, hbi2, HN⟩
            case measure => first | (simp [intOf]; done) | (simp [intOf]; omega)
          | true =>
            have HN := Lib.hid (HT.out.1 hof)
            clear hof
            have g9 := (actAt_new wr un pa nu at_ la co re di sA sn sc sy 38).below hb2 (by simp)
            obtain ⟨g0, g1, g2, g3, g4, g5, g6, g7, g8⟩ := g9
            simp only [Nat.zero_add] at g0 g1 g2 g3 g4 g5 g6 g7 g8
            go_wp2_with fail
            have hin2 := HX.out
            refine (copied_any ⟨un, pa, nu, at_, la, co, re, di, sA, sn, sc, sy⟩ w2 B (hin2.1.below (hbw2.mono hB)) (Nat.le_trans hB hbw2.size) hin2.2).mono ?_
            rintro e w3 ⟨A', c', rfl, hown3, hb3⟩
            have hs2 := hbw2.size
            have hs21 := hbi2.size
            have hs22 : w.heap.size + 2 ≤ w2.heap.size := by simp at hs21; omega
            have H3 := ((hb.alloc hw0 (.cells #[.int .i64 num, .int .i64 0] 62)).trans (hbi2.mono (by omega))).trans (hb3.mono hs22)
            have hbw3 := hbw2.trans (hb3.mono hs2)
            have d0 : w3.cell? ⟨w.heap.size + 1, 0, none⟩ = some (.string ⟨#[]⟩) := (H3.cell (p := ⟨w.heap.size + 1, 0, none⟩) (by simp)).trans (by go_simp)
            have f0 : w3.frozen? ⟨w.heap.size + 1, 0, none⟩ = false := (H3.frozen (p := ⟨w.heap.size + 1, 0, none⟩) (by simp)).trans (by go_simp)
            have d1 : w3.cell? ⟨w.heap.size + 1, 1, none⟩ = some (.int .i64 0) := (H3.cell (p := ⟨w.heap.size + 1, 1, none⟩) (by simp)).trans (by go_simp)
            have f1 : w3.frozen? ⟨w.heap.size + 1, 1, none⟩ = false := (H3.frozen (p := ⟨w.heap.size + 1, 1, none⟩) (by simp)).trans (by go_simp)
            have d2 : w3.cell? ⟨w.heap.size + 1, 2, none⟩ = some (.int .i64 0) := (H3.cell (p := ⟨w.heap.size + 1, 2, none⟩) (by simp)).trans (by go_simp)
            have f2 : w3.frozen? ⟨w.heap.size + 1, 2, none⟩ = false := (H3.frozen (p := ⟨w.heap.size + 1, 2, none⟩) (by simp)).trans (by go_simp)
            have d3 : w3.cell? ⟨w.heap.size + 1, 3, none⟩ = some (.int .i64 0) := (H3.cell (p := ⟨w.heap.size + 1, 3, none⟩) (by simp)).trans (by go_simp)
            have f3 : w3.frozen? ⟨w.heap.size + 1, 3, none⟩ = false := (H3.frozen (p := ⟨w.heap.size + 1, 3, none⟩) (by simp)).trans (by go_simp)
            have d4 : w3.cell? ⟨w.heap.size + 1, 4, none⟩ = some (.int .i64 0) := (H3.cell (p := ⟨w.heap.size + 1, 4, none⟩) (by simp)).trans (by go_simp)
            have f4 : w3.frozen? ⟨w.heap.size + 1, 4, none⟩ = false := (H3.frozen (p := ⟨w.heap.size + 1, 4, none⟩) (by simp)).trans (by go_simp)
            have d5 : w3.cell? ⟨w.heap.size + 1, 5, none⟩ = some (.int .i64 0) := (H3.cell (p := ⟨w.heap.size + 1, 5, none⟩) (by simp)).trans (by go_simp)
            have f5 : w3.frozen? ⟨w.heap.size + 1, 5, none⟩ = false := (H3.frozen (p := ⟨w.heap.size + 1, 5, none⟩) (by simp)).trans (by go_simp)
            have d6 : w3.cell? ⟨w.heap.size + 1, 6, none⟩ = some (.int .i64 0) := (H3.cell (p := ⟨w.heap.size + 1, 6, none⟩) (by simp)).trans (by go_simp)
            have f6 : w3.frozen? ⟨w.heap.size + 1, 6, none⟩ = false := (H3.frozen (p := ⟨w.heap.size + 1, 6, none⟩) (by simp)).trans (by go_simp)
            have d7 : w3.cell? ⟨w.heap.size + 1, 7, none⟩ = some (.int .i64 0) := (H3.cell (p := ⟨w.heap.size + 1, 7, none⟩) (by simp)).trans (by go_simp)
            have f7 : w3.frozen? ⟨w.heap.size + 1, 7, none⟩ = false := (H3.frozen (p := ⟨w.heap.size + 1, 7, none⟩) (by simp)).trans (by go_simp)
            have d8 : w3.cell? ⟨w.heap.size + 1, 8, none⟩ = some (.slice none 0 0) := (H3.cell (p := ⟨w.heap.size + 1, 8, none⟩) (by simp)).trans (by go_simp)
            have f8 : w3.frozen? ⟨w.heap.size + 1, 8, none⟩ = false := (H3.frozen (p := ⟨w.heap.size + 1, 8, none⟩) (by simp)).trans (by go_simp)
            have HOWN := Lib.hid hown3
            clear hown3 g0 g1 g2 g3 g4 g5 g6 g7 g8 h0 h1 h2 h3 h4 h5 h6 h7 h8 p0 p1 q0 H3 hb3 hbi2 hbi hb2
            simp only [actV, actC]
            have HF : Hid (findAct l u part num att = some ⟨un, pa, nu, at_, la, co, re, di, sA, sn, sc, sy⟩) := Lib.hid (by unfold findAct; rw [HK.out.1 (by omega), HK.out.2.1 (by omega), HN.out])
            go_wp2_with fail
            refine bodyPost_ret (v := .tuple #[.agg #[.string un, .int .i64 pa, .int .i64 nu, .int .i64 at_, .int .i64 la, .int .i64 co, .int .i64 re, .int .i64 di, .slice A' sn c'], .bool true]) (by simp [results, Try.results13, go_sem, d0, d1, d2, d3, d4, d5, d6, d7, d8]) rfl ?_
            rw [HF.out]
            exact ⟨(Below.setCell (Below.setCell (Below.setCell (Below.setCell (Below.setCell (Below.setCell (Below.setCell (Below.setCell (Below.setCell hbw3 (by simp) _) (by simp) _) (by simp) _) (by simp) _) (by simp) _) (by simp) _) (by simp) _) (by simp) _) (by simp) _), A', c', rfl, own_mono (ownsRow_setCell_below (ownsRow_setCell_below (ownsRow_setCell_below (ownsRow_setCell_below (ownsRow_setCell_below (ownsRow_setCell_below (ownsRow_setCell_below (ownsRow_setCell_below (ownsRow_setCell_below HOWN.out (by simp; omega) _) (by simp; omega) _) (by simp; omega) _) (by simp; omega) _) (by simp; omega) _) (by simp; omega) _) (by simp; omega) _) (by simp; omega) _) (by simp; omega) _) (by omega)⟩
        · have hnone : firstOf l u part num 0 = none := by have := HJ.out; rw [List.take_of_length_le (by rw [HL.out]; omega)] at this; exact this
          have HK2 : Hid (NoneTo l u part num att 3) := Lib.hid ⟨fun _ => HK.out.1 (by omega), fun _ => HK.out.2.1 (by omega), fun _ => hnone, fun h => by omega⟩
          have x1 : ¬ (j : Int) < (an : Int) := by omega
          have H4 := (hb.alloc hw0 (.cells #[.int .i64 num, .int .i64 0] 62)).trans (hbi.mono (by omega))
          clear hnone
          go_wp2
          go_roundw
          case rel => exact ⟨3, by omega, by go_num, H4, HK2⟩
          case measure => first | (simp [intOf]; done) | (simp [intOf]; omega)
    | 3, hk, HK =>
      rw [show (((3 : Nat)) : Int) = 3 from rfl]
      go_wp2_with fail
      obtain ⟨W1, hW1⟩ : ∃ x, x = wr := ⟨wr, rfl⟩
      subst hW1
      go_loopw [31] (fun iv wr => ∃ j : Nat, j ≤ an ∧ iv = .int .i64 j ∧ Below (W1.heap.size + 1) (W1.alloc (.cells #[.int .i64 (-1), .int .i64 0] 62)) wr ∧ Hid (firstOf (l.take j) u part (-1) 0 = none)) (fun iv _ => an - (intOf iv).toNat)
      case atStart => exact ⟨0, Nat.zero_le _, rfl, Below.refl _ _, Lib.hid rfl⟩
      case round =>
        obtain ⟨j, hj, rfl, hbi, HJ⟩ := hrel
        have hwi : W1.heap.size + 1 ≤ wr.heap.size := by have := hbi.size; simpa using this
        have hbwi : Below w.heap.size w wr := (hbw.alloc hbw.size (.cells #[.int .i64 (-1), .int .i64 0] 62)).trans (hbi.mono (by omega))
        have p0 : ∀ o, (wr.alloc o).cell? ⟨W1.heap.size, 0, none⟩ = some (.int .i64 (-1)) := fun o => (World.cell?_alloc_lt wr o ⟨W1.heap.size, 0, none⟩ (by simp; omega)).trans ((hbi.cell (p := ⟨W1.heap.size, 0, none⟩) (by simp)).trans (by go_simp))
        have p1 : ∀ o, (wr.alloc o).cell? ⟨W1.heap.size, 1, none⟩ = some (.int .i64 0) := fun o => (World.cell?_alloc_lt wr o ⟨W1.heap.size, 1, none⟩ (by simp; omega)).trans ((hbi.cell (p := ⟨W1.heap.size, 1, none⟩) (by simp)).trans (by go_simp))
        by_cases hlt : j < an
        · obtain ⟨ad, rfl, hadB, hjl, h0, h1, h2, h3, h4, h5, h6, h7, h8⟩ := acts_here (hr.below (hbwi.mono hB)) j hlt
          have HT := Lib.hid (first_take l u part (-1) 0 j hjl HJ.out)
          have hof := fun w => wof_any l[j] u part (-1) 0 w
          have hin := HIN.out _ (List.getElem_mem hjl)
          generalize hx : l[j] = x at *
          obtain ⟨un, pa, nu, at_, la, co, re, di, sA, sn, sc, sy⟩ := x
          dsimp only at h0 h1 h2 h3 h4 h5 h6 h7 h8 hin
          have HOF := Lib.hid hof
          have HX := Lib.hid hin
          clear hx hof hin
          have x1 : (0 : Int) ≤ (j : Int) := by omega
          have x2 : (j : Int) < (an : Int) := by omega
          go_wp2_with fail
          refine (HOF.out _).mono ?_
          rintro e w2 ⟨rfl, hb2⟩
          have hbw2 : Below w.heap.size w w2 := (hbwi.alloc hbwi.size (.cells #[.string un, .int .i64 pa, .int .i64 nu, .int .i64 at_, .int .i64 la, .int .i64 co, .int .i64 re, .int .i64 di, .slice sA sn sc] 38)).trans (hb2.mono (by have := hbwi.size; simp; omega))
          have hbi2 : Below (W1.heap.size + 1) (W1.alloc (.cells #[.int .i64 (-1), .int .i64 0] 62)) w2 := (hbi.alloc hwi (.cells #[.string un, .int .i64 pa, .int .i64 nu, .int .i64 at_, .int .i64 la, .int .i64 co, .int .i64 re, .int .i64 di, .slice sA sn sc] 38)).trans (hb2.mono (by simp; omega))
          cases hof : ofB ⟨un, pa, nu, at_, la, co, re, di, sA, sn, sc, sy⟩ u part (-1) 0 with
          | false =>
            have HN := Lib.hid (HT.out.2 hof)
            clear hof
            go_wp2
            go_roundw
            case rel => exact ⟨j + 1, by omega, by go_num, hbi2, HN⟩
            case measure => first | (simp [intOf]; done) | (simp [intOf]; omega)
          | true =>
            have HN := Lib.hid (HT.out.1 hof)
            clear hof
            have g9 := (actAt_new wr un pa nu at_ la co re di sA sn sc sy 38).below hb2 (by simp)
            obtain ⟨g0, g1, g2, g3, g4, g5, g6, g7, g8⟩ := g9
            simp only [Nat.zero_add] at g0 g1 g2 g3 g4 g5 g6 g7 g8
            go_wp2_with fail
            have hin2 := HX.out
            refine (copied_any ⟨un, pa, nu, at_, la, co, re, di, sA, sn, sc, sy⟩ w2 B (hin2.1.below (hbw2.mono hB)) (Nat.le_trans hB hbw2.size) hin2.2).mono ?_
            rintro e w3 ⟨A', c', rfl, hown3, hb3⟩
            have hs2 := hbw2.size
            have hs21 := hbi2.size
            have hs22 : w.heap.size + 2 ≤ w2.heap.size := by simp at hs21; omega
            have H3 := ((hb.alloc hw0 (.cells #[.int .i64 (-1), .int .i64 0] 62)).trans (hbi2.mono (by omega))).trans (hb3.mono hs22)
            have hbw3 := hbw2.trans (hb3.mono hs2)
            have d0 : w3.cell? ⟨w.heap.size + 1, 0, none⟩ = some (.string ⟨#[]⟩) := (H3.cell (p := ⟨w.heap.size + 1, 0, none⟩) (by simp)).trans (by go_simp)
            have f0 : w3.frozen? ⟨w.heap.size + 1, 0, none⟩ = false := (H3.frozen (p := ⟨w.heap.size + 1, 0, none⟩) (by simp)).trans (by go_simp)
            have d1 : w3.cell? ⟨w.heap.size + 1, 1, none⟩ = some (.int .i64 0) := (H3.cell (p := ⟨w.heap.size + 1, 1, none⟩) (by simp)).trans (by go_simp)
            have f1 : w3.frozen? ⟨w.heap.size + 1, 1, none⟩ = false := (H3.frozen (p := ⟨w.heap.size + 1, 1, none⟩) (by simp)).trans (by go_simp)
            have d2 : w3.cell? ⟨w.heap.size + 1, 2, none⟩ = some (.int .i64 0) := (H3.cell (p := ⟨w.heap.size + 1, 2, none⟩) (by simp)).trans (by go_simp)
            have f2 : w3.frozen? ⟨w.heap.size + 1, 2, none⟩ = false := (H3.frozen (p := ⟨w.heap.size + 1, 2, none⟩) (by simp)).trans (by go_simp)
            have d3 : w3.cell? ⟨w.heap.size + 1, 3, none⟩ = some (.int .i64 0) := (H3.cell (p := ⟨w.heap.size + 1, 3, none⟩) (by simp)).trans (by go_simp)
            have f3 : w3.frozen? ⟨w.heap.size + 1, 3, none⟩ = false := (H3.frozen (p := ⟨w.heap.size + 1, 3, none⟩) (by simp)).trans (by go_simp)
            have d4 : w3.cell? ⟨w.heap.size + 1, 4, none⟩ = some (.int .i64 0) := (H3.cell (p := ⟨w.heap.size + 1, 4, none⟩) (by simp)).trans (by go_simp)
            have f4 : w3.frozen? ⟨w.heap.size + 1, 4, none⟩ = false := (H3.frozen (p := ⟨w.heap.size + 1, 4, none⟩) (by simp)).trans (by go_simp)
            have d5 : w3.cell? ⟨w.heap.size + 1, 5, none⟩ = some (.int .i64 0) := (H3.cell (p := ⟨w.heap.size + 1, 5, none⟩) (by simp)).trans (by go_simp)
            have f5 : w3.frozen? ⟨w.heap.size + 1, 5, none⟩ = false := (H3.frozen (p := ⟨w.heap.size + 1, 5, none⟩) (by simp)).trans (by go_simp)
            have d6 : w3.cell? ⟨w.heap.size + 1, 6, none⟩ = some (.int .i64 0) := (H3.cell (p := ⟨w.heap.size + 1, 6, none⟩) (by simp)).trans (by go_simp)
            have f6 : w3.frozen? ⟨w.heap.size + 1, 6, none⟩ = false := (H3.frozen (p := ⟨w.heap.size + 1, 6, none⟩) (by simp)).trans (by go_simp)
            have d7 : w3.cell? ⟨w.heap.size + 1, 7, none⟩ = some (.int .i64 0) := (H3.cell (p := ⟨w.heap.size + 1, 7, none⟩) (by simp)).trans (by go_simp)
            have f7 : w3.frozen? ⟨w.heap.size + 1, 7, none⟩ = false := (H3.frozen (p := ⟨w.heap.size + 1, 7, none⟩) (by simp)).trans (by go_simp)
            have d8 : w3.cell? ⟨w.heap.size + 1, 8, none⟩ = some (.slice none 0 0) := (H3.cell (p := ⟨w.heap.size + 1, 8, none⟩) (by simp)).trans (by go_simp)
            have f8 : w3.frozen? ⟨w.heap.size + 1, 8, none⟩ = false := (H3.frozen (p := ⟨w.heap.size + 1, 8, none⟩) (by simp)).trans (by go_simp)
            have HOWN := Lib.hid hown3
            clear hown3 g0 g1 g2 g3 g4 g5 g6 g7 g8 h0 h1 h2 h3 h4 h5 h6 h7 h8 p0 p1 q0 H3 hb3 hbi2 hbi hb2
            simp only [actV, actC]
            have HF : Hid (findAct l u part num att = some ⟨un, pa, nu, at_, la, co, re, di, sA, sn, sc, sy⟩) := Lib.hid (by unfold findAct; rw [HK.out.1 (by omega), HK.out.2.1 (by omega), HK.out.2.2.1 (by omega), HN.out])
            go_wp2_with fail
            refine bodyPost_ret (v := .tuple #[.agg #[.string un, .int .i64 pa, .int .i64 nu, .int .i64 at_, .int .i64 la, .int .i64 co, .int .i64 re, .int .i64 di, .slice A' sn c'], .bool true]) (by simp [results, Try.results13, go_sem, d0, d1, d2, d3, d4, d5, d6, d7, d8]) rfl ?_
            rw [HF.out]
            exact ⟨(Below.setCell (Below.setCell (Below.setCell (Below.setCell (Below.setCell (Below.setCell (Below.setCell (Below.setCell (Below.setCell hbw3 (by simp) _) (by simp) _) (by simp) _) (by simp) _) (by simp) _) (by simp) _) (by simp) _) (by simp) _) (by simp) _), A', c', rfl, own_mono (ownsRow_setCell_below (ownsRow_setCell_below (ownsRow_setCell_below (ownsRow_setCell_below (ownsRow_setCell_below (ownsRow_setCell_below (ownsRow_setCell_below (ownsRow_setCell_below (ownsRow_setCell_below HOWN.out (by simp; omega) _) (by simp; omega) _) (by simp; omega) _) (by simp; omega) _) (by simp; omega) _) (by simp; omega) _) (by simp; omega) _) (by simp; omega) _) (by simp; omega) _) (by omega)⟩
        · have hnone : firstOf l u part (-1) 0 = none := by have := HJ.out; rw [List.take_of_length_le (by rw [HL.out]; omega)] at this; exact this
          have HK2 : Hid (NoneTo l u part num att 4) := Lib.hid ⟨fun _ => HK.out.1 (by omega), fun _ => HK.out.2.1 (by omega), fun _ => HK.out.2.2.1 (by omega), fun _ => hnone⟩
          have x1 : ¬ (j : Int) < (an : Int) := by omega
          have H4 := (hb.alloc hw0 (.cells #[.int .i64 (-1), .int .i64 0] 62)).trans (hbi.mono (by omega))
          clear hnone
          go_wp2
          go_roundw
          case rel => exact ⟨4, by omega, by go_num, H4, HK2⟩
          case measure => first | (simp [intOf]; done) | (simp [intOf]; omega)
    | 4, hk, HK =>
      rw [show (((4 : Nat)) : Int) = 4 from rfl]
      have d0 : wr.cell? ⟨w.heap.size + 1, 0, none⟩ = some (.string ⟨#[]⟩) := (hb.cell (p := ⟨w.heap.size + 1, 0, none⟩) (by simp)).trans (by go_simp)
      have f0 : wr.frozen? ⟨w.heap.size + 1, 0, none⟩ = false := (hb.frozen (p := ⟨w.heap.size + 1, 0, none⟩) (by simp)).trans (by go_simp)
      have d1 : wr.cell? ⟨w.heap.size + 1, 1, none⟩ = some (.int .i64 0) := (hb.cell (p := ⟨w.heap.size + 1, 1, none⟩) (by simp)).trans (by go_simp)
      have f1 : wr.frozen? ⟨w.heap.size + 1, 1, none⟩ = false := (hb.frozen (p := ⟨w.heap.size + 1, 1, none⟩) (by simp)).trans (by go_simp)
      have d2 : wr.cell? ⟨w.heap.size + 1, 2, none⟩ = some (.int .i64 0) := (hb.cell (p := ⟨w.heap.size + 1, 2, none⟩) (by simp)).trans (by go_simp)
      have f2 : wr.frozen? ⟨w.heap.size + 1, 2, none⟩ = false := (hb.frozen (p := ⟨w.heap.size + 1, 2, none⟩) (by simp)).trans (by go_simp)
      have d3 : wr.cell? ⟨w.heap.size + 1, 3, none⟩ = some (.int .i64 0) := (hb.cell (p := ⟨w.heap.size + 1, 3, none⟩) (by simp)).trans (by go_simp)
      have f3 : wr.frozen? ⟨w.heap.size + 1, 3, none⟩ = false := (hb.frozen (p := ⟨w.heap.size + 1, 3, none⟩) (by simp)).trans (by go_simp)
      have d4 : wr.cell? ⟨w.heap.size + 1, 4, none⟩ = some (.int .i64 0) := (hb.cell (p := ⟨w.heap.size + 1, 4, none⟩) (by simp)).trans (by go_simp)
      have f4 : wr.frozen? ⟨w.heap.size + 1, 4, none⟩ = false := (hb.frozen (p := ⟨w.heap.size + 1, 4, none⟩) (by simp)).trans (by go_simp)
      have d5 : wr.cell? ⟨w.heap.size + 1, 5, none⟩ = some (.int .i64 0) := (hb.cell (p := ⟨w.heap.size + 1, 5, none⟩) (by simp)).trans (by go_simp)
      have f5 : wr.frozen? ⟨w.heap.size + 1, 5, none⟩ = false := (hb.frozen (p := ⟨w.heap.size + 1, 5, none⟩) (by simp)).trans (by go_simp)
      have d6 : wr.cell? ⟨w.heap.size + 1, 6, none⟩ = some (.int .i64 0) := (hb.cell (p := ⟨w.heap.size + 1, 6, none⟩) (by simp)).trans (by go_simp)
      have f6 : wr.frozen? ⟨w.heap.size + 1, 6, none⟩ = false := (hb.frozen (p := ⟨w.heap.size + 1, 6, none⟩) (by simp)).trans (by go_simp)
      have d7 : wr.cell? ⟨w.heap.size + 1, 7, none⟩ = some (.int .i64 0) := (hb.cell (p := ⟨w.heap.size + 1, 7, none⟩) (by simp)).trans (by go_simp)
      have f7 : wr.frozen? ⟨w.heap.size + 1, 7, none⟩ = false := (hb.frozen (p := ⟨w.heap.size + 1, 7, none⟩) (by simp)).trans (by go_simp)
      have d8 : wr.cell? ⟨w.heap.size + 1, 8, none⟩ = some (.slice none 0 0) := (hb.cell (p := ⟨w.heap.size + 1, 8, none⟩) (by simp)).trans (by go_simp)
      have f8 : wr.frozen? ⟨w.heap.size + 1, 8, none⟩ = false := (hb.frozen (p := ⟨w.heap.size + 1, 8, none⟩) (by simp)).trans (by go_simp)
      have HF : Hid (findAct l u part num att = none) := Lib.hid (by unfold findAct; rw [HK.out.1 (by omega), HK.out.2.1 (by omega), HK.out.2.2.1 (by omega), HK.out.2.2.2 (by omega)])
      clear q0
      go_wp2_with fail
      refine bodyPost_ret (v := .tuple #[.agg #[.string ⟨#[]⟩, .int .i64 0, .int .i64 0, .int .i64 0, .int .i64 0, .int .i64 0, .int .i64 0, .int .i64 0, .slice none 0 0], .bool false]) (by simp [results, Try.results13, go_sem, d0, d1, d2, d3, d4, d5, d6, d7, d8]) rfl ?_
      rw [HF.out]
      exact ⟨(Below.setCell (Below.setCell (Below.setCell (Below.setCell (Below.setCell (Below.setCell (Below.setCell (Below.setCell (Below.setCell hbw (by simp) _) (by simp) _) (by simp) _) (by simp) _) (by simp) _) (by simp) _) (by simp) _) (by simp) _) (by simp) _), rfl⟩
    | k + 5, hk, _ => exact absurd hk (by omega)

end Go.Proofs.Ytkfeicgeobhccaa
