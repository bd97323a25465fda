/-
  A part of a field as a text says it: the program's walk.
-/
import Derived.Test.YtpkpoglmmjaoeaaGreatDoorDf
import Derived.Lib.AppendIntMem
import Derived.Lib.LaidTab
namespace Go.Proofs.YtpkpoglmmjaoeaaGreatDoor
open Go.RowKit Go.Shelf

/-- what the listed variables give -/
structure Lays (w : World) : Prop where
  tab : Lib.TabIs Tryz.prog w "internal/strconv.uint64pow10" .u64 Lib.pow10Tab
  max : ∃ m, w.cell? ⟨0, 0, none⟩ = some (.int .i64 m)
def Env (w : World) : Prop := ∀ w', Below w.heap.size w w' → Lays w'
theorem Env.on {w w' : World} (E : Env w) (hb : Below w.heap.size w w') : Env w' := fun x hx => E x (hb.trans (hx.mono hb.size))
theorem Env.here {w : World} (E : Env w) : Lays w := E w (Below.refl _ _)
theorem bytes_of (A : ByteArray) : (⟨A.data.toList.toArray⟩ : ByteArray) = A := by
  cases A; simp
def Sp.bts (l : List UInt8) : ByteArray := ⟨l.toArray⟩
theorem bts_list (l : List UInt8) : (Sp.bts l).data.toList = l := by simp [Sp.bts]
theorem bts_size (l : List UInt8) : (Sp.bts l).size = l.length := by simp [Sp.bts, ByteArray.size]
theorem cut1_any (s A B : ByteArray) (z : Bool) (c : UInt8) (w : World) (hs : s.size ≤ 1048576) (E : Env w) (h : Sp.cut1 c s.data.toList = (A.data.toList, B.data.toList, z)) :
    Calls Tryz.prog 54 #[.string s, .string ⟨#[c]⟩] w fun e w' => e = .returned (.tuple #[.string A, .string B, .bool z]) ∧ ∃ n, w' = w.drewN n := by
  obtain ⟨m, hm⟩ := E.here.max
  have h1 := Tryz.strings_Cut s ⟨#[c]⟩ m w (by omega) hm
  rw [show (⟨#[c]⟩ : ByteArray).data.toList = [c] from rfl, Sp.cut_one, h, bytes_of, bytes_of] at h1
  exact h1
theorem cutD_any (s A B : ByteArray) (z : Bool) (w : World) (hs : s.size ≤ 1048576) (E : Env w) (h : Sp.cutD s.data.toList = (A.data.toList, B.data.toList, z)) :
    Calls Tryz.prog 54 #[.string s, .string ⟨#[46, 46]⟩] w fun e w' => e = .returned (.tuple #[.string A, .string B, .bool z]) ∧ ∃ n, w' = w.drewN n := by
  obtain ⟨m, hm⟩ := E.here.max
  have h1 := Tryz.strings_Cut s ⟨#[46, 46]⟩ m w (by omega) hm
  rw [show (⟨#[46, 46]⟩ : ByteArray).data.toList = [46, 46] from rfl, Sp.cut_dots, h, bytes_of, bytes_of] at h1
  exact h1
theorem cut1_len (c : UInt8) : ∀ l : List UInt8, (Sp.cut1 c l).1.length ≤ l.length ∧ (Sp.cut1 c l).2.1.length ≤ l.length
  | [] => ⟨Nat.le_refl _, Nat.le_refl _⟩
  | b :: r => by
    have ih := cut1_len c r
    unfold Sp.cut1
    split
    · simp
    · simp only [List.length_cons]; omega
theorem cutD_len : ∀ l : List UInt8, (Sp.cutD l).1.length ≤ l.length ∧ (Sp.cutD l).2.1.length ≤ l.length
  | [] => ⟨Nat.le_refl _, Nat.le_refl _⟩
  | [b] => ⟨by simp [Sp.cutD], by simp [Sp.cutD]⟩
  | b :: b' :: r => by
    have ih := cutD_len (b' :: r)
    unfold Sp.cutD
    split
    · simp; omega
    · simp only [List.length_cons] at ih ⊢; omega
/-- a part in memory -/
def PB (w : World) (b : Nat) (p : Sp.PartD) : Prop := w.heap[b]? = some (.cells #[.int .i64 p.fr, .int .i64 p.to, .int .i64 p.st] 62 (0, 0))
theorem PB.lt {w : World} {b : Nat} {p : Sp.PartD} (h : PB w b p) : b < w.heap.size := (Array.getElem?_eq_some_iff.1 h).1
theorem PB.c0 {w : World} {b : Nat} {p : Sp.PartD} (h : PB w b p) : w.cell? ⟨b, 0, none⟩ = some (.int .i64 p.fr) := by simp [World.cell?, show w.heap[b]? = _ from h]
theorem PB.c1 {w : World} {b : Nat} {p : Sp.PartD} (h : PB w b p) : w.cell? ⟨b, 1, none⟩ = some (.int .i64 p.to) := by simp [World.cell?, show w.heap[b]? = _ from h]
theorem PB.c2 {w : World} {b : Nat} {p : Sp.PartD} (h : PB w b p) : w.cell? ⟨b, 2, none⟩ = some (.int .i64 p.st) := by simp [World.cell?, show w.heap[b]? = _ from h]
theorem PB.fz {w : World} {b : Nat} {p : Sp.PartD} (h : PB w b p) (i : Nat) : w.frozen? ⟨b, i, none⟩ = false := by simp [World.frozen?, show w.heap[b]? = _ from h]
theorem PB.new (w : World) (x y z : Int) : PB (w.alloc (.cells #[.int .i64 x, .int .i64 y, .int .i64 z] 62)) w.heap.size ⟨x, y, z⟩ := World.alloc_heap_new w _
theorem PB.alloc {w : World} {b : Nat} {p : Sp.PartD} (h : PB w b p) (o : Obj) : PB (w.alloc o) b p := (Below.heap_alloc w o b (PB.lt h)).trans h
theorem PB.under {w w' : World} {b n : Nat} {p : Sp.PartD} (h : PB w b p) (hb : Below n w w') (hlt : b < n) : PB w' b p := (hb.block b hlt).trans h
theorem PB.far {w : World} {b : Nat} {p : Sp.PartD} (h : PB w b p) {a : Addr} (hne : b ≠ a.block) (v : Value) : PB (w.setCell a v) b p := (Below.heap_setCell w a v b hne).trans h
theorem PB.set0 {w : World} {b : Nat} {p : Sp.PartD} (h : PB w b p) (x : Int) : PB (w.setCell ⟨b, 0, none⟩ (.int .i64 x)) b ⟨x, p.to, p.st⟩ := by
  obtain ⟨hlt, hk⟩ := Array.getElem?_eq_some_iff.1 h
  show (w.heap.modify b _)[b]? = _
  rw [Array.getElem?_eq_getElem (by rw [Array.size_modify]; exact hlt), Array.getElem_modify_self, hk]
  rfl
theorem PB.set1 {w : World} {b : Nat} {p : Sp.PartD} (h : PB w b p) (x : Int) : PB (w.setCell ⟨b, 1, none⟩ (.int .i64 x)) b ⟨p.fr, x, p.st⟩ := by
  obtain ⟨hlt, hk⟩ := Array.getElem?_eq_some_iff.1 h
  show (w.heap.modify b _)[b]? = _
  rw [Array.getElem?_eq_getElem (by rw [Array.size_modify]; exact hlt), Array.getElem_modify_self, hk]
  rfl
theorem PB.set2 {w : World} {b : Nat} {p : Sp.PartD} (h : PB w b p) (x : Int) : PB (w.setCell ⟨b, 2, none⟩ (.int .i64 x)) b ⟨p.fr, p.to, x⟩ := by
  obtain ⟨hlt, hk⟩ := Array.getElem?_eq_some_iff.1 h
  show (w.heap.modify b _)[b]? = _
  rw [Array.getElem?_eq_getElem (by rw [Array.size_modify]; exact hlt), Array.getElem_modify_self, hk]
  rfl
theorem PB.put {w : World} {b : Nat} {p : Sp.PartD} (h : PB w b p) (x y z : Int) : PB (((w.setCell ⟨b, 0, none⟩ (.int .i64 x)).setCell ⟨b, 1, none⟩ (.int .i64 y)).setCell ⟨b, 2, none⟩ (.int .i64 z)) b ⟨x, y, z⟩ := ((h.set0 x).set1 y).set2 z
theorem below_put3 {B b : Nat} {w w' : World} (h : Below B w w') (hB : B ≤ b) (x y z : Value) : Below B w (((w'.setCell ⟨b, 0, none⟩ x).setCell ⟨b, 1, none⟩ y).setCell ⟨b, 2, none⟩ z) :=
  ((h.setCell (p := ⟨b, 0, none⟩) hB x).setCell (p := ⟨b, 1, none⟩) hB y).setCell (p := ⟨b, 2, none⟩) hB z
namespace Sp
theorem partP_of {l a b : List UInt8} {z : Bool} (h : cut1 47 l = (a, b, z)) : partP l = if z = true then (match numC b with
    | none => none
    | some st => if st = 0 then none else bodyP a st) else bodyP a 0 := by
  unfold partP; rw [h]; rfl
theorem bodyP_of {a c d : List UInt8} {r : Bool} (st : Int) (h : cutD a = (c, d, r)) : bodyP a st = if a = [42] then some ⟨-1, -1, st⟩ else match numC c with
    | none => none
    | some fr => if r = true then (match numC d with
      | none => none
      | some tv => some ⟨fr, tv, st⟩) else some ⟨fr, -1, st⟩ := by
  unfold bodyP; rw [h]; rfl
end Sp
def pv (p : Sp.PartD) : Value := .agg #[.int .i64 p.fr, .int .i64 p.to, .int .i64 p.st]
def PartPost (l : List UInt8) (e : Ending) : Prop := (∃ p, Sp.partP l = some p ∧ e = .returned (.tuple #[pv p, .bool true])) ∨ (Sp.partP l = none ∧ ∃ p : Sp.PartD, e = .returned (.tuple #[pv p, .bool false]))
set_option maxRecDepth 100000 in
set_option maxHeartbeats 16000000 in
theorem part_in (s A B C T : ByteArray) (z r : Bool) (w : World) (hs : s.size ≤ 1048576) (E : Env w) (hc1 : Sp.cut1 47 s.data.toList = (A.data.toList, B.data.toList, z)) (hcd : Sp.cutD A.data.toList = (C.data.toList, T.data.toList, r)) :
    Calls Tryz.prog 77 #[.string s] w fun e w' => PartPost s.data.toList e ∧ Below w.heap.size w w' := by
  have hP := Sp.partP_of hc1
  obtain ⟨hsA, hsB⟩ : A.size ≤ 1048576 ∧ B.size ≤ 1048576 := by
    have h := cut1_len 47 s.data.toList
    rw [hc1] at h
    have h1 := bytes_size s
    have h2 := bytes_size A
    have h3 := bytes_size B
    dsimp only at h
    omega
  obtain ⟨hsC, hsT⟩ : C.size ≤ 1048576 ∧ T.size ≤ 1048576 := by
    have h := cutD_len A.data.toList
    rw [hcd] at h
    have h1 := bytes_size A
    have h2 := bytes_size C
    have h3 := bytes_size T
    dsimp only at h
    omega
  have HC : Hid (∀ w', Below w.heap.size w w' → Calls Tryz.prog 54 #[.string s, .string ⟨#[47]⟩] w' fun e w'' => e = .returned (.tuple #[.string A, .string B, .bool z]) ∧ ∃ n, w'' = w'.drewN n) := Lib.hid (fun w' hb => cut1_any s A B z 47 w' hs (E.on hb) hc1)
  have HD : Hid (∀ w', Below w.heap.size w w' → Calls Tryz.prog 54 #[.string A, .string ⟨#[46, 46]⟩] w' fun e w'' => e = .returned (.tuple #[.string C, .string T, .bool r]) ∧ ∃ n, w'' = w'.drewN n) := Lib.hid (fun w' hb => cutD_any A C T r w' hsA (E.on hb) hcd)
  clear E hc1
  have hb0 : Below w.heap.size w ((w.alloc (.cells #[.int .i64 0, .int .i64 0, .int .i64 0] 62)).alloc (.cells #[.int .i64 (-1), .int .i64 (-1), .int .i64 0] 62)) := ((Below.refl _ w).alloc (Nat.le_refl _) _).alloc (by simp) _
  go_enter Tryz.func77, Tryz.ntmps77
  go_wp2_with fail
  refine (HC.out _ hb0).mono ?_
  rintro e w1 ⟨rfl, n1, rfl⟩
  have q1 : PB (((w.alloc (.cells #[.int .i64 0, .int .i64 0, .int .i64 0] 62)).alloc (.cells #[.int .i64 (-1), .int .i64 (-1), .int .i64 0] 62)).drewN n1) (w.heap.size + 1) ⟨-1, -1, 0⟩ := by
    have h := PB.new (w.alloc (.cells #[.int .i64 0, .int .i64 0, .int .i64 0] 62)) (-1) (-1) 0
    rw [World.size_alloc] at h
    exact h
  have q0 : PB (((w.alloc (.cells #[.int .i64 0, .int .i64 0, .int .i64 0] 62)).alloc (.cells #[.int .i64 (-1), .int .i64 (-1), .int .i64 0] 62)).drewN n1) (w.heap.size) ⟨0, 0, 0⟩ := (PB.new w 0 0 0).alloc (.cells #[.int .i64 (-1), .int .i64 (-1), .int .i64 0] 62)
  have hb := belowQ hb0 n1
  clear hb0
  generalize ((w.alloc (.cells #[.int .i64 0, .int .i64 0, .int .i64 0] 62)).alloc (.cells #[.int .i64 (-1), .int .i64 (-1), .int .i64 0] 62)).drewN n1 = w1 at *
  cases z with
  | false =>
    have d0 := q1.c0
    have d1 := q1.c1
    have d2 := q1.c2
    have f0 := q1.fz 0
    have f1 := q1.fz 1
    have f2 := q1.fz 2
    have e0 := q0.c0
    have e1 := q0.c1
    have e2 := q0.c2
    have g0 := q0.fz 0
    have g1 := q0.fz 1
    have g2 := q0.fz 2
    dsimp only at d0 d1 d2 e0 e1 e2
    cases hq : (A.toList == [42]) with
    | true =>
      have ha : A.data.toList = [42] := by rw [Lib.toList_data] at hq; simpa using hq
      have HQ : Hid (PartPost s.data.toList (.returned (.tuple #[.agg #[.int .i64 (-1), .int .i64 (-1), .int .i64 0], .bool true]))) := Lib.hid (.inl ⟨⟨-1, -1, 0⟩, by rw [hP]; simp [Sp.bodyP, ha], rfl⟩)
      have qf := PB.put (q0) (-1) (-1) 0
      have r0 := qf.c0
      have r1 := qf.c1
      have r2 := qf.c2
      dsimp only at r0 r1 r2
      have hbf := below_put3 (hb) (Nat.le_refl _) (.int .i64 (-1)) (.int .i64 (-1)) (.int .i64 0)
      have HBF := Lib.hid hbf
      clear hbf qf
      go_wp2
      refine bodyPost_ret (v := .tuple #[.agg #[.int .i64 (-1), .int .i64 (-1), .int .i64 0], .bool true]) (by simp [results, Tryz.f77, go_sem, r0, r1, r2]) rfl ?_
      exact ⟨HQ.out, HBF.out⟩
    | false =>
      have ha : A.data.toList ≠ [42] := by rw [Lib.toList_data] at hq; simpa using hq
      have hPB := Sp.bodyP_of 0 hcd
      rw [if_neg ha] at hPB
      have q1n := q1
      have q0n := q0
      have hbn := hb
      try dsimp only at q1n
      go_wp2_with fail
      refine (HD.out _ hbn).mono ?_
      rintro e w2 ⟨rfl, n2, rfl⟩
      clear d0 d1 d2 f0 f1 f2 e0 e1 e2 g0 g1 g2
      clear q1 q0 hb
      have q1 : PB ((w1).drewN n2) (w.heap.size + 1) ⟨-1, -1, 0⟩ := q1n
      have q0 : PB ((w1).drewN n2) (w.heap.size) ⟨0, 0, 0⟩ := q0n
      have hb := belowQ hbn n2
      clear q1n q0n hbn
      generalize (w1).drewN n2 = w2 at *
      cases hC : Sp.numC C.data.toList with
      | none =>
        have HNC := Lib.hid (fun w => number_no C w (by omega) hC)
        go_wp2_with fail
        refine (HNC.out _).mono ?_
        rintro e w3 ⟨rfl, hb3⟩
        replace q1 := PB.under q1 hb3 (by first | exact q1.lt | (simp; done) | (simp; omega))
        replace q0 := PB.under q0 hb3 (by first | exact q0.lt | (simp; done) | (simp; omega))
        replace hb := Below.trans hb (Below.mono hb3 (Below.size hb))
        have d0 := q1.c0
        have d1 := q1.c1
        have d2 := q1.c2
        have f0 := q1.fz 0
        have f1 := q1.fz 1
        have f2 := q1.fz 2
        have e0 := q0.c0
        have e1 := q0.c1
        have e2 := q0.c2
        have g0 := q0.fz 0
        have g1 := q0.fz 1
        have g2 := q0.fz 2
        dsimp only at d0 d1 d2 e0 e1 e2
        have HQ : Hid (PartPost s.data.toList (.returned (.tuple #[.agg #[.int .i64 0, .int .i64 (-1), .int .i64 0], .bool false]))) := Lib.hid (.inr ⟨by rw [hP]; simp [hPB, hC], ⟨0, -1, 0⟩, rfl⟩)
        have qf := PB.put (q0.far (a := ⟨w.heap.size + 1, 0, none⟩) (by simp) (.int .i64 0)) 0 (-1) 0
        have r0 := qf.c0
        have r1 := qf.c1
        have r2 := qf.c2
        dsimp only at r0 r1 r2
        have hbf := below_put3 (hb.setCell (p := ⟨w.heap.size + 1, 0, none⟩) (by simp) (.int .i64 0)) (Nat.le_refl _) (.int .i64 0) (.int .i64 (-1)) (.int .i64 0)
        have HBF := Lib.hid hbf
        clear hbf qf
        go_wp2
        refine bodyPost_ret (v := .tuple #[.agg #[.int .i64 0, .int .i64 (-1), .int .i64 0], .bool false]) (by simp [results, Tryz.f77, go_sem, r0, r1, r2]) rfl ?_
        exact ⟨HQ.out, HBF.out⟩
      | some fr =>
        have HNC := Lib.hid (fun w => number_yes C fr w hC)
        go_wp2_with fail
        refine (HNC.out _).mono ?_
        rintro e w3 ⟨rfl, hb3⟩
        replace q1 := PB.under q1 hb3 (by first | exact q1.lt | (simp; done) | (simp; omega))
        replace q0 := PB.under q0 hb3 (by first | exact q0.lt | (simp; done) | (simp; omega))
        replace hb := Below.trans hb (Below.mono hb3 (Below.size hb))
        have d0 := q1.c0
        have d1 := q1.c1
        have d2 := q1.c2
        have f0 := q1.fz 0
        have f1 := q1.fz 1
        have f2 := q1.fz 2
        have e0 := q0.c0
        have e1 := q0.c1
        have e2 := q0.c2
        have g0 := q0.fz 0
        have g1 := q0.fz 1
        have g2 := q0.fz 2
        dsimp only at d0 d1 d2 e0 e1 e2
        cases r with
        | false =>
          have HQ : Hid (PartPost s.data.toList (.returned (.tuple #[.agg #[.int .i64 fr, .int .i64 (-1), .int .i64 0], .bool true]))) := Lib.hid (.inl ⟨⟨fr, -1, 0⟩, by rw [hP]; simp [hPB, hC], rfl⟩)
          have qf := PB.put (q0.far (a := ⟨w.heap.size + 1, 0, none⟩) (by simp) (.int .i64 fr)) fr (-1) 0
          have r0 := qf.c0
          have r1 := qf.c1
          have r2 := qf.c2
          dsimp only at r0 r1 r2
          have hbf := below_put3 (hb.setCell (p := ⟨w.heap.size + 1, 0, none⟩) (by simp) (.int .i64 fr)) (Nat.le_refl _) (.int .i64 fr) (.int .i64 (-1)) (.int .i64 0)
          have HBF := Lib.hid hbf
          clear hbf qf
          go_wp2
          refine bodyPost_ret (v := .tuple #[.agg #[.int .i64 fr, .int .i64 (-1), .int .i64 0], .bool true]) (by simp [results, Tryz.f77, go_sem, r0, r1, r2]) rfl ?_
          exact ⟨HQ.out, HBF.out⟩
        | true =>
          have q1n := q1.set0 fr
          have q0n := q0.far (a := ⟨w.heap.size + 1, 0, none⟩) (by simp) (.int .i64 fr)
          have hbn := hb.setCell (p := ⟨w.heap.size + 1, 0, none⟩) (by simp) (.int .i64 fr)
          try dsimp only at q1n
          cases hT : Sp.numC T.data.toList with
          | none =>
            have HNT := Lib.hid (fun w => number_no T w (by omega) hT)
            go_wp2_with fail
            refine (HNT.out _).mono ?_
            rintro e w4 ⟨rfl, hb4⟩
            clear d0 d1 d2 f0 f1 f2 e0 e1 e2 g0 g1 g2
            clear q1 q0 hb
            have q1 := PB.under q1n hb4 (by first | exact q1n.lt | (simp; done))
            have q0 := PB.under q0n hb4 (by first | exact q0n.lt | (simp; done))
            have hb := Below.trans hbn (Below.mono hb4 (Below.size hbn))
            clear q1n q0n hbn hb4
            have d0 := q1.c0
            have d1 := q1.c1
            have d2 := q1.c2
            have f0 := q1.fz 0
            have f1 := q1.fz 1
            have f2 := q1.fz 2
            have e0 := q0.c0
            have e1 := q0.c1
            have e2 := q0.c2
            have g0 := q0.fz 0
            have g1 := q0.fz 1
            have g2 := q0.fz 2
            dsimp only at d0 d1 d2 e0 e1 e2
            have HQ : Hid (PartPost s.data.toList (.returned (.tuple #[.agg #[.int .i64 fr, .int .i64 0, .int .i64 0], .bool false]))) := Lib.hid (.inr ⟨by rw [hP]; simp [hPB, hC, hT], ⟨fr, 0, 0⟩, rfl⟩)
            have qf := PB.put (q0.far (a := ⟨w.heap.size + 1, 1, none⟩) (by simp) (.int .i64 0)) fr 0 0
            have r0 := qf.c0
            have r1 := qf.c1
            have r2 := qf.c2
            dsimp only at r0 r1 r2
            have hbf := below_put3 (hb.setCell (p := ⟨w.heap.size + 1, 1, none⟩) (by simp) (.int .i64 0)) (Nat.le_refl _) (.int .i64 fr) (.int .i64 0) (.int .i64 0)
            have HBF := Lib.hid hbf
            clear hbf qf
            go_wp2
            refine bodyPost_ret (v := .tuple #[.agg #[.int .i64 fr, .int .i64 0, .int .i64 0], .bool false]) (by simp [results, Tryz.f77, go_sem, r0, r1, r2]) rfl ?_
            exact ⟨HQ.out, HBF.out⟩
          | some tv =>
            have HNT := Lib.hid (fun w => number_yes T tv w hT)
            go_wp2_with fail
            refine (HNT.out _).mono ?_
            rintro e w4 ⟨rfl, hb4⟩
            clear d0 d1 d2 f0 f1 f2 e0 e1 e2 g0 g1 g2
            clear q1 q0 hb
            have q1 := PB.under q1n hb4 (by first | exact q1n.lt | (simp; done))
            have q0 := PB.under q0n hb4 (by first | exact q0n.lt | (simp; done))
            have hb := Below.trans hbn (Below.mono hb4 (Below.size hbn))
            clear q1n q0n hbn hb4
            have d0 := q1.c0
            have d1 := q1.c1
            have d2 := q1.c2
            have f0 := q1.fz 0
            have f1 := q1.fz 1
            have f2 := q1.fz 2
            have e0 := q0.c0
            have e1 := q0.c1
            have e2 := q0.c2
            have g0 := q0.fz 0
            have g1 := q0.fz 1
            have g2 := q0.fz 2
            dsimp only at d0 d1 d2 e0 e1 e2
            have HQ : Hid (PartPost s.data.toList (.returned (.tuple #[.agg #[.int .i64 fr, .int .i64 tv, .int .i64 0], .bool true]))) := Lib.hid (.inl ⟨⟨fr, tv, 0⟩, by rw [hP]; simp [hPB, hC, hT], rfl⟩)
            have qf := PB.put (q0.far (a := ⟨w.heap.size + 1, 1, none⟩) (by simp) (.int .i64 tv)) fr tv 0
            have r0 := qf.c0
            have r1 := qf.c1
            have r2 := qf.c2
            dsimp only at r0 r1 r2
            have hbf := below_put3 (hb.setCell (p := ⟨w.heap.size + 1, 1, none⟩) (by simp) (.int .i64 tv)) (Nat.le_refl _) (.int .i64 fr) (.int .i64 tv) (.int .i64 0)
            have HBF := Lib.hid hbf
            clear hbf qf
            go_wp2
            refine bodyPost_ret (v := .tuple #[.agg #[.int .i64 fr, .int .i64 tv, .int .i64 0], .bool true]) (by simp [results, Tryz.f77, go_sem, r0, r1, r2]) rfl ?_
            exact ⟨HQ.out, HBF.out⟩
  | true =>
    cases hB : Sp.numC B.data.toList with
    | none =>
      have HNB := Lib.hid (fun w => number_no B w (by omega) hB)
      go_wp2_with fail
      refine (HNB.out _).mono ?_
      rintro e w2 ⟨rfl, hb2⟩
      replace q1 := PB.under q1 hb2 (by first | exact q1.lt | (simp; done) | (simp; omega))
      replace q0 := PB.under q0 hb2 (by first | exact q0.lt | (simp; done) | (simp; omega))
      replace hb := Below.trans hb (Below.mono hb2 (Below.size hb))
      have d0 := q1.c0
      have d1 := q1.c1
      have d2 := q1.c2
      have f0 := q1.fz 0
      have f1 := q1.fz 1
      have f2 := q1.fz 2
      have e0 := q0.c0
      have e1 := q0.c1
      have e2 := q0.c2
      have g0 := q0.fz 0
      have g1 := q0.fz 1
      have g2 := q0.fz 2
      dsimp only at d0 d1 d2 e0 e1 e2
      have HQ : Hid (PartPost s.data.toList (.returned (.tuple #[.agg #[.int .i64 (-1), .int .i64 (-1), .int .i64 0], .bool false]))) := Lib.hid (.inr ⟨by rw [hP]; simp [hB], ⟨-1, -1, 0⟩, rfl⟩)
      have qf := PB.put (q0.far (a := ⟨w.heap.size + 1, 2, none⟩) (by simp) (.int .i64 0)) (-1) (-1) 0
      have r0 := qf.c0
      have r1 := qf.c1
      have r2 := qf.c2
      dsimp only at r0 r1 r2
      have hbf := below_put3 (hb.setCell (p := ⟨w.heap.size + 1, 2, none⟩) (by simp) (.int .i64 0)) (Nat.le_refl _) (.int .i64 (-1)) (.int .i64 (-1)) (.int .i64 0)
      have HBF := Lib.hid hbf
      clear hbf qf
      go_wp2
      refine bodyPost_ret (v := .tuple #[.agg #[.int .i64 (-1), .int .i64 (-1), .int .i64 0], .bool false]) (by simp [results, Tryz.f77, go_sem, r0, r1, r2]) rfl ?_
      exact ⟨HQ.out, HBF.out⟩
    | some st =>
      have HNB := Lib.hid (fun w => number_yes B st w hB)
      by_cases hst : st = 0
      · subst hst
        go_wp2_with fail
        refine (HNB.out _).mono ?_
        rintro e w2 ⟨rfl, hb2⟩
        replace q1 := PB.under q1 hb2 (by first | exact q1.lt | (simp; done) | (simp; omega))
        replace q0 := PB.under q0 hb2 (by first | exact q0.lt | (simp; done) | (simp; omega))
        replace hb := Below.trans hb (Below.mono hb2 (Below.size hb))
        have d0 := q1.c0
        have d1 := q1.c1
        have d2 := q1.c2
        have f0 := q1.fz 0
        have f1 := q1.fz 1
        have f2 := q1.fz 2
        have e0 := q0.c0
        have e1 := q0.c1
        have e2 := q0.c2
        have g0 := q0.fz 0
        have g1 := q0.fz 1
        have g2 := q0.fz 2
        dsimp only at d0 d1 d2 e0 e1 e2
        have HQ : Hid (PartPost s.data.toList (.returned (.tuple #[.agg #[.int .i64 (-1), .int .i64 (-1), .int .i64 0], .bool false]))) := Lib.hid (.inr ⟨by rw [hP]; simp [hB], ⟨-1, -1, 0⟩, rfl⟩)
        have qf := PB.put (q0.far (a := ⟨w.heap.size + 1, 2, none⟩) (by simp) (.int .i64 0)) (-1) (-1) 0
        have r0 := qf.c0
        have r1 := qf.c1
        have r2 := qf.c2
        dsimp only at r0 r1 r2
        have hbf := below_put3 (hb.setCell (p := ⟨w.heap.size + 1, 2, none⟩) (by simp) (.int .i64 0)) (Nat.le_refl _) (.int .i64 (-1)) (.int .i64 (-1)) (.int .i64 0)
        have HBF := Lib.hid hbf
        clear hbf qf
        go_wp2
        refine bodyPost_ret (v := .tuple #[.agg #[.int .i64 (-1), .int .i64 (-1), .int .i64 0], .bool false]) (by simp [results, Tryz.f77, go_sem, r0, r1, r2]) rfl ?_
        exact ⟨HQ.out, HBF.out⟩
      · have hst2 : (st == 0) = false := by simpa using hst
        go_wp2_with fail
        refine (HNB.out _).mono ?_
        rintro e w2 ⟨rfl, hb2⟩
        replace q1 := PB.under q1 hb2 (by first | exact q1.lt | (simp; done) | (simp; omega))
        replace q0 := PB.under q0 hb2 (by first | exact q0.lt | (simp; done) | (simp; omega))
        replace hb := Below.trans hb (Below.mono hb2 (Below.size hb))
        have q9 := q1
        clear q9
        have d0 := q1.c0
        have d1 := q1.c1
        have d2 := q1.c2
        have f0 := q1.fz 0
        have f1 := q1.fz 1
        have f2 := q1.fz 2
        have e0 := q0.c0
        have e1 := q0.c1
        have e2 := q0.c2
        have g0 := q0.fz 0
        have g1 := q0.fz 1
        have g2 := q0.fz 2
        dsimp only at d0 d1 d2 e0 e1 e2
        cases hq : (A.toList == [42]) with
        | true =>
          have ha : A.data.toList = [42] := by rw [Lib.toList_data] at hq; simpa using hq
          have HQ : Hid (PartPost s.data.toList (.returned (.tuple #[.agg #[.int .i64 (-1), .int .i64 (-1), .int .i64 st], .bool true]))) := Lib.hid (.inl ⟨⟨-1, -1, st⟩, by rw [hP]; simp [hB, hst, Sp.bodyP, ha], rfl⟩)
          have qf := PB.put (q0.far (a := ⟨w.heap.size + 1, 2, none⟩) (by simp) (.int .i64 st)) (-1) (-1) st
          have r0 := qf.c0
          have r1 := qf.c1
          have r2 := qf.c2
          dsimp only at r0 r1 r2
          have hbf := below_put3 (hb.setCell (p := ⟨w.heap.size + 1, 2, none⟩) (by simp) (.int .i64 st)) (Nat.le_refl _) (.int .i64 (-1)) (.int .i64 (-1)) (.int .i64 st)
          have HBF := Lib.hid hbf
          clear hbf qf
          go_wp2
          refine bodyPost_ret (v := .tuple #[.agg #[.int .i64 (-1), .int .i64 (-1), .int .i64 st], .bool true]) (by simp [results, Tryz.f77, go_sem, r0, r1, r2]) rfl ?_
          exact ⟨HQ.out, HBF.out⟩
        | false =>
          have ha : A.data.toList ≠ [42] := by rw [Lib.toList_data] at hq; simpa using hq
          have hPB := Sp.bodyP_of st hcd
          rw [if_neg ha] at hPB
          have q1n := q1.set2 st
          have q0n := q0.far (a := ⟨w.heap.size + 1, 2, none⟩) (by simp) (.int .i64 st)
          have hbn := hb.setCell (p := ⟨w.heap.size + 1, 2, none⟩) (by simp) (.int .i64 st)
          try dsimp only at q1n
          go_wp2_with fail
          refine (HD.out _ hbn).mono ?_
          rintro e w5 ⟨rfl, n2, rfl⟩
          clear d0 d1 d2 f0 f1 f2 e0 e1 e2 g0 g1 g2
          clear q1 q0 hb
          have q1 : PB ((w2.setCell ⟨w.heap.size + 1, 2, none⟩ (.int .i64 st)).drewN n2) (w.heap.size + 1) ⟨-1, -1, st⟩ := q1n
          have q0 : PB ((w2.setCell ⟨w.heap.size + 1, 2, none⟩ (.int .i64 st)).drewN n2) (w.heap.size) ⟨0, 0, 0⟩ := q0n
          have hb := belowQ hbn n2
          clear q1n q0n hbn
          generalize (w2.setCell ⟨w.heap.size + 1, 2, none⟩ (.int .i64 st)).drewN n2 = w5 at *
          cases hC : Sp.numC C.data.toList with
          | none =>
            have HNC := Lib.hid (fun w => number_no C w (by omega) hC)
            go_wp2_with fail
            refine (HNC.out _).mono ?_
            rintro e w3 ⟨rfl, hb3⟩
            replace q1 := PB.under q1 hb3 (by first | exact q1.lt | (simp; done) | (simp; omega))
            replace q0 := PB.under q0 hb3 (by first | exact q0.lt | (simp; done) | (simp; omega))
            replace hb := Below.trans hb (Below.mono hb3 (Below.size hb))
            have d0 := q1.c0
            have d1 := q1.c1
            have d2 := q1.c2
            have f0 := q1.fz 0
            have f1 := q1.fz 1
            have f2 := q1.fz 2
            have e0 := q0.c0
            have e1 := q0.c1
            have e2 := q0.c2
            have g0 := q0.fz 0
            have g1 := q0.fz 1
            have g2 := q0.fz 2
            dsimp only at d0 d1 d2 e0 e1 e2
            have HQ : Hid (PartPost s.data.toList (.returned (.tuple #[.agg #[.int .i64 0, .int .i64 (-1), .int .i64 st], .bool false]))) := Lib.hid (.inr ⟨by rw [hP]; simp [hB, hst, hPB, hC], ⟨0, -1, st⟩, rfl⟩)
            have qf := PB.put (q0.far (a := ⟨w.heap.size + 1, 0, none⟩) (by simp) (.int .i64 0)) 0 (-1) st
            have r0 := qf.c0
            have r1 := qf.c1
            have r2 := qf.c2
            dsimp only at r0 r1 r2
            have hbf := below_put3 (hb.setCell (p := ⟨w.heap.size + 1, 0, none⟩) (by simp) (.int .i64 0)) (Nat.le_refl _) (.int .i64 0) (.int .i64 (-1)) (.int .i64 st)
            have HBF := Lib.hid hbf
            clear hbf qf
            go_wp2
            refine bodyPost_ret (v := .tuple #[.agg #[.int .i64 0, .int .i64 (-1), .int .i64 st], .bool false]) (by simp [results, Tryz.f77, go_sem, r0, r1, r2]) rfl ?_
            exact ⟨HQ.out, HBF.out⟩
          | some fr =>
            have HNC := Lib.hid (fun w => number_yes C fr w hC)
            go_wp2_with fail
            refine (HNC.out _).mono ?_
            rintro e w3 ⟨rfl, hb3⟩
            replace q1 := PB.under q1 hb3 (by first | exact q1.lt | (simp; done) | (simp; omega))
            replace q0 := PB.under q0 hb3 (by first | exact q0.lt | (simp; done) | (simp; omega))
            replace hb := Below.trans hb (Below.mono hb3 (Below.size hb))
            have d0 := q1.c0
            have d1 := q1.c1
            have d2 := q1.c2
            have f0 := q1.fz 0
            have f1 := q1.fz 1
            have f2 := q1.fz 2
            have e0 := q0.c0
            have e1 := q0.c1
            have e2 := q0.c2
            have g0 := q0.fz 0
            have g1 := q0.fz 1
            have g2 := q0.fz 2
            dsimp only at d0 d1 d2 e0 e1 e2
            cases r with
            | false =>
              have HQ : Hid (PartPost s.data.toList (.returned (.tuple #[.agg #[.int .i64 fr, .int .i64 (-1), .int .i64 st], .bool true]))) := Lib.hid (.inl ⟨⟨fr, -1, st⟩, by rw [hP]; simp [hB, hst, hPB, hC], rfl⟩)
              have qf := PB.put (q0.far (a := ⟨w.heap.size + 1, 0, none⟩) (by simp) (.int .i64 fr)) fr (-1) st
              have r0 := qf.c0
              have r1 := qf.c1
              have r2 := qf.c2
              dsimp only at r0 r1 r2
              have hbf := below_put3 (hb.setCell (p := ⟨w.heap.size + 1, 0, none⟩) (by simp) (.int .i64 fr)) (Nat.le_refl _) (.int .i64 fr) (.int .i64 (-1)) (.int .i64 st)
              have HBF := Lib.hid hbf
              clear hbf qf
              go_wp2
              refine bodyPost_ret (v := .tuple #[.agg #[.int .i64 fr, .int .i64 (-1), .int .i64 st], .bool true]) (by simp [results, Tryz.f77, go_sem, r0, r1, r2]) rfl ?_
              exact ⟨HQ.out, HBF.out⟩
            | true =>
              have q1n := q1.set0 fr
              have q0n := q0.far (a := ⟨w.heap.size + 1, 0, none⟩) (by simp) (.int .i64 fr)
              have hbn := hb.setCell (p := ⟨w.heap.size + 1, 0, none⟩) (by simp) (.int .i64 fr)
              try dsimp only at q1n
              cases hT : Sp.numC T.data.toList with
              | none =>
                have HNT := Lib.hid (fun w => number_no T w (by omega) hT)
                go_wp2_with fail
                refine (HNT.out _).mono ?_
                rintro e w4 ⟨rfl, hb4⟩
                clear d0 d1 d2 f0 f1 f2 e0 e1 e2 g0 g1 g2
                clear q1 q0 hb
                have q1 := PB.under q1n hb4 (by first | exact q1n.lt | (simp; done))
                have q0 := PB.under q0n hb4 (by first | exact q0n.lt | (simp; done))
                have hb := Below.trans hbn (Below.mono hb4 (Below.size hbn))
                clear q1n q0n hbn hb4
                have d0 := q1.c0
                have d1 := q1.c1
                have d2 := q1.c2
                have f0 := q1.fz 0
                have f1 := q1.fz 1
                have f2 := q1.fz 2
                have e0 := q0.c0
                have e1 := q0.c1
                have e2 := q0.c2
                have g0 := q0.fz 0
                have g1 := q0.fz 1
                have g2 := q0.fz 2
                dsimp only at d0 d1 d2 e0 e1 e2
                have HQ : Hid (PartPost s.data.toList (.returned (.tuple #[.agg #[.int .i64 fr, .int .i64 0, .int .i64 st], .bool false]))) := Lib.hid (.inr ⟨by rw [hP]; simp [hB, hst, hPB, hC, hT], ⟨fr, 0, st⟩, rfl⟩)
                have qf := PB.put (q0.far (a := ⟨w.heap.size + 1, 1, none⟩) (by simp) (.int .i64 0)) fr 0 st
                have r0 := qf.c0
                have r1 := qf.c1
                have r2 := qf.c2
                dsimp only at r0 r1 r2
                have hbf := below_put3 (hb.setCell (p := ⟨w.heap.size + 1, 1, none⟩) (by simp) (.int .i64 0)) (Nat.le_refl _) (.int .i64 fr) (.int .i64 0) (.int .i64 st)
                have HBF := Lib.hid hbf
                clear hbf qf
                go_wp2
                refine bodyPost_ret (v := .tuple #[.agg #[.int .i64 fr, .int .i64 0, .int .i64 st], .bool false]) (by simp [results, Tryz.f77, go_sem, r0, r1, r2]) rfl ?_
                exact ⟨HQ.out, HBF.out⟩
              | some tv =>
                have HNT := Lib.hid (fun w => number_yes T tv w hT)
                go_wp2_with fail
                refine (HNT.out _).mono ?_
                rintro e w4 ⟨rfl, hb4⟩
                clear d0 d1 d2 f0 f1 f2 e0 e1 e2 g0 g1 g2
                clear q1 q0 hb
                have q1 := PB.under q1n hb4 (by first | exact q1n.lt | (simp; done))
                have q0 := PB.under q0n hb4 (by first | exact q0n.lt | (simp; done))
                have hb := Below.trans hbn (Below.mono hb4 (Below.size hbn))
                clear q1n q0n hbn hb4
                have d0 := q1.c0
                have d1 := q1.c1
                have d2 := q1.c2
                have f0 := q1.fz 0
                have f1 := q1.fz 1
                have f2 := q1.fz 2
                have e0 := q0.c0
                have e1 := q0.c1
                have e2 := q0.c2
                have g0 := q0.fz 0
                have g1 := q0.fz 1
                have g2 := q0.fz 2
                dsimp only at d0 d1 d2 e0 e1 e2
                have HQ : Hid (PartPost s.data.toList (.returned (.tuple #[.agg #[.int .i64 fr, .int .i64 tv, .int .i64 st], .bool true]))) := Lib.hid (.inl ⟨⟨fr, tv, st⟩, by rw [hP]; simp [hB, hst, hPB, hC, hT], rfl⟩)
                have qf := PB.put (q0.far (a := ⟨w.heap.size + 1, 1, none⟩) (by simp) (.int .i64 tv)) fr tv st
                have r0 := qf.c0
                have r1 := qf.c1
                have r2 := qf.c2
                dsimp only at r0 r1 r2
                have hbf := below_put3 (hb.setCell (p := ⟨w.heap.size + 1, 1, none⟩) (by simp) (.int .i64 tv)) (Nat.le_refl _) (.int .i64 fr) (.int .i64 tv) (.int .i64 st)
                have HBF := Lib.hid hbf
                clear hbf qf
                go_wp2
                refine bodyPost_ret (v := .tuple #[.agg #[.int .i64 fr, .int .i64 tv, .int .i64 st], .bool true]) (by simp [results, Tryz.f77, go_sem, r0, r1, r2]) rfl ?_
                exact ⟨HQ.out, HBF.out⟩
theorem part_any (s : ByteArray) (w : World) (hs : s.size ≤ 1048576) (E : Env w) : Calls Tryz.prog 77 #[.string s] w fun e w' => PartPost s.data.toList e ∧ Below w.heap.size w w' :=
  part_in s (Sp.bts (Sp.cut1 47 s.data.toList).1) (Sp.bts (Sp.cut1 47 s.data.toList).2.1) (Sp.bts (Sp.cutD (Sp.cut1 47 s.data.toList).1).1) (Sp.bts (Sp.cutD (Sp.cut1 47 s.data.toList).1).2.1) (Sp.cut1 47 s.data.toList).2.2 (Sp.cutD (Sp.cut1 47 s.data.toList).1).2.2 w hs E
    (by rw [bts_list, bts_list]) (by rw [bts_list, bts_list, bts_list])

end Go.Proofs.YtpkpoglmmjaoeaaGreatDoor
