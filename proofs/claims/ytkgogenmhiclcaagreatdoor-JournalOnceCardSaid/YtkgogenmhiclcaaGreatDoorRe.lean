/-
  The walks that read a row's text and a cursor.
-/
import Derived.Test.YtkgogenmhiclcaaGreatDoorRd
import Derived.Laws.ResultCell
import Derived.Deep.DeepCutAuto
namespace Go.Proofs.YtkgogenmhiclcaaGreatDoor
open Go.RowKit

theorem split_any (s : ByteArray) (w : World) (hs : s.size ≤ 1048576) (E : Env w) :
    Calls Tryz.prog 50 #[.string s, .string ⟨#[44]⟩] w fun e w' => ∃ A c, e = .returned (.slice A (Lib.countB s ⟨#[44]⟩ + 1 : Nat) c) ∧ Rd w' w'.heap.size 1 A (Lib.countB s ⟨#[44]⟩ + 1) ((Lib.splitB ⟨#[44]⟩ 0 (Lib.countB s ⟨#[44]⟩) s).map Value.string) ∧ Below w.heap.size w w' := by
  obtain ⟨m, hm⟩ := E.here.max
  refine (Tryz.strings_Split s ⟨#[44]⟩ m w (by omega) hm (by decide)).mono ?_
  rintro e w' ⟨rfl, rfl⟩
  refine ⟨_, _, rfl, ?_, (Below.refl _ _).alloc (Nat.le_refl _) _⟩
  have hl := Lib.splitB_all ⟨#[44]⟩ (by decide) 0 _ s rfl
  generalize Lib.countB s ⟨#[44]⟩ = n at *
  generalize Lib.splitB ⟨#[44]⟩ 0 n s = L at *
  refine ⟨by simp [hl], fun _ => ⟨_, rfl, by simp, ?_⟩⟩
  intro j u hu
  have hx : ((L.map Value.string).toArray)[j]? = some u := by rw [List.getElem?_toArray]; exact hu
  by_cases hj : j = 0
  · subst hj; simpa [Addr.add] using hx
  · simpa [Addr.add, hj] using hx

namespace Sp
theorem split_sizes (sep : ByteArray) (save : Nat) : ∀ (k : Nat) (s x : ByteArray), x ∈ Lib.splitB sep save k s → x.size ≤ s.size
  | 0, s, x, h => by rw [Lib.splitB, List.mem_singleton] at h; subst h; exact Nat.le_refl _
  | k + 1, s, x, h => by
    unfold Lib.splitB at h
    split at h
    · rw [List.mem_singleton] at h; subst h; exact Nat.le_refl _
    · rcases List.mem_cons.1 h with rfl | h
      · rw [ByteArray.size_extract]; omega
      · have := split_sizes sep save k _ x h
        rw [ByteArray.size_extract] at this
        omega
def numI (o : Option Nat) : Int := match o with | none => 0 | some n => n
theorem parse_no (s A B C D T : ByteArray) (hL : Lib.splitB ⟨#[32]⟩ 0 (min 5 (s.size + 1) - 1) s = [A, B, C, D, T]) (h : (numS A.data.toList).isSome = false ∨ (numS C.data.toList).isSome = false ∨ (numS D.data.toList).isSome = false) : parseP s = none :=
  parse_number s A B C D T hL (by simpa using h)
theorem parse_all (s A B C D T : ByteArray) (hL : Lib.splitB ⟨#[32]⟩ 0 (min 5 (s.size + 1) - 1) s = [A, B, C, D, T]) (h1 : (numS A.data.toList).isSome = true) (h2 : (numS C.data.toList).isSome = true) (h3 : (numS D.data.toList).isSome = true) :
    (printR (⟨numI (numS A.data.toList), backW B, numI (numS C.data.toList), numI (numS D.data.toList), T⟩ : RowD) = s.data.toList → parseP s = some ⟨numI (numS A.data.toList), backW B, numI (numS C.data.toList), numI (numS D.data.toList), T⟩) ∧
    (printR (⟨numI (numS A.data.toList), backW B, numI (numS C.data.toList), numI (numS D.data.toList), T⟩ : RowD) ≠ s.data.toList → parseP s = none) := by
  obtain ⟨x, hx⟩ := Option.isSome_iff_exists.1 h1
  obtain ⟨y, hy⟩ := Option.isSome_iff_exists.1 h2
  obtain ⟨z, hz⟩ := Option.isSome_iff_exists.1 h3
  rw [hx, hy, hz]
  exact parse_numbers s A B C D T hL x y z hx hy hz
theorem place_no (s A B C : ByteArray) (hL : Lib.splitB ⟨#[44]⟩ 0 2 s = [A, B, C]) (h : (numS A.data.toList).isSome = false ∨ (numS C.data.toList).isSome = false) : placeP s = none :=
  place_number s A B C hL (by simpa using h)
theorem place_all (s A B C : ByteArray) (hc : Lib.countB s ⟨#[44]⟩ = 2) (hL : Lib.splitB ⟨#[44]⟩ 0 2 s = [A, B, C]) (h1 : (numS A.data.toList).isSome = true) (h2 : (numS C.data.toList).isSome = true) :
    (cursorR (⟨numI (numS A.data.toList), backW B, numI (numS C.data.toList), 1, ⟨#[]⟩⟩ : RowD) = s.data.toList → placeP s = some ⟨numI (numS A.data.toList), backW B, numI (numS C.data.toList), 1, ⟨#[]⟩⟩) ∧
    (cursorR (⟨numI (numS A.data.toList), backW B, numI (numS C.data.toList), 1, ⟨#[]⟩⟩ : RowD) ≠ s.data.toList → placeP s = none) := by
  obtain ⟨x, hx⟩ := Option.isSome_iff_exists.1 h1
  obtain ⟨y, hy⟩ := Option.isSome_iff_exists.1 h2
  rw [hx, hy]
  exact place_numbers s A B C hc hL x y hx hy
end Sp
theorem numT_any (s : ByteArray) (w : World) (hs : s.size ≤ 140737488355328) (E : Env w) :
    Calls Tryz.prog 51 #[.string s] w fun e w' => e = .returned (.tuple #[.int .i64 (Sp.numI (Sp.numS s.data.toList)), .bool (Sp.numS s.data.toList).isSome]) ∧ Below w.heap.size w w' := by
  refine (number_any s w hs E).mono ?_
  rintro e w' ⟨rfl, hb⟩
  refine ⟨?_, hb⟩
  cases Sp.numS s.data.toList <;> rfl
theorem backW_size (u : ByteArray) : (backW u).size ≤ u.size := by
  unfold backW
  split
  · exact Nat.zero_le _
  · exact Nat.le_refl _
theorem Rd.cells {w : World} {B n : Nat} {ad : Addr} {xs : List Value} (h : Rd w B 1 (some ad) n xs) (h0 : 0 < n) (W : World) (hb : Below B w W) (j : Nat) (u : Value) (hj : xs[j]? = some u) : W.cell? (ad.add j) = some u := by
  obtain ⟨ad', e, hlt, hc⟩ := h.2 h0
  injection e with e
  subst e
  rw [hb.cell (p := ad.add j) (by rw [show (ad.add j).block = ad.block from by unfold Addr.add; split <;> rfl]; exact hlt)]
  exact hc j u hj
theorem addr0 (ad : Addr) : ad.add 0 = ad := by simp [Addr.add]

def zeroR : RowD := ⟨0, ⟨#[]⟩, 0, 0, ⟨#[]⟩⟩
/-- what is handed back for a row, if there is one -/
def rowE (o : Option RowD) : Value := match o with
  | none => .tuple #[rowV zeroR, .bool false]
  | some r => .tuple #[rowV r, .bool true]

/-- a row that lies in a block of its own -/
structure RBox (w : World) (b : Nat) (r : RowD) : Prop where
  c0 : w.cell? ⟨b, 0, none⟩ = some (.int .i64 r.time)
  c1 : w.cell? ⟨b, 1, none⟩ = some (.string r.unit)
  c2 : w.cell? ⟨b, 2, none⟩ = some (.int .i64 r.n)
  c3 : w.cell? ⟨b, 3, none⟩ = some (.int .i64 r.kind)
  c4 : w.cell? ⟨b, 4, none⟩ = some (.string r.text)
  f0 : w.frozen? ⟨b, 0, none⟩ = false
  f1 : w.frozen? ⟨b, 1, none⟩ = false
  f2 : w.frozen? ⟨b, 2, none⟩ = false
  f3 : w.frozen? ⟨b, 3, none⟩ = false
  f4 : w.frozen? ⟨b, 4, none⟩ = false
theorem RBox.on {w w' : World} {b : Nat} {r : RowD} (h : RBox w b r) {B : Nat} (hB : b < B) (hb : Below B w w') : RBox w' b r :=
  ⟨(hb.cell (p := ⟨b, 0, none⟩) hB).trans h.c0, (hb.cell (p := ⟨b, 1, none⟩) hB).trans h.c1, (hb.cell (p := ⟨b, 2, none⟩) hB).trans h.c2, (hb.cell (p := ⟨b, 3, none⟩) hB).trans h.c3, (hb.cell (p := ⟨b, 4, none⟩) hB).trans h.c4,
    (hb.frozen (p := ⟨b, 0, none⟩) hB).trans h.f0, (hb.frozen (p := ⟨b, 1, none⟩) hB).trans h.f1, (hb.frozen (p := ⟨b, 2, none⟩) hB).trans h.f2, (hb.frozen (p := ⟨b, 3, none⟩) hB).trans h.f3, (hb.frozen (p := ⟨b, 4, none⟩) hB).trans h.f4⟩
theorem RBox.new (w : World) (ti n kd : Int) (un tx : ByteArray) : RBox (w.alloc (.cells #[.int .i64 ti, .string un, .int .i64 n, .int .i64 kd, .string tx] 37)) w.heap.size ⟨ti, un, n, kd, tx⟩ :=
  ⟨by simp, by simp, by simp, by simp, by simp, by go_simp, by go_simp, by go_simp, by go_simp, by go_simp⟩

theorem below_put {B b : Nat} {w w' : World} (h : Below B w w') (hB : B ≤ b) (x0 x1 x2 x3 x4 : Value) : Below B w (((((w'.setCell ⟨b, 0, none⟩ x0).setCell ⟨b, 1, none⟩ x1).setCell ⟨b, 2, none⟩ x2).setCell ⟨b, 3, none⟩ x3).setCell ⟨b, 4, none⟩ x4) :=
  Below.setCell (Below.setCell (Below.setCell (Below.setCell (Below.setCell h (p := ⟨b, 0, none⟩) hB _) (p := ⟨b, 1, none⟩) hB _) (p := ⟨b, 2, none⟩) hB _) (p := ⟨b, 3, none⟩) hB _) (p := ⟨b, 4, none⟩) hB _
theorem RBox.put {w : World} {b : Nat} {q : RowD} (h : RBox w b q) (ti n kd : Int) (un tx : ByteArray) : RBox (((((w.setCell ⟨b, 0, none⟩ (.int .i64 ti)).setCell ⟨b, 1, none⟩ (.string un)).setCell ⟨b, 2, none⟩ (.int .i64 n)).setCell ⟨b, 3, none⟩ (.int .i64 kd)).setCell ⟨b, 4, none⟩ (.string tx)) b ⟨ti, un, n, kd, tx⟩ := by
  obtain ⟨c0, c1, c2, c3, c4, f0, f1, f2, f3, f4⟩ := h
  exact ⟨by go_simp, by go_simp, by go_simp, by go_simp, by go_simp, by go_simp, by go_simp, by go_simp, by go_simp, by go_simp⟩

/-- what is handed back for a cursor's place, if there is one -/
def placeE (o : Option RowD) : Value := match o with
  | none => .tuple #[rowV zeroR, .bool false]
  | some r => .tuple #[rowV ⟨r.time, r.unit, r.n, 0, ⟨#[]⟩⟩, .bool true]

set_option maxRecDepth 100000 in
set_option maxHeartbeats 8000000 in
theorem place_any (s : ByteArray) (w : World) (hs : s.size ≤ 1048576) (E : Env w) :
    Calls Tryz.prog 33 #[.string s] w fun e w' => e = .returned (placeE (Sp.placeP s)) ∧ Below w.heap.size w w' := by
  have HS := Lib.hid (fun w E => split_any s w hs E)
  have HSH := Lib.hid (Sp.place_short s)
  have HNO := Lib.hid (Sp.place_no s)
  have HYES := Lib.hid (Sp.place_all s)
  have HSZ := Lib.hid (fun k x => Sp.split_sizes ⟨#[44]⟩ 0 k s x)
  have HLL := Lib.hid (Lib.splitB_all ⟨#[44]⟩ (by decide) 0 _ s rfl)
  generalize Lib.countB s ⟨#[44]⟩ = cn at *
  have hb0 : Below w.heap.size w (w.alloc (.cells #[.int .i64 0, .string ⟨#[]⟩, .int .i64 0, .int .i64 0, .string ⟨#[]⟩] 37)) := (Below.refl _ _).alloc (Nat.le_refl _) _
  have HB0 := Lib.hid (RBox.new w 0 0 0 ⟨#[]⟩ ⟨#[]⟩)
  have HZ0 : (w.alloc (.cells #[.int .i64 0, .string ⟨#[]⟩, .int .i64 0, .int .i64 0, .string ⟨#[]⟩] 37)).heap.size = w.heap.size + 1 := by simp
  go_enter Tryz.func33, Tryz.ntmps33
  go_wp2_with fail
  generalize (w.alloc (.cells #[.int .i64 0, .string ⟨#[]⟩, .int .i64 0, .int .i64 0, .string ⟨#[]⟩] 37)) = w0 at *
  refine (HS.out _ (E.on hb0)).mono ?_
  rintro e w1 ⟨A, c, rfl, hr, hb⟩
  have hf := hb0.trans (hb.mono hb0.size)
  have HB1 := Lib.hid (HB0.out.on (by omega) hb)
  have hz1 : w.heap.size + 1 ≤ w1.heap.size := by have := hb.size; omega
  clear hb0 hb HZ0 HB0 HS
  by_cases hl : cn = 2
  · subst hl
    have hlen : (Lib.splitB ⟨#[44]⟩ 0 2 s).length = 3 := HLL.out
    have HSZ2 := Lib.hid (fun x => HSZ.out 2 x)
    clear HSZ
    generalize Lib.splitB ⟨#[44]⟩ 0 2 s = L at *
    obtain ⟨A1, B1, C1, hL⟩ : ∃ A B C, L = [A, B, C] := by
      match L, hlen with
      | [a, b, c], _ => exact ⟨a, b, c, rfl⟩
    have HNO1 := Lib.hid (HNO.out A1 B1 C1 hL)
    have HYES1 := Lib.hid (HYES.out A1 B1 C1 rfl hL)
    subst hL
    clear HSH HNO HYES HLL hlen
    obtain ⟨ad, rfl, hadB, hc⟩ := hr.here (by simp)
    have hzA : A1.size ≤ s.size ∧ B1.size ≤ s.size ∧ C1.size ≤ s.size := ⟨HSZ2.out _ (by simp), HSZ2.out _ (by simp), HSZ2.out _ (by simp)⟩
    have HNA := Lib.hid (fun w E => numT_any A1 w (by omega) E)
    have HNC := Lib.hid (fun w E => numT_any C1 w (by omega) E)
    have hub := backW_size B1
    have HPR := Lib.hid (fun ti n w E => cursor_any ⟨ti, backW B1, n, 1, ⟨#[]⟩⟩ w (by dsimp only; omega) (by exact Nat.zero_le _) E)
    have HCC : Hid (∀ W, Below w1.heap.size w1 W → W.cell? ad = some (.string A1) ∧ W.cell? ⟨ad.block, ad.off + 1, none⟩ = some (.string B1) ∧ W.cell? ⟨ad.block, ad.off + 2, none⟩ = some (.string C1)) := Lib.hid fun W hW => by
      have g := fun j u hj => Rd.cells hr (by simp) W hW j u hj
      have g0 := g 0 (.string A1) rfl
      rw [addr0] at g0
      exact ⟨g0, g 1 _ rfl, g 2 _ rfl⟩
    have HE : Hid (∀ W, Below w1.heap.size w1 W → Env W) := Lib.hid fun W hW => (E.on hf).on hW
    clear hc hr hzA hub HSZ2
    generalize Sp.numI (Sp.numS A1.data.toList) = ia at *
    generalize (Sp.numS A1.data.toList).isSome = ba at *
    generalize Sp.numI (Sp.numS C1.data.toList) = ic at *
    generalize (Sp.numS C1.data.toList).isSome = bc at *
    have HBK := Lib.hid (fun W => back_any B1 W)
    generalize backW B1 = ub at *
    have c0 := (HCC.out w1 (Below.refl _ _)).1
    go_wp2_with fail
    refine (HNA.out w1 (HE.out _ (Below.refl _ _))).mono ?_
    rintro e w2 ⟨rfl, hb2⟩
    have c2 := (HCC.out w2 hb2).2.2
    clear c0 HNA
    go_wp2_with fail
    refine (HNC.out w2 (HE.out _ hb2)).mono ?_
    rintro e w3 ⟨rfl, hb3⟩
    have h3 := hb2.trans (hb3.mono hb2.size)
    have c1 := (HCC.out w3 h3).2.1
    clear c2 HNC hb2 hb3
    go_wp2_with fail
    refine (HBK.out _).mono ?_
    rintro e w' ⟨rfl, rfl⟩
    clear c1
    have hb3 := (Below.refl w3.heap.size w3).alloc (Nat.le_refl _) (.cells #[.int .i64 ia, .string ub, .int .i64 ic, .int .i64 1, .string ⟨#[]⟩] 37)
    have h5' := h3.trans (hb3.mono h3.size)
    have HBX := Lib.hid (RBox.new w3 ia ic 1 ub ⟨#[]⟩)
    have hbh : w3.heap.size < (w3.alloc (.cells #[.int .i64 ia, .string ub, .int .i64 ic, .int .i64 1, .string ⟨#[]⟩] 37)).heap.size := by simp
    have hbl : w1.heap.size ≤ w3.heap.size := h3.size
    have HRB := Lib.hid (HB1.out.on (by omega) h5')
    have HE5 := Lib.hid (HE.out _ h5')
    have hf5 := hf.trans (h5'.mono hf.size)
    clear hb3 h5' HCC HE HBK HB1 hf h3
    by_cases hall : ba = true ∧ bc = true
    · obtain ⟨rfl, rfl⟩ := hall
      have HY := Lib.hid (HYES1.out rfl rfl)
      clear HNO1 HYES1
      go_wp2_with fail
      generalize (w3.alloc (.cells #[.int .i64 ia, .string ub, .int .i64 ic, .int .i64 1, .string ⟨#[]⟩] 37)) = wc at *
      refine (HPR.out ia ic wc HE5.out).mono ?_
      rintro e w6 ⟨rfl, h6⟩
      have hf6 := hf5.trans (h6.mono hf5.size)
      have HBX6 := Lib.hid (HBX.out.on hbh h6)
      have HRB6 := Lib.hid (HRB.out.on (by omega) h6)
      have HT : Hid (∀ bb, ((Sp.toB (Sp.cursorR ⟨ia, ub, ic, 1, ⟨#[]⟩⟩)).toList == s.toList) = bb → (bb = true → Sp.placeP s = some ⟨ia, ub, ic, 1, ⟨#[]⟩⟩) ∧ (bb = false → Sp.placeP s = none)) := Lib.hid fun bb hbb => by
        rw [Sp.bytes_list, Sp.bytes_list, Sp.toB_list] at hbb
        constructor
        · rintro rfl; exact HY.out.1 (by simpa using hbb)
        · rintro rfl; exact HY.out.2 (by simpa using hbb)
      clear h6 HBX HRB HY HE5 hf5
      generalize Sp.toB (Sp.cursorR ⟨ia, ub, ic, 1, ⟨#[]⟩⟩) = pt at *
      have hne : w3.heap.size ≠ w.heap.size := by omega
      have hne2 : w.heap.size ≠ w3.heap.size := by omega
      have hbw : w.heap.size ≤ w3.heap.size := by omega
      clear hz1 hbl hbh hadB
      generalize w3.heap.size = b3 at *
      obtain ⟨c0, c1, c2, c3, c4, e0, e1, e2, e3, e4⟩ := HBX6.out
      obtain ⟨d0, d1, d2, d3, d4, f0, f1, f2, f3, f4⟩ := HRB6.out
      dsimp only at c0 c1 c2 c3 c4 d0 d1 d2 d3 d4
      clear HPR
      cases ht : (pt.toList == s.toList) with
      | true =>
        have HF := Lib.hid ((HT.out _ ht).1 rfl)
        clear HT
        go_wp2
        rw [HF.out]
        (try simp only [Exit.inBlock, Exit.then])
        refine bodyPost_ret (v := .tuple #[.agg #[.int .i64 ia, .string ub, .int .i64 ic, .int .i64 0, .string ⟨#[]⟩], .bool true]) ?_ rfl ⟨rfl, ?_⟩
        · rw [results_cell_tmp rfl]
          go_simp
        exact below_put (Below.setCell hf6 (p := ⟨b3, 3, none⟩) hbw _) (Nat.le_refl _) _ _ _ _ _
      | false =>
        have HF := Lib.hid ((HT.out _ ht).2 rfl)
        clear HT
        go_wp2
        rw [HF.out]
        (try simp only [Exit.inBlock, Exit.then])
        refine bodyPost_ret (v := .tuple #[.agg #[.int .i64 0, .string ⟨#[]⟩, .int .i64 0, .int .i64 0, .string ⟨#[]⟩], .bool false]) ?_ rfl ⟨rfl, ?_⟩
        · rw [results_cell_tmp rfl]
          go_simp
        exact below_put hf6 (Nat.le_refl _) _ _ _ _ _
    · have hN := Lib.hid (HNO1.out (by cases ba <;> cases bc <;> simp_all))
      have hor : ba = false ∨ ba = true ∧ bc = false := by cases ba <;> cases bc <;> simp_all
      clear hall HNO1 HYES1 HPR HBX HE5
      have HRB5 := HRB.out
      clear HRB
      rcases hor with rfl | ⟨rfl, rfl⟩
      all_goals
        obtain ⟨d0, d1, d2, d3, d4, f0, f1, f2, f3, f4⟩ := HRB5
        dsimp only at d0 d1 d2 d3 d4
        go_wp2_with fail
        rw [hN.out]
        (try simp only [Exit.inBlock, Exit.then])
        refine bodyPost_ret (v := .tuple #[.agg #[.int .i64 0, .string ⟨#[]⟩, .int .i64 0, .int .i64 0, .string ⟨#[]⟩], .bool false]) ?_ rfl ⟨rfl, ?_⟩
        · rw [results_cell_tmp rfl]
          go_simp
        exact below_put hf5 (Nat.le_refl _) _ _ _ _ _
  · have hN := Lib.hid (HSH.out (by omega))
    obtain ⟨len, hlen⟩ : ∃ len, cn + 1 = len := ⟨_, rfl⟩
    have t1 : ((len : Int) == 3) = false := by simp; omega
    rw [hlen] at hr ⊢
    obtain ⟨c0, c1, c2, c3, c4, f0, f1, f2, f3, f4⟩ := HB1.out
    clear HSH HNO HYES HSZ HLL hl hlen
    go_wp2
    rw [hN.out]
    (try simp only [Exit.inBlock, Exit.then])
    refine bodyPost_ret (v := .tuple #[.agg #[.int .i64 0, .string ⟨#[]⟩, .int .i64 0, .int .i64 0, .string ⟨#[]⟩], .bool false]) ?_ rfl ⟨rfl, ?_⟩
    · rw [results_cell_tmp rfl]
      go_simp
    exact below_put hf (Nat.le_refl _) _ _ _ _ _

end Go.Proofs.YtkgogenmhiclcaaGreatDoor
