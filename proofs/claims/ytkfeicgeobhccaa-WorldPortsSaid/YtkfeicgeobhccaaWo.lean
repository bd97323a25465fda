/-
  The walk of what the laws show first.
-/
import Derived.Test.YtkfeicgeobhccaaWn
import Derived.Test.YtkfeicgeobhccaaWi
namespace Go.Proofs.Ytkfeicgeobhccaa
open Go.RowKit Go.Sort

def bName : ByteArray := ⟨#[98, 46, 115, 101, 114, 118, 105, 99, 101]⟩
theorem told_find1 : findAct toldActs aName 2 0 2 = some ⟨aName, 2, 0, 2, 5, 0, 0, 0, none, 0, 0, []⟩ := by kernel_rfl
theorem told_find2 : findAct toldActs aName 2 0 1 = some ⟨aName, 2, -1, 0, 3, 0, 0, 0, none, 0, 0, []⟩ := by kernel_rfl
theorem told_find3 : findAct toldActs bName 2 0 1 = none := by kernel_rfl
theorem told_may : mayWB 2 3 2 toldActs toldCalls toldAsks = true := by kernel_rfl
theorem zero_may : mayWB 1 0 0 [zeroAct] [] [] = false := by kernel_rfl
theorem told_calls : callsF [80] toldCalls = [(1, 80, 0), (2, 80, 4)] := by kernel_rfl
theorem told_sorted : smallSorted [(1, 80, 0), (2, 80, 4)] = [(1, 80, 0), (2, 80, 4)] := by
  simp [smallSorted, Sort.insertionSort, Sort.insOuter, Sort.insInner, ltOf, cfC]
theorem told_asks : (asksL toldAsks 0 4).length = 1 := by kernel_rfl

theorem find_told (b1 b2 b3 : Nat) (att : Int) (x : ActD) (w : World) (h : ActsIn w w.heap.size (some ⟨b1, 0, none⟩) 2 toldActs) (hx : findAct toldActs aName 2 0 att = some x) :
    Calls Try.prog 13 #[.agg #[.slice (some ⟨b1, 0, none⟩) 2 2, .slice (some ⟨b2, 0, none⟩) 3 3, .slice (some ⟨b3, 0, none⟩) 2 2], .string ⟨#[97, 46, 115, 101, 114, 118, 105, 99, 101]⟩, .int .i64 2, .int .i64 0, .int .i64 att] w fun e w' => Below w.heap.size w w' ∧ ∃ A' n' c', e = .returned (.tuple #[.agg #[.string x.unit, .int .i64 x.part, .int .i64 x.num, .int .i64 x.att, .int .i64 x.lasts, .int .i64 x.code, .int .i64 x.ready, .int .i64 x.dies, .slice A' n' c'], .bool true]) := by
  refine (find_any (some ⟨b1, 0, none⟩) 2 2 (some ⟨b2, 0, none⟩) 3 3 (some ⟨b3, 0, none⟩) 2 2 toldActs aName 2 0 att w w.heap.size h (Nat.le_refl _)).mono ?_
  rintro e w' ⟨hb, hp⟩
  rw [hx] at hp
  obtain ⟨A', c', rfl, _⟩ := hp
  exact ⟨hb, _, _, _, rfl⟩
theorem does_told (b1 b2 b3 : Nat) (u1 u2 u3 u4 u5 u6 u8 u9 u10 u11 u12 u13 u14 u15 u16 u17 u18 u19 u20 u21 u22 u23 u24 u25 u26 u27 u28 u29 u30 u31 u32 u33 u34 : Value) (w : World) (h : ActsIn w w.heap.size (some ⟨b1, 0, none⟩) 2 toldActs) :
    Calls Try.prog 16 #[.agg #[.slice (some ⟨b1, 0, none⟩) 2 2, .slice (some ⟨b2, 0, none⟩) 3 3, .slice (some ⟨b3, 0, none⟩) 2 2], .agg #[.string ⟨#[98, 46, 115, 101, 114, 118, 105, 99, 101]⟩, u1, u2, u3, u4, u5, u6, .int .i64 0, u8, u9, u10, u11, u12, u13, u14, u15, u16, u17, u18, u19, u20, u21, u22, u23, u24, u25, u26, u27, u28, u29, u30, u31, u32, u33, u34], .int .i64 2, .int .i64 0, .int .i64 1] w fun e w' => Below w.heap.size w w' ∧ e = .returned (.agg #[.string ⟨#[98, 46, 115, 101, 114, 118, 105, 99, 101]⟩, .int .i64 2, .int .i64 0, .int .i64 1, .int .i64 1099511627776, .int .i64 0, .int .i64 0, .int .i64 0, .slice none 0 0]) := by
  refine (does_any (some ⟨b1, 0, none⟩) 2 2 (some ⟨b2, 0, none⟩) 3 3 (some ⟨b3, 0, none⟩) 2 2 toldActs bName 0 u1 u2 u3 u4 u5 u6 u8 u9 u10 u11 u12 u13 u14 u15 u16 u17 u18 u19 u20 u21 u22 u23 u24 u25 u26 u27 u28 u29 u30 u31 u32 u33 u34 2 0 1 w w.heap.size h (Nat.le_refl _)).mono ?_
  rintro e w' ⟨hb, hp⟩
  rw [told_find3] at hp
  exact ⟨hb, hp⟩
theorem rd_ints (w : World) : Rd (w.alloc (.cells #[.int .i64 80] 3)) (w.heap.size + 1) 1 (some ⟨w.heap.size, 0, none⟩) 1 (([80] : List Int).map (Value.int .i64)) := Rd.fresh w #[.int .i64 80] 3 1 1 rfl
theorem told_len : (callsF [80] toldCalls).length = 2 := by kernel_rfl
theorem calls_told (b1 b2 b3 : Nat) (w : World) (h : Rd w w.heap.size 3 (some ⟨b2, 0, none⟩) 3 (callCells toldCalls)) :
    Calls Try.prog 19 #[.agg #[.slice (some ⟨b1, 0, none⟩) 2 2, .slice (some ⟨b2, 0, none⟩) 3 3, .slice (some ⟨b3, 0, none⟩) 2 2], .slice (some ⟨w.heap.size, 0, none⟩) 1 1] (w.alloc (.cells #[.int .i64 80] 3)) fun e w' => ∃ g c', e = .returned (.slice (some ⟨g, 0, none⟩) 2 c') ∧ w.heap.size + 1 ≤ g ∧ g < w'.heap.size ∧ w'.cell? ⟨g, 5, none⟩ = some (.int .i64 4) ∧ Below (w.heap.size + 1) (w.alloc (.cells #[.int .i64 80] 3)) w' := by
  have hs : SortsTo (callsF [80] toldCalls) [(1, 80, 0), (2, 80, 4)] := by
    have h1 := sorts_small (callsF [80] toldCalls) (by rw [told_len]; omega)
    have h2 : smallSorted (callsF [80] toldCalls) = [(1, 80, 0), (2, 80, 4)] := by rw [told_calls, told_sorted]
    rwa [h2] at h1
  refine (calls_any (some ⟨b1, 0, none⟩) 2 2 (some ⟨b2, 0, none⟩) 3 3 (some ⟨b3, 0, none⟩) 2 2 toldCalls (some ⟨w.heap.size, 0, none⟩) 1 1 [80] [(1, 80, 0), (2, 80, 4)] (w.alloc (.cells #[.int .i64 80] 3)) (w.heap.size + 1) ((h.alloc (Nat.le_refl _) _).more (by omega)) (rd_ints w) (by simp) (by omega) (by omega) hs).mono ?_
  rintro e w' ⟨A', c', rfl, hown, hb⟩
  rw [told_len] at hown ⊢
  rcases hown.2 with ⟨h0, h1⟩ | ⟨g, cap, cur, he, hbase, hcb, h1, h2, h3, h4⟩
  · exact absurd h1 (by omega)
  · simp only [World.size_alloc] at hbase hb
    simp only [Value.slice.injEq, true_and] at he
    obtain ⟨rfl, rfl⟩ := he
    have hg : g < w'.heap.size := (Array.getElem?_eq_some_iff.1 hcb).1
    refine ⟨g, _, rfl, hbase, hg, ?_, hb⟩
    have h5 : (cur.toList.take (2 * 3))[5]? = (callCells [(1, 80, 0), (2, 80, 4)])[5]? := by rw [h4]
    rw [List.getElem?_take_of_lt (by omega), Array.getElem?_toList] at h5
    simp only [World.cell?, hcb]
    simp only [Option.isSome_none, Bool.false_eq_true, if_false]
    rw [h5]; rfl
theorem may_told (b1 b2 b3 : Nat) (w : World) (hA : ActsIn w w.heap.size (some ⟨b1, 0, none⟩) 2 toldActs) (hC : Rd w w.heap.size 3 (some ⟨b2, 0, none⟩) 3 (callCells toldCalls)) (hK : Rd w w.heap.size 3 (some ⟨b3, 0, none⟩) 2 (askCells toldAsks)) :
    Calls Try.prog 11 #[.agg #[.slice (some ⟨b1, 0, none⟩) 2 2, .slice (some ⟨b2, 0, none⟩) 3 3, .slice (some ⟨b3, 0, none⟩) 2 2]] w fun e w' => e = .returned (.bool true) ∧ Below w.heap.size w w' := by
  have h := may_w_any (some ⟨b1, 0, none⟩) 2 2 (some ⟨b2, 0, none⟩) 3 3 (some ⟨b3, 0, none⟩) 2 2 toldActs toldCalls toldAsks w w.heap.size hA.1 (fun a ha => (hA.2.2 a ha).1) (Nat.le_refl _) (Nat.le_refl _) hC hK (by intro p hp; simp only [toldAsks, List.mem_cons, List.not_mem_nil, or_false] at hp; rcases hp with rfl | rfl <;> decide) (by omega) (by omega)
  rwa [told_may] at h
theorem may_zero (w : World) :
    Calls Try.prog 11 #[.agg #[.slice (some ⟨w.heap.size, 0, none⟩) 1 1, .slice none 0 0, .slice none 0 0]] (w.alloc (.cells #[.string ⟨#[]⟩, .int .i64 0, .int .i64 0, .int .i64 0, .int .i64 0, .int .i64 0, .int .i64 0, .int .i64 0, .slice none 0 0] 38)) fun e w' => e = .returned (.bool false) ∧ Below (w.heap.size + 1) (w.alloc (.cells #[.string ⟨#[]⟩, .int .i64 0, .int .i64 0, .int .i64 0, .int .i64 0, .int .i64 0, .int .i64 0, .int .i64 0, .slice none 0 0] 38)) w' := by
  have hr : Rd (w.alloc (.cells #[.string ⟨#[]⟩, .int .i64 0, .int .i64 0, .int .i64 0, .int .i64 0, .int .i64 0, .int .i64 0, .int .i64 0, .slice none 0 0] 38)) (w.heap.size + 1) 9 (some ⟨w.heap.size, 0, none⟩) 1 (actCells [zeroAct]) := Rd.fresh w #[.string ⟨#[]⟩, .int .i64 0, .int .i64 0, .int .i64 0, .int .i64 0, .int .i64 0, .int .i64 0, .int .i64 0, .slice none 0 0] 38 1 9 rfl
  have h := may_w_any (some ⟨w.heap.size, 0, none⟩) 1 1 none 0 0 none 0 0 [zeroAct] [] [] (w.alloc (.cells #[.string ⟨#[]⟩, .int .i64 0, .int .i64 0, .int .i64 0, .int .i64 0, .int .i64 0, .int .i64 0, .int .i64 0, .slice none 0 0] 38)) (w.heap.size + 1) hr (by intro a ha; simp only [List.mem_cons, List.not_mem_nil, or_false] at ha; subst ha; exact nil_in _ _ _ rfl rfl rfl (by decide)) (by simp) (Nat.le_refl _) Rd.empty Rd.empty (by simp) (by omega) (by omega)
  rw [zero_may] at h
  simpa only [World.size_alloc] using h
theorem asks_told (b1 b2 b3 : Nat) (w : World) (hK : Rd w w.heap.size 3 (some ⟨b3, 0, none⟩) 2 (askCells toldAsks)) :
    Calls Try.prog 22 #[.agg #[.slice (some ⟨b1, 0, none⟩) 2 2, .slice (some ⟨b2, 0, none⟩) 3 3, .slice (some ⟨b3, 0, none⟩) 2 2], .int .i64 0, .int .i64 4] w fun e w' => (∃ A' c', e = .returned (.slice A' 1 c')) ∧ Below w.heap.size w w' := by
  refine (asks_any (some ⟨b1, 0, none⟩) 2 2 (some ⟨b2, 0, none⟩) 3 3 (some ⟨b3, 0, none⟩) 2 2 toldAsks 0 4 w w.heap.size hK (Nat.le_refl _) (by omega)).mono ?_
  rintro e w' ⟨A', c', rfl, _, hb⟩
  rw [told_asks]
  exact ⟨⟨_, _, rfl⟩, hb⟩

theorem wpList_built {P : Program} {ops : Array Oper} {rest : List Oper} {o : Oper} {a : Act} {w : World} {Q : Exit → Act → World → Prop} (hg : o.guard = none) (t : TypeId) (v : Value) (ho : o.op = .build t #[(0, .const v)]) (cells : Array Value)
    (hc : P.built t [(0, v)] = some cells) (h : wpList P ops Q rest (a.put o.dst (.agg cells)) w) : wpList P ops Q (o :: rest) a w := by
  have hc2 : P.built t ((#[(0, Operand.const v)] : Array (Nat × Operand)).map fun (i, x) => (i, a.eval x)).toList = some cells := by simpa [Act.eval] using hc
  exact wpList_build hg t _ ho (by rw [hc2]; rfl) (by rw [hc2]; exact h)
def zeroUnit (b : ByteArray) : Array Value := #[.string b, .int .i64 0, .string ⟨#[]⟩, .bool false, .slice none 0 0, .int .i64 0, .int .i64 0, .int .i64 0, .slice none 0 0, .slice none 0 0, .slice none 0 0, .slice none 0 0, .slice none 0 0, .bool false, .int .i64 0, .int .i64 0, .int .i64 0, .int .i64 0, .slice none 0 0, .slice none 0 0, .slice none 0 0, .slice none 0 0, .int .i64 0, .string ⟨#[]⟩, .string ⟨#[]⟩, .slice none 0 0, .slice none 0 0, .slice none 0 0, .slice none 0 0, .bool false, .slice none 0 0, .slice none 0 0, .slice none 0 0, .slice none 0 0, .string ⟨#[]⟩]
theorem built_unit (b : ByteArray) : Try.prog.built 35 [(0, .string b)] = some (zeroUnit b) := by kernel_rfl

set_option maxRecDepth 100000 in
set_option maxHeartbeats 8000000 in
theorem shown_any (w : World) : Calls Try.prog 9 #[] w fun e w' => e = .returned (.bool true) ∧ Below w.heap.size w w' := by
  go_enter Try.func9, Try.ntmps9
  go_wp2_with fail
  refine (told_any _).mono ?_
  rintro e w1 ⟨v, rfl, ⟨b1, c1, d1, rfl, hA1, hC1, hK1⟩, hb1⟩
  have HA1 := Lib.hid hA1
  have HC1 := Lib.hid hC1
  have HK1 := Lib.hid hK1
  clear hA1 hC1 hK1
  go_wp2_with fail
  refine (find_told b1 c1 d1 2 _ w1 HA1.out told_find1).mono ?_
  rintro e w2 ⟨hb2, A2, m2, k2, rfl⟩
  have h2 : Below w.heap.size w w2 := hb1.trans (hb2.mono hb1.size)
  have z2 := h2.size
  clear hb1 hb2
  dsimp only [aName]
  have a2 := h2.alloc z2 (.cells #[.string ⟨#[97, 46, 115, 101, 114, 118, 105, 99, 101]⟩, .int .i64 2, .int .i64 0, .int .i64 2, .int .i64 5, .int .i64 0, .int .i64 0, .int .i64 0, .slice A2 m2 k2] 38)
  have l2 : (w2.alloc (.cells #[.string ⟨#[97, 46, 115, 101, 114, 118, 105, 99, 101]⟩, .int .i64 2, .int .i64 0, .int .i64 2, .int .i64 5, .int .i64 0, .int .i64 0, .int .i64 0, .slice A2 m2 k2] 38)).cell? ⟨w2.heap.size, 4, none⟩ = some (.int .i64 5) := by go_simp
  have x2 : w2.heap.size + 1 = (w2.alloc (.cells #[.string ⟨#[97, 46, 115, 101, 114, 118, 105, 99, 101]⟩, .int .i64 2, .int .i64 0, .int .i64 2, .int .i64 5, .int .i64 0, .int .i64 0, .int .i64 0, .slice A2 m2 k2] 38)).heap.size := by simp
  go_wp2_with fail
  generalize (w2.alloc (.cells #[.string ⟨#[97, 46, 115, 101, 114, 118, 105, 99, 101]⟩, .int .i64 2, .int .i64 0, .int .i64 2, .int .i64 5, .int .i64 0, .int .i64 0, .int .i64 0, .slice A2 m2 k2] 38)) = v2 at *
  refine (told_any _).mono ?_
  rintro e w3 ⟨v, rfl, ⟨b3, c3, d3, rfl, hA3, hC3, hK3⟩, hb3⟩
  have HA3 := Lib.hid hA3
  have HC3 := Lib.hid hC3
  have HK3 := Lib.hid hK3
  clear hA3 hC3 hK3
  go_wp2_with fail
  refine (find_told b3 c3 d3 1 _ w3 HA3.out told_find2).mono ?_
  rintro e w4 ⟨hb4, A4, m4, k4, rfl⟩
  have g4 : Below v2.heap.size v2 w4 := hb3.trans (hb4.mono hb3.size)
  have h4 := a2.trans (g4.mono a2.size)
  have z4 := h4.size
  have y4 := g4.size
  clear hb3 hb4
  dsimp only [aName]
  have a4 := h4.alloc z4 (.cells #[.string ⟨#[97, 46, 115, 101, 114, 118, 105, 99, 101]⟩, .int .i64 2, .int .i64 (-1), .int .i64 0, .int .i64 3, .int .i64 0, .int .i64 0, .int .i64 0, .slice A4 m4 k4] 38)
  have l4 : (w4.alloc (.cells #[.string ⟨#[97, 46, 115, 101, 114, 118, 105, 99, 101]⟩, .int .i64 2, .int .i64 (-1), .int .i64 0, .int .i64 3, .int .i64 0, .int .i64 0, .int .i64 0, .slice A4 m4 k4] 38)).cell? ⟨w4.heap.size, 4, none⟩ = some (.int .i64 3) := by go_simp
  have mm4 := ((g4.cell (p := ⟨w2.heap.size, 4, none⟩) (by simp; omega)).trans l2)
  have q4 := (World.cell?_alloc_lt w4 (.cells #[.string ⟨#[97, 46, 115, 101, 114, 118, 105, 99, 101]⟩, .int .i64 2, .int .i64 (-1), .int .i64 0, .int .i64 3, .int .i64 0, .int .i64 0, .int .i64 0, .slice A4 m4 k4] 38) ⟨w2.heap.size, 4, none⟩ (by simp; omega)).trans mm4
  have x4 : w4.heap.size + 1 = (w4.alloc (.cells #[.string ⟨#[97, 46, 115, 101, 114, 118, 105, 99, 101]⟩, .int .i64 2, .int .i64 (-1), .int .i64 0, .int .i64 3, .int .i64 0, .int .i64 0, .int .i64 0, .slice A4 m4 k4] 38)).heap.size := by simp
  clear l2 mm4
  go_wp2_with fail
  generalize (w4.alloc (.cells #[.string ⟨#[97, 46, 115, 101, 114, 118, 105, 99, 101]⟩, .int .i64 2, .int .i64 (-1), .int .i64 0, .int .i64 3, .int .i64 0, .int .i64 0, .int .i64 0, .slice A4 m4 k4] 38)) = v4 at *
  refine (told_any _).mono ?_
  rintro e w5 ⟨v, rfl, ⟨b5, c5, d5, rfl, hA5, hC5, hK5⟩, hb5⟩
  have HA5 := Lib.hid hA5
  have HC5 := Lib.hid hC5
  have HK5 := Lib.hid hK5
  clear hA5 hC5 hK5
  go_wp2_with (refine wpList_built rfl 35 _ rfl _ (built_unit _) ?_; unfold zeroUnit)
  refine (does_told b5 c5 d5 _ _ _ _ _ _ _ _ _ _ _ _ _ _ _ _ _ _ _ _ _ _ _ _ _ _ _ _ _ _ _ _ _ w5 HA5.out).mono ?_
  rintro e w6 ⟨hb6, rfl⟩
  have g6 : Below v4.heap.size v4 w6 := hb5.trans (hb6.mono hb5.size)
  have h6 := a4.trans (g6.mono a4.size)
  have z6 := h6.size
  have y6 := g6.size
  clear hb5 hb6
  have a6 := h6.alloc z6 (.cells #[.string ⟨#[98, 46, 115, 101, 114, 118, 105, 99, 101]⟩, .int .i64 2, .int .i64 0, .int .i64 1, .int .i64 1099511627776, .int .i64 0, .int .i64 0, .int .i64 0, .slice none 0 0] 38)
  have r6 : (w6.alloc (.cells #[.string ⟨#[98, 46, 115, 101, 114, 118, 105, 99, 101]⟩, .int .i64 2, .int .i64 0, .int .i64 1, .int .i64 1099511627776, .int .i64 0, .int .i64 0, .int .i64 0, .slice none 0 0] 38)).cell? ⟨w6.heap.size, 0, none⟩ = some (.string ⟨#[98, 46, 115, 101, 114, 118, 105, 99, 101]⟩) := by go_simp
  have l6 : (w6.alloc (.cells #[.string ⟨#[98, 46, 115, 101, 114, 118, 105, 99, 101]⟩, .int .i64 2, .int .i64 0, .int .i64 1, .int .i64 1099511627776, .int .i64 0, .int .i64 0, .int .i64 0, .slice none 0 0] 38)).cell? ⟨w6.heap.size, 4, none⟩ = some (.int .i64 1099511627776) := by go_simp
  have m6 := ((g6.cell (p := ⟨w2.heap.size, 4, none⟩) (by simp; omega)).trans q4)
  have q6 := (World.cell?_alloc_lt w6 (.cells #[.string ⟨#[98, 46, 115, 101, 114, 118, 105, 99, 101]⟩, .int .i64 2, .int .i64 0, .int .i64 1, .int .i64 1099511627776, .int .i64 0, .int .i64 0, .int .i64 0, .slice none 0 0] 38) ⟨w2.heap.size, 4, none⟩ (by simp; omega)).trans m6
  have n6 := ((g6.cell (p := ⟨w4.heap.size, 4, none⟩) (by simp; omega)).trans l4)
  have p6 := (World.cell?_alloc_lt w6 (.cells #[.string ⟨#[98, 46, 115, 101, 114, 118, 105, 99, 101]⟩, .int .i64 2, .int .i64 0, .int .i64 1, .int .i64 1099511627776, .int .i64 0, .int .i64 0, .int .i64 0, .slice none 0 0] 38) ⟨w4.heap.size, 4, none⟩ (by simp; omega)).trans n6
  have x6 : w6.heap.size + 1 = (w6.alloc (.cells #[.string ⟨#[98, 46, 115, 101, 114, 118, 105, 99, 101]⟩, .int .i64 2, .int .i64 0, .int .i64 1, .int .i64 1099511627776, .int .i64 0, .int .i64 0, .int .i64 0, .slice none 0 0] 38)).heap.size := by simp
  clear l4 q4 m6 n6
  go_wp2_with fail
  generalize (w6.alloc (.cells #[.string ⟨#[98, 46, 115, 101, 114, 118, 105, 99, 101]⟩, .int .i64 2, .int .i64 0, .int .i64 1, .int .i64 1099511627776, .int .i64 0, .int .i64 0, .int .i64 0, .slice none 0 0] 38)) = v6 at *
  refine (told_any _).mono ?_
  rintro e w7 ⟨v, rfl, ⟨b7, c7, d7, rfl, hA7, hC7, hK7⟩, hb7⟩
  have HA7 := Lib.hid hA7
  have HC7 := Lib.hid hC7
  have HK7 := Lib.hid hK7
  clear hA7 hC7 hK7
  go_wp2_with fail
  refine (calls_told b7 c7 d7 w7 HC7.out).mono ?_
  rintro e w8 ⟨g, cc, rfl, hg1, hg2, hg3, hb8⟩
  have g8 : Below v6.heap.size v6 w8 := (hb7.alloc hb7.size (.cells #[.int .i64 80] 3)).trans (hb8.mono (Nat.le_trans hb7.size (by omega)))
  have h8 := a6.trans (g8.mono a6.size)
  have z8 := h8.size
  have y8 := g8.size
  clear hb7 hb8
  have r8 := (g8.cell (p := ⟨w6.heap.size, 0, none⟩) (by simp; omega)).trans r6
  have l8 := (g8.cell (p := ⟨w6.heap.size, 4, none⟩) (by simp; omega)).trans l6
  have q8 := (g8.cell (p := ⟨w2.heap.size, 4, none⟩) (by simp; omega)).trans q6
  have p8 := (g8.cell (p := ⟨w4.heap.size, 4, none⟩) (by simp; omega)).trans p6
  clear r6 l6 q6 p6
  go_wp2_with fail
  refine (told_any _).mono ?_
  rintro e w9 ⟨v, rfl, ⟨b9, c9, d9, rfl, hA9, hC9, hK9⟩, hb9⟩
  have HA9 := Lib.hid hA9
  have HC9 := Lib.hid hC9
  have HK9 := Lib.hid hK9
  clear hA9 hC9 hK9
  clear r8 l8 q8 p8
  go_wp2_with fail
  refine (may_told b9 c9 d9 w9 HA9.out HC9.out HK9.out).mono ?_
  rintro e w10 ⟨rfl, hb10⟩
  have g10 : Below w8.heap.size w8 w10 := hb9.trans (hb10.mono hb9.size)
  have z10 := g10.size
  clear hb9 hb10
  go_wp2_with fail
  refine (may_zero w10).mono ?_
  rintro e w11 ⟨rfl, hb11⟩
  have g11 : Below w8.heap.size w8 w11 := (g10.alloc g10.size _).trans (hb11.mono (by omega))
  have h11 := h8.trans (g11.mono h8.size)
  clear hb11
  have t11 := (g11.cell (p := ⟨g, 5, none⟩) hg2).trans hg3
  clear hg3
  go_wp2_with fail
  refine (told_any _).mono ?_
  rintro e w12 ⟨v, rfl, ⟨b12, c12, d12, rfl, hA12, hC12, hK12⟩, hb12⟩
  have HA12 := Lib.hid hA12
  have HC12 := Lib.hid hC12
  have HK12 := Lib.hid hK12
  clear hA12 hC12 hK12
  clear t11
  go_wp2_with fail
  refine (asks_told b12 c12 d12 w12 HK12.out).mono ?_
  rintro e w13 ⟨⟨A13, c13, rfl⟩, hb13⟩
  have h13 := (h11.trans (hb12.mono h11.size)).trans (hb13.mono (h11.trans (hb12.mono h11.size)).size)
  clear hb12 hb13
  go_wp2
  go_ret
  exact ⟨rfl, h13⟩

end Go.Proofs.Ytkfeicgeobhccaa
