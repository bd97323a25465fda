/-
  What a text says as a calendar: the program's walk.
-/
import Derived.Test.YtpkpoglmmjaoeaaGreatDoorDk
import Derived.Laws.ResultCell
import Derived.Deep.DeepCutAuto
namespace Go.Proofs.YtpkpoglmmjaoeaaGreatDoor
open Go.RowKit Go.Shelf

def tl (x : ByteArray) : List UInt8 := x.data.toList
theorem rd_tail {w : World} {B n : Nat} {ad : Addr} {x : ByteArray} {xs : List ByteArray} (h : Rd w B 1 (some ad) (n + 1) (strsC (x :: xs))) : Rd w B 1 (dropA ad n) n (strsC xs) := by
  have hl := h.1
  refine ⟨by simp [strsC] at hl ⊢; omega, fun hn => ?_⟩
  obtain ⟨a', e, hb, hc⟩ := h.2 (by omega)
  injection e with e
  subst e
  refine ⟨ad.add 1, by unfold dropA; rw [if_neg (by omega)], by rw [Mem.add_block]; exact hb, fun j u hu => ?_⟩
  rw [Mem.add_two]
  have h2 := hc (1 + j) u (by rw [show 1 + j = j + 1 by omega]; simpa [strsC] using hu)
  exact h2
/-- the first of words, if it is so, and what is left of them -/
theorem take_any (g : FuncId) (f : List UInt8 → Bool) (hg : Asks g f) (eg : ∀ args w, (callFunc g args).run Tryz.prog w = .ok (.enter g args) w) (A : Option Addr) (xs : List ByteArray) (w : World) (hr : Rd w w.heap.size 1 A xs.length (strsC xs)) :
    Calls Tryz.prog 24 #[.slice A xs.length xs.length, .func (.func g) #[] #[]] w fun e w' => (∃ (X : ByteArray) (A' : Option Addr) (xs' : List ByteArray) (b : Bool), e = .returned (.tuple #[.string X, .slice A' xs'.length xs'.length, .bool b]) ∧ (Sp.takeP f (xs.map tl) = (if b = true then some (tl X) else none, xs'.map tl) ∧ (b = true → X ∈ xs) ∧ xs'.length ≤ xs.length ∧ (∀ t ∈ xs', t ∈ xs) ∧ (b = false → A' = A ∧ xs' = xs)) ∧ Rd w w.heap.size 1 A' xs'.length (strsC xs')) ∧ ∃ k, w' = w.drewN k := by
  cases xs with
  | nil =>
    refine (take_none g A w).mono ?_
    rintro e w' ⟨rfl, rfl⟩
    exact ⟨⟨_, A, [], false, rfl, ⟨rfl, (fun h => by cases h), Nat.le_refl _, (fun t h => h), fun _ => ⟨rfl, rfl⟩⟩, hr⟩, 0, rfl⟩
  | cons x r =>
    obtain ⟨ad, rfl, hb, hc⟩ := hr.here (by simp)
    have hc0 : w.cell? ad = some (.string x) := by
      have h := hc 0 (.string x) rfl
      rw [show ad.add 0 = ad by simp [Addr.add]] at h
      exact h
    cases hf : f x.data.toList with
    | false =>
      refine (take_not g f hg eg ad (x :: r).length x w (by simp) hc0 hf).mono ?_
      rintro e w' ⟨rfl, rfl⟩
      exact ⟨⟨_, some ad, x :: r, false, rfl, ⟨by rw [List.map_cons, Sp.takeP, show f (tl x) = false from hf]; rfl, (fun h => by cases h), Nat.le_refl _, (fun t h => h), fun _ => ⟨rfl, rfl⟩⟩, hr⟩, 0, rfl⟩
    | true =>
      refine (take_yes g f hg eg ad r.length x w hc0 hf).mono ?_
      rintro e w' ⟨rfl, k, rfl⟩
      exact ⟨⟨_, _, r, true, rfl, ⟨by rw [List.map_cons, Sp.takeP, show f (tl x) = true from hf]; rfl, (fun _ => by simp), by simp, (fun t h => by simp [h]), fun h => by cases h⟩, rd_tail hr⟩, k, rfl⟩
namespace Sp
def dyO : Option (List UInt8) → Option (List Int)
  | none => some []
  | some w => daysP w
def dtO : Option (List UInt8) → List UInt8
  | none => [42, 45, 42, 45, 42]
  | some w => w
def ckO : Option (List UInt8) → List UInt8
  | none => [48, 48, 58, 48, 48, 58, 48, 48]
  | some w => clockL w
def finP (days : Option (List Int)) (e : Bool) (d t : List (List UInt8)) : Option CalD := match days with
  | none => none
  | some ds => if e = true then fillP ds d t else none
theorem parseL_of {s : List UInt8} {L0 L1 L2 L3 : List (List UInt8)} {o1 o2 o3 : Option (List UInt8)} (h0 : L0 = splitC 32 (namedL s)) (h1 : takeP headLet L0 = (o1, L1)) (h2 : takeP (has1 45) L1 = (o2, L2)) (h3 : takeP (has1 58) L2 = (o3, L3)) :
    parseL s = finP (dyO o1) L3.isEmpty (splitC 45 (dtO o2)) (splitC 58 (ckO o3)) := by
  unfold parseL
  rw [← h0]
  simp only [h1, h2, h3]
  cases o1 <;> cases o2 <;> cases o3 <;> rfl
end Sp
def nilS : SlA := ⟨none, 0, 0⟩
def zeroS : CalS := ⟨nilS, nilS, nilS, nilS, nilS, nilS, nilS, ⟨[], [], [], [], [], [], []⟩⟩
def ParsePost (l : List UInt8) (e : Ending) (W : World) : Prop :=
  (∃ s : CalS, Sp.parseP l = some s.cal ∧ CalGood W s ∧ e = .returned (.tuple #[calV s, .bool true])) ∨ (Sp.parseP l = none ∧ e = .returned (.tuple #[.agg #[.slice none 0 0, .slice none 0 0, .slice none 0 0, .slice none 0 0, .slice none 0 0, .slice none 0 0, .slice none 0 0], .bool false]))
/-- the weekdays have been read -/
def DaysIs (o : Option (List UInt8)) (ok : Bool) (D : SlA) (ds : List Int) (W : World) : Prop :=
  (ok = true ∧ Sp.dyO o = some ds ∧ Rd W W.heap.size 1 D.A D.n (intsC ds) ∧ D.n ≤ 9223372036854775807) ∨ (ok = false ∧ Sp.dyO o = none)
theorem CV.new (w : World) : CV (w.alloc (.cells #[.slice none 0 0, .slice none 0 0, .slice none 0 0, .slice none 0 0, .slice none 0 0, .slice none 0 0, .slice none 0 0] 25)) w.heap.size nilS (fun _ => nilS) := World.alloc_heap_new w _
theorem rd_setv {W : World} {n : Nat} {A : Option Addr} {xs : List Value} {b : Nat} {d : SlA} {f : Nat → SlA} (hc : CV W b d f) (h : Rd W W.heap.size 1 A n xs) (hx : ∀ x ∈ xs, ∀ A n c, x ≠ .slice A n c) (j : Nat) (v : Value) : Rd (W.setCell ⟨b, j, none⟩ v) (W.setCell ⟨b, j, none⟩ v).heap.size 1 A n xs :=
  rd_set h fun ad hn ha => by
    obtain ⟨a', e, hb, hcc⟩ := h.here hn
    rw [ha] at e
    injection e with e
    subst e
    have hl := h.1
    obtain ⟨u, hu⟩ : ∃ u, xs[0]? = some u := ⟨_, List.getElem?_eq_getElem (by omega)⟩
    have h0 := hcc 0 u hu
    rw [show ad.add 0 = ad by simp [Addr.add]] at h0
    exact hc.not_int h0 (hx u (List.mem_of_getElem? hu))
theorem strsC_not (xs : List ByteArray) : ∀ x ∈ strsC xs, ∀ A n c, x ≠ .slice A n c := by
  intro x hx A n c e
  subst e
  simp [strsC] at hx
theorem intsC_not (xs : List Int) : ∀ x ∈ intsC xs, ∀ A n c, x ≠ .slice A n c := by
  intro x hx A n c e
  subst e
  simp [intsC] at hx
theorem splitSize (c : UInt8) (s : ByteArray) (xs : List ByteArray) (h : (xs.map fun x => x.data.toList) = Sp.splitC c s.data.toList) : ∀ t ∈ xs, t.size ≤ s.size := fun t ht => by
  have h1 : t.data.toList ∈ Sp.splitC c s.data.toList := by rw [← h]; exact List.mem_map.2 ⟨t, ht, rfl⟩
  have h2 := Sp.split_part c _ _ h1
  rw [bytes_size, bytes_size] at h2
  exact h2
theorem named_len (l : List UInt8) : (Sp.namedL l).length ≤ l.length + 18 := by
  unfold Sp.namedL
  repeat' split
  all_goals simp
namespace Sp
theorem fillP_bad (days : List Int) (d t : List (List UInt8)) (h : (∃ x ∈ d, partsP x = none) ∨ (∃ x ∈ t, partsP x = none)) : fillP days d t = none := by
  unfold fillP
  split
  · split
    · exfalso
      rcases h with ⟨x, hx, hn⟩ | ⟨x, hx, hn⟩
      all_goals
        simp only [List.mem_cons, List.not_mem_nil, or_false] at hx
        rcases hx with rfl | rfl | rfl <;> simp_all
    · rfl
  · rfl
theorem fillP_len (days : List Int) (d t : List (List UInt8)) (h : d.length ≠ 3 ∨ t.length ≠ 3) : fillP days d t = none := by
  unfold fillP
  split
  · simp at h
  · rfl
end Sp
theorem fillP_three {ds : List Int} {dxs txs : List ByteArray} {p0 p1 p2 p3 p4 p5 : List Sp.PartD} (hd : dxs.length = 3) (ht : txs.length = 3)
    (h0 : Sp.partsP (dxs[0]'(by omega)).data.toList = some p0) (h1 : Sp.partsP (dxs[1]'(by omega)).data.toList = some p1) (h2 : Sp.partsP (dxs[2]'(by omega)).data.toList = some p2)
    (h3 : Sp.partsP (txs[0]'(by omega)).data.toList = some p3) (h4 : Sp.partsP (txs[1]'(by omega)).data.toList = some p4) (h5 : Sp.partsP (txs[2]'(by omega)).data.toList = some p5) :
    Sp.fillP ds (dxs.map tl) (txs.map tl) = if Sp.mayCal ⟨ds, p0, p1, p2, p3, p4, p5⟩ = true then some ⟨ds, p0, p1, p2, p3, p4, p5⟩ else none := by
  match dxs, hd, txs, ht with
  | [x0, x1, x2], _, [y0, y1, y2], _ =>
    have e0 : Sp.partsP (tl x0) = some p0 := h0
    have e1 : Sp.partsP (tl x1) = some p1 := h1
    have e2 : Sp.partsP (tl x2) = some p2 := h2
    have e3 : Sp.partsP (tl y0) = some p3 := h3
    have e4 : Sp.partsP (tl y1) = some p4 := h4
    have e5 : Sp.partsP (tl y2) = some p5 := h5
    simp only [List.map_cons, List.map_nil, Sp.fillP, e0, e1, e2, e3, e4, e5]
theorem rd_grown {W W' : World} {n size : Nat} {A : Option Addr} {xs : List Value} {b : Nat} {d : SlA} {f : Nat → SlA} (hc : CV W b d f) (h : Rd W W.heap.size size A n xs) (hs : 0 < size) (hx : ∀ x ∈ xs, ∀ A n c, x ≠ .slice A n c) (hg : W.grownBy W' (some b)) : Rd W' W'.heap.size size A n xs := by
  refine ⟨h.1, fun hn => ?_⟩
  obtain ⟨ad, e, hb, hcc⟩ := h.2 hn
  have hl := h.1
  have hpos : 0 < xs.length := by rw [hl]; exact Nat.mul_pos hn hs
  have h0 := hcc 0 xs[0] (List.getElem?_eq_getElem hpos)
  rw [show ad.add 0 = ad by simp [Addr.add]] at h0
  have hne := hc.not_int h0 (hx _ (List.getElem_mem hpos))
  have hblk := hg.block ad.block hb (fun e => by cases e; exact hne rfl)
  refine ⟨ad, e, Nat.lt_of_lt_of_le hb hg.size, fun k u hu => ?_⟩
  rw [← hcc k u hu]
  exact World.cell?_of_block (by rw [Mem.add_block]; exact hblk)
theorem partsC_no (q : List Sp.PartD) : ∀ x ∈ partsC q, ∀ A n c, x ≠ .slice A n c := fun x hx => by
  obtain ⟨j, hj⟩ := List.mem_iff_getElem?.1 hx
  exact partsC_not hj
theorem FillsI.grown {ts : List ByteArray} {sl : Nat → SlA} {ps : Nat → List Sp.PartD} {k b : Nat} {d : SlA} {f : Nat → SlA} {W W' : World} (h : FillsI ts sl ps k W) (hc : CV W b d f) (hg : W.grownBy W' (some b)) : FillsI ts sl ps k W' :=
  fun i h1 h2 => ⟨(h i h1 h2).1, rd_grown hc (h i h1 h2).2.1 (by decide) (partsC_no _) hg, (h i h1 h2).2.2⟩
theorem CV.put {w : World} {b : Nat} {d : SlA} {f : Nat → SlA} (h : CV w b d f) (e0 e1 e2 e3 e4 e5 e6 : SlA) : CV (((((((w.setCell ⟨b, 0, none⟩ (slV e0)).setCell ⟨b, 1, none⟩ (slV e1)).setCell ⟨b, 2, none⟩ (slV e2)).setCell ⟨b, 3, none⟩ (slV e3)).setCell ⟨b, 4, none⟩ (slV e4)).setCell ⟨b, 5, none⟩ (slV e5)).setCell ⟨b, 6, none⟩ (slV e6)) b e0 (fun i => [e1, e2, e3, e4, e5, e6].getD i e0) := by
  have h0 := h.setd e0
  have h1 := CV.set (g := fun i => if i = 0 then e1 else f i) h0 0 (by decide) e1 (fun i _ => rfl)
  have h2 := CV.set (g := fun i => if i = 1 then e2 else if i = 0 then e1 else f i) h1 1 (by decide) e2 (fun i _ => rfl)
  have h3 := CV.set (g := fun i => if i = 2 then e3 else if i = 1 then e2 else if i = 0 then e1 else f i) h2 2 (by decide) e3 (fun i _ => rfl)
  have h4 := CV.set (g := fun i => if i = 3 then e4 else if i = 2 then e3 else if i = 1 then e2 else if i = 0 then e1 else f i) h3 3 (by decide) e4 (fun i _ => rfl)
  have h5 := CV.set (g := fun i => if i = 4 then e5 else if i = 3 then e4 else if i = 2 then e3 else if i = 1 then e2 else if i = 0 then e1 else f i) h4 4 (by decide) e5 (fun i _ => rfl)
  have h6 := CV.set (g := fun i => if i = 5 then e6 else if i = 4 then e5 else if i = 3 then e4 else if i = 2 then e3 else if i = 1 then e2 else if i = 0 then e1 else f i) h5 5 (by decide) e6 (fun i _ => rfl)
  refine h6.eq fun i hi => ?_
  have e : i = 0 ∨ i = 1 ∨ i = 2 ∨ i = 3 ∨ i = 4 ∨ i = 5 := by omega
  rcases e with rfl | rfl | rfl | rfl | rfl | rfl <;> rfl
theorem calGood_put {w : World} {b : Nat} {d : SlA} {f : Nat → SlA} {s : CalS} (h : CV w b d f) (hg : CalGood w s) (x0 x1 x2 x3 x4 x5 x6 : Value) : CalGood (((((((w.setCell ⟨b, 0, none⟩ x0).setCell ⟨b, 1, none⟩ x1).setCell ⟨b, 2, none⟩ x2).setCell ⟨b, 3, none⟩ x3).setCell ⟨b, 4, none⟩ x4).setCell ⟨b, 5, none⟩ x5).setCell ⟨b, 6, none⟩ x6) s := by
  have g : w.grownBy (((((((w.setCell ⟨b, 0, none⟩ x0).setCell ⟨b, 1, none⟩ x1).setCell ⟨b, 2, none⟩ x2).setCell ⟨b, 3, none⟩ x3).setCell ⟨b, 4, none⟩ x4).setCell ⟨b, 5, none⟩ x5).setCell ⟨b, 6, none⟩ x6) (some b) :=
    grown_t (grown_t (grown_t (grown_t (grown_t (grown_t (grownBy_setCellAt _ _ _ _) (grownBy_setCellAt _ _ _ _)) (grownBy_setCellAt _ _ _ _)) (grownBy_setCellAt _ _ _ _)) (grownBy_setCellAt _ _ _ _)) (grownBy_setCellAt _ _ _ _)) (grownBy_setCellAt _ _ _ _)
  exact ⟨rd_grown h hg.rd (by decide) (intsC_not _) g, fun i hi => rd_grown h (hg.rf i hi) (by decide) (partsC_no _) g, hg.bd, hg.bf⟩
theorem parse_res {tmps : Array Value} {W : World} {b : Nat} {d : SlA} {f : Nat → SlA} {ok : Bool} (hc : CV W b d f) (h2 : tmps.getD 2 undef = .pointer (some ⟨b, 0, none⟩)) (h3 : tmps.getD 3 undef = .bool ok) :
    (results Tryz.f7 tmps).run Tryz.prog W = .ok (.tuple #[.agg #[slV d, slV (f 0), slV (f 1), slV (f 2), slV (f 3), slV (f 4), slV (f 5)], .bool ok]) W := by
  rw [results_cell_tmp (p := 2) (u := 3) (ty := 25) rfl, h2, h3]
  have c0 := hc.cd
  have c1 := hc.cell 0 (by decide)
  have c2 := hc.cell 1 (by decide)
  have c3 := hc.cell 2 (by decide)
  have c4 := hc.cell 3 (by decide)
  have c5 := hc.cell 4 (by decide)
  have c6 := hc.cell 5 (by decide)
  simp [go_sem, c0, c1, c2, c3, c4, c5, c6]
theorem below_put7c {B b : Nat} {w w' : World} (h : Below B w w') (hB : B ≤ b) (x0 x1 x2 x3 x4 x5 x6 : Value) : Below B w (((((((w'.setCell ⟨b, 0, none⟩ x0).setCell ⟨b, 1, none⟩ x1).setCell ⟨b, 2, none⟩ x2).setCell ⟨b, 3, none⟩ x3).setCell ⟨b, 4, none⟩ x4).setCell ⟨b, 5, none⟩ x5).setCell ⟨b, 6, none⟩ x6) :=
  ((((((h.setCell (p := ⟨b, 0, none⟩) hB x0).setCell (p := ⟨b, 1, none⟩) hB x1).setCell (p := ⟨b, 2, none⟩) hB x2).setCell (p := ⟨b, 3, none⟩) hB x3).setCell (p := ⟨b, 4, none⟩) hB x4).setCell (p := ⟨b, 5, none⟩) hB x5).setCell (p := ⟨b, 6, none⟩) hB x6
set_option maxRecDepth 100000 in
set_option maxHeartbeats 16000000 in
theorem parse_any (s : ByteArray) (w : World) (E : Env w) : Calls Tryz.prog 7 #[.string s] w fun e w' => ParsePost s.data.toList e w' ∧ Below w.heap.size w w' := by
  have hz := bytes_size s
  by_cases h400 : 400 < s.size
  · have hr0 : CV (w.alloc (.cells #[.slice none 0 0, .slice none 0 0, .slice none 0 0, .slice none 0 0, .slice none 0 0, .slice none 0 0, .slice none 0 0] 25)) w.heap.size nilS (fun _ => nilS) := CV.new w
    have hb0 : Below w.heap.size w (w.alloc (.cells #[.slice none 0 0, .slice none 0 0, .slice none 0 0, .slice none 0 0, .slice none 0 0, .slice none 0 0, .slice none 0 0] 25)) := (Below.refl _ w).alloc (Nat.le_refl _) _
    have h400i : (400 : Int) < (s.size : Int) := by omega
    go_enter Tryz.func7, Tryz.ntmps7
    go_upto_region 2 with fail
    generalize w.alloc (.cells #[.slice none 0 0, .slice none 0 0, .slice none 0 0, .slice none 0 0, .slice none 0 0, .slice none 0 0, .slice none 0 0] 25) = w0 at *
    have z0 := hr0.cd
    have z1 := hr0.cell 0 (by decide)
    have z2 := hr0.cell 1 (by decide)
    have z3 := hr0.cell 2 (by decide)
    have z4 := hr0.cell 3 (by decide)
    have z5 := hr0.cell 4 (by decide)
    have z6 := hr0.cell 5 (by decide)
    have g0 := hr0.fz 0
    have g1 := hr0.fz 1
    have g2 := hr0.fz 2
    have g3 := hr0.fz 3
    have g4 := hr0.fz 4
    have g5 := hr0.fz 5
    have g6 := hr0.fz 6
    simp only [slV, nilS] at z0 z1 z2 z3 z4 z5 z6
    have HNO : Hid (Sp.parseP s.data.toList = none) := Lib.hid (by unfold Sp.parseP; rw [if_pos (by omega)])
    have qf := CV.put hr0 nilS nilS nilS nilS nilS nilS nilS
    have HQF := Lib.hid qf
    have HBF := Lib.hid (below_put7c (hb0) (Nat.le_refl _) (.slice none 0 0) (.slice none 0 0) (.slice none 0 0) (.slice none 0 0) (.slice none 0 0) (.slice none 0 0) (.slice none 0 0))
    clear qf
    go_wp2
    refine bodyPost_ret (v := .tuple #[.agg #[.slice none 0 0, .slice none 0 0, .slice none 0 0, .slice none 0 0, .slice none 0 0, .slice none 0 0, .slice none 0 0], .bool false]) (parse_res HQF.out rfl rfl) rfl ?_
    exact ⟨.inr ⟨HNO.out, rfl⟩, HBF.out⟩
  · have hP : Sp.parseP s.data.toList = Sp.parseL s.data.toList := by unfold Sp.parseP; rw [if_neg (by omega)]
    have h400i : ¬ (400 : Int) < (s.size : Int) := by omega
    obtain ⟨N, hN⟩ : ∃ N : ByteArray, N.data.toList = Sp.namedL s.data.toList := ⟨Sp.bts _, bts_list _⟩
    have hNs : N.size ≤ 1048576 := by
      have h1 := named_len s.data.toList
      rw [← hN, bytes_size, hz] at h1
      omega
    have HNM := Lib.hid (fun w => named_any s N w hN)
    have HE := Lib.hid E
    have HP := Lib.hid hP
    have HN := Lib.hid hN
    have HNS := Lib.hid hNs
    have HLN : Hid (N.size ≤ 500) := Lib.hid (by
      have h1 := named_len s.data.toList
      rw [← hN, bytes_size, hz] at h1
      omega)
    clear hP hN hNs E
    have hr0 : CV (w.alloc (.cells #[.slice none 0 0, .slice none 0 0, .slice none 0 0, .slice none 0 0, .slice none 0 0, .slice none 0 0, .slice none 0 0] 25)) w.heap.size nilS (fun _ => nilS) := CV.new w
    have hc0 : CV ((w.alloc (.cells #[.slice none 0 0, .slice none 0 0, .slice none 0 0, .slice none 0 0, .slice none 0 0, .slice none 0 0, .slice none 0 0] 25)).alloc (.cells #[.slice none 0 0, .slice none 0 0, .slice none 0 0, .slice none 0 0, .slice none 0 0, .slice none 0 0, .slice none 0 0] 25)) (w.heap.size + 1) nilS (fun _ => nilS) := by
      have h := CV.new (w.alloc (.cells #[.slice none 0 0, .slice none 0 0, .slice none 0 0, .slice none 0 0, .slice none 0 0, .slice none 0 0, .slice none 0 0] 25))
      rw [World.size_alloc] at h
      exact h
    have hr1 : CV ((w.alloc (.cells #[.slice none 0 0, .slice none 0 0, .slice none 0 0, .slice none 0 0, .slice none 0 0, .slice none 0 0, .slice none 0 0] 25)).alloc (.cells #[.slice none 0 0, .slice none 0 0, .slice none 0 0, .slice none 0 0, .slice none 0 0, .slice none 0 0, .slice none 0 0] 25)) w.heap.size nilS (fun _ => nilS) := hr0.under ((Below.refl _ _).alloc (Nat.le_refl _) _)
    have hb0 : Below w.heap.size w ((w.alloc (.cells #[.slice none 0 0, .slice none 0 0, .slice none 0 0, .slice none 0 0, .slice none 0 0, .slice none 0 0, .slice none 0 0] 25)).alloc (.cells #[.slice none 0 0, .slice none 0 0, .slice none 0 0, .slice none 0 0, .slice none 0 0, .slice none 0 0, .slice none 0 0] 25)) := ((Below.refl _ w).alloc (Nat.le_refl _) _).alloc (by simp) _
    clear hr0 hz
    go_enter Tryz.func7, Tryz.ntmps7
    go_wp2_with fail
    refine (HNM.out _).mono ?_
    rintro e w' ⟨rfl, rfl⟩
    go_wp2_with fail
    refine (split_any N 32 _ HNS.out (HE.out.on hb0)).mono ?_
    rintro e w1 ⟨⟨A0, xs0, hx0, ⟨rfl, hrd0⟩, hn0⟩, hb1⟩
    have hc1 := hc0.under hb1
    have hr1' := hr1.under hb1
    have hw1 := hb0.trans (hb1.mono hb0.size)
    have HX0 := Lib.hid hx0
    have HTK := Lib.hid (take_any _ _ asks_day (enters_of Tryz.func25 (by kernel_rfl) rfl) A0 xs0 w1 hrd0)
    clear hc0 hr1 hb0 hb1 hx0 HNM
    go_wp2_with fail
    refine HTK.out.mono ?_
    rintro e w2 ⟨⟨X1, A1, xs1, b1, rfl, ⟨ht1, hm1, hl1, hs1, hq1⟩, hrd1⟩, k2, rfl⟩
    obtain ⟨o1, ho1⟩ : ∃ o : Option (List UInt8), o = (if b1 = true then some (tl X1) else none) := ⟨_, rfl⟩
    rw [← ho1] at ht1
    have HT1 := Lib.hid ht1
    have hw2 : Below w.heap.size w (w1.drewN k2) := belowQ hw1 k2
    have hc2 : CV (w1.drewN k2) (w.heap.size + 1) nilS (fun _ => nilS) := hc1
    have hr2 : CV (w1.drewN k2) w.heap.size nilS (fun _ => nilS) := hr1'
    have hrd0' : Rd (w1.drewN k2) (w1.drewN k2).heap.size 1 A0 xs0.length (strsC xs0) := hrd0
    have hrd1' : Rd (w1.drewN k2) (w1.drewN k2).heap.size 1 A1 xs1.length (strsC xs1) := hrd1
    generalize w1.drewN k2 = w2 at *
    have HW2 := Lib.hid hw2
    have HRD0 := Lib.hid hrd0'
    have HRD1 := Lib.hid hrd1'
    have HQ1 := Lib.hid hq1
    have HM1 := Lib.hid (fun h => splitSize 32 N xs0 HX0.out X1 (hm1 h))
    have HO1 := Lib.hid ho1
    clear hw1 hc1 hr1' hrd0 hrd1 hrd0' hrd1' hq1 hm1 hw2 ht1 ho1 HTK w1
    go_upto_if 33 with fail
    go_cut [5, 6] (fun a b W => ∃ (A : Option Addr) (ok : Bool) (D : SlA) (ds : List Int), a = .slice A xs1.length xs1.length ∧ b = .bool ok ∧ (CV W (w.heap.size + 1) D (fun _ => nilS) ∧ CV W w.heap.size nilS (fun _ => nilS)) ∧ DaysIs o1 ok D ds W ∧ Rd W W.heap.size 1 A xs1.length (strsC xs1) ∧ Below w.heap.size w W)
    case first =>
      cases b1 with
      | false =>
        obtain ⟨rfl, rfl⟩ := HQ1.out rfl
        have ho := HO1.out
        rw [if_neg (by decide)] at ho
        subst ho
        go_wp2_with fail
        go_meet
        exact ⟨A1, true, nilS, [], rfl, rfl, ⟨hc2, hr2⟩, .inl ⟨rfl, rfl, Rd.empty, by decide⟩, HRD1.out, HW2.out⟩
      | true =>
        have ho := HO1.out
        rw [if_pos rfl] at ho
        subst ho
        have hxs := HM1.out rfl
        have HWD := Lib.hid (workdays_any X1 w2 (Nat.le_trans hxs HNS.out) (HE.out.on HW2.out))
        go_wp2_with fail
        refine HWD.out.mono ?_
        rintro e w3 ⟨(⟨ds, A, n, c, hds, rfl, hrd, hn⟩ | ⟨hds, rfl⟩), hb3⟩
        · have hc3 := hc2.under hb3
          have hr3 := hr2.under hb3
          have hcd := hc3.cd
          have hcf := hc3.fz 0
          have HDS := Lib.hid hds
          have HRD := Lib.hid hrd
          have HN3 := Lib.hid hn
          have HRD3 := Lib.hid ((HRD1.out.below hb3).more hb3.size)
          have HW3 := Lib.hid (HW2.out.trans (hb3.mono HW2.out.size))
          clear hds hrd hn hb3
          go_wp2_with fail
          go_meet
          exact ⟨A1, true, ⟨A, n, c⟩, ds, rfl, rfl, ⟨hc3.setd ⟨A, n, c⟩, hr3.same (Below.heap_setCell _ _ _ _ (by simp))⟩, .inl ⟨rfl, HDS.out, rd_setv hc3 HRD.out (intsC_not _) 0 _, HN3.out⟩, rd_setv hc3 HRD3.out (strsC_not _) 0 _, HW3.out.setCell (p := ⟨w.heap.size + 1, 0, none⟩) (by simp) _⟩
        · have hc3 := hc2.under hb3
          have hr3 := hr2.under hb3
          have hcd := hc3.cd
          have hcf := hc3.fz 0
          have HDS := Lib.hid hds
          have HRD3 := Lib.hid ((HRD1.out.below hb3).more hb3.size)
          have HW3 := Lib.hid (HW2.out.trans (hb3.mono HW2.out.size))
          clear hds hb3
          go_wp2_with fail
          go_meet
          exact ⟨A1, false, nilS, [], rfl, rfl, ⟨hc3.setd nilS, hr3.same (Below.heap_setCell _ _ _ _ (by simp))⟩, .inr ⟨rfl, HDS.out⟩, rd_setv hc3 HRD3.out (strsC_not _) 0 _, HW3.out.setCell (p := ⟨w.heap.size + 1, 0, none⟩) (by simp) _⟩
    case rest =>
      obtain ⟨A2, ok, D, ds, rfl, rfl, ⟨hc3, hr3⟩, hdi, hrd2, hw3⟩ := hcut
      have HDI := Lib.hid hdi
      have HTK2 := Lib.hid (take_any _ _ asks_2 (enters_of Tryz.func28 (by kernel_rfl) rfl) A2 xs1 wc hrd2)
      have HS1 : Hid (∀ t ∈ xs1, t.size ≤ N.size) := Lib.hid (fun t ht => splitSize 32 N xs0 HX0.out t (hs1 t ht))
      have HRD2 := Lib.hid hrd2
      clear hdi hrd2 hs1 HRD0 HRD1 HQ1 HM1 HO1 HW2 hc2 hr2
      go_wp2_with fail
      refine HTK2.out.mono ?_
      rintro e w4 ⟨⟨X2, A3, xs2, b2, rfl, ⟨ht2, hm2, hl2, hs2, hq2⟩, hrd3⟩, k4, rfl⟩
      obtain ⟨o2, ho2⟩ : ∃ o : Option (List UInt8), o = (if b2 = true then some (tl X2) else none) := ⟨_, rfl⟩
      rw [← ho2] at ht2
      have HT2 := Lib.hid ht2
      have hw4 : Below w.heap.size w (wc.drewN k4) := belowQ hw3 k4
      have hc4 : CV (wc.drewN k4) (w.heap.size + 1) D (fun _ => nilS) := hc3
      have hr4 : CV (wc.drewN k4) w.heap.size nilS (fun _ => nilS) := hr3
      have hdi4 : DaysIs o1 ok D ds (wc.drewN k4) := HDI.out
      have hrd2' : Rd (wc.drewN k4) (wc.drewN k4).heap.size 1 A2 xs1.length (strsC xs1) := HRD2.out
      have hrd3' : Rd (wc.drewN k4) (wc.drewN k4).heap.size 1 A3 xs2.length (strsC xs2) := hrd3
      clear hc3 hr3 HDI HRD2 hrd3 hw3 HTK2
      generalize wc.drewN k4 = w4 at *
      have HW4 := Lib.hid hw4
      have HDI4 := Lib.hid hdi4
      have HRD2 := Lib.hid hrd2'
      have HRD3 := Lib.hid hrd3'
      have HQ2 := Lib.hid hq2
      have HM2 := Lib.hid (fun h => HS1.out X2 (hm2 h))
      have HO2 := Lib.hid ho2
      have HS2 : Hid (∀ t ∈ xs2, t.size ≤ N.size) := Lib.hid (fun t ht => HS1.out t (hs2 t ht))
      clear hw4 hdi4 hrd2' hrd3' hq2 hm2 ho2 hs2 ht2 wc HS1
      go_upto_if 47 with fail
      go_cut [5, 10] (fun a b W => ∃ (A : Option Addr) (Dt : ByteArray), a = .slice A xs2.length xs2.length ∧ b = .string Dt ∧ (Dt.data.toList = Sp.dtO o2 ∧ Dt.size ≤ 1048576) ∧ Rd W W.heap.size 1 A xs2.length (strsC xs2) ∧ W = w4)
      case first =>
        cases b2 with
        | false =>
          obtain ⟨rfl, rfl⟩ := HQ2.out rfl
          have ho := HO2.out
          rw [if_neg (by decide)] at ho
          subst ho
          go_wp2_with fail
          go_meet
          exact ⟨A3, _, rfl, rfl, ⟨rfl, by decide⟩, HRD3.out, rfl⟩
        | true =>
          have ho := HO2.out
          rw [if_pos rfl] at ho
          subst ho
          have hxs := HM2.out rfl
          go_wp2_with fail
          go_meet
          exact ⟨A3, X2, rfl, rfl, ⟨rfl, Nat.le_trans hxs HNS.out⟩, HRD3.out, rfl⟩
      case rest =>
        obtain ⟨A4, Dt, rfl, rfl, ⟨hdt, hdts⟩, hrd4, rfl⟩ := hcut
        have HDT := Lib.hid hdt
        have HDTS := Lib.hid hdts
        have HTK3 := Lib.hid (take_any _ _ asks_3 (enters_of Tryz.func30 (by kernel_rfl) rfl) A4 xs2 wc hrd4)
        have HRD4 := Lib.hid hrd4
        clear hdt hdts hrd4 HRD2 HRD3 HQ2 HM2 HO2
        go_wp2_with fail
        refine HTK3.out.mono ?_
        rintro e w6 ⟨⟨X3, A5, xs3, b3, rfl, ⟨ht3, hm3, hl3, hs3, hq3⟩, hrd5⟩, k6, rfl⟩
        obtain ⟨o3, ho3⟩ : ∃ o : Option (List UInt8), o = (if b3 = true then some (tl X3) else none) := ⟨_, rfl⟩
        rw [← ho3] at ht3
        have HT3 := Lib.hid ht3
        have hw6 : Below w.heap.size w (wc.drewN k6) := belowQ HW4.out k6
        have hc6 : CV (wc.drewN k6) (w.heap.size + 1) D (fun _ => nilS) := hc4
        have hr6 : CV (wc.drewN k6) w.heap.size nilS (fun _ => nilS) := hr4
        have hdi6 : DaysIs o1 ok D ds (wc.drewN k6) := HDI4.out
        clear hc4 hr4 HDI4 HRD4 HW4 HTK3 hrd5
        generalize wc.drewN k6 = w6 at *
        have HW6 := Lib.hid hw6
        have HDI6 := Lib.hid hdi6
        have HQ3 := Lib.hid hq3
        have HM3 := Lib.hid (fun h => HS2.out X3 (hm3 h))
        have HO3 := Lib.hid ho3
        clear hw6 hdi6 hq3 hm3 ho3 hs3 ht3 wc HS2
        go_upto_if 56 with fail
        go_cut [5, 11] (fun a b W => ∃ (A : Option Addr) (Ck : ByteArray), a = .slice A xs3.length xs3.length ∧ b = .string Ck ∧ (Ck.data.toList = Sp.ckO o3 ∧ Ck.size ≤ 1048576) ∧ W = w6)
        case first =>
          cases b3 with
          | false =>
            obtain ⟨rfl, rfl⟩ := HQ3.out rfl
            have ho := HO3.out
            rw [if_neg (by decide)] at ho
            subst ho
            go_wp2_with fail
            go_meet
            exact ⟨A5, _, rfl, rfl, ⟨rfl, by decide⟩, rfl⟩
          | true =>
            have ho := HO3.out
            rw [if_pos rfl] at ho
            subst ho
            have hxs := HM3.out rfl
            have hx3 : X3.size ≤ 1048500 := by have := HNS.out; have := HLN.out; omega
            have HCN := Lib.hid (Tryz.strings_Count_one X3 58 w6)
            have HCE : Hid (∀ q : Bool, q = ((Lib.countByte X3.data.toList 58 : Int) == 1) → Sp.ckO (some (tl X3)) = if q = true then X3.data.toList ++ [58, 48, 48] else X3.data.toList) := Lib.hid (fun q hq => by
              show Sp.clockL X3.data.toList = _
              unfold Sp.clockL
              have e : (X3.data.toList.filter fun x => x == 58).length = Lib.countByte X3.data.toList 58 := by
                unfold Lib.countByte
                rw [List.count_eq_countP, List.countP_eq_length_filter]
              rw [e, hq]
              by_cases h1 : Lib.countByte X3.data.toList 58 = 1
              · rw [if_pos h1, h1]; rfl
              · rw [if_neg h1, if_neg (by simp; omega)])
            generalize (Lib.countByte X3.data.toList 58 : Int) = cn at *
            have hcat : (X3 ++ ⟨#[58, 48, 48]⟩).data.toList = X3.data.toList ++ [58, 48, 48] := by rw [ByteArray.data_append]; simp
            have hcz : (X3 ++ ⟨#[58, 48, 48]⟩).size ≤ 1048576 := by
              rw [← bytes_size, hcat, List.length_append, bytes_size]
              simp only [List.length_cons, List.length_nil]
              omega
            have HCZ := Lib.hid (And.intro hcat hcz)
            clear hcat hcz
            have hlen : ¬ 9223372036854775807 < X3.size + 3 := by omega
            cases hq : (cn == 1) with
            | false =>
              have HCE2 := Lib.hid (HCE.out false hq.symm)
              go_wp2_with fail
              refine HCN.out.mono ?_
              rintro e w7 ⟨rfl, rfl⟩
              go_wp2_with fail
              go_meet
              exact ⟨A5, X3, rfl, rfl, ⟨by rw [HCE2.out]; rfl, by omega⟩, rfl⟩
            | true =>
              have HCE2 := Lib.hid (HCE.out true hq.symm)
              go_wp2_with fail
              refine HCN.out.mono ?_
              rintro e w7 ⟨rfl, rfl⟩
              go_wp2_with fail
              go_meet
              exact ⟨A5, _, rfl, rfl, ⟨by rw [HCE2.out, if_pos trivial]; exact HCZ.out.1, HCZ.out.2⟩, rfl⟩
        case rest =>
          obtain ⟨A6, Ck, rfl, rfl, ⟨hck, hcks⟩, rfl⟩ := hcut
          have HCK := Lib.hid hck
          have HSD := Lib.hid (split_any Dt 45 wc HDTS.out (HE.out.on HW6.out))
          clear hck
          go_wp2_with fail
          refine HSD.out.mono ?_
          rintro e w7 ⟨⟨A7, dxs, hdx, ⟨rfl, hrd7⟩, hdn⟩, hb7⟩
          have HB7 := Lib.hid hb7
          have HSC := Lib.hid (split_any Ck 58 w7 hcks (HE.out.on (HW6.out.trans (hb7.mono HW6.out.size))))
          go_wp2_with fail
          refine HSC.out.mono ?_
          rintro e w8 ⟨⟨A8, txs, htx, ⟨rfl, hrd8⟩, htn⟩, hb8⟩
          have hb68 : Below wc.heap.size wc w8 := hb7.trans (hb8.mono hb7.size)
          have hc8 := hc6.under hb68
          have hr8 := hr6.under hb68
          have HW8 := Lib.hid (HW6.out.trans (hb68.mono HW6.out.size))
          have hrd7' : Rd w8 w8.heap.size 1 A7 dxs.length (strsC dxs) := (hrd7.below hb8).more hb8.size
          have HDI8 : Hid (DaysIs o1 ok D ds w8) := Lib.hid (by
            rcases HDI6.out with ⟨h1, h2, h3, h4⟩ | ⟨h1, h2⟩
            · exact .inl ⟨h1, h2, (h3.below hb68).more hb68.size, h4⟩
            · exact .inr ⟨h1, h2⟩)
          have HRD7 := Lib.hid hrd7'
          have HRD8 := Lib.hid hrd8
          have HPF : Hid (Sp.parseP s.data.toList = Sp.finP (Sp.dyO o1) (xs3.map tl).isEmpty (dxs.map tl) (txs.map tl)) := Lib.hid (by
            rw [HP.out, Sp.parseL_of (L0 := xs0.map tl) (by rw [show xs0.map tl = _ from HX0.out, HN.out]) HT1.out HT2.out HT3.out, ← HDT.out, ← HCK.out, ← hdx, ← htx]
            rfl)
          have HDZ := Lib.hid (splitSize 45 Dt dxs hdx)
          have HTZ := Lib.hid (splitSize 58 Ck txs htx)
          have hdts := HDTS.out
          clear hc6 hr6 HDI6 HW6 HB7 hb7 hb8 hb68 hrd7 hrd8 hrd7' hdx htx HSD HSC HX0 HT1 HT2 HT3 HDT HCK HP HN HNS HLN HQ3 HM3 HO3
          have z0 := hr8.cd
          have z1 := hr8.cell 0 (by decide)
          have z2 := hr8.cell 1 (by decide)
          have z3 := hr8.cell 2 (by decide)
          have z4 := hr8.cell 3 (by decide)
          have z5 := hr8.cell 4 (by decide)
          have z6 := hr8.cell 5 (by decide)
          have g0 := hr8.fz 0
          have g1 := hr8.fz 1
          have g2 := hr8.fz 2
          have g3 := hr8.fz 3
          have g4 := hr8.fz 4
          have g5 := hr8.fz 5
          have g6 := hr8.fz 6
          simp only [slV, nilS] at z0 z1 z2 z3 z4 z5 z6
          cases ok with
          | false =>
            have hdy : Sp.dyO o1 = none := by
              rcases HDI8.out with ⟨h, _⟩ | ⟨_, h⟩
              · cases h
              · exact h
            have HNO : Hid (Sp.parseP s.data.toList = none) := Lib.hid (by rw [HPF.out, hdy]; rfl)
            have qf := CV.put hr8 nilS nilS nilS nilS nilS nilS nilS
            have HQF := Lib.hid qf
            have HBF := Lib.hid (below_put7c (HW8.out) (Nat.le_refl _) (.slice none 0 0) (.slice none 0 0) (.slice none 0 0) (.slice none 0 0) (.slice none 0 0) (.slice none 0 0) (.slice none 0 0))
            clear qf
            go_wp2
            refine bodyPost_ret (v := .tuple #[.agg #[.slice none 0 0, .slice none 0 0, .slice none 0 0, .slice none 0 0, .slice none 0 0, .slice none 0 0, .slice none 0 0], .bool false]) (parse_res HQF.out rfl rfl) rfl ?_
            exact ⟨.inr ⟨HNO.out, rfl⟩, HBF.out⟩
          | true =>
            obtain ⟨hdy, hrdD, hDn⟩ : Sp.dyO o1 = some ds ∧ Rd w8 w8.heap.size 1 D.A D.n (intsC ds) ∧ D.n ≤ 9223372036854775807 := by
              rcases HDI8.out with ⟨_, h⟩ | ⟨h, _⟩
              · exact h
              · cases h
            have HPG : Hid (Sp.parseP s.data.toList = Sp.finP (some ds) (xs3.map tl).isEmpty (dxs.map tl) (txs.map tl)) := Lib.hid (by rw [HPF.out, hdy])
            have HRDD := Lib.hid hrdD
            clear HPF hdy hrdD
            cases xs3 with
            | cons y r =>
              have hgt : (0 : Int) < (((y :: r).length : Nat) : Int) := by simp only [List.length_cons]; omega
              have hgn : 0 < (y :: r).length := by simp
              generalize (y :: r).length = n3 at *
              have hgd : decide (0 < n3) = true := decide_eq_true hgn
              have hgi : decide ((0 : Int) < (n3 : Int)) = true := decide_eq_true hgt
              have HNO : Hid (Sp.parseP s.data.toList = none) := Lib.hid (HPG.out)
              have qf := CV.put hr8 nilS nilS nilS nilS nilS nilS nilS
              have HQF := Lib.hid qf
              have HBF := Lib.hid (below_put7c (HW8.out) (Nat.le_refl _) (.slice none 0 0) (.slice none 0 0) (.slice none 0 0) (.slice none 0 0) (.slice none 0 0) (.slice none 0 0) (.slice none 0 0))
              clear qf
              go_wp2
              refine bodyPost_ret (v := .tuple #[.agg #[.slice none 0 0, .slice none 0 0, .slice none 0 0, .slice none 0 0, .slice none 0 0, .slice none 0 0, .slice none 0 0], .bool false]) (parse_res HQF.out rfl rfl) rfl ?_
              exact ⟨.inr ⟨HNO.out, rfl⟩, HBF.out⟩
            | nil =>
              have HPH : Hid (Sp.parseP s.data.toList = Sp.fillP ds (dxs.map tl) (txs.map tl)) := Lib.hid (by rw [HPG.out]; rfl)
              obtain ⟨dA, dn, dc⟩ := D
              dsimp only at HRDD hDn
              clear HPG HDI8
              simp only [List.length_nil]
              by_cases hd3 : dxs.length = 3
              · by_cases ht3 : txs.length = 3
                · have hrd7 := HRD7.out
                  have hrd8 := HRD8.out
                  rw [hd3] at hrd7
                  rw [ht3] at hrd8
                  obtain ⟨ad7, rfl, _, _⟩ := hrd7.here (by decide)
                  obtain ⟨ad8, rfl, _, _⟩ := hrd8.here (by decide)
                  have hsw := HW8.out.size
                  have HF1 := Lib.hid (fill_any (w.heap.size + 1) 0 w.heap.size dxs ad7 ⟨dA, dn, dc⟩ (fun _ => nilS) w8 hd3 (by decide) (fun t ht => Nat.le_trans (HDZ.out t ht) HDTS.out) (by omega) (fun x hx => HE.out x (HW8.out.trans hx)) hrd7 hc8)
                  have HC8 := Lib.hid hc8
                  have HRT := Lib.hid hrd8
                  have HD3 := Lib.hid hd3
                  have HT3 := Lib.hid ht3
                  clear HRD7 HRD8
                  simp only [hd3, ht3]
                  clear hd3 ht3 hrd7 hrd8
                  go_wp2_with fail
                  refine HF1.out.mono ?_
                  rintro e w9 ⟨(⟨sl, ps, hfi, hcv, rfl⟩ | ⟨hbad, rfl⟩), hg9⟩
                  · have hr9 : CV w9 w.heap.size nilS (fun _ => nilS) := hr8.same (hg9.block _ hr8.lt (by simp))
                    have HW9 := Lib.hid (HW8.out.grown hg9 hsw (fun j e => by cases e; omega))
                    have hrt9 := rd_grown HC8.out HRT.out (by decide) (strsC_not txs) hg9
                    have HDD9 := Lib.hid (rd_grown HC8.out HRDD.out (by decide) (intsC_not ds) hg9)
                    have HFI9 := Lib.hid hfi
                    have HCV9 := Lib.hid hcv
                    have HF2 := Lib.hid (fill_any (w.heap.size + 1) 3 w.heap.size txs ad8 ⟨dA, dn, dc⟩ (filled (fun _ => nilS) sl 0 3) w9 HT3.out (by decide) (fun t ht => Nat.le_trans (HTZ.out t ht) hcks) (by omega) (fun x hx => HE.out x (HW9.out.trans hx)) hrt9 hcv)
                    clear hfi hcv hrt9 hg9 hr8 hc8 z0 z1 z2 z3 z4 z5 z6 g0 g1 g2 g3 g4 g5 g6 HF1 HRT HC8 HRDD
                    go_wp2_with fail
                    refine HF2.out.mono ?_
                    rintro e w10 ⟨(⟨sl2, ps2, hfi2, hcv2, rfl⟩ | ⟨hbad, rfl⟩), hg10⟩
                    · have hr10 : CV w10 w.heap.size nilS (fun _ => nilS) := hr9.same (hg10.block _ hr9.lt (by simp))
                      have HW10 := Lib.hid (HW9.out.grown hg10 HW9.out.size (fun j e => by cases e; omega))
                      have hdd := rd_grown HCV9.out HDD9.out (by decide) (intsC_not ds) hg10
                      have hf9 := HFI9.out.grown HCV9.out hg10
                      have a0 := hf9 0 (by decide) (by rw [HD3.out]; decide)
                      have a1 := hf9 1 (by decide) (by rw [HD3.out]; decide)
                      have a2 := hf9 2 (by decide) (by rw [HD3.out]; decide)
                      have a3 := hfi2 0 (by decide) (by rw [HT3.out]; decide)
                      have a4 := hfi2 1 (by decide) (by rw [HT3.out]; decide)
                      have a5 := hfi2 2 (by decide) (by rw [HT3.out]; decide)
                      have b0 := hcv2.cd
                      have b1' : w10.cell? ⟨w.heap.size + 1, 1, none⟩ = some (slV (sl 0)) := hcv2.cell 0 (by decide)
                      have b2' : w10.cell? ⟨w.heap.size + 1, 2, none⟩ = some (slV (sl 1)) := hcv2.cell 1 (by decide)
                      have b3' : w10.cell? ⟨w.heap.size + 1, 3, none⟩ = some (slV (sl 2)) := hcv2.cell 2 (by decide)
                      have b4' : w10.cell? ⟨w.heap.size + 1, 4, none⟩ = some (slV (sl2 0)) := hcv2.cell 3 (by decide)
                      have b5' : w10.cell? ⟨w.heap.size + 1, 5, none⟩ = some (slV (sl2 1)) := hcv2.cell 4 (by decide)
                      have b6' : w10.cell? ⟨w.heap.size + 1, 6, none⟩ = some (slV (sl2 2)) := hcv2.cell 5 (by decide)
                      have HPI : Hid (Sp.parseP s.data.toList = if Sp.mayCal ⟨ds, ps 0, ps 1, ps 2, ps2 0, ps2 1, ps2 2⟩ = true then some ⟨ds, ps 0, ps 1, ps 2, ps2 0, ps2 1, ps2 2⟩ else none) := Lib.hid (by
                        rw [HPH.out]
                        exact fillP_three HD3.out HT3.out a0.1 a1.1 a2.1 a3.1 a4.1 a5.1)
                      have HCB := Lib.hid hcv2
                      generalize sl 0 = s0 at *
                      generalize sl 1 = s1 at *
                      generalize sl 2 = s2 at *
                      generalize sl2 0 = s3 at *
                      generalize sl2 1 = s4 at *
                      generalize sl2 2 = s5 at *
                      generalize ps 0 = p0 at *
                      generalize ps 1 = p1 at *
                      generalize ps 2 = p2 at *
                      generalize ps2 0 = p3 at *
                      generalize ps2 1 = p4 at *
                      generalize ps2 2 = p5 at *
                      have hgood : CalGood w10 ⟨⟨dA, dn, dc⟩, s0, s1, s2, s3, s4, s5, ⟨ds, p0, p1, p2, p3, p4, p5⟩⟩ := by
                        refine ⟨hdd, fun i hi => ?_, hDn, fun i => ?_⟩
                        · have e : i = 0 ∨ i = 1 ∨ i = 2 ∨ i = 3 ∨ i = 4 ∨ i = 5 := by omega
                          rcases e with rfl | rfl | rfl | rfl | rfl | rfl
                          · exact a0.2.1
                          · exact a1.2.1
                          · exact a2.2.1
                          · exact a3.2.1
                          · exact a4.2.1
                          · exact a5.2.1
                        · match i with
                          | 0 => exact a0.2.2
                          | 1 => exact a1.2.2
                          | 2 => exact a2.2.2
                          | 3 => exact a3.2.2
                          | 4 => exact a4.2.2
                          | n + 5 => exact a5.2.2
                      have HGD := Lib.hid hgood
                      obtain ⟨A0', n0', c0'⟩ := s0
                      obtain ⟨A1', n1', c1'⟩ := s1
                      obtain ⟨A2', n2', c2'⟩ := s2
                      obtain ⟨A3', n3', c3'⟩ := s3
                      obtain ⟨A4', n4', c4'⟩ := s4
                      obtain ⟨A5', n5', c5'⟩ := s5
                      simp only [slV] at b0 b1' b2' b3' b4' b5' b6'
                      have HMAY := Lib.hid (may_any _ w10 hgood)
                      simp only [calV, slV] at HMAY
                      clear hfi2 hcv2 hg10 hdd hf9 a0 a1 a2 a3 a4 a5 hgood HF2 HCV9 HFI9 HDD9 HPH HDZ HTZ hr9
                      cases hm : Sp.mayCal ⟨ds, p0, p1, p2, p3, p4, p5⟩ with
                      | false =>
                        rw [hm] at HMAY
                        have HPJ : Hid (Sp.parseP s.data.toList = none) := Lib.hid (by rw [HPI.out, hm]; rfl)
                        clear hm
                        go_wp2_with fail
                        refine HMAY.out.mono ?_
                        rintro e w11 ⟨rfl, hb11⟩
                        have hr11 := hr10.under hb11
                        have HW11 := Lib.hid (HW10.out.trans (hb11.mono HW10.out.size))
                        clear hb11
                        have z0 := hr11.cd
                        have z1 := hr11.cell 0 (by decide)
                        have z2 := hr11.cell 1 (by decide)
                        have z3 := hr11.cell 2 (by decide)
                        have z4 := hr11.cell 3 (by decide)
                        have z5 := hr11.cell 4 (by decide)
                        have z6 := hr11.cell 5 (by decide)
                        have g0 := hr11.fz 0
                        have g1 := hr11.fz 1
                        have g2 := hr11.fz 2
                        have g3 := hr11.fz 3
                        have g4 := hr11.fz 4
                        have g5 := hr11.fz 5
                        have g6 := hr11.fz 6
                        simp only [slV, nilS] at z0 z1 z2 z3 z4 z5 z6
                        have HNO : Hid (Sp.parseP s.data.toList = none) := Lib.hid (HPJ.out)
                        have qf := CV.put hr11 nilS nilS nilS nilS nilS nilS nilS
                        have HQF := Lib.hid qf
                        have HBF := Lib.hid (below_put7c (HW11.out) (Nat.le_refl _) (.slice none 0 0) (.slice none 0 0) (.slice none 0 0) (.slice none 0 0) (.slice none 0 0) (.slice none 0 0) (.slice none 0 0))
                        clear qf
                        go_wp2
                        refine bodyPost_ret (v := .tuple #[.agg #[.slice none 0 0, .slice none 0 0, .slice none 0 0, .slice none 0 0, .slice none 0 0, .slice none 0 0, .slice none 0 0], .bool false]) (parse_res HQF.out rfl rfl) rfl ?_
                        exact ⟨.inr ⟨HNO.out, rfl⟩, HBF.out⟩
                      | true =>
                        rw [hm] at HMAY
                        have HPJ : Hid (Sp.parseP s.data.toList = some ⟨ds, p0, p1, p2, p3, p4, p5⟩) := Lib.hid (by rw [HPI.out, hm]; rfl)
                        clear hm
                        go_wp2_with fail
                        refine HMAY.out.mono ?_
                        rintro e w11 ⟨rfl, hb11⟩
                        have hr11 := hr10.under hb11
                        have HW11 := Lib.hid (HW10.out.trans (hb11.mono HW10.out.size))
                        have HG11 := Lib.hid (HGD.out.on hb11)
                        have hcb := HCB.out.lt
                        have m0 := (hb11.cell (p := ⟨w.heap.size + 1, 0, none⟩) hcb).trans b0
                        have m1 := (hb11.cell (p := ⟨w.heap.size + 1, 1, none⟩) hcb).trans b1'
                        have m2 := (hb11.cell (p := ⟨w.heap.size + 1, 2, none⟩) hcb).trans b2'
                        have m3 := (hb11.cell (p := ⟨w.heap.size + 1, 3, none⟩) hcb).trans b3'
                        have m4 := (hb11.cell (p := ⟨w.heap.size + 1, 4, none⟩) hcb).trans b4'
                        have m5 := (hb11.cell (p := ⟨w.heap.size + 1, 5, none⟩) hcb).trans b5'
                        have m6 := (hb11.cell (p := ⟨w.heap.size + 1, 6, none⟩) hcb).trans b6'
                        clear hb11 hcb b0 b1' b2' b3' b4' b5' b6' HCB HGD
                        have z0 := hr11.cd
                        have z1 := hr11.cell 0 (by decide)
                        have z2 := hr11.cell 1 (by decide)
                        have z3 := hr11.cell 2 (by decide)
                        have z4 := hr11.cell 3 (by decide)
                        have z5 := hr11.cell 4 (by decide)
                        have z6 := hr11.cell 5 (by decide)
                        have g0 := hr11.fz 0
                        have g1 := hr11.fz 1
                        have g2 := hr11.fz 2
                        have g3 := hr11.fz 3
                        have g4 := hr11.fz 4
                        have g5 := hr11.fz 5
                        have g6 := hr11.fz 6
                        simp only [slV, nilS] at z0 z1 z2 z3 z4 z5 z6
                        have qf := CV.put hr11 ⟨dA, dn, dc⟩ ⟨A0', n0', c0'⟩ ⟨A1', n1', c1'⟩ ⟨A2', n2', c2'⟩ ⟨A3', n3', c3'⟩ ⟨A4', n4', c4'⟩ ⟨A5', n5', c5'⟩
                        have HQF := Lib.hid qf
                        have HBF := Lib.hid (below_put7c HW11.out (Nat.le_refl _) (slV ⟨dA, dn, dc⟩) (slV ⟨A0', n0', c0'⟩) (slV ⟨A1', n1', c1'⟩) (slV ⟨A2', n2', c2'⟩) (slV ⟨A3', n3', c3'⟩) (slV ⟨A4', n4', c4'⟩) (slV ⟨A5', n5', c5'⟩))
                        have HGF := Lib.hid (calGood_put hr11 HG11.out (slV ⟨dA, dn, dc⟩) (slV ⟨A0', n0', c0'⟩) (slV ⟨A1', n1', c1'⟩) (slV ⟨A2', n2', c2'⟩) (slV ⟨A3', n3', c3'⟩) (slV ⟨A4', n4', c4'⟩) (slV ⟨A5', n5', c5'⟩))
                        clear qf
                        go_wp2
                        refine bodyPost_ret (v := .tuple #[.agg #[.slice dA dn dc, .slice A0' n0' c0', .slice A1' n1' c1', .slice A2' n2' c2', .slice A3' n3' c3', .slice A4' n4' c4', .slice A5' n5' c5'], .bool true]) (parse_res HQF.out rfl rfl) rfl ?_
                        exact ⟨.inl ⟨_, HPJ.out, HGF.out, rfl⟩, HBF.out⟩
                    · have HNB : Hid (Sp.parseP s.data.toList = none) := Lib.hid (by
                        obtain ⟨t, ht, hn⟩ := hbad
                        rw [HPH.out]
                        exact Sp.fillP_bad ds _ _ (.inr ⟨tl t, List.mem_map.2 ⟨t, ht, rfl⟩, hn⟩))
                      have hr10 : CV w10 w.heap.size nilS (fun _ => nilS) := hr9.same (hg10.block _ hr9.lt (by simp))
                      have HW10 := Lib.hid (HW9.out.grown hg10 HW9.out.size (fun j e => by cases e; omega))
                      clear hbad hg10 hr9
                      have z0 := hr10.cd
                      have z1 := hr10.cell 0 (by decide)
                      have z2 := hr10.cell 1 (by decide)
                      have z3 := hr10.cell 2 (by decide)
                      have z4 := hr10.cell 3 (by decide)
                      have z5 := hr10.cell 4 (by decide)
                      have z6 := hr10.cell 5 (by decide)
                      have g0 := hr10.fz 0
                      have g1 := hr10.fz 1
                      have g2 := hr10.fz 2
                      have g3 := hr10.fz 3
                      have g4 := hr10.fz 4
                      have g5 := hr10.fz 5
                      have g6 := hr10.fz 6
                      simp only [slV, nilS] at z0 z1 z2 z3 z4 z5 z6
                      have HNO : Hid (Sp.parseP s.data.toList = none) := Lib.hid (HNB.out)
                      have qf := CV.put hr10 nilS nilS nilS nilS nilS nilS nilS
                      have HQF := Lib.hid qf
                      have HBF := Lib.hid (below_put7c (HW10.out) (Nat.le_refl _) (.slice none 0 0) (.slice none 0 0) (.slice none 0 0) (.slice none 0 0) (.slice none 0 0) (.slice none 0 0) (.slice none 0 0))
                      clear qf
                      go_wp2
                      refine bodyPost_ret (v := .tuple #[.agg #[.slice none 0 0, .slice none 0 0, .slice none 0 0, .slice none 0 0, .slice none 0 0, .slice none 0 0, .slice none 0 0], .bool false]) (parse_res HQF.out rfl rfl) rfl ?_
                      exact ⟨.inr ⟨HNO.out, rfl⟩, HBF.out⟩
                  · have HNB : Hid (Sp.parseP s.data.toList = none) := Lib.hid (by
                      obtain ⟨t, ht, hn⟩ := hbad
                      rw [HPH.out]
                      exact Sp.fillP_bad ds _ _ (.inl ⟨tl t, List.mem_map.2 ⟨t, ht, rfl⟩, hn⟩))
                    have hr9 : CV w9 w.heap.size nilS (fun _ => nilS) := hr8.same (hg9.block _ hr8.lt (by simp))
                    have HW9 := Lib.hid (HW8.out.grown hg9 hsw (fun j e => by cases e; omega))
                    clear hbad hg9 z0 z1 z2 z3 z4 z5 z6 g0 g1 g2 g3 g4 g5 g6
                    have z0 := hr9.cd
                    have z1 := hr9.cell 0 (by decide)
                    have z2 := hr9.cell 1 (by decide)
                    have z3 := hr9.cell 2 (by decide)
                    have z4 := hr9.cell 3 (by decide)
                    have z5 := hr9.cell 4 (by decide)
                    have z6 := hr9.cell 5 (by decide)
                    have g0 := hr9.fz 0
                    have g1 := hr9.fz 1
                    have g2 := hr9.fz 2
                    have g3 := hr9.fz 3
                    have g4 := hr9.fz 4
                    have g5 := hr9.fz 5
                    have g6 := hr9.fz 6
                    simp only [slV, nilS] at z0 z1 z2 z3 z4 z5 z6
                    have HNO : Hid (Sp.parseP s.data.toList = none) := Lib.hid (HNB.out)
                    have qf := CV.put hr9 nilS nilS nilS nilS nilS nilS nilS
                    have HQF := Lib.hid qf
                    have HBF := Lib.hid (below_put7c (HW9.out) (Nat.le_refl _) (.slice none 0 0) (.slice none 0 0) (.slice none 0 0) (.slice none 0 0) (.slice none 0 0) (.slice none 0 0) (.slice none 0 0))
                    clear qf
                    go_wp2
                    refine bodyPost_ret (v := .tuple #[.agg #[.slice none 0 0, .slice none 0 0, .slice none 0 0, .slice none 0 0, .slice none 0 0, .slice none 0 0, .slice none 0 0], .bool false]) (parse_res HQF.out rfl rfl) rfl ?_
                    exact ⟨.inr ⟨HNO.out, rfl⟩, HBF.out⟩
                · have HNB : Hid (Sp.parseP s.data.toList = none) := Lib.hid (by rw [HPH.out]; exact Sp.fillP_len ds _ _ (.inr (by rw [List.length_map]; exact ht3)))
                  clear HPH
                  simp only [hd3]
                  clear hd3 HRD7 HRD8 HDZ HTZ
                  generalize txs.length = tn at *
                  have q1 : ((tn : Int) == 3) = false := by simp; omega
                  have q2 : ((tn : Int) != 3) = true := by simp; omega
                  have q3 : decide ((tn : Int) = 3) = false := decide_eq_false (by omega)
                  have q4 : decide (tn = 3) = false := decide_eq_false ht3
                  go_upto_if 99 with fail
                  have HNO : Hid (Sp.parseP s.data.toList = none) := Lib.hid (HNB.out)
                  have qf := CV.put hr8 nilS nilS nilS nilS nilS nilS nilS
                  have HQF := Lib.hid qf
                  have HBF := Lib.hid (below_put7c (HW8.out) (Nat.le_refl _) (.slice none 0 0) (.slice none 0 0) (.slice none 0 0) (.slice none 0 0) (.slice none 0 0) (.slice none 0 0) (.slice none 0 0))
                  clear qf
                  go_wp2
                  refine bodyPost_ret (v := .tuple #[.agg #[.slice none 0 0, .slice none 0 0, .slice none 0 0, .slice none 0 0, .slice none 0 0, .slice none 0 0, .slice none 0 0], .bool false]) (parse_res HQF.out rfl rfl) rfl ?_
                  exact ⟨.inr ⟨HNO.out, rfl⟩, HBF.out⟩
              · have HNB : Hid (Sp.parseP s.data.toList = none) := Lib.hid (by rw [HPH.out]; exact Sp.fillP_len ds _ _ (.inl (by rw [List.length_map]; exact hd3)))
                clear HPH HRD7 HRD8 HDZ HTZ
                generalize dxs.length = dn' at *
                have q1 : ((dn' : Int) == 3) = false := by simp; omega
                have q2 : ((dn' : Int) != 3) = true := by simp; omega
                have q3 : decide ((dn' : Int) = 3) = false := decide_eq_false (by omega)
                have q4 : decide (dn' = 3) = false := decide_eq_false hd3
                go_upto_if 99 with fail
                have HNO : Hid (Sp.parseP s.data.toList = none) := Lib.hid (HNB.out)
                have qf := CV.put hr8 nilS nilS nilS nilS nilS nilS nilS
                have HQF := Lib.hid qf
                have HBF := Lib.hid (below_put7c (HW8.out) (Nat.le_refl _) (.slice none 0 0) (.slice none 0 0) (.slice none 0 0) (.slice none 0 0) (.slice none 0 0) (.slice none 0 0) (.slice none 0 0))
                clear qf
                go_wp2
                refine bodyPost_ret (v := .tuple #[.agg #[.slice none 0 0, .slice none 0 0, .slice none 0 0, .slice none 0 0, .slice none 0 0, .slice none 0 0, .slice none 0 0], .bool false]) (parse_res HQF.out rfl rfl) rfl ?_
                exact ⟨.inr ⟨HNO.out, rfl⟩, HBF.out⟩

end Go.Proofs.YtpkpoglmmjaoeaaGreatDoor
