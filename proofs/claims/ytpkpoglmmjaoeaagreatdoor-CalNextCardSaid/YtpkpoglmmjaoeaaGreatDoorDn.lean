/-
  A calendar as a text: the program's walk.
-/
import Derived.Test.YtpkpoglmmjaoeaaGreatDoorDm
import Derived.Test.YtpkpoglmmjaoeaaGreatDoorDl
import Derived.Deep.RegionHeld3
import Derived.Deep.DeepCutAuto
namespace Go.Proofs.YtpkpoglmmjaoeaaGreatDoor
open Go.RowKit Go.Shelf

theorem since_more {W0 W W' : World} (h : Below W0.heap.size W0 W) (hb : Below W.heap.size W W') : Below W0.heap.size W0 W' := h.trans (hb.mono h.size)
theorem since_alloc {W0 W : World} (h : Below W0.heap.size W0 W) (o : Obj) : Below W0.heap.size W0 (W.alloc o) := h.alloc h.size o
theorem since_drew {W0 W : World} (h : Below W0.heap.size W0 W) : Below W0.heap.size W0 W.drew := h.drew
namespace Sp
theorem dayName_len (d : Int) : (dayName d).length ≤ 3 := by
  unfold dayName
  cases h : dayNames[(d - 1).toNat]? with
  | none => simp
  | some x =>
    have hm := List.mem_of_getElem? h
    unfold dayNames at hm
    simp only [List.mem_cons, List.not_mem_nil, or_false] at hm
    rcases hm with rfl | rfl | rfl | rfl | rfl | rfl | rfl <;> simp
theorem days_rng {last : Int} : ∀ {l : List Int}, mayDays last l = true → 0 ≤ last → ∀ d ∈ l, 1 ≤ d ∧ d ≤ 7
  | [], _, _, d, hd => by cases hd
  | x :: r, h, h0, d, hd => by
    rw [mayDays] at h
    split at h
    · cases h
    · rename_i hx
      rcases List.mem_cons.1 hd with rfl | hd
      · omega
      · exact days_rng h (by omega) d hd
theorem days_few {last : Int} : ∀ {l : List Int}, mayDays last l = true → 0 ≤ last → (l.length : Int) ≤ 7 - last ∨ l = []
  | [], _, _ => .inr rfl
  | x :: r, h, h0 => by
    rw [mayDays] at h
    split at h
    · cases h
    · rename_i hx
      left
      rw [List.length_cons]
      rcases days_few h (by omega) with h2 | rfl
      · omega
      · simp only [List.length_nil]; omega
def txts (c : CalD) (k : Nat) : List (List UInt8) := (List.range k).map fun i => fieldL (c.field i) i
theorem txts_succ (c : CalD) (k : Nat) : txts c (k + 1) = txts c k ++ [fieldL (c.field k) k] := by
  unfold txts; rw [List.range_succ, List.map_append, List.map_singleton]
theorem cal_text (c : CalD) : calL c = (if c.days.isEmpty then [] else joinL [44] (c.days.map dayName) ++ [32]) ++ ((joinL [45] [fieldL c.year 0, fieldL c.month 1, fieldL c.day 2] ++ [32]) ++ joinL [58] [fieldL c.hour 3, fieldL c.min 4, fieldL c.sec 5]) := by
  unfold calL
  simp [joinL]
theorem fieldL_len {l : List PartD} {f : Nat} (h : ∀ q ∈ l, mayPartB q f = true) (hl : l.length ≤ 4) : (fieldL l f).length ≤ 64 := by
  unfold fieldL
  have h1 := joinL_len [44] 15 (l.map fun p => partL p f) (fun x hx => by
    obtain ⟨q, hq, rfl⟩ := List.mem_map.1 hx
    exact partL_len (h q hq))
  rw [List.length_map] at h1
  simp only [List.length_singleton] at h1
  omega
theorem mayCal_days {c : CalD} (h : mayCal c = true) : (∀ d ∈ c.days, 1 ≤ d ∧ d ≤ 7) ∧ c.days.length ≤ 7 := by
  unfold mayCal at h
  simp only [Bool.and_eq_true] at h
  refine ⟨fun d hd => ?_, ?_⟩
  · have := days_rng h.1 (Int.le_refl 0) d hd
    exact this
  · rcases days_few h.1 (Int.le_refl 0) with h2 | h2
    · omega
    · rw [h2]; simp
theorem mayCal_lens {c : CalD} (h : mayCal c = true) : ∀ i, i < 6 → (c.field i).length ≤ 4 := by
  unfold mayCal at h
  simp only [Bool.and_eq_true] at h
  obtain ⟨_, ⟨⟨⟨⟨⟨h1, h2⟩, h3⟩, h4⟩, h5⟩, h6⟩⟩ := h
  have k : ∀ (l : List PartD) (f : Nat), mayList l f = true → l.length ≤ 4 := fun l f h => by
    unfold mayList at h
    simp only [Bool.and_eq_true, decide_eq_true_eq] at h
    exact h.1.2
  intro i hi
  have e : i = 0 ∨ i = 1 ∨ i = 2 ∨ i = 3 ∨ i = 4 ∨ i = 5 := by omega
  rcases e with rfl | rfl | rfl | rfl | rfl | rfl
  · exact k _ _ h1
  · exact k _ _ h2
  · exact k _ _ h3
  · exact k _ _ h4
  · exact k _ _ h5
  · exact k _ _ h6
theorem day_some {d : Int} (h : 1 ≤ d ∧ d ≤ 7) : ∃ j : Nat, j < 7 ∧ d = (j : Int) + 1 ∧ [bts [77, 111, 110], bts [84, 117, 101], bts [87, 101, 100], bts [84, 104, 117], bts [70, 114, 105], bts [83, 97, 116], bts [83, 117, 110]][j]? = some (bts (dayName d)) := by
  refine ⟨(d - 1).toNat, by omega, by omega, ?_⟩
  have e : d = 1 ∨ d = 2 ∨ d = 3 ∨ d = 4 ∨ d = 5 ∨ d = 6 ∨ d = 7 := by omega
  rcases e with rfl | rfl | rfl | rfl | rfl | rfl | rfl <;> rfl
end Sp
theorem names_at (W : World) (j : Nat) (x : ByteArray) (h : [Sp.bts [77, 111, 110], Sp.bts [84, 117, 101], Sp.bts [87, 101, 100], Sp.bts [84, 104, 117], Sp.bts [70, 114, 105], Sp.bts [83, 97, 116], Sp.bts [83, 117, 110]][j]? = some x) : (W.alloc (.cells #[.string ⟨#[77, 111, 110]⟩, .string ⟨#[84, 117, 101]⟩, .string ⟨#[87, 101, 100]⟩, .string ⟨#[84, 104, 117]⟩, .string ⟨#[70, 114, 105]⟩, .string ⟨#[83, 97, 116]⟩, .string ⟨#[83, 117, 110]⟩] 9)).cell? ((⟨W.heap.size, 0, none⟩ : Addr).add j) = some (.string x) := by
  have hj : j < 7 := (List.getElem?_eq_some_iff.1 h).1
  have e : j = 0 ∨ j = 1 ∨ j = 2 ∨ j = 3 ∨ j = 4 ∨ j = 5 ∨ j = 6 := by omega
  rcases e with rfl | rfl | rfl | rfl | rfl | rfl | rfl
  · injection h with h
    rw [← h]
    exact (show (W.alloc (.cells #[.string ⟨#[77, 111, 110]⟩, .string ⟨#[84, 117, 101]⟩, .string ⟨#[87, 101, 100]⟩, .string ⟨#[84, 104, 117]⟩, .string ⟨#[70, 114, 105]⟩, .string ⟨#[83, 97, 116]⟩, .string ⟨#[83, 117, 110]⟩] 9)).cell? ((⟨W.heap.size, 0, none⟩ : Addr).add 0) = some (.string ⟨#[77, 111, 110]⟩) by simp [Addr.add])
  · injection h with h
    rw [← h]
    exact (show (W.alloc (.cells #[.string ⟨#[77, 111, 110]⟩, .string ⟨#[84, 117, 101]⟩, .string ⟨#[87, 101, 100]⟩, .string ⟨#[84, 104, 117]⟩, .string ⟨#[70, 114, 105]⟩, .string ⟨#[83, 97, 116]⟩, .string ⟨#[83, 117, 110]⟩] 9)).cell? ((⟨W.heap.size, 0, none⟩ : Addr).add 1) = some (.string ⟨#[84, 117, 101]⟩) by simp [Addr.add])
  · injection h with h
    rw [← h]
    exact (show (W.alloc (.cells #[.string ⟨#[77, 111, 110]⟩, .string ⟨#[84, 117, 101]⟩, .string ⟨#[87, 101, 100]⟩, .string ⟨#[84, 104, 117]⟩, .string ⟨#[70, 114, 105]⟩, .string ⟨#[83, 97, 116]⟩, .string ⟨#[83, 117, 110]⟩] 9)).cell? ((⟨W.heap.size, 0, none⟩ : Addr).add 2) = some (.string ⟨#[87, 101, 100]⟩) by simp [Addr.add])
  · injection h with h
    rw [← h]
    exact (show (W.alloc (.cells #[.string ⟨#[77, 111, 110]⟩, .string ⟨#[84, 117, 101]⟩, .string ⟨#[87, 101, 100]⟩, .string ⟨#[84, 104, 117]⟩, .string ⟨#[70, 114, 105]⟩, .string ⟨#[83, 97, 116]⟩, .string ⟨#[83, 117, 110]⟩] 9)).cell? ((⟨W.heap.size, 0, none⟩ : Addr).add 3) = some (.string ⟨#[84, 104, 117]⟩) by simp [Addr.add])
  · injection h with h
    rw [← h]
    exact (show (W.alloc (.cells #[.string ⟨#[77, 111, 110]⟩, .string ⟨#[84, 117, 101]⟩, .string ⟨#[87, 101, 100]⟩, .string ⟨#[84, 104, 117]⟩, .string ⟨#[70, 114, 105]⟩, .string ⟨#[83, 97, 116]⟩, .string ⟨#[83, 117, 110]⟩] 9)).cell? ((⟨W.heap.size, 0, none⟩ : Addr).add 4) = some (.string ⟨#[70, 114, 105]⟩) by simp [Addr.add])
  · injection h with h
    rw [← h]
    exact (show (W.alloc (.cells #[.string ⟨#[77, 111, 110]⟩, .string ⟨#[84, 117, 101]⟩, .string ⟨#[87, 101, 100]⟩, .string ⟨#[84, 104, 117]⟩, .string ⟨#[70, 114, 105]⟩, .string ⟨#[83, 97, 116]⟩, .string ⟨#[83, 117, 110]⟩] 9)).cell? ((⟨W.heap.size, 0, none⟩ : Addr).add 5) = some (.string ⟨#[83, 97, 116]⟩) by simp [Addr.add])
  · injection h with h
    rw [← h]
    exact (show (W.alloc (.cells #[.string ⟨#[77, 111, 110]⟩, .string ⟨#[84, 117, 101]⟩, .string ⟨#[87, 101, 100]⟩, .string ⟨#[84, 104, 117]⟩, .string ⟨#[70, 114, 105]⟩, .string ⟨#[83, 97, 116]⟩, .string ⟨#[83, 117, 110]⟩] 9)).cell? ((⟨W.heap.size, 0, none⟩ : Addr).add 6) = some (.string ⟨#[83, 117, 110]⟩) by simp [Addr.add])
theorem add_flat (b j : Nat) : (⟨b, 0, none⟩ : Addr).add j = ⟨b, j, none⟩ := by
  unfold Addr.add
  split
  · rename_i h; rw [h]
  · simp
/-- strings.Join over three texts of a row -/
theorem join3_any (c : UInt8) (t0 t1 t2 : List UInt8) (g o cap : Nat) (w : World) (hg : g < w.heap.size) (hc : 3 ≤ cap) (h0 : w.cell? ⟨g, o + 0, none⟩ = some (.string (Sp.bts t0))) (h1 : w.cell? ⟨g, o + 1, none⟩ = some (.string (Sp.bts t1))) (h2 : w.cell? ⟨g, o + 2, none⟩ = some (.string (Sp.bts t2))) (l0 : t0.length ≤ 64) (l1 : t1.length ≤ 64) (l2 : t2.length ≤ 64) :
    Calls Tryz.prog 38 #[.slice (some ⟨g, o, none⟩) 3 cap, .string ⟨#[c]⟩] w fun e w' => e = .returned (.string (Sp.bts (Sp.joinL [c] [t0, t1, t2]))) ∧ Below w.heap.size w w' := by
  have hj : Lib.join (([Sp.bts t0, Sp.bts t1, Sp.bts t2]).map (·.data.toList)) [c] = Sp.joinL [c] [t0, t1, t2] := by
    rw [← Sp.join_eq]
    simp only [List.map_cons, List.map_nil, bts_list]
  have h := Tryz.strings_Join g o cap [Sp.bts t0, Sp.bts t1, Sp.bts t2] ⟨#[c]⟩ w (fun j x hx => by
    match j with
    | 0 => injection hx with hx; rw [← hx]; exact h0
    | 1 => injection hx with hx; rw [← hx]; exact h1
    | 2 => injection hx with hx; rw [← hx]; exact h2
    | j + 3 => simp at hx) hg (by simp) hc (by
      rw [show (⟨#[c]⟩ : ByteArray).data.toList = [c] from rfl, hj]
      simp only [Sp.joinL, List.length_append, List.length_singleton]
      omega)
  rw [show (⟨#[c]⟩ : ByteArray).data.toList = [c] from rfl, hj] at h
  exact h
theorem print_not (s : CalS) (w : World) (h : CalGood w s) (hm : Sp.mayCal s.cal = false) : Calls Tryz.prog 11 #[calV s] w fun e w' => e = .returned (.string (Sp.bts (Sp.printC s.cal))) ∧ Below w.heap.size w w' := by
  have hp : Sp.printC s.cal = [] := by unfold Sp.printC; rw [hm]; rfl
  rw [hp]
  obtain ⟨⟨dA, dn, dc⟩, ⟨A0, n0, c0⟩, ⟨A1, n1, c1⟩, ⟨A2, n2, c2⟩, ⟨A3, n3, c3⟩, ⟨A4, n4, c4⟩, ⟨A5, n5, c5⟩, cal⟩ := s
  have hA : Below w.heap.size w (w.alloc (.cells #[.slice dA dn dc, .slice A0 n0 c0, .slice A1 n1 c1, .slice A2 n2 c2, .slice A3 n3 c3, .slice A4 n4 c4, .slice A5 n5 c5] 25)) := (Below.refl _ w).alloc (Nat.le_refl _) _
  obtain ⟨k0, k1, k2, k3, k4, k5, k6⟩ := CBox.new w ⟨⟨dA, dn, dc⟩, ⟨A0, n0, c0⟩, ⟨A1, n1, c1⟩, ⟨A2, n2, c2⟩, ⟨A3, n3, c3⟩, ⟨A4, n4, c4⟩, ⟨A5, n5, c5⟩, cal⟩
  have HMAY := Lib.hid (may_any ⟨⟨dA, dn, dc⟩, ⟨A0, n0, c0⟩, ⟨A1, n1, c1⟩, ⟨A2, n2, c2⟩, ⟨A3, n3, c3⟩, ⟨A4, n4, c4⟩, ⟨A5, n5, c5⟩, cal⟩ _ (h.on hA))
  rw [hm] at HMAY
  simp only [calV, slV] at HMAY k0 k1 k2 k3 k4 k5 k6 ⊢
  clear h hm hp
  go_enter Tryz.func11, Tryz.ntmps11
  go_wp2_with fail
  refine HMAY.out.mono ?_
  rintro e w1 ⟨rfl, hb1⟩
  have hw1 := hA.trans (hb1.mono hA.size)
  go_wp2
  go_ret
  exact ⟨rfl, hw1⟩
set_option maxRecDepth 100000 in
set_option maxHeartbeats 16000000 in
theorem print_may (s : CalS) (w : World) (h : CalGood w s) (hm : Sp.mayCal s.cal = true) (E : Env w) : Calls Tryz.prog 11 #[calV s] w fun e w' => e = .returned (.string (Sp.bts (Sp.printC s.cal))) ∧ Below w.heap.size w w' := by
  have hp : Sp.printC s.cal = Sp.calL s.cal := by unfold Sp.printC; rw [hm]; rfl
  rw [hp]
  have HML := Lib.hid (Sp.mayCal_lists hm)
  have HMD := Lib.hid (Sp.mayCal_days hm)
  have HMN := Lib.hid (Sp.mayCal_lens hm)
  obtain ⟨⟨dA, dn, dc⟩, ⟨A0, n0, c0⟩, ⟨A1, n1, c1⟩, ⟨A2, n2, c2⟩, ⟨A3, n3, c3⟩, ⟨A4, n4, c4⟩, ⟨A5, n5, c5⟩, cal⟩ := s
  have hA : Below w.heap.size w (w.alloc (.cells #[.slice dA dn dc, .slice A0 n0 c0, .slice A1 n1 c1, .slice A2 n2 c2, .slice A3 n3 c3, .slice A4 n4 c4, .slice A5 n5 c5] 25)) := (Below.refl _ w).alloc (Nat.le_refl _) _
  have hcb := CBox.new w ⟨⟨dA, dn, dc⟩, ⟨A0, n0, c0⟩, ⟨A1, n1, c1⟩, ⟨A2, n2, c2⟩, ⟨A3, n3, c3⟩, ⟨A4, n4, c4⟩, ⟨A5, n5, c5⟩, cal⟩
  obtain ⟨k0, k1, k2, k3, k4, k5, k6⟩ := hcb
  have hcb := CBox.new w ⟨⟨dA, dn, dc⟩, ⟨A0, n0, c0⟩, ⟨A1, n1, c1⟩, ⟨A2, n2, c2⟩, ⟨A3, n3, c3⟩, ⟨A4, n4, c4⟩, ⟨A5, n5, c5⟩, cal⟩
  have HMAY := Lib.hid (may_any ⟨⟨dA, dn, dc⟩, ⟨A0, n0, c0⟩, ⟨A1, n1, c1⟩, ⟨A2, n2, c2⟩, ⟨A3, n3, c3⟩, ⟨A4, n4, c4⟩, ⟨A5, n5, c5⟩, cal⟩ _ (h.on hA))
  rw [hm] at HMAY
  have HG := Lib.hid h
  have HE := Lib.hid E
  obtain ⟨i0, hi, hz0, hz1, hz2⟩ := info_parts info_str
  simp only [calV, slV] at HMAY k0 k1 k2 k3 k4 k5 k6 ⊢
  clear h hm hp E
  go_enter Tryz.func11, Tryz.ntmps11
  go_wp2_with fail
  refine HMAY.out.mono ?_
  rintro e w1 ⟨rfl, hb1⟩
  have hlt : w.heap.size < (w.alloc (.cells #[.slice dA dn dc, .slice A0 n0 c0, .slice A1 n1 c1, .slice A2 n2 c2, .slice A3 n3 c3, .slice A4 n4 c4, .slice A5 n5 c5] 25)).heap.size := by simp
  have hcb1 : CBox w1 (w.heap.size) ⟨⟨dA, dn, dc⟩, ⟨A0, n0, c0⟩, ⟨A1, n1, c1⟩, ⟨A2, n2, c2⟩, ⟨A3, n3, c3⟩, ⟨A4, n4, c4⟩, ⟨A5, n5, c5⟩, cal⟩ := hcb.on hb1 hlt
  have hw1 := hA.trans (hb1.mono hA.size)
  have hlt1 : w.heap.size < w1.heap.size := Nat.lt_of_lt_of_le hlt hb1.size
  obtain ⟨m0, m1, m2, m3, m4, m5, m6⟩ := hcb1
  have hcb1 : CBox w1 (w.heap.size) ⟨⟨dA, dn, dc⟩, ⟨A0, n0, c0⟩, ⟨A1, n1, c1⟩, ⟨A2, n2, c2⟩, ⟨A3, n3, c3⟩, ⟨A4, n4, c4⟩, ⟨A5, n5, c5⟩, cal⟩ := ⟨m0, m1, m2, m3, m4, m5, m6⟩
  simp only [slV] at m0 m1 m2 m3 m4 m5 m6
  clear hb1 hcb k0 k1 k2 k3 k4 k5 k6 hA hlt HMAY
  go_wp2_with fail
  go_loopw [16, 3] (fun iv v wr => ∃ k : Nat, k ≤ dn ∧ iv = .int .i64 k ∧ Hid (wr.ownsRow w1.heap.size 9 1 v ((cal.days.take k).map Sp.dayName).length (txtsC ((cal.days.take k).map Sp.dayName))) ∧ Hid (Below w1.heap.size w1 wr)) (fun iv _ _ => dn - (intOf iv).toNat)
  case atStart => exact ⟨0, Nat.zero_le _, rfl, Lib.hid (World.ownsRow_nil _ _ _ _), Lib.hid (Below.refl _ _)⟩
  case round =>
    obtain ⟨k, hk, rfl, HRW, HB⟩ := hrel
    by_cases hlt : k < dn
    · have hx2 : (k : Int) < (dn : Int) := by omega
      have hlen : cal.days.length = dn := by have h := HG.out.rd.1; rw [intsC_len] at h; dsimp only at h; omega
      have hd7 : dn ≤ 7 := by have := HMD.out.2; omega
      have hkl : k < cal.days.length := by omega
      obtain ⟨ad, had, hc⟩ := Rd.intAt HG.out.rd k hkl
      dsimp only at had
      subst had
      have c0 := hc wr (hw1.trans (HB.out.mono hw1.size))
      obtain ⟨j, hj, hdj, hnm⟩ := Sp.day_some (HMD.out.1 _ (List.getElem_mem hkl))
      have HAT : Hid ((cal.days.take (k + 1)).map Sp.dayName = (cal.days.take k).map Sp.dayName ++ [Sp.dayName cal.days[k]]) := Lib.hid (by rw [List.take_succ_eq_append_getElem hkl, List.map_append, List.map_singleton])
      have hll : ((cal.days.take k).map Sp.dayName).length ≤ 7 := by rw [List.length_map, List.length_take]; omega
      rw [hdj] at c0
      generalize Sp.dayName cal.days[k] = nm at *
      generalize (cal.days.take k).map Sp.dayName = ls at *
      have v1 : IntKind.i64.wrap ((k : Int) + 1) = ((k + 1 : Nat) : Int) := by rw [IntKind.wrap_i64]; omega
      have v2 : IntKind.i64.wrap ((j : Int) + 1 - 1) = (j : Int) := by rw [IntKind.wrap_i64]; omega
      have hcn := names_at wr j _ hnm
      rw [add_flat] at hcn
      have hbs := HB.out.size
      have j2 : (j : Int) < 7 := by omega
      have HRW2 := Lib.hid (ownsRow_grow HRW.out ((Below.refl wr.heap.size wr).alloc (Nat.le_refl _) (.cells #[.string ⟨#[77, 111, 110]⟩, .string ⟨#[84, 117, 101]⟩, .string ⟨#[87, 101, 100]⟩, .string ⟨#[84, 104, 117]⟩, .string ⟨#[70, 114, 105]⟩, .string ⟨#[83, 97, 116]⟩, .string ⟨#[83, 117, 110]⟩] 9)))
      have HB2 := Lib.hid (HB.out.alloc hbs (.cells #[.string ⟨#[77, 111, 110]⟩, .string ⟨#[84, 117, 101]⟩, .string ⟨#[87, 101, 100]⟩, .string ⟨#[84, 104, 117]⟩, .string ⟨#[70, 114, 105]⟩, .string ⟨#[83, 97, 116]⟩, .string ⟨#[83, 117, 110]⟩] 9))
      clear hc hdj hnm hlen hkl
      go_wp2_with fail
      refine (weekdays_any wr).mono ?_
      rintro e w2 ⟨rfl, rfl⟩
      generalize hq : Sp.bts nm = T at *
      have HQ := Lib.hid hq
      clear hq
      have hsz : (wr.alloc (.cells #[.string ⟨#[77, 111, 110]⟩, .string ⟨#[84, 117, 101]⟩, .string ⟨#[87, 101, 100]⟩, .string ⟨#[84, 104, 117]⟩, .string ⟨#[70, 114, 105]⟩, .string ⟨#[83, 97, 116]⟩, .string ⟨#[83, 117, 110]⟩] 9)).heap.size = wr.heap.size + 1 := World.size_alloc _ _
      generalize wr.alloc (.cells #[.string ⟨#[77, 111, 110]⟩, .string ⟨#[84, 117, 101]⟩, .string ⟨#[87, 101, 100]⟩, .string ⟨#[84, 104, 117]⟩, .string ⟨#[70, 114, 105]⟩, .string ⟨#[83, 97, 116]⟩, .string ⟨#[83, 117, 110]⟩] 9) = wq at *
      have hbq := HB2.out.size
      clear hsz
      go_wp2_with (at_builtin; refine wpList_append_own _ rfl _ _ 48 rfl w1.heap.size 9 i0 (.string ⟨#[]⟩) 1 16 Tryz.underlying48 hi hz0 hz1 hz2 rfl (by decide) _ _ _ rfl (World.ownsRow.alloc HRW2.out _) ⟨wq.heap.size, 0, none⟩ 1 1 [.string T] rfl rfl (cell_one_new _ _ _) (by simp [Value.oneCell']) (by simp only [maxLen]; omega) (by omega) (by simp; omega) ?_; intro v9 w9 hown9 hgrow9 _)
      go_roundw
      case rel =>
        refine ⟨k + 1, by omega, rfl, Lib.hid ?_, Lib.hid (below_row (HB2.out.alloc hbq _) (World.ownsRow.alloc HRW2.out _) hgrow9 (Nat.le_refl _) (by simp; omega))⟩
        rw [HAT.out, List.length_append, List.length_singleton, txtsC_snoc, HQ.out]
        exact hown9
      case measure => simp [intOf]; omega
    · obtain rfl : dn = k := by omega
      have hx2 : ¬ ((dn : Int) < (dn : Int)) := by omega
      have hlen : cal.days.length = dn := by have h := HG.out.rd.1; rw [intsC_len] at h; dsimp only at h; omega
      have hd7 : dn ≤ 7 := by have := HMD.out.2; omega
      have HD : Hid (wr.ownsRow w1.heap.size 9 1 u3 (cal.days.map Sp.dayName).length (txtsC (cal.days.map Sp.dayName))) := Lib.hid (by
        have h := HRW.out
        rw [List.take_of_length_le (by omega)] at h
        exact h)
      have HDL := Lib.hid hlen
      have HCR : Hid (CBox wr w.heap.size ⟨⟨dA, dn, dc⟩, ⟨A0, n0, c0⟩, ⟨A1, n1, c1⟩, ⟨A2, n2, c2⟩, ⟨A3, n3, c3⟩, ⟨A4, n4, c4⟩, ⟨A5, n5, c5⟩, cal⟩) := Lib.hid (hcb1.on HB.out hlt1)
      have HWR := Lib.hid (hw1.trans (HB.out.mono hw1.size))
      have hltr : w.heap.size < wr.heap.size := Nat.lt_of_lt_of_le hlt1 HB.out.size
      have hb1r := HB.out.size
      clear hlen HRW HB hcb1 m0 m1 m2 m3 m4 m5 m6 hw1
      go_wp2_with fail
      refine (lists_any w.heap.size wr).mono ?_
      rintro e w3 ⟨rfl, hb3⟩
      have HCELL : Hid (∀ j, j < 6 → ∀ W, Below w3.heap.size w3 W → W.cell? ⟨w.heap.size, j + 1, none⟩ = some (slV ((⟨⟨dA, dn, dc⟩, ⟨A0, n0, c0⟩, ⟨A1, n1, c1⟩, ⟨A2, n2, c2⟩, ⟨A3, n3, c3⟩, ⟨A4, n4, c4⟩, ⟨A5, n5, c5⟩, cal⟩ : CalS).sl j))) := Lib.hid (fun j hj W hW => by
        have hcb : CBox W w.heap.size ⟨⟨dA, dn, dc⟩, ⟨A0, n0, c0⟩, ⟨A1, n1, c1⟩, ⟨A2, n2, c2⟩, ⟨A3, n3, c3⟩, ⟨A4, n4, c4⟩, ⟨A5, n5, c5⟩, cal⟩ := (HCR.out.on hb3 hltr).on hW (Nat.lt_of_lt_of_le hltr hb3.size)
        have e : j = 0 ∨ j = 1 ∨ j = 2 ∨ j = 3 ∨ j = 4 ∨ j = 5 := by omega
        rcases e with rfl | rfl | rfl | rfl | rfl | rfl
        · exact hcb.c1
        · exact hcb.c2
        · exact hcb.c3
        · exact hcb.c4
        · exact hcb.c5
        · exact hcb.c6)
      have HD3 := Lib.hid (ownsRow_grow HD.out hb3)
      have HW3 := Lib.hid (HWR.out.trans (hb3.mono HWR.out.size))
      have hb13 : w1.heap.size ≤ w3.heap.size := Nat.le_trans hb1r hb3.size
      clear hb3 HD HCR HWR hltr hb1r
      go_wp2_with fail
      go_loopw [30, 4] (fun iv v wx => ∃ j : Nat, j ≤ 6 ∧ iv = .int .i64 j ∧ Hid (wx.ownsRow w3.heap.size 9 1 v (Sp.txts cal j).length (txtsC (Sp.txts cal j))) ∧ Hid (Below w3.heap.size w3 wx)) (fun iv _ _ => 6 - (intOf iv).toNat)
      case atStart => exact ⟨0, by decide, rfl, Lib.hid (World.ownsRow_nil _ _ _ _), Lib.hid (Below.refl _ _)⟩
      case round =>
        obtain ⟨j, hj, rfl, HRW, HB⟩ := hrel
        by_cases hlt2 : j < 6
        · have hx3 : (j : Int) < 6 := by omega
          have v1 : IntKind.i64.wrap ((j : Int) + 1) = ((j + 1 : Nat) : Int) := by rw [IntKind.wrap_i64]; omega
          have hix : ∀ W, (Instr.index 65 (listsV w.heap.size) (.int .i64 (j : Int))).run Tryz.prog W = .ok (.pointer (some ⟨w.heap.size, j + 1, none⟩)) W := fun W => index_lists w.heap.size W j hlt2
          have hce := HCELL.out j hlt2 _ HB.out
          obtain ⟨⟨Ak, nk, ck⟩, hak⟩ : ∃ a, a = ((⟨⟨dA, dn, dc⟩, ⟨A0, n0, c0⟩, ⟨A1, n1, c1⟩, ⟨A2, n2, c2⟩, ⟨A3, n3, c3⟩, ⟨A4, n4, c4⟩, ⟨A5, n5, c5⟩, cal⟩ : CalS).sl j) := ⟨_, rfl⟩
          rw [← hak] at hce
          have hrf : Rd w w.heap.size 3 Ak nk (partsC (cal.field j)) := by
            have h := HG.out.rf j hlt2
            rw [← hak] at h
            exact h
          have hnk : nk ≤ 4 := by
            have h := hrf.1
            rw [partsC_len] at h
            have h2 := HMN.out j hlt2
            omega
          have hww := HW3.out.trans (HB.out.mono HW3.out.size)
          have HTX := Lib.hid (text_any (cal.field j) Ak nk ck j wr ((hrf.below hww).more hww.size) hnk (HML.out j hlt2) hlt2 (HE.out.on hww))
          have HAT := Lib.hid (Sp.txts_succ cal j)
          have hll : (Sp.txts cal j).length ≤ 6 := by unfold Sp.txts; rw [List.length_map, List.length_range]; exact hj
          generalize Sp.fieldL (cal.field j) j = tx at *
          generalize Sp.txts cal j = ls at *
          have hbs := HB.out.size
          simp only [slV] at hce
          clear hak hrf hww
          go_wp2_with fail
          refine HTX.out.mono ?_
          rintro e w4 ⟨rfl, hb4⟩
          have HRW2 := Lib.hid (ownsRow_grow HRW.out hb4)
          have HB2 := Lib.hid (HB.out.trans (hb4.mono hbs))
          have hb34 := HB2.out.size
          generalize hq : Sp.bts tx = T at *
          have HQ := Lib.hid hq
          clear hq hb4
          go_wp2_with (at_builtin; refine wpList_append_own _ rfl _ _ 48 rfl w3.heap.size 9 i0 (.string ⟨#[]⟩) 1 16 Tryz.underlying48 hi hz0 hz1 hz2 rfl (by decide) _ _ _ rfl (World.ownsRow.alloc HRW2.out _) ⟨w4.heap.size, 0, none⟩ 1 1 [.string T] rfl rfl (cell_one_new _ _ _) (by simp [Value.oneCell']) (by simp only [maxLen]; omega) (by omega) (by simp; omega) ?_; intro v9 w9 hown9 hgrow9 _)
          go_roundw
          case rel =>
            refine ⟨j + 1, by omega, rfl, Lib.hid ?_, Lib.hid (below_row (HB2.out.alloc hb34 _) (World.ownsRow.alloc HRW2.out _) hgrow9 (Nat.le_refl _) (by simp; omega))⟩
            rw [HAT.out, List.length_append, List.length_singleton, txtsC_snoc, HQ.out]
            exact hown9
          case measure => simp [intOf]; omega
        · obtain rfl : j = 6 := by omega
          have hrw := HRW.out
          have hl6 : (Sp.txts cal 6).length = 6 := by unfold Sp.txts; simp
          rw [hl6] at hrw
          obtain ⟨g, cap, hv⟩ : ∃ g cap, u4 = .slice (some ⟨g, 0, none⟩) 6 cap := ownsRow_succ hrw
          subst hv
          have hcap6 : 6 ≤ cap := by
            rcases hrw.2 with ⟨h, _⟩ | ⟨g2, cap2, cur, h, _, _, hc, _⟩
            · cases h
            · injection h with _ _ h3
              subst h3
              exact hc
          obtain ⟨q, rfl⟩ : ∃ q, cap = q + 6 := ⟨cap - 6, by omega⟩
          have hrd := Rd.of_own hrw
          have hgl : g < wr.heap.size := by
            obtain ⟨a', ea, hb, _⟩ := hrd.here (by decide)
            injection ea with ea
            rw [← ea] at hb; exact hb
          have HTX6 : Hid (∀ i, i < 6 → ∀ W, Below wr.heap.size wr W → W.cell? ⟨g, i, none⟩ = some (.string (Sp.bts (Sp.fieldL (cal.field i) i)))) := Lib.hid (fun i hi6 W hW => by
            obtain ⟨a', ea, _, hc⟩ := (hrd.below hW).here (by decide)
            injection ea with ea
            subst ea
            have h := hc i (.string (Sp.bts (Sp.fieldL (cal.field i) i))) (by
              unfold txtsC Sp.txts
              rw [List.map_map, List.getElem?_map, List.getElem?_range hi6]; rfl)
            rw [add_flat] at h
            exact h)
          have HD4 := Lib.hid (ownsRow_grow HD3.out HB.out)
          have HW4 := Lib.hid (HW3.out.trans (HB.out.mono HW3.out.size))
          have HTL : Hid (∀ i, i < 6 → (Sp.fieldL (cal.field i) i).length ≤ 64) := Lib.hid (fun i hi6 => Sp.fieldL_len (HML.out i hi6) (HMN.out i hi6))
          have hx3 : ¬ ((6 : Int) < 6) := by omega
          clear hrw hrd HRW HB HD3 HW3 hl6 HCELL
          go_upto_region 14 with fail
          have HJ1 := Lib.hid (fun W (hW : Below wr.heap.size wr W) => join3_any 45 (Sp.fieldL cal.year 0) (Sp.fieldL cal.month 1) (Sp.fieldL cal.day 2) g 0 (q + 6) W (Nat.lt_of_lt_of_le hgl hW.size) (by omega) (HTX6.out 0 (by decide) W hW) (HTX6.out 1 (by decide) W hW) (HTX6.out 2 (by decide) W hW) (HTL.out 0 (by decide)) (HTL.out 1 (by decide)) (HTL.out 2 (by decide)))
          have HJ2 := Lib.hid (fun W (hW : Below wr.heap.size wr W) => join3_any 58 (Sp.fieldL cal.hour 3) (Sp.fieldL cal.min 4) (Sp.fieldL cal.sec 5) g 3 (q + 3) W (Nat.lt_of_lt_of_le hgl hW.size) (by omega) (HTX6.out 3 (by decide) W hW) (HTX6.out 4 (by decide) W hW) (HTX6.out 5 (by decide) W hW) (HTL.out 3 (by decide)) (HTL.out 4 (by decide)) (HTL.out 5 (by decide)))
          have z1 : (Sp.joinL [45] [Sp.fieldL cal.year 0, Sp.fieldL cal.month 1, Sp.fieldL cal.day 2]).length ≤ 194 := by
            have a := HTL.out 0 (by decide)
            have b := HTL.out 1 (by decide)
            have c := HTL.out 2 (by decide)
            have a' : (Sp.fieldL cal.year 0).length ≤ 64 := a
            have b' : (Sp.fieldL cal.month 1).length ≤ 64 := b
            have c' : (Sp.fieldL cal.day 2).length ≤ 64 := c
            simp only [Sp.joinL, List.length_append, List.length_singleton]
            omega
          have z2 : (Sp.joinL [58] [Sp.fieldL cal.hour 3, Sp.fieldL cal.min 4, Sp.fieldL cal.sec 5]).length ≤ 194 := by
            have a' : (Sp.fieldL cal.hour 3).length ≤ 64 := HTL.out 3 (by decide)
            have b' : (Sp.fieldL cal.min 4).length ≤ 64 := HTL.out 4 (by decide)
            have c' : (Sp.fieldL cal.sec 5).length ≤ 64 := HTL.out 5 (by decide)
            simp only [Sp.joinL, List.length_append, List.length_singleton]
            omega
          rw [← bts_size] at z1 z2
          have HCAL := Lib.hid (Sp.cal_text cal)
          have HOUT : Hid (Sp.bts (Sp.joinL [45] [Sp.fieldL cal.year 0, Sp.fieldL cal.month 1, Sp.fieldL cal.day 2]) ++ ⟨#[32]⟩ ++ Sp.bts (Sp.joinL [58] [Sp.fieldL cal.hour 3, Sp.fieldL cal.min 4, Sp.fieldL cal.sec 5]) = Sp.bts ((Sp.joinL [45] [Sp.fieldL cal.year 0, Sp.fieldL cal.month 1, Sp.fieldL cal.day 2] ++ [32]) ++ Sp.joinL [58] [Sp.fieldL cal.hour 3, Sp.fieldL cal.min 4, Sp.fieldL cal.sec 5])) := Lib.hid (by
            rw [← bts_app, ← bts_app]; rfl)
          generalize Sp.joinL [45] [Sp.fieldL cal.year 0, Sp.fieldL cal.month 1, Sp.fieldL cal.day 2] = l1 at *
          generalize Sp.joinL [58] [Sp.fieldL cal.hour 3, Sp.fieldL cal.min 4, Sp.fieldL cal.sec 5] = l2 at *
          generalize Sp.bts l1 = J1 at *
          generalize Sp.bts l2 = J2 at *
          have y1 : ¬ 9223372036854775807 < J1.size + 1 := by omega
          have y2 : ¬ 9223372036854775807 < J1.size + 1 + J2.size := by omega
          have b1 : (3 : Int) ≤ ((q + 6 : Nat) : Int) := by omega
          have b2 : (3 : Int) ≤ (q : Int) + 6 := by omega
          have hrefl : Below wr.heap.size wr wr := Below.refl _ _
          have hdrew : Below wr.heap.size wr wr.drew := hrefl.drew
          go_cut [9] (fun a wx => a = .string (J1 ++ ⟨#[32]⟩ ++ J2) ∧ Below wr.heap.size wr wx)
          case first =>
            go_region_held3 (fun W => Below wr.heap.size wr W) (first | assumption | exact since_drew (by assumption)) (first | (go_at_call_of 38 (Value.string ⟨#[45]⟩); refine Calls.mono (HJ1.out _ ?_) ?_; (focus assumption); rintro e wa ⟨rfl, hba⟩; have qa := since_more (by assumption) hba; clear hba) | (go_at_call_of 38 (Value.string ⟨#[58]⟩); refine Calls.mono (HJ2.out _ ?_) ?_; (focus assumption); rintro e wb ⟨rfl, hbb⟩; have qb := since_more (by assumption) hbb; clear hbb))
            all_goals
              go_wp2_with fail
              go_meet
              exact ⟨rfl, by assumption⟩
          case rest =>
            obtain ⟨rfl, hbx⟩ := hcut
            have hd5 := ownsRow_grow HD4.out hbx
            have HW5 := Lib.hid (HW4.out.trans (hbx.mono HW4.out.size))
            have hdl : (cal.days.map Sp.dayName).length = dn := by rw [List.length_map, HDL.out]
            have hjz := Sp.joinL_len [44] 3 (cal.days.map Sp.dayName) (fun x hx => by
              obtain ⟨d, _, rfl⟩ := List.mem_map.1 hx
              exact Sp.dayName_len d)
            rw [hdl] at hjz
            have HJ3 := Lib.hid (joinOwn_any 44 (cal.days.map Sp.dayName) w1.heap.size u3 wc hd5 (by omega) (fun x hx => by
              obtain ⟨d, _, rfl⟩ := List.mem_map.1 hx
              exact Nat.le_trans (Sp.dayName_len d) (by decide)))
            have HCE : Hid (cal.days.isEmpty = decide (dn = 0)) := Lib.hid (by
              rw [← HDL.out]
              cases cal.days <;> simp)
            rw [hdl] at hd5
            simp only [List.length_singleton] at hjz
            have hj3 : (Sp.joinL [44] (cal.days.map Sp.dayName)).length ≤ 28 := by
              have : dn * (3 + 1) ≤ 7 * 4 := Nat.mul_le_mul hd7 (Nat.le_refl _)
              omega
            have HCAL2 := Lib.hid HCAL.out
            generalize Sp.joinL [44] (cal.days.map Sp.dayName) = l3 at *
            rw [← bts_size] at hj3
            obtain ⟨A, k, c, hu3, hk⟩ : ∃ A k c, u3 = .slice A k c ∧ k = dn := by
              rcases hd5.2 with ⟨rfl, h0⟩ | ⟨g2, cap2, cur, rfl, _⟩
              · exact ⟨_, _, _, rfl, h0.symm⟩
              · exact ⟨_, _, _, rfl, rfl⟩
            subst hu3
            subst hk
            clear HD4 hd5 hdl hjz HJ1 HJ2 HTX6 HTL HW4 hbx hrefl hdrew HCAL
            by_cases hk0 : k = 0
            · subst hk0
              have HF : Hid (J1 ++ ⟨#[32]⟩ ++ J2 = Sp.bts (Sp.calL cal)) := Lib.hid (by
                rw [HOUT.out, HCAL2.out, HCE.out]; rfl)
              clear HJ3
              go_wp2
              go_ret
              exact ⟨by rw [← HF.out]; rfl, HW5.out⟩
            · have HF : Hid (Sp.bts l3 ++ ⟨#[32]⟩ ++ (J1 ++ ⟨#[32]⟩ ++ J2) = Sp.bts (Sp.calL cal)) := Lib.hid (by
                rw [HOUT.out, HCAL2.out, HCE.out, decide_eq_false hk0]
                simp only [Bool.false_eq_true, if_false]
                rw [← bts_app, ← bts_app]; rfl)
              have g1 : (0 : Int) < (k : Int) := by omega
              have g2 : 0 < k := by omega
              have g3 : decide ((0 : Int) < (k : Int)) = true := decide_eq_true g1
              have g4 : decide (0 < k) = true := decide_eq_true g2
              generalize Sp.bts l3 = J3 at *
              have hpc : (J1 ++ ⟨#[32]⟩ ++ J2).size = J1.size + 1 + J2.size := by
                rw [← bytes_size, ByteArray.data_append, ByteArray.data_append]
                simp only [Array.toList_append, List.length_append, bytes_size]
                rfl
              generalize J1 ++ ⟨#[32]⟩ ++ J2 = O1 at *
              have y3 : ¬ 9223372036854775807 < J3.size + 1 := by omega
              have y4 : ¬ 9223372036854775807 < J3.size + 1 + O1.size := by omega
              clear hpc
              go_wp2_with fail
              refine HJ3.out.mono ?_
              rintro e w9 ⟨rfl, hb9⟩
              have HW9 := Lib.hid (HW5.out.trans (hb9.mono HW5.out.size))
              clear hb9
              go_wp2
              go_ret
              exact ⟨by rw [← HF.out]; rfl, HW9.out⟩
theorem print_any (s : CalS) (w : World) (h : CalGood w s) (E : Env w) : Calls Tryz.prog 11 #[calV s] w fun e w' => e = .returned (.string (Sp.bts (Sp.printC s.cal))) ∧ Below w.heap.size w w' := by
  cases hm : Sp.mayCal s.cal with
  | false => exact print_not s w h hm
  | true => exact print_may s w h hm E

end Go.Proofs.YtpkpoglmmjaoeaaGreatDoor
