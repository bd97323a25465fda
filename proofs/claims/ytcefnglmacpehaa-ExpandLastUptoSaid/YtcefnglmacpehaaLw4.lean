/-
  The walk of the law of a variable's last value, and of words that are gone through one by one.
-/
import Derived.Test.YtcefnglmacpehaaLw3
namespace Go.Proofs.Ytcefnglmacpehaa
open Go.RowKit

theorem pair_info : (Try.prog.info? 35).map (fun i => (i.zero, i.size, i.bytes)) = some (some (.agg #[.string ⟨#[]⟩, .string ⟨#[]⟩]), 2, 32) := by kernel_rfl
theorem pairCells_one (l : List (ByteArray × ByteArray)) : ∀ u ∈ pairCells l, u.oneCell' = true := by
  intro u hu
  obtain ⟨p, _, hp⟩ := List.mem_flatMap.1 hu
  simp at hp
  rcases hp with rfl | rfl <;> rfl
theorem own_slice {w : World} {base : Nat} {e : TypeId} {size n : Nat} {v : Value} {xs : List Value} (h : w.ownsRow base e size v n xs) : ∃ A c, v = .slice A n c := by
  rcases h.2 with ⟨rfl, h0⟩ | ⟨g, cap, cur, rfl, _⟩
  · exact ⟨none, 0, by rw [h0]⟩
  · exact ⟨_, _, rfl⟩
theorem vars_two_call (w : World) (x1 x2 : ByteArray) (A3 : Option Addr) (n3 c3 : Nat) (env : List (ByteArray × ByteArray)) (t : TypeId) (h : Rd w w.heap.size 2 A3 n3 (pairCells env)) (hn : n3 ≤ 140737488355328) (h1 : x1.size ≤ 2097152) (h2 : x2.size ≤ 2097152) (hv : ∀ p ∈ env, p.2.size ≤ 2097152) :
    Calls Try.prog 12 #[.slice (some ⟨w.heap.size, 0, none⟩) 2 2, .slice A3 n3 c3] (w.alloc (.cells #[.string x1, .string x2] t)) fun e w' => ∃ (A' : Option Addr) (c' : Nat) (l : List ByteArray), e = .returned (.slice A' l.length c') ∧
      l.map (fun b => b.data.toList) = Sp.varsL [x1.data.toList, x2.data.toList] (envL env) ∧ Rd w' w'.heap.size 1 A' l.length (strCells l) ∧ Below w.heap.size w w' ∧ l.length ≤ 4194304 := by
  have h3 : Rd (w.alloc (.cells #[.string x1, .string x2] t)) (w.heap.size + 1) 1 (some ⟨w.heap.size, 0, none⟩) 2 (strCells [x1, x2]) := Rd.fresh w #[.string x1, .string x2] t 2 1 rfl
  have h4 := (h.alloc (Nat.le_refl _) (.cells #[.string x1, .string x2] t)).more (show w.heap.size ≤ w.heap.size + 1 by omega)
  have hb := (Below.refl w.heap.size w).alloc (Nat.le_refl _) (.cells #[.string x1, .string x2] t)
  have hs : w.heap.size + 1 ≤ (w.alloc (.cells #[.string x1, .string x2] t)).heap.size := by simp
  generalize w.alloc (.cells #[.string x1, .string x2] t) = w2 at *
  refine (vars_row _ A3 2 2 n3 c3 (w.heap.size + 1) [x1, x2] env w2 h3 h4 hs (by omega) hn (by intro b hb; simp at hb; rcases hb with rfl | rfl <;> assumption) hv).mono ?_
  rintro e w5 ⟨A', c', l, rfl, hl, hr, hb5, hq⟩
  exact ⟨A', c', l, rfl, hl, hr, hb.trans (hb5.mono (by omega)), by omega⟩
theorem envL_snoc (env : List (ByteArray × ByteArray)) (n v : ByteArray) : envL (env ++ [(n, v)]) = envL env ++ [(n.data.toList, v.data.toList)] := by simp [envL]
theorem pairCells_snoc (env : List (ByteArray × ByteArray)) (n v : ByteArray) : pairCells (env ++ [(n, v)]) = pairCells env ++ [.string n, .string v] := by simp [pairCells]

set_option maxHeartbeats 4000000 in
theorem expandLast_u (A : Option Addr) (n c : Nat) (l : List ByteArray) (A1 : Option Addr) (n1 c1 : Nat) (m : List ByteArray) (A2 : Option Addr) (n2 c2 : Nat) (env : List (ByteArray × ByteArray)) (nm v : ByteArray) (w : World)
    (h : Rd w w.heap.size 1 A n (strCells l)) (hn : n ≤ 1048576) (hw : ∀ b ∈ l, b.size ≤ 1048576) (h1 : Rd w w.heap.size 1 A1 n1 (strCells m)) (hn1 : n1 ≤ 1048576) (hw1 : ∀ b ∈ m, b.size ≤ 1048576)
    (h2 : Rd w w.heap.size 2 A2 n2 (pairCells env)) (hn2 : n2 ≤ 1048576) (hv : ∀ p ∈ env, p.2.size ≤ 1048576) (hnm : nm.size ≤ 1048576) (hvs : v.size ≤ 1048576) :
    Calls Try.prog 6 #[.slice A n c, .slice A1 n1 c1, .slice A2 n2 c2, .string nm, .string v] w fun e w' => e = .returned (.bool true) ∧ Below w.heap.size w w' := by
  obtain ⟨i0, hi, hz0, hz1, hz2⟩ := info_parts str_info
  obtain ⟨i1, hp, hp0, hp1, hp2⟩ := info_parts pair_info
  have hwz : ∀ b ∈ l, b.size ≤ 2097152 := fun b hb => Nat.le_trans (hw b hb) (by omega)
  have hwz1 : ∀ b ∈ m, b.size ≤ 2097152 := fun b hb => Nat.le_trans (hw1 b hb) (by omega)
  have hwzb : ∀ b ∈ l ++ m, b.size ≤ 2097152 := fun b hb => (List.mem_append.1 hb).elim (hwz b) (hwz1 b)
  have hvz : ∀ p ∈ env, p.2.size ≤ 2097152 := fun b hb => Nat.le_trans (hv b hb) (by omega)
  have hvz3 : ∀ p ∈ env ++ [(nm, v)], p.2.size ≤ 2097152 := by
    intro p hp
    rcases List.mem_append.1 hp with hp | hp
    · exact hvz p hp
    · simp at hp; subst hp; dsimp only; omega
  have hln : l.length = n := by have := h.len; simpa [strCells] using this
  have hlm : m.length = n1 := by have := h1.len; simpa [strCells] using this
  have HWZ := Lib.hid hwz
  have HWZ1 := Lib.hid hwz1
  have HWZB := Lib.hid hwzb
  have HVZ := Lib.hid hvz
  have HVZ3 := Lib.hid hvz3
  have HLN := Lib.hid hln
  have HLM := Lib.hid hlm
  clear hw hw1 hv hwz hwz1 hwzb hvz hvz3 hln hlm
  go_enter Try.func6, Try.ntmps6
  go_wp2_with fail
  refine (shown_any _).mono ?_
  rintro e w1 ⟨rfl, hb1⟩
  go_wp2_with (at_builtin; refine wpList_app _ rfl _ _ 28 rfl w.heap.size 35 i1 (.agg #[.string ⟨#[]⟩, .string ⟨#[]⟩]) 2 32 Try.underlying28 hp hp0 hp1 hp2 rfl (by decide) _ 0 [] rfl (World.ownsRow_nil _ _ _ _) w.heap.size A2 n2 c2 (pairCells env) rfl (h2.below hb1) (pairCells_one env) (by unfold maxLen; omega) (by omega) hb1.size ?_)
  intro v2 w2 hown2 hgr2 hx
  clear hx
  have hb2 : Below w.heap.size w w2 := hb1.grown hgr2 hb1.size (fun k hk => by cases hk)
  clear hgr2 hb1
  have hown2x : w2.ownsRow w.heap.size 35 2 v2 n2 (pairCells env) := by simpa using hown2
  clear hown2
  have hown2' := World.ownsRow.alloc hown2x (.cells #[.string nm, .string v] 35)
  have hf2 : Rd (w2.alloc (.cells #[.string nm, .string v] 35)) (w2.heap.size + 1) 2 (some ⟨w2.heap.size, 0, none⟩) 1 [.string nm, .string v] := Rd.fresh w2 #[.string nm, .string v] 35 1 2 rfl
  have hb2' := hb2.alloc hb2.size (.cells #[.string nm, .string v] 35)
  go_wp2_with (at_builtin; refine wpList_app _ rfl _ _ 28 rfl w.heap.size 35 i1 (.agg #[.string ⟨#[]⟩, .string ⟨#[]⟩]) 2 32 Try.underlying28 hp hp0 hp1 hp2 rfl (by decide) _ n2 (pairCells env) rfl hown2' (w2.heap.size + 1) (some ⟨w2.heap.size, 0, none⟩) 1 1 [.string nm, .string v] rfl hf2 (by intro u hu; simp at hu; rcases hu with rfl | rfl <;> rfl) (by unfold maxLen; omega) (by omega) hb2'.size ?_)
  intro v3 w3 hown3 hgr3 hx
  clear hx
  have hb3 : Below w.heap.size w w3 := hb2'.grown hgr3 hb2'.size (fun k hk => (hown2'.lt k hk).1)
  clear hgr3 hown2x hown2' hf2 hb2 hb2'
  have hown3' : w3.ownsRow w.heap.size 35 2 v3 (n2 + 1) (pairCells (env ++ [(nm, v)])) := by rw [pairCells_snoc]; simpa using hown3
  obtain ⟨A3, c3, rfl⟩ := own_slice hown3'
  have hr3 := Rd.of_own hown3'
  clear hown3 hown3'
  go_wp2_with fail
  refine (rvarName_any nm _ (by omega)).mono ?_
  rintro e w4 ⟨rfl, rfl⟩
  cases q : Sp.varL nm.data.toList with
  | false =>
    go_wp2_with (at_builtin; refine wpList_app _ rfl _ _ 27 rfl w.heap.size 9 i0 (.string ⟨#[]⟩) 1 16 Try.underlying27 hi hz0 hz1 hz2 rfl (by decide) _ 0 [] rfl (World.ownsRow_nil _ _ _ _) w.heap.size A n c (strCells l) rfl (h.below hb3) (strCells_one l) (by unfold maxLen; omega) (by omega) hb3.size ?_)
    intro v10 w10 hown10 hgr10 hx
    clear hx
    have hb10 : Below w.heap.size w w10 := hb3.grown hgr10 hb3.size (fun k hk => by cases hk)
    clear hgr10 hb3
    have hown10x : w10.ownsRow w.heap.size 9 1 v10 n (strCells l) := by simpa using hown10
    clear hown10
    go_wp2_with (at_builtin; refine wpList_app _ rfl _ _ 27 rfl w.heap.size 9 i0 (.string ⟨#[]⟩) 1 16 Try.underlying27 hi hz0 hz1 hz2 rfl (by decide) _ n (strCells l) rfl hown10x w.heap.size A1 n1 c1 (strCells m) rfl (h1.below hb10) (strCells_one m) (by unfold maxLen; omega) (by omega) hb10.size ?_)
    intro v11 w11 hown11 hgr11 hx
    clear hx
    have hb11 : Below w.heap.size w w11 := hb10.grown hgr11 hb10.size (fun k hk => (hown10x.lt k hk).1)
    clear hgr11 hown10x hb10
    have hown11' : w11.ownsRow w.heap.size 9 1 v11 (n + n1) (strCells (l ++ m)) := by simpa [strCells] using hown11
    obtain ⟨A11, c11, rfl⟩ := own_slice hown11'
    have hr11 := Rd.of_own hown11'
    clear hown11 hown11'
    go_wp2_with fail
    refine (vars_row A11 A2 (n + n1) c11 n2 c2 w11.heap.size (l ++ m) env w11 hr11 ((h2.below hb11).more hb11.size) (Nat.le_refl _) (by omega) (by omega) HWZB.out HVZ.out).mono ?_
    rintro e w12 ⟨A12, c12, l12, rfl, hl12, hr12, hb12, hq12⟩
    have hbb12 := hb11.trans (hb12.mono hb11.size)
    have hsw12 : w.heap.size ≤ w12.heap.size := hbb12.size
    clear hb12 hr11 hb11
    go_wp2_with fail
    refine (vars_own A A2 n c n2 c2 w.heap.size l env w12 (h.below hbb12) (h2.below hbb12) hbb12.size (by omega) (by omega) HWZ.out HVZ.out).mono ?_
    rintro e w13 ⟨A13, c13, l13, rfl, hl13, hown13, hb13, hq13⟩
    have hr12b := (hr12.below hb13)
    have hbb13 := hbb12.trans (hb13.mono hbb12.size)
    have hs13 := hb13.size
    clear hr12 hb13
    go_wp2_with fail
    refine (vars_row A1 A2 n1 c1 n2 c2 w.heap.size m env w13 (h1.below hbb13) (h2.below hbb13) hbb13.size (by omega) (by omega) HWZ1.out HVZ.out).mono ?_
    rintro e w14 ⟨A14, c14, l14, rfl, hl14, hr14, hb14, hq14⟩
    have hown14 := own_below hown13 hb14
    have hr12c := hr12b.below (hb14.mono hs13)
    have hbb14 := hbb13.trans (hb14.mono hbb13.size)
    have hs14 := hb14.size
    have hlen : l13.length + l14.length ≤ 4398046511104 := by omega
    have hlen12 : l12.length ≤ 4398046511104 := by omega
    have HL12 := Lib.hid hl12
    have HL13 := Lib.hid hl13
    have HL14 := Lib.hid hl14
    clear hb14 hown13 hr12b hbb12 hbb13 hq12 hq13 hq14 hl12 hl13 hl14
    go_wp2_with (at_builtin; refine wpList_app _ rfl _ _ 27 rfl w12.heap.size 9 i0 (.string ⟨#[]⟩) 1 16 Try.underlying27 hi hz0 hz1 hz2 rfl (by decide) _ l13.length (strCells l13) rfl hown14 w14.heap.size A14 l14.length c14 (strCells l14) rfl hr14 (strCells_one l14) (by unfold maxLen; omega) (by omega) (by omega) ?_)
    intro v15 w15 hown15 hgr15 hx
    clear hx
    have hb15 : Below w.heap.size w w15 := hbb14.grown hgr15 hbb14.size (fun k hk => Nat.le_trans hsw12 (hown14.lt k hk).1)
    have hr12d := hr12c.grown hgr15 (by omega) (fun k hk => (hown14.lt k hk).1)
    obtain ⟨l15, HL15⟩ : ∃ l15, Hid (l15 = l13 ++ l14) := ⟨_, Lib.hid rfl⟩
    have hown15' : w15.ownsRow w12.heap.size 9 1 v15 l15.length (strCells l15) := by rw [HL15.out, List.length_append]; simpa [strCells] using hown15
    have hs15 : w12.heap.size ≤ w15.heap.size := by have := hgr15.size; omega
    obtain ⟨A15, c15, rfl⟩ := own_slice hown15'
    have hr15 := Rd.of_own hown15'
    clear hown15 hown15' hgr15 hown14 hr14 hr12c
    have hlen15 : l15.length ≤ 4398046511104 := by rw [HL15.out]; simpa using hlen
    have HS : Hid (sameB l12 l15 = true) := Lib.hid (by unfold sameB; rw [HL12.out, HL15.out]; simp only [List.map_append, HL13.out, HL14.out]; simp [Sp.vars_app])
    go_wp2_with fail
    refine (rsame_any A12 A15 l12.length l15.length c12 c15 w15.heap.size l12 l15 w15 (hr12d.more hs15) hr15 (by omega) (by omega)).mono ?_
    rintro e w16 ⟨rfl, k, rfl⟩
    rw [HS.out]
    go_wp2
    go_ret
    exact ⟨rfl, belowQ hb15 _⟩
  | true =>
    have HQ := Lib.hid q
    clear q
    have hn3 : nm.size ≤ 1048576 := hnm
    have hx1 : ((⟨#[36, 123]⟩ : ByteArray) ++ nm ++ ⟨#[125]⟩).size ≤ 2097152 := by simp [ByteArray.size_append]; have : (⟨#[36, 123]⟩ : ByteArray).size = 2 := rfl; have : (⟨#[125]⟩ : ByteArray).size = 1 := rfl; omega
    have hx2 : ((⟨#[36]⟩ : ByteArray) ++ nm).size ≤ 2097152 := by simp [ByteArray.size_append]; have : (⟨#[36]⟩ : ByteArray).size = 1 := rfl; omega
    go_wp2_with fail
    refine (vars_two_call w3 ((⟨#[36, 123]⟩ : ByteArray) ++ nm ++ ⟨#[125]⟩) ((⟨#[36]⟩ : ByteArray) ++ nm) A3 (n2 + 1) c3 (env ++ [(nm, v)]) _ hr3 (by omega) hx1 hx2 HVZ3.out).mono ?_
    rintro e w5 ⟨A5, c5, l5, rfl, hl5, hr5, hb5, hq5⟩
    have HL5 : Hid (l5.map (fun b => b.data.toList) = v.data.toList :: Sp.partsOf v.data.toList) := Lib.hid (by rw [hl5, envL_snoc]; have hvt := Sp.vars_two (envL env) _ v.data.toList HQ.out; simpa using hvt)
    have hbb5 := hb3.trans (hb5.mono hb3.size)
    clear hl5 hb5 hb3 hx1 hx2
    have hown6 : (w5.alloc (.cells #[.string v] 9)).ownsRow w.heap.size 9 1 (.slice (some ⟨w5.heap.size, 0, none⟩) 1 1) 1 [.string v] := World.ownsRow_lit w5 #[.string v] 1 hbb5.size (by decide) rfl
    have hr6 := hr5.alloc (Nat.le_refl _) (.cells #[.string v] 9)
    have hb6 := hbb5.alloc hbb5.size (.cells #[.string v] 9)
    go_wp2_with fail
    refine (rblanks_row v (w5.alloc (.cells #[.string v] 9)) (by omega)).mono ?_
    rintro e w7 ⟨A7, c7, l7, rfl, hl7, hr7, hb7⟩
    have hlen7 : l7.length ≤ 1048576 := by have := congrArg List.length hl7; have h8 := Sp.partsOf_len v.data.toList; simp at this h8; omega
    have HL7 := Lib.hid hl7
    have hown7 := own_below hown6 hb7
    have hr7b := hr6.below (hb7.mono (by simp))
    have hbb7 := hb6.trans (hb7.mono hb6.size)
    have hs7 : w5.heap.size + 1 ≤ w7.heap.size := by have := hb7.size; simpa using this
    clear hb7 hb6 hr6 hown6 hl7 hbb5 hr5
    go_wp2_with (at_builtin; refine wpList_app _ rfl _ _ 27 rfl w.heap.size 9 i0 (.string ⟨#[]⟩) 1 16 Try.underlying27 hi hz0 hz1 hz2 rfl (by decide) _ 1 [.string v] rfl hown7 w7.heap.size A7 l7.length c7 (strCells l7) rfl hr7 (strCells_one l7) (by unfold maxLen; omega) (by omega) hbb7.size ?_)
    intro v8 w8 hown8 hgr8 hx
    clear hx
    have hb8 : Below w.heap.size w w8 := hbb7.grown hgr8 hbb7.size (fun k hk => (hown7.lt k hk).1)
    have hr8 := hr7b.grown hgr8 (by omega) (fun k hk => by simp [Value.ownBlock] at hk; omega)
    have hs8 : w5.heap.size ≤ w8.heap.size := by have := hgr8.size; omega
    obtain ⟨l8, HL8⟩ : ∃ l8, Hid (l8 = v :: l7) := ⟨_, Lib.hid rfl⟩
    have hown8' : w8.ownsRow w.heap.size 9 1 v8 l8.length (strCells l8) := by rw [HL8.out, List.length_cons, Nat.add_comm]; simpa [strCells] using hown8
    obtain ⟨A8, c8, rfl⟩ := own_slice hown8'
    have hr8b := Rd.of_own hown8'
    clear hown8 hown8' hgr8 hown7 hr7 hr7b
    have HS8 : Hid (sameB l5 l8 = true) := Lib.hid (by unfold sameB; rw [HL5.out, HL8.out]; simp only [List.map_cons, HL7.out]; simp)
    have hlen8 : l8.length ≤ 1048577 := by rw [HL8.out]; simp; omega
    go_wp2_with fail
    refine (rsame_any A5 A8 l5.length l8.length c5 c8 w8.heap.size l5 l8 w8 (hr8.more hs8) hr8b (by omega) (by omega)).mono ?_
    rintro e w9 ⟨rfl, k, rfl⟩
    rw [HS8.out]
    have hb9 := belowQ hb8 k
    clear hr8 hr8b hb8
    go_wp2_with (at_builtin; refine wpList_app _ rfl _ _ 27 rfl w.heap.size 9 i0 (.string ⟨#[]⟩) 1 16 Try.underlying27 hi hz0 hz1 hz2 rfl (by decide) _ 0 [] rfl (World.ownsRow_nil _ _ _ _) w.heap.size A n c (strCells l) rfl (h.below hb9) (strCells_one l) (by unfold maxLen; omega) (by omega) hb9.size ?_)
    intro v10 w10 hown10 hgr10 hx
    clear hx
    have hb10 : Below w.heap.size w w10 := hb9.grown hgr10 hb9.size (fun k hk => by cases hk)
    clear hgr10 hb9
    have hown10x : w10.ownsRow w.heap.size 9 1 v10 n (strCells l) := by simpa using hown10
    clear hown10
    go_wp2_with (at_builtin; refine wpList_app _ rfl _ _ 27 rfl w.heap.size 9 i0 (.string ⟨#[]⟩) 1 16 Try.underlying27 hi hz0 hz1 hz2 rfl (by decide) _ n (strCells l) rfl hown10x w.heap.size A1 n1 c1 (strCells m) rfl (h1.below hb10) (strCells_one m) (by unfold maxLen; omega) (by omega) hb10.size ?_)
    intro v11 w11 hown11 hgr11 hx
    clear hx
    have hb11 : Below w.heap.size w w11 := hb10.grown hgr11 hb10.size (fun k hk => (hown10x.lt k hk).1)
    clear hgr11 hown10x hb10
    have hown11' : w11.ownsRow w.heap.size 9 1 v11 (n + n1) (strCells (l ++ m)) := by simpa [strCells] using hown11
    obtain ⟨A11, c11, rfl⟩ := own_slice hown11'
    have hr11 := Rd.of_own hown11'
    clear hown11 hown11'
    go_wp2_with fail
    refine (vars_row A11 A2 (n + n1) c11 n2 c2 w11.heap.size (l ++ m) env w11 hr11 ((h2.below hb11).more hb11.size) (Nat.le_refl _) (by omega) (by omega) HWZB.out HVZ.out).mono ?_
    rintro e w12 ⟨A12, c12, l12, rfl, hl12, hr12, hb12, hq12⟩
    have hbb12 := hb11.trans (hb12.mono hb11.size)
    have hsw12 : w.heap.size ≤ w12.heap.size := hbb12.size
    clear hb12 hr11 hb11
    go_wp2_with fail
    refine (vars_own A A2 n c n2 c2 w.heap.size l env w12 (h.below hbb12) (h2.below hbb12) hbb12.size (by omega) (by omega) HWZ.out HVZ.out).mono ?_
    rintro e w13 ⟨A13, c13, l13, rfl, hl13, hown13, hb13, hq13⟩
    have hr12b := (hr12.below hb13)
    have hbb13 := hbb12.trans (hb13.mono hbb12.size)
    have hs13 := hb13.size
    clear hr12 hb13
    go_wp2_with fail
    refine (vars_row A1 A2 n1 c1 n2 c2 w.heap.size m env w13 (h1.below hbb13) (h2.below hbb13) hbb13.size (by omega) (by omega) HWZ1.out HVZ.out).mono ?_
    rintro e w14 ⟨A14, c14, l14, rfl, hl14, hr14, hb14, hq14⟩
    have hown14 := own_below hown13 hb14
    have hr12c := hr12b.below (hb14.mono hs13)
    have hbb14 := hbb13.trans (hb14.mono hbb13.size)
    have hs14 := hb14.size
    have hlen : l13.length + l14.length ≤ 4398046511104 := by omega
    have hlen12 : l12.length ≤ 4398046511104 := by omega
    have HL12 := Lib.hid hl12
    have HL13 := Lib.hid hl13
    have HL14 := Lib.hid hl14
    clear hb14 hown13 hr12b hbb12 hbb13 hq12 hq13 hq14 hl12 hl13 hl14
    go_wp2_with (at_builtin; refine wpList_app _ rfl _ _ 27 rfl w12.heap.size 9 i0 (.string ⟨#[]⟩) 1 16 Try.underlying27 hi hz0 hz1 hz2 rfl (by decide) _ l13.length (strCells l13) rfl hown14 w14.heap.size A14 l14.length c14 (strCells l14) rfl hr14 (strCells_one l14) (by unfold maxLen; omega) (by omega) (by omega) ?_)
    intro v15 w15 hown15 hgr15 hx
    clear hx
    have hb15 : Below w.heap.size w w15 := hbb14.grown hgr15 hbb14.size (fun k hk => Nat.le_trans hsw12 (hown14.lt k hk).1)
    have hr12d := hr12c.grown hgr15 (by omega) (fun k hk => (hown14.lt k hk).1)
    obtain ⟨l15, HL15⟩ : ∃ l15, Hid (l15 = l13 ++ l14) := ⟨_, Lib.hid rfl⟩
    have hown15' : w15.ownsRow w12.heap.size 9 1 v15 l15.length (strCells l15) := by rw [HL15.out, List.length_append]; simpa [strCells] using hown15
    have hs15 : w12.heap.size ≤ w15.heap.size := by have := hgr15.size; omega
    obtain ⟨A15, c15, rfl⟩ := own_slice hown15'
    have hr15 := Rd.of_own hown15'
    clear hown15 hown15' hgr15 hown14 hr14 hr12c
    have hlen15 : l15.length ≤ 4398046511104 := by rw [HL15.out]; simpa using hlen
    have HS : Hid (sameB l12 l15 = true) := Lib.hid (by unfold sameB; rw [HL12.out, HL15.out]; simp only [List.map_append, HL13.out, HL14.out]; simp [Sp.vars_app])
    go_wp2_with fail
    refine (rsame_any A12 A15 l12.length l15.length c12 c15 w15.heap.size l12 l15 w15 (hr12d.more hs15) hr15 (by omega) (by omega)).mono ?_
    rintro e w16 ⟨rfl, k, rfl⟩
    rw [HS.out]
    go_wp2
    go_ret
    exact ⟨rfl, belowQ hb15 _⟩

end Go.Proofs.Ytcefnglmacpehaa
