/-
  A number, a field's parts as text: the program's walks.
-/
import Derived.Test.YtpkpoglmmjaoeaaGreatDoorDk
import Derived.Lib.Repeat
namespace Go.Proofs.YtpkpoglmmjaoeaaGreatDoor
open Go.RowKit Go.Shelf

theorem below_grow (w : World) (k : Nat) (os : Array Obj) : Below w.heap.size w (Sort.grow (w.drewN k) os) :=
  ⟨rfl, rfl, rfl, by simp [Sort.grow], fun j hj => by simp only [Sort.grow]; exact Array.getElem?_append_left hj⟩
theorem bts_app (a b : List UInt8) : Sp.bts a ++ Sp.bts b = Sp.bts (a ++ b) := WideShapes.bytes_inj (by rw [ByteArray.data_append, bts_list]; simp [Sp.bts])
theorem itoa_any (n : Int) (w : World) (h0 : 0 ≤ n) (h1 : n ≤ 9999) (E : Env w) :
    Calls Tryz.prog 64 #[.int .i64 n] w fun e w' => e = .returned (.string (Sp.bts (Sp.decN n))) ∧ Below w.heap.size w w' := by
  refine (Tryz.strconv_Itoa n (by omega) (by omega) w E.here.tab).mono ?_
  rintro e w' ⟨rfl, k, os, rfl⟩
  refine ⟨?_, below_grow w k os⟩
  have e : Lib.itoa n = Sp.decN n := by unfold Lib.itoa; rw [if_neg (by omega)]; rfl
  rw [e]; rfl
theorem dec_len (n : Int) (h0 : 0 ≤ n) (h1 : n ≤ 9999) : 1 ≤ (Sp.decN n).length ∧ (Sp.decN n).length ≤ 4 := by
  exact ⟨(Sp.decDig n.toNat).2.2, Sp.decLong 3 n.toNat (by omega)⟩
theorem rep_eq (c : Nat) : Lib.repeatL [48] c = List.replicate c 48 := by
  induction c with
  | zero => rfl
  | succ c ih => rw [Lib.repeatL, ih, List.replicate_succ]; rfl
set_option maxRecDepth 100000 in
theorem padded_any (n : Int) (f : Nat) (w : World) (h0 : 0 ≤ n) (h1 : n ≤ 9999) (hf : f < 6) (E : Env w) :
    Calls Tryz.prog 63 #[.int .i64 n, .int .i64 f] w fun e w' => e = .returned (.string (Sp.bts (Sp.padL n f))) ∧ Below w.heap.size w w' := by
  have HI := Lib.hid (itoa_any n w h0 h1 E)
  obtain ⟨hl1, hl4⟩ := dec_len n h0 h1
  have hz : (Sp.bts (Sp.decN n)).size = (Sp.decN n).length := bts_size _
  by_cases hf0 : f = 0
  · subst hf0
    have HP : Hid (Sp.bts (Sp.padL n 0) = Sp.bts (Sp.decN n)) := Lib.hid rfl
    generalize Sp.bts (Sp.padL n 0) = R at *
    generalize Sp.bts (Sp.decN n) = T at *
    clear hz hl1 hl4
    go_enter Tryz.func63, Tryz.ntmps63
    go_wp2_with fail
    refine HI.out.mono ?_
    rintro e w' ⟨rfl, hb⟩
    go_wp2
    go_ret
    exact ⟨by rw [HP.out]; rfl, hb⟩
  · have hfi : ((f : Int) == 0) = false := by simp; omega
    have hP : Sp.padL n f = List.replicate (2 - (Sp.decN n).length) 48 ++ Sp.decN n := if_neg hf0
    obtain ⟨c, hc⟩ : ∃ c : Nat, c = 2 - (Sp.decN n).length := ⟨_, rfl⟩
    rw [← hc] at hP
    have HP : Hid (Sp.bts (Sp.padL n f) = Sp.bts (List.replicate c 48) ++ Sp.bts (Sp.decN n)) := Lib.hid (by rw [hP, bts_app])
    have HR : Hid (∀ w, Calls Tryz.prog 79 #[.string ⟨#[48]⟩, .int .i64 c] w fun e w' => e = .returned (.string (Sp.bts (List.replicate c 48))) ∧ Below w.heap.size w w') := Lib.hid (fun w => by
      have h := Tryz.strings_Repeat ⟨#[48]⟩ c w (by omega) (by show 1 * c ≤ _; omega)
      rw [show (⟨#[48]⟩ : ByteArray).data.toList = [48] from rfl, rep_eq] at h
      exact h)
    have hrz : (Sp.bts (List.replicate c 48)).size = c := by rw [bts_size, List.length_replicate]
    rw [← hz] at hl1 hl4 hc
    generalize Sp.bts (Sp.padL n f) = R at *
    generalize Sp.bts (List.replicate c 48) = Q at *
    generalize Sp.bts (Sp.decN n) = T at *
    have v1 : IntKind.i64.wrap (2 - (T.size : Int)) = 2 - (T.size : Int) := by rw [IntKind.wrap_i64]; omega
    have v2 : max (2 - (T.size : Int)) 0 = (c : Int) := by omega
    have hcat : ¬ 9223372036854775807 < Q.size + T.size := by omega
    clear hz hP hc
    go_enter Tryz.func63, Tryz.ntmps63
    go_wp2_with fail
    refine HI.out.mono ?_
    rintro e w1 ⟨rfl, hb1⟩
    go_wp2_with fail
    refine (HR.out w1).mono ?_
    rintro e w2 ⟨rfl, hb2⟩
    have HB := Lib.hid (hb1.trans (hb2.mono hb1.size))
    clear hb1 hb2
    go_wp2
    go_ret
    exact ⟨by rw [HP.out]; rfl, HB.out⟩
namespace Sp
theorem join_eq (c : List UInt8) : ∀ xs : List (List UInt8), Lib.join xs c = joinL c xs
  | [] => rfl
  | [x] => by simp [Lib.join, joinL, List.intercalate]
  | x :: y :: r => by
    have ih := join_eq c (y :: r)
    unfold Lib.join at ih ⊢
    rw [joinL, ← ih]
    simp [List.intercalate, List.intersperse]
theorem joinL_len (c : List UInt8) (M : Nat) : ∀ xs : List (List UInt8), (∀ x ∈ xs, x.length ≤ M) → (joinL c xs).length ≤ xs.length * (M + c.length)
  | [], _ => by simp [joinL]
  | [x], h => by
    have := h x (by simp)
    simp only [joinL, List.length_singleton]; omega
  | x :: y :: r, h => by
    have ih := joinL_len c M (y :: r) (fun z hz => h z (by simp [hz]))
    have h1 := h x (by simp)
    rw [joinL, List.length_append, List.length_append, List.length_cons, Nat.add_mul]
    omega
theorem pad_len (n : Int) (f : Nat) (h0 : 0 ≤ n) (h1 : n ≤ 9999) : (padL n f).length ≤ 4 := by
  obtain ⟨g1, g2⟩ := dec_len n h0 h1
  unfold padL
  split
  · exact g2
  · rw [List.length_append, List.length_replicate]; omega
theorem part_small {q : PartD} {f : Nat} (h : mayPartB q f = true) : q.fr ≤ 9999 ∧ q.to ≤ 9999 ∧ q.st ≤ 9999 := by
  have hr := (field_range f).2
  unfold mayPartB at h
  split at h
  · cases h
  · split at h
    · have := of_decide_eq_true h
      omega
    · split at h
      · cases h
      · simp only [Bool.and_eq_true, Bool.or_eq_true, decide_eq_true_eq] at h
        omega
theorem partL_len {q : PartD} {f : Nat} (h : mayPartB q f = true) : (partL q f).length ≤ 15 := Nat.le_trans (part_len q f h) (by split <;> decide)
end Sp
theorem info_str : (Tryz.prog.info? 9).map (fun i => (i.zero, i.size, i.bytes)) = some (some (.string ⟨#[]⟩), 1, 16) := by kernel_rfl
def txtsC (ls : List (List UInt8)) : List Value := ls.map fun l => .string (Sp.bts l)
theorem txtsC_snoc (ls : List (List UInt8)) (l : List UInt8) : txtsC (ls ++ [l]) = txtsC ls ++ [.string (Sp.bts l)] := by simp [txtsC]
/-- strings.Join over a row of one's own -/
theorem joinOwn_any (c : UInt8) (ls : List (List UInt8)) (B : Nat) (v : Value) (w : World) (hr : w.ownsRow B 9 1 v ls.length (txtsC ls)) (hn : ls.length ≤ 100) (hM : ∀ l ∈ ls, l.length ≤ 1000) :
    Calls Tryz.prog 38 #[v, .string ⟨#[c]⟩] w fun e w' => e = .returned (.string (Sp.bts (Sp.joinL [c] ls))) ∧ Below w.heap.size w w' := by
  rcases hr.2 with ⟨rfl, h0⟩ | ⟨g, cap, cur, rfl, hgB, hgb, hcap⟩
  · have hl : ls = [] := List.eq_nil_of_length_eq_zero h0
    subst hl
    refine (Tryz.strings_Join_none none 0 ⟨#[c]⟩ w).mono ?_
    rintro e w' ⟨rfl, rfl⟩
    exact ⟨rfl, Below.refl _ _⟩
  · have hrd := Rd.of_own hr
    have hlen : (ls.map Sp.bts).length = ls.length := List.length_map _
    have hmap : (ls.map Sp.bts).map (·.data.toList) = ls := by
      rw [List.map_map]
      conv => rhs; rw [← List.map_id ls]
      exact List.map_congr_left (fun l _ => bts_list l)
    have hjl := Sp.joinL_len [c] 1000 ls hM
    have hj : (Lib.join ((ls.map Sp.bts).map (·.data.toList)) [c]) = Sp.joinL [c] ls := by rw [hmap, Sp.join_eq]
    have h := Tryz.strings_Join g 0 cap (ls.map Sp.bts) ⟨#[c]⟩ w ?_ ?_ (by rw [hlen]; omega) ?_ ?_
    · rw [hlen, show (⟨#[c]⟩ : ByteArray).data.toList = [c] from rfl, hj] at h
      exact h
    · intro j x hx
      have hj2 : j < ls.length := by rw [← hlen]; exact (List.getElem?_eq_some_iff.1 hx).1
      obtain ⟨ad, ea, _, hc⟩ := hrd.here (by omega)
      injection ea with ea
      subst ea
      have h2 := hc j (.string x) (by rw [List.getElem?_map] at hx; simp only [txtsC, List.getElem?_map]; cases hq : ls[j]? with
        | none => rw [hq] at hx; cases hx
        | some l => rw [hq] at hx; injection hx with hx; rw [← hx]; rfl)
      rw [Nat.zero_add]
      by_cases hj0 : j = 0
      · subst hj0; simpa [Addr.add] using h2
      · simpa [Addr.add, hj0] using h2
    · exact (Array.getElem?_eq_some_iff.1 hgb).1
    · rw [hlen]; exact hcap.1
    · rw [show (⟨#[c]⟩ : ByteArray).data.toList = [c] from rfl, hj]
      simp only [List.length_singleton] at hjl
      have : ls.length * (1000 + 1) ≤ 100 * 1001 := Nat.mul_le_mul hn (Nat.le_refl _)
      omega

theorem parts_at (ps : List Sp.PartD) (f k : Nat) (h : k < ps.length) : (ps.take (k + 1)).map (fun q => Sp.partL q f) = (ps.take k).map (fun q => Sp.partL q f) ++ [Sp.partL ps[k] f] := by
  rw [List.take_succ_eq_append_getElem h, List.map_append, List.map_singleton]
theorem pv_text (q : Sp.PartD) (f : Nat) (a b c : List UInt8) (ha : a = if 0 ≤ q.fr then Sp.padL q.fr f else [42]) (hb : b = if 0 ≤ q.to then 46 :: 46 :: Sp.padL q.to f else []) (hc : c = if 0 < q.st then 47 :: Sp.decN q.st else []) : Sp.partL q f = a ++ (b ++ c) := by
  unfold Sp.partL; rw [ha, hb, hc]
set_option maxRecDepth 100000 in
set_option maxHeartbeats 16000000 in
theorem text_any (ps : List Sp.PartD) (A : Option Addr) (n c f : Nat) (w : World) (h : Rd w w.heap.size 3 A n (partsC ps)) (hn : n ≤ 4) (hm : ∀ q ∈ ps, Sp.mayPartB q f = true) (hf : f < 6) (E : Env w) :
    Calls Tryz.prog 37 #[.slice A n c, .int .i64 f] w fun e w' => e = .returned (.string (Sp.bts (Sp.fieldL ps f))) ∧ Below w.heap.size w w' := by
  have hlen : ps.length = n := by have := h.1; rw [partsC_len] at this; omega
  have HL := Lib.hid hlen
  have HROW := Lib.hid (fun k hk => Rd.partAt h k hk)
  have HM := Lib.hid hm
  have HE := Lib.hid E
  have HPL : Hid (∀ (z : Int) (wx : World), 0 ≤ z → z ≤ 9999 → Below w.heap.size w wx → Calls Tryz.prog 63 #[.int .i64 z, .int .i64 f] wx fun e w' => e = .returned (.string (Sp.bts (Sp.padL z f))) ∧ Below wx.heap.size wx w') := Lib.hid (fun z wx h0 h1 hb => padded_any z f wx h0 h1 hf (E.on hb))
  have HIT : Hid (∀ (z : Int) (wx : World), 0 ≤ z → z ≤ 9999 → Below w.heap.size w wx → Calls Tryz.prog 64 #[.int .i64 z] wx fun e w' => e = .returned (.string (Sp.bts (Sp.decN z))) ∧ Below wx.heap.size wx w') := Lib.hid (fun z wx h0 h1 hb => itoa_any z wx h0 h1 (E.on hb))
  obtain ⟨i0, hi, hz0, hz1, hz2⟩ := info_parts info_str
  clear hlen h hm E hf
  go_enter Tryz.func37, Tryz.ntmps37
  go_wp2_with fail
  go_loopw [11, 5] (fun iv v wr => ∃ k : Nat, k ≤ n ∧ iv = .int .i64 k ∧ Hid (wr.ownsRow w.heap.size 9 1 v ((ps.take k).map (fun q => Sp.partL q f)).length (txtsC ((ps.take k).map (fun q => Sp.partL q f)))) ∧ Hid (Below w.heap.size w wr)) (fun iv _ _ => n - (intOf iv).toNat)
  case atStart => exact ⟨0, Nat.zero_le _, rfl, Lib.hid (World.ownsRow_nil _ _ _ _), Lib.hid (Below.refl _ _)⟩
  case round =>
    obtain ⟨k, hk, rfl, HRW, HB⟩ := hrel
    by_cases hlt : k < n
    · have hkl : k < ps.length := by rw [HL.out]; exact hlt
      obtain ⟨ad, rfl, hc⟩ := HROW.out k hkl
      obtain ⟨c0, c1, c2⟩ := hc wr HB.out
      have HAT := Lib.hid (parts_at ps f k hkl)
      have hmq := HM.out ps[k] (List.getElem_mem hkl)
      have hsm := Sp.part_small hmq
      have hll : ((ps.take k).map (fun q => Sp.partL q f)).length ≤ 4 := by rw [List.length_map, List.length_take]; omega
      clear hc
      generalize hy : ps[k] = y at *
      clear hy
      generalize hls : (ps.take k).map (fun q => Sp.partL q f) = ls at *
      clear hls
      obtain ⟨fr, tt, st⟩ := y
      dsimp only at c0 c1 c2 hsm
      have x2 : (k : Int) < (n : Int) := by omega
      have v1 : IntKind.i64.wrap ((k : Int) + 1) = ((k + 1 : Nat) : Int) := by rw [IntKind.wrap_i64]; omega
      have q1 := PB.new wr fr tt st
      have hbw := HB.out.alloc HB.out.size (.cells #[.int .i64 fr, .int .i64 tt, .int .i64 st] 62)
      have HRW2 := Lib.hid (ownsRow_grow HRW.out ((Below.refl wr.heap.size wr).alloc (Nat.le_refl _) (.cells #[.int .i64 fr, .int .i64 tt, .int .i64 st] 62)))
      have hwz : (wr.alloc (.cells #[.int .i64 fr, .int .i64 tt, .int .i64 st] 62)).heap.size = wr.heap.size + 1 := World.size_alloc _ _
      by_cases h0 : 0 ≤ fr
      · have n0 : 0 ≤ fr := h0
        by_cases h1 : 0 ≤ tt
        · have n1 : 0 ≤ tt := h1
          by_cases h2 : 0 < st
          · have n2 : 0 < st := h2
            have ha : (if 0 ≤ fr then Sp.padL fr f else [42]) = Sp.padL fr f := if_pos n0
            have hb : (if 0 ≤ tt then 46 :: 46 :: Sp.padL tt f else []) = 46 :: 46 :: Sp.padL tt f := if_pos n1
            have hc : (if 0 < st then 47 :: Sp.decN st else []) = 47 :: Sp.decN st := if_pos n2
            have HT : Hid (Sp.partL ⟨fr, tt, st⟩ f = Sp.padL fr f ++ (46 :: 46 :: Sp.padL tt f ++ 47 :: Sp.decN st)) := Lib.hid (pv_text ⟨fr, tt, st⟩ f _ _ _ ha.symm hb.symm hc.symm)
            clear ha hb hc
            have z1 : (Sp.bts (Sp.padL fr f)).size ≤ 4 := by rw [bts_size]; exact Sp.pad_len _ _ n0 hsm.1
            have HX1 := Lib.hid (HPL.out fr (wr.alloc (.cells #[.int .i64 fr, .int .i64 tt, .int .i64 st] 62)) n0 hsm.1 hbw)
            have z2 : (Sp.bts (Sp.padL tt f)).size ≤ 4 := by rw [bts_size]; exact Sp.pad_len _ _ n1 hsm.2.1
            have HX2 := Lib.hid (fun wx hb => HPL.out tt wx n1 hsm.2.1 hb)
            have z3 : (Sp.bts (Sp.decN st)).size ≤ 4 := by rw [bts_size]; exact (dec_len st (by omega) hsm.2.2).2
            have HX3 := Lib.hid (fun wx hb => HIT.out st wx (by omega) hsm.2.2 hb)
            obtain ⟨P1, hP1⟩ : ∃ P, P = Sp.bts (Sp.padL fr f) := ⟨_, rfl⟩
            obtain ⟨P2, hP2⟩ : ∃ P, P = Sp.bts (Sp.padL tt f) := ⟨_, rfl⟩
            obtain ⟨P3, hP3⟩ : ∃ P, P = Sp.bts (Sp.decN st) := ⟨_, rfl⟩
            have HEQ : Hid ((((P1 ++ (⟨#[46, 46]⟩ ++ P2)) ++ (⟨#[47]⟩ ++ P3)) : ByteArray) = Sp.bts (Sp.partL ⟨fr, tt, st⟩ f)) := Lib.hid (by
              rw [HT.out]
              refine WideShapes.bytes_inj ?_
              rw [bts_list]
              rw [hP1, hP2, hP3]
              simp [ByteArray.data_append, Sp.bts])
            rw [← hP1] at z1
            rw [← hP1] at HX1
            rw [← hP2] at z2
            simp only [← hP2] at HX2
            rw [← hP3] at z3
            simp only [← hP3] at HX3
            clear hP1 hP2 hP3
            clear HT
            have y1 : ¬ 9223372036854775807 < 2 + P2.size := by omega
            have y2 : ¬ 9223372036854775807 < P1.size + (2 + P2.size) := by omega
            have y3 : ¬ 9223372036854775807 < 1 + P3.size := by omega
            have y4 : ¬ 9223372036854775807 < (P1.size + (2 + P2.size)) + (1 + P3.size) := by omega
            have d0 := q1.c0
            have d1 := q1.c1
            have d2 := q1.c2
            dsimp only at d0 d1 d2
            go_wp2_with fail
            refine (HX1.out).mono ?_
            rintro e w1 ⟨rfl, hb1⟩
            have qq1 := PB.under q1 hb1 q1.lt
            have hB1 := hbw.trans (hb1.mono hbw.size)
            have HRW3 := Lib.hid (ownsRow_grow HRW2.out hb1)
            clear d0 d1 d2
            have d0 := qq1.c0
            have d1 := qq1.c1
            have d2 := qq1.c2
            dsimp only at d0 d1 d2
            go_wp2_with fail
            refine (HX2.out _ hB1).mono ?_
            rintro e w2 ⟨rfl, hb2⟩
            have qq2 := PB.under qq1 hb2 qq1.lt
            have hB2 := hB1.trans (hb2.mono hB1.size)
            have HRW4 := Lib.hid (ownsRow_grow HRW3.out hb2)
            clear d0 d1 d2
            have d0 := qq2.c0
            have d1 := qq2.c1
            have d2 := qq2.c2
            dsimp only at d0 d1 d2
            go_wp2_with fail
            refine (HX3.out _ hB2).mono ?_
            rintro e w3 ⟨rfl, hb3⟩
            have qq3 := PB.under qq2 hb3 qq2.lt
            have hB3 := hB2.trans (hb3.mono hB2.size)
            have HRW5 := Lib.hid (ownsRow_grow HRW4.out hb3)
            clear d0 d1 d2
            have d0 := qq3.c0
            have d1 := qq3.c1
            have d2 := qq3.c2
            dsimp only at d0 d1 d2
            go_upto_region 12 with fail
            have hsz := hB3.size
            have HB9 := Lib.hid hB3
            generalize (((P1 ++ (⟨#[46, 46]⟩ ++ P2)) ++ (⟨#[47]⟩ ++ P3)) : ByteArray) = T at *
            go_wp2_with (at_builtin; refine wpList_append_own _ rfl _ _ 48 rfl w.heap.size 9 i0 (.string ⟨#[]⟩) 1 16 Tryz.underlying48 hi hz0 hz1 hz2 rfl (by decide) _ _ _ rfl (World.ownsRow.alloc HRW5.out _) ⟨w3.heap.size, 0, none⟩ 1 1 [.string T] rfl rfl (cell_one_new _ _ _) (by simp [Value.oneCell']) (by simp only [maxLen]; omega) (by omega) (by simp; omega) ?_; intro v9 w9 hown9 hgrow9 _)
            go_roundw
            case rel =>
              refine ⟨k + 1, by omega, rfl, Lib.hid ?_, Lib.hid (below_row (HB9.out.alloc hsz _) (World.ownsRow.alloc HRW5.out _) hgrow9 (Nat.le_refl _) (by simp; omega))⟩
              rw [HAT.out, List.length_append, List.length_singleton, txtsC_snoc, ← HEQ.out]
              exact hown9
            case measure => simp [intOf]; omega
          · have n2 : ¬ (0 < st) := h2
            have ha : (if 0 ≤ fr then Sp.padL fr f else [42]) = Sp.padL fr f := if_pos n0
            have hb : (if 0 ≤ tt then 46 :: 46 :: Sp.padL tt f else []) = 46 :: 46 :: Sp.padL tt f := if_pos n1
            have hc : (if 0 < st then 47 :: Sp.decN st else []) = [] := if_neg n2
            have HT : Hid (Sp.partL ⟨fr, tt, st⟩ f = Sp.padL fr f ++ (46 :: 46 :: Sp.padL tt f ++ [])) := Lib.hid (pv_text ⟨fr, tt, st⟩ f _ _ _ ha.symm hb.symm hc.symm)
            clear ha hb hc
            have z1 : (Sp.bts (Sp.padL fr f)).size ≤ 4 := by rw [bts_size]; exact Sp.pad_len _ _ n0 hsm.1
            have HX1 := Lib.hid (HPL.out fr (wr.alloc (.cells #[.int .i64 fr, .int .i64 tt, .int .i64 st] 62)) n0 hsm.1 hbw)
            have z2 : (Sp.bts (Sp.padL tt f)).size ≤ 4 := by rw [bts_size]; exact Sp.pad_len _ _ n1 hsm.2.1
            have HX2 := Lib.hid (fun wx hb => HPL.out tt wx n1 hsm.2.1 hb)
            obtain ⟨P1, hP1⟩ : ∃ P, P = Sp.bts (Sp.padL fr f) := ⟨_, rfl⟩
            obtain ⟨P2, hP2⟩ : ∃ P, P = Sp.bts (Sp.padL tt f) := ⟨_, rfl⟩
            have HEQ : Hid (((P1 ++ (⟨#[46, 46]⟩ ++ P2)) : ByteArray) = Sp.bts (Sp.partL ⟨fr, tt, st⟩ f)) := Lib.hid (by
              rw [HT.out]
              refine WideShapes.bytes_inj ?_
              rw [bts_list]
              rw [hP1, hP2]
              simp [ByteArray.data_append, Sp.bts])
            rw [← hP1] at z1
            rw [← hP1] at HX1
            rw [← hP2] at z2
            simp only [← hP2] at HX2
            clear hP1 hP2
            clear HT
            have y1 : ¬ 9223372036854775807 < 2 + P2.size := by omega
            have y2 : ¬ 9223372036854775807 < P1.size + (2 + P2.size) := by omega
            have d0 := q1.c0
            have d1 := q1.c1
            have d2 := q1.c2
            dsimp only at d0 d1 d2
            go_wp2_with fail
            refine (HX1.out).mono ?_
            rintro e w1 ⟨rfl, hb1⟩
            have qq1 := PB.under q1 hb1 q1.lt
            have hB1 := hbw.trans (hb1.mono hbw.size)
            have HRW3 := Lib.hid (ownsRow_grow HRW2.out hb1)
            clear d0 d1 d2
            have d0 := qq1.c0
            have d1 := qq1.c1
            have d2 := qq1.c2
            dsimp only at d0 d1 d2
            go_wp2_with fail
            refine (HX2.out _ hB1).mono ?_
            rintro e w2 ⟨rfl, hb2⟩
            have qq2 := PB.under qq1 hb2 qq1.lt
            have hB2 := hB1.trans (hb2.mono hB1.size)
            have HRW4 := Lib.hid (ownsRow_grow HRW3.out hb2)
            clear d0 d1 d2
            have d0 := qq2.c0
            have d1 := qq2.c1
            have d2 := qq2.c2
            dsimp only at d0 d1 d2
            go_upto_region 12 with fail
            have hsz := hB2.size
            have HB9 := Lib.hid hB2
            generalize ((P1 ++ (⟨#[46, 46]⟩ ++ P2)) : ByteArray) = T at *
            go_wp2_with (at_builtin; refine wpList_append_own _ rfl _ _ 48 rfl w.heap.size 9 i0 (.string ⟨#[]⟩) 1 16 Tryz.underlying48 hi hz0 hz1 hz2 rfl (by decide) _ _ _ rfl (World.ownsRow.alloc HRW4.out _) ⟨w2.heap.size, 0, none⟩ 1 1 [.string T] rfl rfl (cell_one_new _ _ _) (by simp [Value.oneCell']) (by simp only [maxLen]; omega) (by omega) (by simp; omega) ?_; intro v9 w9 hown9 hgrow9 _)
            go_roundw
            case rel =>
              refine ⟨k + 1, by omega, rfl, Lib.hid ?_, Lib.hid (below_row (HB9.out.alloc hsz _) (World.ownsRow.alloc HRW4.out _) hgrow9 (Nat.le_refl _) (by simp; omega))⟩
              rw [HAT.out, List.length_append, List.length_singleton, txtsC_snoc, ← HEQ.out]
              exact hown9
            case measure => simp [intOf]; omega
        · have n1 : ¬ (0 ≤ tt) := h1
          by_cases h2 : 0 < st
          · have n2 : 0 < st := h2
            have ha : (if 0 ≤ fr then Sp.padL fr f else [42]) = Sp.padL fr f := if_pos n0
            have hb : (if 0 ≤ tt then 46 :: 46 :: Sp.padL tt f else []) = [] := if_neg n1
            have hc : (if 0 < st then 47 :: Sp.decN st else []) = 47 :: Sp.decN st := if_pos n2
            have HT : Hid (Sp.partL ⟨fr, tt, st⟩ f = Sp.padL fr f ++ ([] ++ 47 :: Sp.decN st)) := Lib.hid (pv_text ⟨fr, tt, st⟩ f _ _ _ ha.symm hb.symm hc.symm)
            clear ha hb hc
            have z1 : (Sp.bts (Sp.padL fr f)).size ≤ 4 := by rw [bts_size]; exact Sp.pad_len _ _ n0 hsm.1
            have HX1 := Lib.hid (HPL.out fr (wr.alloc (.cells #[.int .i64 fr, .int .i64 tt, .int .i64 st] 62)) n0 hsm.1 hbw)
            have z3 : (Sp.bts (Sp.decN st)).size ≤ 4 := by rw [bts_size]; exact (dec_len st (by omega) hsm.2.2).2
            have HX3 := Lib.hid (fun wx hb => HIT.out st wx (by omega) hsm.2.2 hb)
            obtain ⟨P1, hP1⟩ : ∃ P, P = Sp.bts (Sp.padL fr f) := ⟨_, rfl⟩
            obtain ⟨P3, hP3⟩ : ∃ P, P = Sp.bts (Sp.decN st) := ⟨_, rfl⟩
            have HEQ : Hid (((P1 ++ (⟨#[47]⟩ ++ P3)) : ByteArray) = Sp.bts (Sp.partL ⟨fr, tt, st⟩ f)) := Lib.hid (by
              rw [HT.out]
              refine WideShapes.bytes_inj ?_
              rw [bts_list]
              rw [hP1, hP3]
              simp [ByteArray.data_append, Sp.bts])
            rw [← hP1] at z1
            rw [← hP1] at HX1
            rw [← hP3] at z3
            simp only [← hP3] at HX3
            clear hP1 hP3
            clear HT
            have y3 : ¬ 9223372036854775807 < 1 + P3.size := by omega
            have y4 : ¬ 9223372036854775807 < P1.size + (1 + P3.size) := by omega
            have d0 := q1.c0
            have d1 := q1.c1
            have d2 := q1.c2
            dsimp only at d0 d1 d2
            go_wp2_with fail
            refine (HX1.out).mono ?_
            rintro e w1 ⟨rfl, hb1⟩
            have qq1 := PB.under q1 hb1 q1.lt
            have hB1 := hbw.trans (hb1.mono hbw.size)
            have HRW3 := Lib.hid (ownsRow_grow HRW2.out hb1)
            clear d0 d1 d2
            have d0 := qq1.c0
            have d1 := qq1.c1
            have d2 := qq1.c2
            dsimp only at d0 d1 d2
            go_wp2_with fail
            refine (HX3.out _ hB1).mono ?_
            rintro e w3 ⟨rfl, hb3⟩
            have qq3 := PB.under qq1 hb3 qq1.lt
            have hB3 := hB1.trans (hb3.mono hB1.size)
            have HRW5 := Lib.hid (ownsRow_grow HRW3.out hb3)
            clear d0 d1 d2
            have d0 := qq3.c0
            have d1 := qq3.c1
            have d2 := qq3.c2
            dsimp only at d0 d1 d2
            go_upto_region 12 with fail
            have hsz := hB3.size
            have HB9 := Lib.hid hB3
            generalize ((P1 ++ (⟨#[47]⟩ ++ P3)) : ByteArray) = T at *
            go_wp2_with (at_builtin; refine wpList_append_own _ rfl _ _ 48 rfl w.heap.size 9 i0 (.string ⟨#[]⟩) 1 16 Tryz.underlying48 hi hz0 hz1 hz2 rfl (by decide) _ _ _ rfl (World.ownsRow.alloc HRW5.out _) ⟨w3.heap.size, 0, none⟩ 1 1 [.string T] rfl rfl (cell_one_new _ _ _) (by simp [Value.oneCell']) (by simp only [maxLen]; omega) (by omega) (by simp; omega) ?_; intro v9 w9 hown9 hgrow9 _)
            go_roundw
            case rel =>
              refine ⟨k + 1, by omega, rfl, Lib.hid ?_, Lib.hid (below_row (HB9.out.alloc hsz _) (World.ownsRow.alloc HRW5.out _) hgrow9 (Nat.le_refl _) (by simp; omega))⟩
              rw [HAT.out, List.length_append, List.length_singleton, txtsC_snoc, ← HEQ.out]
              exact hown9
            case measure => simp [intOf]; omega
          · have n2 : ¬ (0 < st) := h2
            have ha : (if 0 ≤ fr then Sp.padL fr f else [42]) = Sp.padL fr f := if_pos n0
            have hb : (if 0 ≤ tt then 46 :: 46 :: Sp.padL tt f else []) = [] := if_neg n1
            have hc : (if 0 < st then 47 :: Sp.decN st else []) = [] := if_neg n2
            have HT : Hid (Sp.partL ⟨fr, tt, st⟩ f = Sp.padL fr f ++ ([] ++ [])) := Lib.hid (pv_text ⟨fr, tt, st⟩ f _ _ _ ha.symm hb.symm hc.symm)
            clear ha hb hc
            have z1 : (Sp.bts (Sp.padL fr f)).size ≤ 4 := by rw [bts_size]; exact Sp.pad_len _ _ n0 hsm.1
            have HX1 := Lib.hid (HPL.out fr (wr.alloc (.cells #[.int .i64 fr, .int .i64 tt, .int .i64 st] 62)) n0 hsm.1 hbw)
            obtain ⟨P1, hP1⟩ : ∃ P, P = Sp.bts (Sp.padL fr f) := ⟨_, rfl⟩
            have HEQ : Hid ((P1 : ByteArray) = Sp.bts (Sp.partL ⟨fr, tt, st⟩ f)) := Lib.hid (by
              rw [HT.out]
              refine WideShapes.bytes_inj ?_
              rw [bts_list]
              rw [hP1]
              simp [Sp.bts])
            rw [← hP1] at z1
            rw [← hP1] at HX1
            clear hP1
            clear HT
            have d0 := q1.c0
            have d1 := q1.c1
            have d2 := q1.c2
            dsimp only at d0 d1 d2
            go_wp2_with fail
            refine (HX1.out).mono ?_
            rintro e w1 ⟨rfl, hb1⟩
            have qq1 := PB.under q1 hb1 q1.lt
            have hB1 := hbw.trans (hb1.mono hbw.size)
            have HRW3 := Lib.hid (ownsRow_grow HRW2.out hb1)
            clear d0 d1 d2
            have d0 := qq1.c0
            have d1 := qq1.c1
            have d2 := qq1.c2
            dsimp only at d0 d1 d2
            go_upto_region 12 with fail
            have hsz := hB1.size
            have HB9 := Lib.hid hB1
            generalize (P1 : ByteArray) = T at *
            go_wp2_with (at_builtin; refine wpList_append_own _ rfl _ _ 48 rfl w.heap.size 9 i0 (.string ⟨#[]⟩) 1 16 Tryz.underlying48 hi hz0 hz1 hz2 rfl (by decide) _ _ _ rfl (World.ownsRow.alloc HRW3.out _) ⟨w1.heap.size, 0, none⟩ 1 1 [.string T] rfl rfl (cell_one_new _ _ _) (by simp [Value.oneCell']) (by simp only [maxLen]; omega) (by omega) (by simp; omega) ?_; intro v9 w9 hown9 hgrow9 _)
            go_roundw
            case rel =>
              refine ⟨k + 1, by omega, rfl, Lib.hid ?_, Lib.hid (below_row (HB9.out.alloc hsz _) (World.ownsRow.alloc HRW3.out _) hgrow9 (Nat.le_refl _) (by simp; omega))⟩
              rw [HAT.out, List.length_append, List.length_singleton, txtsC_snoc, ← HEQ.out]
              exact hown9
            case measure => simp [intOf]; omega
      · have n0 : ¬ (0 ≤ fr) := h0
        by_cases h1 : 0 ≤ tt
        · have n1 : 0 ≤ tt := h1
          by_cases h2 : 0 < st
          · have n2 : 0 < st := h2
            have ha : (if 0 ≤ fr then Sp.padL fr f else [42]) = [42] := if_neg n0
            have hb : (if 0 ≤ tt then 46 :: 46 :: Sp.padL tt f else []) = 46 :: 46 :: Sp.padL tt f := if_pos n1
            have hc : (if 0 < st then 47 :: Sp.decN st else []) = 47 :: Sp.decN st := if_pos n2
            have HT : Hid (Sp.partL ⟨fr, tt, st⟩ f = [42] ++ (46 :: 46 :: Sp.padL tt f ++ 47 :: Sp.decN st)) := Lib.hid (pv_text ⟨fr, tt, st⟩ f _ _ _ ha.symm hb.symm hc.symm)
            clear ha hb hc
            have z2 : (Sp.bts (Sp.padL tt f)).size ≤ 4 := by rw [bts_size]; exact Sp.pad_len _ _ n1 hsm.2.1
            have HX2 := Lib.hid (fun wx hb => HPL.out tt wx n1 hsm.2.1 hb)
            have z3 : (Sp.bts (Sp.decN st)).size ≤ 4 := by rw [bts_size]; exact (dec_len st (by omega) hsm.2.2).2
            have HX3 := Lib.hid (fun wx hb => HIT.out st wx (by omega) hsm.2.2 hb)
            obtain ⟨P2, hP2⟩ : ∃ P, P = Sp.bts (Sp.padL tt f) := ⟨_, rfl⟩
            obtain ⟨P3, hP3⟩ : ∃ P, P = Sp.bts (Sp.decN st) := ⟨_, rfl⟩
            have HEQ : Hid ((((⟨#[42]⟩ ++ (⟨#[46, 46]⟩ ++ P2)) ++ (⟨#[47]⟩ ++ P3)) : ByteArray) = Sp.bts (Sp.partL ⟨fr, tt, st⟩ f)) := Lib.hid (by
              rw [HT.out]
              refine WideShapes.bytes_inj ?_
              rw [bts_list]
              rw [hP2, hP3]
              simp [ByteArray.data_append, Sp.bts])
            rw [← hP2] at z2
            simp only [← hP2] at HX2
            rw [← hP3] at z3
            simp only [← hP3] at HX3
            clear hP2 hP3
            clear HT
            have y1 : ¬ 9223372036854775807 < 2 + P2.size := by omega
            have y2 : ¬ 9223372036854775807 < 1 + (2 + P2.size) := by omega
            have y3 : ¬ 9223372036854775807 < 1 + P3.size := by omega
            have y4 : ¬ 9223372036854775807 < (1 + (2 + P2.size)) + (1 + P3.size) := by omega
            have d0 := q1.c0
            have d1 := q1.c1
            have d2 := q1.c2
            dsimp only at d0 d1 d2
            go_wp2_with fail
            refine (HX2.out _ hbw).mono ?_
            rintro e w2 ⟨rfl, hb2⟩
            have qq2 := PB.under q1 hb2 q1.lt
            have hB2 := hbw.trans (hb2.mono hbw.size)
            have HRW4 := Lib.hid (ownsRow_grow HRW2.out hb2)
            clear d0 d1 d2
            have d0 := qq2.c0
            have d1 := qq2.c1
            have d2 := qq2.c2
            dsimp only at d0 d1 d2
            go_wp2_with fail
            refine (HX3.out _ hB2).mono ?_
            rintro e w3 ⟨rfl, hb3⟩
            have qq3 := PB.under qq2 hb3 qq2.lt
            have hB3 := hB2.trans (hb3.mono hB2.size)
            have HRW5 := Lib.hid (ownsRow_grow HRW4.out hb3)
            clear d0 d1 d2
            have d0 := qq3.c0
            have d1 := qq3.c1
            have d2 := qq3.c2
            dsimp only at d0 d1 d2
            go_upto_region 12 with fail
            have hsz := hB3.size
            have HB9 := Lib.hid hB3
            generalize (((⟨#[42]⟩ ++ (⟨#[46, 46]⟩ ++ P2)) ++ (⟨#[47]⟩ ++ P3)) : ByteArray) = T at *
            go_wp2_with (at_builtin; refine wpList_append_own _ rfl _ _ 48 rfl w.heap.size 9 i0 (.string ⟨#[]⟩) 1 16 Tryz.underlying48 hi hz0 hz1 hz2 rfl (by decide) _ _ _ rfl (World.ownsRow.alloc HRW5.out _) ⟨w3.heap.size, 0, none⟩ 1 1 [.string T] rfl rfl (cell_one_new _ _ _) (by simp [Value.oneCell']) (by simp only [maxLen]; omega) (by omega) (by simp; omega) ?_; intro v9 w9 hown9 hgrow9 _)
            go_roundw
            case rel =>
              refine ⟨k + 1, by omega, rfl, Lib.hid ?_, Lib.hid (below_row (HB9.out.alloc hsz _) (World.ownsRow.alloc HRW5.out _) hgrow9 (Nat.le_refl _) (by simp; omega))⟩
              rw [HAT.out, List.length_append, List.length_singleton, txtsC_snoc, ← HEQ.out]
              exact hown9
            case measure => simp [intOf]; omega
          · have n2 : ¬ (0 < st) := h2
            have ha : (if 0 ≤ fr then Sp.padL fr f else [42]) = [42] := if_neg n0
            have hb : (if 0 ≤ tt then 46 :: 46 :: Sp.padL tt f else []) = 46 :: 46 :: Sp.padL tt f := if_pos n1
            have hc : (if 0 < st then 47 :: Sp.decN st else []) = [] := if_neg n2
            have HT : Hid (Sp.partL ⟨fr, tt, st⟩ f = [42] ++ (46 :: 46 :: Sp.padL tt f ++ [])) := Lib.hid (pv_text ⟨fr, tt, st⟩ f _ _ _ ha.symm hb.symm hc.symm)
            clear ha hb hc
            have z2 : (Sp.bts (Sp.padL tt f)).size ≤ 4 := by rw [bts_size]; exact Sp.pad_len _ _ n1 hsm.2.1
            have HX2 := Lib.hid (fun wx hb => HPL.out tt wx n1 hsm.2.1 hb)
            obtain ⟨P2, hP2⟩ : ∃ P, P = Sp.bts (Sp.padL tt f) := ⟨_, rfl⟩
            have HEQ : Hid (((⟨#[42]⟩ ++ (⟨#[46, 46]⟩ ++ P2)) : ByteArray) = Sp.bts (Sp.partL ⟨fr, tt, st⟩ f)) := Lib.hid (by
              rw [HT.out]
              refine WideShapes.bytes_inj ?_
              rw [bts_list]
              rw [hP2]
              simp [ByteArray.data_append, Sp.bts])
            rw [← hP2] at z2
            simp only [← hP2] at HX2
            clear hP2
            clear HT
            have y1 : ¬ 9223372036854775807 < 2 + P2.size := by omega
            have y2 : ¬ 9223372036854775807 < 1 + (2 + P2.size) := by omega
            have d0 := q1.c0
            have d1 := q1.c1
            have d2 := q1.c2
            dsimp only at d0 d1 d2
            go_wp2_with fail
            refine (HX2.out _ hbw).mono ?_
            rintro e w2 ⟨rfl, hb2⟩
            have qq2 := PB.under q1 hb2 q1.lt
            have hB2 := hbw.trans (hb2.mono hbw.size)
            have HRW4 := Lib.hid (ownsRow_grow HRW2.out hb2)
            clear d0 d1 d2
            have d0 := qq2.c0
            have d1 := qq2.c1
            have d2 := qq2.c2
            dsimp only at d0 d1 d2
            go_upto_region 12 with fail
            have hsz := hB2.size
            have HB9 := Lib.hid hB2
            generalize ((⟨#[42]⟩ ++ (⟨#[46, 46]⟩ ++ P2)) : ByteArray) = T at *
            go_wp2_with (at_builtin; refine wpList_append_own _ rfl _ _ 48 rfl w.heap.size 9 i0 (.string ⟨#[]⟩) 1 16 Tryz.underlying48 hi hz0 hz1 hz2 rfl (by decide) _ _ _ rfl (World.ownsRow.alloc HRW4.out _) ⟨w2.heap.size, 0, none⟩ 1 1 [.string T] rfl rfl (cell_one_new _ _ _) (by simp [Value.oneCell']) (by simp only [maxLen]; omega) (by omega) (by simp; omega) ?_; intro v9 w9 hown9 hgrow9 _)
            go_roundw
            case rel =>
              refine ⟨k + 1, by omega, rfl, Lib.hid ?_, Lib.hid (below_row (HB9.out.alloc hsz _) (World.ownsRow.alloc HRW4.out _) hgrow9 (Nat.le_refl _) (by simp; omega))⟩
              rw [HAT.out, List.length_append, List.length_singleton, txtsC_snoc, ← HEQ.out]
              exact hown9
            case measure => simp [intOf]; omega
        · have n1 : ¬ (0 ≤ tt) := h1
          by_cases h2 : 0 < st
          · have n2 : 0 < st := h2
            have ha : (if 0 ≤ fr then Sp.padL fr f else [42]) = [42] := if_neg n0
            have hb : (if 0 ≤ tt then 46 :: 46 :: Sp.padL tt f else []) = [] := if_neg n1
            have hc : (if 0 < st then 47 :: Sp.decN st else []) = 47 :: Sp.decN st := if_pos n2
            have HT : Hid (Sp.partL ⟨fr, tt, st⟩ f = [42] ++ ([] ++ 47 :: Sp.decN st)) := Lib.hid (pv_text ⟨fr, tt, st⟩ f _ _ _ ha.symm hb.symm hc.symm)
            clear ha hb hc
            have z3 : (Sp.bts (Sp.decN st)).size ≤ 4 := by rw [bts_size]; exact (dec_len st (by omega) hsm.2.2).2
            have HX3 := Lib.hid (fun wx hb => HIT.out st wx (by omega) hsm.2.2 hb)
            obtain ⟨P3, hP3⟩ : ∃ P, P = Sp.bts (Sp.decN st) := ⟨_, rfl⟩
            have HEQ : Hid (((⟨#[42]⟩ ++ (⟨#[47]⟩ ++ P3)) : ByteArray) = Sp.bts (Sp.partL ⟨fr, tt, st⟩ f)) := Lib.hid (by
              rw [HT.out]
              refine WideShapes.bytes_inj ?_
              rw [bts_list]
              rw [hP3]
              simp [ByteArray.data_append, Sp.bts])
            rw [← hP3] at z3
            simp only [← hP3] at HX3
            clear hP3
            clear HT
            have y3 : ¬ 9223372036854775807 < 1 + P3.size := by omega
            have y4 : ¬ 9223372036854775807 < 1 + (1 + P3.size) := by omega
            have d0 := q1.c0
            have d1 := q1.c1
            have d2 := q1.c2
            dsimp only at d0 d1 d2
            go_wp2_with fail
            refine (HX3.out _ hbw).mono ?_
            rintro e w3 ⟨rfl, hb3⟩
            have qq3 := PB.under q1 hb3 q1.lt
            have hB3 := hbw.trans (hb3.mono hbw.size)
            have HRW5 := Lib.hid (ownsRow_grow HRW2.out hb3)
            clear d0 d1 d2
            have d0 := qq3.c0
            have d1 := qq3.c1
            have d2 := qq3.c2
            dsimp only at d0 d1 d2
            go_upto_region 12 with fail
            have hsz := hB3.size
            have HB9 := Lib.hid hB3
            generalize ((⟨#[42]⟩ ++ (⟨#[47]⟩ ++ P3)) : ByteArray) = T at *
            go_wp2_with (at_builtin; refine wpList_append_own _ rfl _ _ 48 rfl w.heap.size 9 i0 (.string ⟨#[]⟩) 1 16 Tryz.underlying48 hi hz0 hz1 hz2 rfl (by decide) _ _ _ rfl (World.ownsRow.alloc HRW5.out _) ⟨w3.heap.size, 0, none⟩ 1 1 [.string T] rfl rfl (cell_one_new _ _ _) (by simp [Value.oneCell']) (by simp only [maxLen]; omega) (by omega) (by simp; omega) ?_; intro v9 w9 hown9 hgrow9 _)
            go_roundw
            case rel =>
              refine ⟨k + 1, by omega, rfl, Lib.hid ?_, Lib.hid (below_row (HB9.out.alloc hsz _) (World.ownsRow.alloc HRW5.out _) hgrow9 (Nat.le_refl _) (by simp; omega))⟩
              rw [HAT.out, List.length_append, List.length_singleton, txtsC_snoc, ← HEQ.out]
              exact hown9
            case measure => simp [intOf]; omega
          · have n2 : ¬ (0 < st) := h2
            have ha : (if 0 ≤ fr then Sp.padL fr f else [42]) = [42] := if_neg n0
            have hb : (if 0 ≤ tt then 46 :: 46 :: Sp.padL tt f else []) = [] := if_neg n1
            have hc : (if 0 < st then 47 :: Sp.decN st else []) = [] := if_neg n2
            have HT : Hid (Sp.partL ⟨fr, tt, st⟩ f = [42] ++ ([] ++ [])) := Lib.hid (pv_text ⟨fr, tt, st⟩ f _ _ _ ha.symm hb.symm hc.symm)
            clear ha hb hc
            have HEQ : Hid ((⟨#[42]⟩ : ByteArray) = Sp.bts (Sp.partL ⟨fr, tt, st⟩ f)) := Lib.hid (by
              rw [HT.out]
              refine WideShapes.bytes_inj ?_
              rw [bts_list]
              simp)
            clear HT
            have d0 := q1.c0
            have d1 := q1.c1
            have d2 := q1.c2
            dsimp only at d0 d1 d2
            go_upto_region 12 with fail
            generalize (wr.alloc (.cells #[.int .i64 fr, .int .i64 tt, .int .i64 st] 62)) = wq at *
            clear hwz
            have hsz := hbw.size
            have HB9 := Lib.hid hbw
            generalize (⟨#[42]⟩ : ByteArray) = T at *
            go_wp2_with (at_builtin; refine wpList_append_own _ rfl _ _ 48 rfl w.heap.size 9 i0 (.string ⟨#[]⟩) 1 16 Tryz.underlying48 hi hz0 hz1 hz2 rfl (by decide) _ _ _ rfl (World.ownsRow.alloc HRW2.out _) ⟨wq.heap.size, 0, none⟩ 1 1 [.string T] rfl rfl (cell_one_new _ _ _) (by simp [Value.oneCell']) (by simp only [maxLen]; omega) (by omega) (by simp; omega) ?_; intro v9 w9 hown9 hgrow9 _)
            go_roundw
            case rel =>
              refine ⟨k + 1, by omega, rfl, Lib.hid ?_, Lib.hid (below_row (HB9.out.alloc hsz _) (World.ownsRow.alloc HRW2.out _) hgrow9 (Nat.le_refl _) (by simp; omega))⟩
              rw [HAT.out, List.length_append, List.length_singleton, txtsC_snoc, ← HEQ.out]
              exact hown9
            case measure => simp [intOf]; omega
    · have hke : k = n := by omega
      have HTA : Hid ((ps.take k).map (fun q => Sp.partL q f) = ps.map (fun q => Sp.partL q f)) := Lib.hid (by rw [List.take_of_length_le (by rw [HL.out]; omega)])
      have hrw := HRW.out
      rw [HTA.out] at hrw
      have HJ := Lib.hid (joinOwn_any 44 (ps.map fun q => Sp.partL q f) w.heap.size u5 wr hrw (by rw [List.length_map, HL.out]; omega) (fun l hl => by
        obtain ⟨q, hq, rfl⟩ := List.mem_map.1 hl
        exact Nat.le_trans (Sp.partL_len (HM.out q hq)) (by decide)))
      have x2 : ¬ (k : Int) < (n : Int) := by omega
      have HF : Hid (Sp.bts (Sp.fieldL ps f) = Sp.bts (Sp.joinL [44] (ps.map fun q => Sp.partL q f))) := Lib.hid rfl
      generalize Sp.bts (Sp.joinL [44] (ps.map fun q => Sp.partL q f)) = Q at *
      clear hrw HRW hke HTA
      go_wp2_with fail
      refine HJ.out.mono ?_
      rintro e w2 ⟨rfl, hb2⟩
      have HB2 := Lib.hid (HB.out.trans (hb2.mono HB.out.size))
      clear hb2
      go_wp2
      go_ret
      exact ⟨by rw [HF.out]; rfl, HB2.out⟩

end Go.Proofs.YtpkpoglmmjaoeaaGreatDoor
