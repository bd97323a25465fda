/-
  What is kept of a log: slices.Clone at rows, the program's walk and the reference's.
-/
import Derived.Test.YtkgogenmhiclcaaGreatDoorJg
namespace Go.Proofs.YtkgogenmhiclcaaGreatDoor
open Go.RowKit

theorem Rd.take {w : World} {B size n : Nat} {A : Option Addr} {xs : List Value} (h : Rd w B size A n xs) (k : Nat) (hk : k ≤ n) : Rd w B size A k (xs.take (k * size)) := by
  have hm : k * size ≤ n * size := Nat.mul_le_mul_right _ hk
  refine ⟨by rw [List.length_take, h.1]; omega, fun h0 => ?_⟩
  obtain ⟨ad, rfl, h1, h2⟩ := h.2 (by omega)
  refine ⟨ad, rfl, h1, fun j u hu => h2 j u ?_⟩
  rw [List.getElem?_take] at hu
  split at hu
  · exact hu
  · cases hu
theorem add_add (ad : Addr) (a b : Nat) : (ad.add a).add b = ad.add (a + b) := by
  unfold Addr.add
  by_cases ha : a = 0
  · subst ha; simp
  · by_cases hb : b = 0
    · subst hb; simp [ha]
    · simp [ha, hb, Nat.add_assoc]
theorem add_block (ad : Addr) (a : Nat) : (ad.add a).block = ad.block := by
  unfold Addr.add; split <;> rfl
theorem Rd.drop {w : World} {B size n : Nat} {ad : Addr} {xs : List Value} (h : Rd w B size (some ad) n xs) (k : Nat) : Rd w B size (some (ad.add (k * size))) (n - k) (xs.drop (k * size)) := by
  refine ⟨by rw [List.length_drop, h.1, Nat.sub_mul], fun h0 => ?_⟩
  obtain ⟨ad', e, h1, h2⟩ := h.2 (by omega)
  injection e with e
  subst e
  refine ⟨_, rfl, by rw [add_block]; exact h1, fun j u hu => ?_⟩
  rw [List.getElem?_drop] at hu
  have := h2 (k * size + j) u hu
  rwa [add_add]
theorem rowsC_split (l : List RowD) (k : Nat) (hk : k ≤ l.length) : (rowsC l).take (k * 5) = rowsC (l.take k) ∧ (rowsC l).drop (k * 5) = rowsC (l.drop k) := by
  have e : rowsC l = rowsC (l.take k) ++ rowsC (l.drop k) := by
    rw [rowsC, rowsC, rowsC, ← List.flatMap_append, List.take_append_drop]
  have hl : (rowsC (l.take k)).length = k * 5 := by rw [rowsC_len, List.length_take]; congr 1; omega
  constructor
  · rw [e, List.take_append_of_le_length (by omega), List.take_of_length_le (by omega)]
  · rw [e, List.drop_append_of_le_length (by omega), List.drop_of_length_le (by omega), List.nil_append]

set_option maxRecDepth 100000 in
set_option maxHeartbeats 4000000 in
theorem clone_any (l : List RowD) (A : Option Addr) (n c B : Nat) (w : World) (h : Rd w B 5 A n (rowsC l)) (hB : B ≤ w.heap.size) (hn : n ≤ 137438953472) :
    Calls Tryz.prog 32 #[.slice A n c] w fun e w' => ∃ A' c', e = .returned (.slice A' n c') ∧ Rd w' w'.heap.size 5 A' n (rowsC l) ∧ Below w.heap.size w w' := by
  obtain ⟨i, hi, hz, hs, hby⟩ := rowInfo
  have q : ∀ w : World, (binOp .eql 22 (.slice A n c) (.slice none 0 0)).run Tryz.prog w = .ok (.bool A.isNone) w := fun w => Lib.run_eql_slice_nil w _ _ A n c 0 0 Tryz.underlying22
  have hlen : l.length = n := by have := h.1; rw [rowsC_len] at this; omega
  cases A with
  | none =>
    have h0 : n = 0 := by
      rcases Nat.eq_zero_or_pos n with h0 | h0
      · exact h0
      · obtain ⟨ad, e, _⟩ := h.2 h0
        cases e
    subst h0
    obtain rfl := List.eq_nil_of_length_eq_zero hlen
    clear h hi hz hs hby
    go_enter Tryz.func32, Tryz.ntmps32
    go_wp2
    go_ret
    exact ⟨none, 0, rfl, Rd.empty, Below.refl _ _⟩
  | some ad =>
    have HI := Lib.hid hi
    have HIZ := Lib.hid hz
    have HIS := Lib.hid hs
    have HIB := Lib.hid hby
    have HR := Lib.hid (h.alloc hB (.cells #[] 37))
    clear hi hz hs hby h
    go_enter Tryz.func32, Tryz.ntmps32
    go_wp2_with (at_builtin; refine wpList_append_rd _ rfl _ _ 22 rfl w.heap.size 37 i (.agg zeroRow) 5 56 Tryz.underlying22 HI.out HIZ.out HIS.out HIB.out rfl (by decide) _ 0 [] rfl (World.ownsRow_made w #[] 0 (Nat.le_refl _) (Nat.zero_le _) (by simp)) (some ad) n c B (rowsC l) rfl HR.out (rowsC_one l) (by simp only [maxLen]; omega) (by omega) (by simp) ?_)
    intro v2 w2 hown2 hgr2
    have HO2 := Lib.hid hown2
    have HB2 : Hid (Below w.heap.size w w2) := Lib.hid (((Below.refl _ w).alloc (Nat.le_refl _) _).grown hgr2 (by simp) (by intro k hk; simp [Value.ownBlock] at hk; omega))
    clear hown2 hgr2 HR
    go_wp2
    go_ret
    obtain ⟨A', c', rfl⟩ := own_slice HO2.out
    exact ⟨A', c', rfl, (Rd.own HO2.out).1, HB2.out⟩

namespace Sp
/-- what is kept of a log: the last rows, as many as there is room for -/
def keepL (l : List RowD) (most : Int) : List RowD := match l with
  | [] => []
  | r :: q => if (sizeL (r :: q) : Int) ≤ most then r :: q else keepL q most
theorem size_drop (l : List RowD) (k : Nat) (h : k < l.length) : sizeL (l.drop k) = lineN l[k] + sizeL (l.drop (k + 1)) := by
  rw [List.drop_eq_getElem_cons h, sizeL]
theorem size_mono (l : List RowD) : ∀ a b, a ≤ b → sizeL (l.drop b) ≤ sizeL (l.drop a) := by
  intro a b h
  obtain ⟨d, rfl⟩ : ∃ d, b = a + d := ⟨b - a, by omega⟩
  clear h
  induction d with
  | zero => exact Nat.le_refl _
  | succ d ih =>
    refine Nat.le_trans ?_ ih
    by_cases hl : a + d < l.length
    · rw [size_drop l (a + d) hl]; exact Nat.le_add_left _ _
    · rw [List.drop_of_length_le (by omega), List.drop_of_length_le (by omega)]; exact Nat.le_refl _
theorem keep_at (most : Int) : ∀ (l : List RowD) (a : Nat), a ≤ l.length → (a = l.length ∨ (sizeL (l.drop a) : Int) ≤ most) → (∀ b, b < a → most < sizeL (l.drop b)) → keepL l most = l.drop a
  | [], a, h, _, _ => by simp [keepL]
  | r :: q, 0, _, h2, _ => by
    rcases h2 with h2 | h2
    · simp at h2
    · rw [keepL, if_pos (by simpa using h2), List.drop_zero]
  | r :: q, a + 1, h, h2, h3 => by
    have h0 := h3 0 (by omega)
    rw [List.drop_zero] at h0
    rw [keepL, if_neg (by omega), List.drop_succ_cons]
    exact keep_at most q a (by simpa using h) (by simpa using h2) (fun b hb => by have := h3 (b + 1) (by omega); rwa [List.drop_succ_cons] at this)
theorem keep_end (most : Int) (l : List RowD) (a : Nat) (h1 : a ≤ l.length) (h2 : a = l.length ∨ (sizeL (l.drop a) : Int) ≤ most) (h3 : a = 0 ∨ most < sizeL (l.drop (a - 1))) : keepL l most = l.drop a := by
  refine keep_at most l a h1 h2 fun b hb => ?_
  rcases h3 with h3 | h3
  · omega
  · have := size_mono l b (a - 1) (by omega); omega
end Sp

set_option maxRecDepth 100000 in
set_option maxHeartbeats 8000000 in
theorem keep_any (l : List RowD) (hl : Fits l) (A : Option Addr) (n c B : Nat) (most : Int) (w : World) (h : Rd w B 5 A n (rowsC l)) (hB : B ≤ w.heap.size) (hn : n ≤ 137438953472) (hc : n ≤ c) (E : Env w) :
    Calls Tryz.prog 16 #[.slice A n c, .int .i64 most] w fun e w' => ∃ A' c', e = .returned (.slice A' (Sp.keepL l most).length c') ∧ Rd w' w'.heap.size 5 A' (Sp.keepL l most).length (rowsC (Sp.keepL l most)) ∧ Below w.heap.size w w' := by
  have hlen : l.length = n := by have := h.1; rw [rowsC_len] at this; omega
  have HL := Lib.hid hlen
  have HLE := Lib.hid (fun k => Sp.sizeL_le (l.drop k))
  have HDR := Lib.hid (fun k hk => Sp.size_drop l k hk)
  have HEND := Lib.hid (fun a => Sp.keep_end most l a)
  have HF := Lib.hid hl
  have HH := Lib.hid h
  have HC0 : Hid (∀ W, Below w.heap.size w W → Calls Tryz.prog 32 #[.slice A n c] W fun e w' => ∃ A' c', e = .returned (.slice A' n c') ∧ Rd w' w'.heap.size 5 A' n (rowsC l) ∧ Below W.heap.size W w') := Lib.hid fun W hW => clone_any l A n c B W (h.below (hW.mono hB)) (Nat.le_trans hB hW.size) hn
  have HCL : Hid (∀ ad, A = some ad → ∀ a, a ≤ n → ∀ W, Below w.heap.size w W → Calls Tryz.prog 32 #[.slice (some (ad.add (a * 5))) (n - a) (c - a)] W fun e w' => ∃ A' c', e = .returned (.slice A' (n - a) c') ∧ Rd w' w'.heap.size 5 A' (n - a) (rowsC (l.drop a)) ∧ Below W.heap.size W w') := Lib.hid fun ad hA a ha W hW => by
    subst hA
    have hr := (h.below (hW.mono hB)).drop a
    rw [(rowsC_split l a (by omega)).2] at hr
    exact clone_any (l.drop a) _ (n - a) (c - a) B W hr (Nat.le_trans hB hW.size) (by omega)
  have HSZ : Hid (∀ ad, A = some ad → ∀ q (hq : q < l.length), ∀ W, Below w.heap.size w W → Calls Tryz.prog 14 #[.slice (some (ad.add (q * 5))) 1 (c - q)] W fun e w' => e = .returned (.int .i64 (Sp.lineN l[q] : Int)) ∧ Below W.heap.size W w') := Lib.hid fun ad hA q hq W hW => by
    subst hA
    have hr := ((h.below (hW.mono hB)).drop q).take 1 (by omega)
    rw [(rowsC_split l q (by omega)).2, (rowsC_split (l.drop q) 1 (by rw [List.length_drop]; omega)).1, List.drop_eq_getElem_cons hq] at hr
    have e : Sp.sizeL (List.take 1 (l[q] :: l.drop (q + 1))) = Sp.lineN l[q] := rfl
    rw [← e]
    refine size_any _ (fun r hrr => hl r ?_) _ 1 (c - q) B W hr (Nat.le_trans hB hW.size) (by omega) (E.on hW)
    obtain rfl : r = l[q] := List.mem_singleton.1 hrr
    exact List.getElem_mem hq
  have HCE : Hid (∀ ad cc W, Calls Tryz.prog 32 #[.slice (some ad) 0 cc] W fun e w' => ∃ A' c', e = .returned (.slice A' 0 c') ∧ Rd w' w'.heap.size 5 A' 0 (rowsC []) ∧ Below W.heap.size W w') := Lib.hid fun ad cc W => clone_any [] (some ad) 0 cc W.heap.size W Rd.empty (Nat.le_refl _) (by decide)
  clear hlen hl
  go_enter Tryz.func16, Tryz.ntmps16
  go_wp2_with fail
  go_loopw [5, 6] (fun sv av wr => ∃ a s : Nat, a ≤ n ∧ av = .int .i64 a ∧ sv = .int .i64 s ∧ Below w.heap.size w wr ∧ Hid (s = Sp.sizeL (l.drop a)) ∧ Hid (a = l.length ∨ (Sp.sizeL (l.drop a) : Int) ≤ most)) (fun _ av _ => (intOf av).toNat)
  case atStart => exact ⟨n, 0, Nat.le_refl _, rfl, rfl, Below.refl _ _, Lib.hid (by rw [← HL.out, List.drop_length]; rfl), Lib.hid (.inl HL.out.symm)⟩
  case round =>
    obtain ⟨a, s, ha, rfl, rfl, hb, HS, HM⟩ := hrel
    have hsle : s ≤ 144115325514809344 := by
      have h1 := HLE.out a
      rw [← HS.out, List.length_drop, HL.out] at h1
      omega
    rcases Nat.eq_zero_or_pos a with h0 | h0
    · subst h0
      have HR : Hid (Sp.keepL l most = l) := Lib.hid (by rw [HEND.out 0 (Nat.zero_le _) HM.out (.inl rfl), List.drop_zero])
      rw [show ((0 : Nat) : Int) = 0 from rfl]
      cases A with
      | none =>
        go_wp2_with fail
        refine (HC0.out _ hb).mono ?_
        rintro e w2 ⟨A', c', rfl, hr2, hb2⟩
        have HB2 : Hid (Below w.heap.size w w2) := Lib.hid (hb.trans (hb2.mono hb.size))
        have HR2 := Lib.hid hr2
        clear hb2 hr2
        go_wp2
        go_ret
        rw [HR.out, HL.out]
        exact ⟨A', c', rfl, HR2.out, HB2.out⟩
      | some ad =>
        go_wp2_with fail
        refine (HC0.out _ hb).mono ?_
        rintro e w2 ⟨A', c', rfl, hr2, hb2⟩
        have HB2 : Hid (Below w.heap.size w w2) := Lib.hid (hb.trans (hb2.mono hb.size))
        have HR2 := Lib.hid hr2
        clear hb2 hr2
        go_wp2
        go_ret
        rw [HR.out, HL.out]
        exact ⟨A', c', rfl, HR2.out, HB2.out⟩
    · obtain ⟨q, rfl⟩ : ∃ q, a = q + 1 := ⟨a - 1, by omega⟩
      have y0 : ((q + 1 : Nat) : Int) = (q : Int) + 1 := by omega
      rw [y0]
      clear y0
      have y5 : (0 : Int) < (q : Int) + 1 := by omega
      have y6 : (q : Int) ≤ (c : Int) := by omega
      have y7 : (q : Int) + 1 ≤ (c : Int) := by omega
      have y8 : (q : Int) ≤ (q : Int) + 1 := by omega
      have y9 : (0 : Int) ≤ (q : Int) := by omega
      have y10 : (0 : Int) ≤ (q : Int) + 1 := by omega
      have y11 : (q : Int) + 1 ≤ (n : Int) := by omega
      have ep : ((q : Int) + 1).toNat = q + 1 := by omega
      obtain ⟨ad, rfl, _⟩ := HH.out.here (by omega)
      have hql : q < l.length := by rw [HL.out]; omega
      have HZ := Lib.hid (HSZ.out ad rfl q hql wr hb)
      have HDQ := Lib.hid (HDR.out q hql)
      have hzl := Sp.line_le l[q]
      generalize Sp.lineN l[q] = z at *
      have x4 : IntKind.i64.wrap ((s : Int) + (z : Int)) = (s : Int) + (z : Int) := by rw [IntKind.wrap_i64]; omega
      go_wp2_with fail
      refine HZ.out.mono ?_
      rintro e w2 ⟨rfl, hb2⟩
      have HB2 : Hid (Below w.heap.size w w2) := Lib.hid (hb.trans (hb2.mono hb.size))
      clear hb2 HSZ HZ hb
      by_cases hgt : most < (s : Int) + (z : Int)
      · have HR : Hid (Sp.keepL l most = l.drop (q + 1)) := Lib.hid (HEND.out (q + 1) (by rw [HL.out]; omega) HM.out (.inr (by rw [Nat.add_sub_cancel, HDQ.out, ← HS.out]; omega)))
        by_cases hcc : c = q + 1
        · obtain rfl : n = c := by omega
          subst hcc
          go_wp2_with fail
          refine (HCE.out ad 0 _).mono ?_
          rintro e w3 ⟨A', c', rfl, hr3, hb3⟩
          have HB3 : Hid (Below w.heap.size w w3) := Lib.hid (HB2.out.trans (hb3.mono HB2.out.size))
          have HR3 := Lib.hid hr3
          have HD0 : Hid (l.drop (q + 1) = []) := Lib.hid (List.drop_of_length_le (by rw [HL.out]; exact Nat.le_refl _))
          clear hb3 hr3
          go_wp2
          go_ret
          rw [HR.out, HD0.out]
          exact ⟨A', c', rfl, HR3.out, HB3.out⟩
        · have hcd : ¬ c - (q + 1) = 0 := by omega
          go_wp2_with fail
          refine (HCL.out ad rfl (q + 1) ha _ HB2.out).mono ?_
          rintro e w3 ⟨A', c', rfl, hr3, hb3⟩
          have HB3 : Hid (Below w.heap.size w w3) := Lib.hid (HB2.out.trans (hb3.mono HB2.out.size))
          have HR3 := Lib.hid hr3
          clear hb3 hr3
          go_wp2
          go_ret
          rw [HR.out, List.length_drop, HL.out]
          exact ⟨A', c', rfl, HR3.out, HB3.out⟩
      · have hle : ¬ (s : Int) + (z : Int) > most := by omega
        go_wp2
        go_roundw
        case rel => exact ⟨q, s + z, by omega, by first | rfl | go_num, by first | rfl | go_num, HB2.out, Lib.hid (by rw [HDQ.out, HS.out]; omega), Lib.hid (.inr (by rw [HDQ.out, ← HS.out]; omega))⟩
        case measure => first | (simp [intOf]; done) | (simp [intOf]; omega)

set_option maxRecDepth 100000 in
set_option maxHeartbeats 8000000 in
theorem rkeep_any (l : List RowD) (hl : Fits l) (A : Option Addr) (n c B : Nat) (most : Int) (w : World) (h : Rd w B 5 A n (rowsC l)) (hB : B ≤ w.heap.size) (hn : n ≤ 137438953472) (hc : n ≤ c) :
    Calls Tryz.prog 17 #[.slice A n c, .int .i64 most] w fun e w' => ∃ A' c', e = .returned (.slice A' (Sp.keepL l most).length c') ∧ Rd w' w'.heap.size 5 A' (Sp.keepL l most).length (rowsC (Sp.keepL l most)) ∧ Below w.heap.size w w' := by
  obtain ⟨i0, hi, hz, hs, hby⟩ := rowInfo
  have HI := Lib.hid hi
  have HIZ := Lib.hid hz
  have HIS := Lib.hid hs
  have HIB := Lib.hid hby
  clear hi hz hs hby
  have hlen : l.length = n := by have := h.1; rw [rowsC_len] at this; omega
  have HL := Lib.hid hlen
  have HLE := Lib.hid (fun k => Sp.sizeL_le (l.drop k))
  have HAT := Lib.hid (fun a => Sp.keep_at most l a)
  have HH := Lib.hid h
  have HRD : Hid (∀ ad, A = some ad → ∀ a, a ≤ n → ∀ W, Below w.heap.size w W → Rd W B 5 (some (ad.add (a * 5))) (n - a) (rowsC (l.drop a))) := Lib.hid fun ad hA a ha W hW => by
    subst hA
    have hr := (h.below (hW.mono hB)).drop a
    rwa [(rowsC_split l a (by omega)).2] at hr
  have HSZ : Hid (∀ ad, A = some ad → ∀ a, a ≤ n → ∀ W, Below w.heap.size w W → Calls Tryz.prog 15 #[.slice (some (ad.add (a * 5))) (n - a) (c - a)] W fun e w' => e = .returned (.int .i64 (Sp.sizeL (l.drop a) : Int)) ∧ Below W.heap.size W w') := Lib.hid fun ad hA a ha W hW =>
    rsize_any (l.drop a) (fun r hrr => hl r (List.mem_of_mem_drop hrr)) _ (n - a) (c - a) B W (HRD.out ad hA a ha W hW) (Nat.le_trans hB hW.size) (by omega)
  clear hlen hl
  go_enter Tryz.func17, Tryz.ntmps17
  go_wp2_with fail
  go_loopw [5] (fun iv wr => ∃ a : Nat, a ≤ n ∧ iv = .int .i64 a ∧ Below w.heap.size w wr ∧ Hid (∀ b, b < a → most < Sp.sizeL (l.drop b))) (fun iv _ => n - (intOf iv).toNat)
  case atStart => exact ⟨0, Nat.zero_le _, rfl, Below.refl _ _, Lib.hid fun b hb => absurd hb (by omega)⟩
  case round =>
    obtain ⟨a, ha, rfl, hb, HK⟩ := hrel
    by_cases hlt : a < n
    · obtain ⟨ad, rfl, _⟩ := HH.out.here (by omega)
      have x1 : (0 : Int) ≤ (a : Int) := by omega
      have x2 : (a : Int) < (n : Int) := by omega
      have x3 : (a : Int) ≤ (n : Int) := by omega
      have x4 : ¬ c - a = 0 := by omega
      have x5 : (a : Int) ≤ (c : Int) := by omega
      have x6 : ¬ c = a := by omega
      go_wp2_with fail
      refine (HSZ.out ad rfl a ha wr hb).mono ?_
      rintro e w2 ⟨rfl, hb2⟩
      have HB2 : Hid (Below w.heap.size w w2) := Lib.hid (hb.trans (hb2.mono hb.size))
      clear hb2 HSZ hb
      by_cases hle : (Sp.sizeL (l.drop a) : Int) ≤ most
      · have HR : Hid (Sp.keepL l most = l.drop a) := Lib.hid (HAT.out a (by rw [HL.out]; exact ha) (.inr hle) HK.out)
        have RR := Lib.hid (HRD.out ad rfl a ha w2 HB2.out)
        generalize Sp.sizeL (l.drop a) = z at *
        go_wp2_with (at_builtin; refine wpList_append_rd _ rfl _ _ 22 rfl w.heap.size 37 i0 (.agg zeroRow) 5 56 Tryz.underlying22 HI.out HIZ.out HIS.out HIB.out rfl (by decide) (.slice none 0 0) 0 [] rfl ⟨rfl, .inl ⟨rfl, rfl⟩⟩ (some (ad.add (a * 5))) (n - a) (c - a) B (rowsC (l.drop a)) rfl RR.out (rowsC_one _) (by simp only [maxLen]; omega) (by omega) HB2.out.size ?_)
        intro v3 w3 hown3 hgr3
        have HO3 := Lib.hid hown3
        have HB3 : Hid (Below w.heap.size w w3) := Lib.hid (HB2.out.grown hgr3 HB2.out.size (by intro k hk; cases hk))
        clear hown3 hgr3 RR
        go_wp2
        go_ret
        obtain ⟨A', c', rfl⟩ := own_slice HO3.out
        have hrd := (Rd.own HO3.out).1
        rw [HR.out, List.length_drop, HL.out]
        exact ⟨A', c', by first | rfl | simp, hrd, HB3.out⟩
      · have HKK : Hid (∀ b, b < a + 1 → most < Sp.sizeL (l.drop b)) := Lib.hid fun b hb => by
          by_cases e : b = a
          · subst e; omega
          · exact HK.out b (by omega)
        generalize Sp.sizeL (l.drop a) = z at *
        go_wp2
        go_roundw
        case rel => exact ⟨a + 1, by omega, by first | rfl | go_num, HB2.out, HKK⟩
        case measure => first | (simp [intOf]; done) | (simp [intOf]; omega)
    · have hae : a = n := by omega
      have x2 : ¬ (a : Int) < (n : Int) := by omega
      have HR : Hid (Sp.keepL l most = []) := Lib.hid (by rw [HAT.out a (by rw [HL.out]; exact ha) (.inl (by rw [HL.out]; exact hae)) HK.out, List.drop_of_length_le (by rw [HL.out]; omega)])
      go_wp2
      go_ret
      rw [HR.out]
      exact ⟨none, ⟨0, rfl⟩, Rd.empty, hb⟩

end Go.Proofs.YtkgogenmhiclcaaGreatDoor
