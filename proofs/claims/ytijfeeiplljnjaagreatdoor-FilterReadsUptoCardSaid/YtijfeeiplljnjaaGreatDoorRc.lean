/-
  Numbers as texts: the program's number, the reference's, how it writes one, how it parts a text.
-/
import Derived.Test.YtijfeeiplljnjaaGreatDoorRb
import Derived.Test.YtijfeeiplljnjaaGreatDoorShelf
import Derived.Lib.AtoiErrMem
import Derived.Lib.AppendIntMem
import Derived.Deep.QuietTactic
import Derived.BigQuiet
namespace Go.Proofs.YtijfeeiplljnjaaGreatDoor
open Go.RowKit

abbrev Tab (B : Nat) (w : World) : Prop := Lib.TabBelow Tryz.prog B w "internal/strconv.uint64pow10" .u64 Lib.pow10Tab
theorem below_grow (w : World) (k : Nat) (os : Array Obj) : Below w.heap.size w (Sort.grow (w.drewN k) os) :=
  ⟨rfl, rfl, rfl, by simp [Sort.grow], fun j hj => by simp only [Sort.grow]; exact Array.getElem?_append_left hj⟩
/-- what the library's own variables hold -/
structure Lays (w : World) : Prop where
  tab : Lib.TabIs Tryz.prog w "internal/strconv.uint64pow10" .u64 Lib.pow10Tab
  syn : ∃ t p, w.cell? ⟨2, 0, none⟩ = some (.iface t p)
  rng : ∃ t p, w.cell? ⟨3, 0, none⟩ = some (.iface t p)
  max : ∃ m, w.cell? ⟨0, 0, none⟩ = some (.int .i64 m)
/-- and hold behind whatever lays blocks alone -/
def Env (w : World) : Prop := ∀ w', Below w.heap.size w w' → Lays w'
theorem Env.on {w w' : World} (E : Env w) (hb : Below w.heap.size w w') : Env w' := fun x hx => E x (hb.trans (hx.mono hb.size))
theorem Env.here {w : World} (E : Env w) : Lays w := E w (Below.refl _ _)

theorem dig_piece (d : Nat) (h : d < 10) : ((⟨#[48, 49, 50, 51, 52, 53, 54, 55, 56, 57]⟩ : ByteArray).extract d (d + 1)) = ⟨[UInt8.ofNat (48 + d)].toArray⟩ := by
  refine WideShapes.bytes_inj ?_
  have : ∀ d : Fin 10, ((⟨#[48, 49, 50, 51, 52, 53, 54, 55, 56, 57]⟩ : ByteArray).extract d.val (d.val + 1)).data.toList = [UInt8.ofNat (48 + d.val)] := by decide +kernel
  exact this ⟨d, h⟩

namespace Sp
theorem atoi_range (l : List UInt8) (v : Int) (h : Lib.atoiAll l = .ok v) : -9223372036854775808 ≤ v ∧ v ≤ 9223372036854775807 := by
  unfold Lib.atoiAll at h
  cases l with
  | nil => cases h
  | cons c r =>
    simp only at h
    split at h
    · cases h
    · cases h
    · rename_i u hu
      have := Lib.parseMag_lt hu
      split at h
      · cases h
      · split at h
        · cases h
        · rename_i h1 h2
          injection h with h
          split at h <;> omega
theorem num_not (l : List UInt8) (h : ∀ v, Lib.atoiAll l ≠ .ok v) : numS l = none := by
  cases e : numS l with
  | none => rfl
  | some n =>
    obtain ⟨h1, _, h3⟩ := num_some l n e
    exact absurd (by rw [← h1]; exact atoi_dec n h3) (h n)
theorem num_long (l : List UInt8) (h : 10 < l.length) : numS l = none := by
  rw [numS, if_neg (by omega)]
theorem num_other (l : List UInt8) (v : Int) (h : Lib.atoiAll l = .ok v) (hn : v < 0 ∨ Lib.decDigits v.toNat ≠ l) : numS l = none := by
  cases e : numS l with
  | none => rfl
  | some n =>
    obtain ⟨h1, _, h3⟩ := num_some l n e
    have h4 := atoi_dec n h3
    rw [h1, h] at h4
    injection h4 with h4
    rcases hn with hn | hn
    · omega
    · exact absurd (by rw [h4]; simpa using h1) hn
theorem num_same (l : List UInt8) (v : Int) (h0 : ¬ v < 0) (h1 : Lib.decDigits v.toNat = l) (h2 : l.length ≤ 10) : numS l = some v.toNat ∧ (v.toNat : Int) = v := by
  refine ⟨?_, by omega⟩
  have := (dec_digits v.toNat).2.1
  rw [h1] at this
  rw [numS, this, if_pos ⟨h1, h2⟩]
end Sp

/-- what is handed back for a number -/
def numE (o : Option Nat) : Value := match o with
  | none => .tuple #[.int .i64 0, .bool false]
  | some n => .tuple #[.int .i64 n, .bool true]
theorem numE_of {o : Option Nat} {v : Int} (h : o = some v.toNat ∧ (v.toNat : Int) = v) : numE o = .tuple #[.int .i64 v, .bool true] := by
  rw [h.1]
  exact congrArg (fun x => Value.tuple #[.int .i64 x, .bool true]) h.2

theorem itoa_any (n : Int) (w : World) (h0 : 0 ≤ n) (h1 : n ≤ 9223372036854775807) (E : Env w) :
    Calls Tryz.prog 30 #[.int .i64 n] w fun e w' => e = .returned (.string ⟨(Lib.decDigits n.toNat).toArray⟩) ∧ Below w.heap.size w w' := by
  refine (Tryz.strconv_Itoa n (by omega) h1 w E.here.tab).mono ?_
  rintro e w' ⟨rfl, k, os, rfl⟩
  refine ⟨?_, below_grow w k os⟩
  have : Lib.itoa n = Lib.decDigits n.toNat := by unfold Lib.itoa; rw [if_neg (by omega)]
  rw [this]
theorem atoi_bad (s : ByteArray) (w : World) (hs : s.size ≤ 140737488355328) (E : Env w) (h : ∀ v, Lib.atoiAll s.data.toList ≠ .ok v) :
    Calls Tryz.prog 71 #[.string s] w fun e w' => ∃ v t N, e = .returned (.tuple #[.int .i64 v, .iface t (.pointer (some ⟨N, 0, none⟩))]) ∧ Below w.heap.size w w' := by
  match e : Lib.atoiAll s.data.toList with
  | Lib.NumEnd.ok v => exact absurd e (h v)
  | Lib.NumEnd.syntax =>
    obtain ⟨t, p, hc⟩ := E.here.syn
    refine (Tryz.strconv_Atoi_syntax s (by omega) e _ w hc (.inr ⟨_, _, rfl⟩)).mono ?_
    rintro e' w' ⟨N, rfl, _, _, hb⟩
    exact ⟨_, _, _, rfl, hb⟩
  | Lib.NumEnd.range =>
    obtain ⟨t, p, hc⟩ := E.here.rng
    refine (Tryz.strconv_Atoi_range s (by omega) e _ w hc (.inr ⟨_, _, rfl⟩)).mono ?_
    rintro e' w' ⟨N, rfl, _, _, hb⟩
    exact ⟨_, _, _, rfl, hb⟩
theorem atoi_good (s : ByteArray) (w : World) (v : Int) (hs : s.size ≤ 140737488355328) (h : Lib.atoiAll s.data.toList = .ok v) :
    Calls Tryz.prog 71 #[.string s] w fun e w' => e = .returned (.tuple #[.int .i64 v, .nilIface]) ∧ Below w.heap.size w w' := by
  refine (Tryz.strconv_Atoi_ok s (by omega) v h w).mono ?_
  rintro e' w' ⟨rfl, rfl | ⟨t, rfl⟩⟩
  · exact ⟨rfl, Below.refl _ _⟩
  · exact ⟨rfl, Lib.bytesWorld_below w 5 t⟩

set_option maxRecDepth 100000 in
set_option maxHeartbeats 4000000 in
theorem number_any (s : ByteArray) (w : World) (hs : s.size ≤ 140737488355328) (E : Env w) :
    Calls Tryz.prog 40 #[.string s] w fun e w' => e = .returned (numE (Sp.numS s.data.toList)) ∧ Below w.heap.size w w' := by
  have hz : s.data.toList.length = s.size := by simp
  by_cases hg : ∀ v, Lib.atoiAll s.data.toList ≠ .ok v
  · have HN := Lib.hid (Sp.num_not _ hg)
    go_enter Tryz.func40, Tryz.ntmps40
    go_wp2_with fail
    refine (atoi_bad s w hs E hg).mono ?_
    rintro e w1 ⟨v, t, N, rfl, hb⟩
    go_wp2
    go_ret2
    exact ⟨by rw [HN.out]; rfl, hb⟩
  · have hg' : ∃ v, Lib.atoiAll s.data.toList = .ok v := Classical.byContradiction fun h => hg fun v hv => h ⟨v, hv⟩
    obtain ⟨v, hv⟩ := hg'
    have HR := Sp.atoi_range _ _ hv
    have HV := Lib.hid hv
    clear hg
    by_cases h10 : 10 < s.size
    · have HN := Lib.hid (Sp.num_long s.data.toList (by omega))
      have h10' : (10 : Int) < (s.size : Int) := by omega
      clear hz
      go_enter Tryz.func40, Tryz.ntmps40
      go_wp2_with fail
      refine (atoi_good s w v hs HV.out).mono ?_
      rintro e w1 ⟨rfl, hb⟩
      go_wp2
      go_ret2
      exact ⟨by rw [HN.out]; rfl, hb⟩
    · have h10' : ¬ (10 : Int) < (s.size : Int) := by omega
      by_cases h0 : v < 0
      · have HN := Lib.hid (Sp.num_other _ v hv (.inl h0))
        clear hz hv
        go_enter Tryz.func40, Tryz.ntmps40
        go_wp2_with fail
        refine (atoi_good s w v hs HV.out).mono ?_
        rintro e w1 ⟨rfl, hb⟩
        go_wp2
        go_ret2
        exact ⟨by rw [HN.out]; rfl, hb⟩
      · have HD : Hid (∀ b, ((⟨(Lib.decDigits v.toNat).toArray⟩ : ByteArray).toList == s.toList) = b → (b = true → Sp.numS s.data.toList = some v.toNat ∧ (v.toNat : Int) = v) ∧ (b = false → Sp.numS s.data.toList = none)) := Lib.hid fun b hb => by
          rw [Sp.bytes_list, Sp.bytes_list] at hb
          constructor
          · rintro rfl
            exact Sp.num_same _ v h0 (by simpa using hb) (by omega)
          · rintro rfl
            exact Sp.num_other _ v hv (.inr (by simpa using hb))
        have h2 := HR.2
        clear hz hv
        generalize hds : (⟨(Lib.decDigits v.toNat).toArray⟩ : ByteArray) = ds at *
        have HDS := Lib.hid hds
        clear hds
        cases ht : (ds.toList == s.toList)
        all_goals
          have HF := Lib.hid (HD.out _ ht)
          go_enter Tryz.func40, Tryz.ntmps40
          go_wp2_with fail
          refine (atoi_good s w v hs HV.out).mono ?_
          rintro e w1 ⟨rfl, hb⟩
          go_wp2_with fail
          refine (itoa_any v w1 (by omega) h2 (E.on hb)).mono ?_
          rintro e w2 ⟨rfl, hb2⟩
          have hf := hb.trans (hb2.mono hb.size)
          rw [HDS.out]
          clear hb hb2
          go_wp2
          go_ret2
          refine ⟨?_, hf⟩
          first
          | (have hn := HF.out.2 (by trivial)
             rw [hn]
             rfl)
          | (have hn := HF.out.1 (by trivial)
             rw [numE_of hn]
             rfl)

namespace Sp
theorem dec_canon : ∀ (k : Nat) (l : List UInt8), l.length ≤ k → l ≠ [] → (∀ c ∈ l, digit c = true) → (l.length = 1 ∨ l.head? ≠ some 48) → Lib.decDigits (decV l) = l := by
  intro k
  induction k with
  | zero => intro l hk h0; exact absurd (List.length_eq_zero_iff.1 (by omega)) h0
  | succ k ih =>
    intro l hk h0 hd hc
    have e := (List.dropLast_concat_getLast h0).symm
    generalize l.dropLast = a at e
    generalize l.getLast h0 = c at e
    subst e
    have hcd := hd c (by simp)
    simp [digit] at hcd
    have hcc : UInt8.ofNat (48 + (c.toNat - 48)) = c := by
      rw [show 48 + (c.toNat - 48) = c.toNat by omega]; simp
    by_cases ha : a = []
    · subst ha
      have ev : decV [c] = c.toNat - 48 := by simp [decV]
      rw [List.nil_append, ev, Lib.decDigits, dif_pos (by omega), hcc]
    · obtain ⟨h, t, rfl⟩ : ∃ h t, a = h :: t := by
        cases a with
        | nil => exact absurd rfl ha
        | cons h t => exact ⟨h, t, rfl⟩
      have hh : h ≠ 48 := by
        rcases hc with hc | hc
        · simp at hc
        · rintro rfl; exact hc rfl
      have hhd := hd h (by simp)
      simp [digit] at hhd
      have h48 : h.toNat ≠ 48 := fun e => hh (by apply UInt8.toNat_inj.1; simpa using e)
      have hpos : 1 ≤ decV (h :: t) := by
        have := fold_ge t (10 * 0 + (h.toNat - 48))
        have e : decV (h :: t) = t.foldl (fun n c => 10 * n + (c.toNat - 48)) (10 * 0 + (h.toNat - 48)) := rfl
        omega
      have := ih (h :: t) (by simp at hk ⊢; omega) (by simp) (fun x hx => hd x (List.mem_append.2 (.inl hx))) (.inr (by simpa using hh))
      rw [decV_snoc, Lib.decDigits, dif_neg (by omega), show (10 * decV (h :: t) + (c.toNat - 48)) / 10 = decV (h :: t) by omega, this, show (10 * decV (h :: t) + (c.toNat - 48)) % 10 = c.toNat - 48 by omega, hcc]
theorem dec_head (n : Nat) (h : 1 ≤ n) : (Lib.decDigits n).head? ≠ some 48 := by
  induction n using Nat.strongRecOn with
  | ind n ih =>
    rw [Lib.decDigits]
    split
    · rename_i hs
      intro e
      simp at e
      have := congrArg UInt8.toNat e
      rw [UInt8.toNat_ofNat'] at this
      simp at this
      omega
    · rename_i hs
      have := ih (n / 10) (by omega) (by omega)
      have h2 := (dec_digits (n / 10)).2.2
      cases e : Lib.decDigits (n / 10) with
      | nil => exact absurd e h2
      | cons c r => rw [e] at this; simpa using this
/-- the reference's number of a text whose bytes are as they should be -/
theorem numR_yes (m : Nat) (l : List UInt8) (hm : l.length ≤ m) (h10 : m ≤ 10) (h0 : l ≠ []) (hd : ∀ c ∈ l, digit c = true) (hc : l.length = 1 ∨ l.head? ≠ some 48) : numR m l = decV l := by
  rw [numR, if_pos hm, numS, if_pos ⟨dec_canon _ l (Nat.le_refl _) h0 hd hc, by omega⟩]
theorem numR_no (m : Nat) (l : List UInt8) (h : l = [] ∨ m < l.length ∨ (1 < l.length ∧ l.head? = some 48) ∨ ∃ c ∈ l, digit c = false) : numR m l = -1 := by
  unfold numR
  split
  · rename_i hm
    cases e : numS l with
    | none => rfl
    | some n =>
      obtain ⟨h1, _, h3⟩ := num_some l n e
      have hd := dec_digits n
      rcases h with h | h | ⟨h, h'⟩ | ⟨c, h, h'⟩
      · exact absurd (h1.trans h) hd.2.2
      · omega
      · by_cases hn : 1 ≤ n
        · exact absurd (by rw [h1]; exact h') (dec_head n hn)
        · obtain rfl : n = 0 := by omega
          rw [← h1] at h
          revert h
          rw [Lib.decDigits, dif_pos (by omega)]
          simp
      · rw [hd.1 c (by rw [h1]; exact h)] at h'
        cases h'
  · rfl
theorem byte_48 (c : UInt8) (h : ((c.toNat : Int) == 48) = true) : c = 48 := by
  apply UInt8.toNat_inj.1
  have h2 : (c.toNat : Int) = 48 := by simpa using h
  show c.toNat = 48
  omega
theorem dec_next (s : ByteArray) (k : Nat) (h : k < s.size) : decV (s.data.toList.take (k + 1)) = 10 * decV (s.data.toList.take k) + (s[k].toNat - 48) := by
  rw [take_succ s k h, decV_snoc]
end Sp

set_option maxRecDepth 100000 in
set_option maxHeartbeats 4000000 in
theorem rnumber_any (s : ByteArray) (m : Nat) (w : World) (hm : m ≤ 10) (h1m : 1 ≤ m) (hs : s.size ≤ 140737488355328) :
    Calls Tryz.prog 49 #[.string s, .int .i64 m] w fun e w' => e = .returned (.int .i64 (Sp.numR m s.data.toList)) ∧ w = w' := by
  have hz : s.data.toList.length = s.size := by simp
  have HNO := Lib.hid (Sp.numR_no m s.data.toList)
  rw [hz] at HNO
  have HYES := Lib.hid (Sp.numR_yes m s.data.toList)
  rw [hz] at HYES
  by_cases h0 : s.size = 0
  · have h0' : s.toList.isEmpty = true := by rw [Sp.bytes_list]; simpa using List.length_eq_zero_iff.1 (hz.trans h0)
    have HN := Lib.hid (HNO.out (.inl (List.length_eq_zero_iff.1 (hz.trans h0))))
    clear hz
    go_enter Tryz.func49, Tryz.ntmps49
    go_wp2
    go_ret
    exact ⟨by rw [HN.out]; rfl, rfl⟩
  · have h0' : s.toList.isEmpty = false := by
      rw [Sp.bytes_list]
      cases e : s.data.toList with
      | nil => rw [e] at hz; exact absurd hz.symm h0
      | cons a b => rfl
    have HE : Hid (s.data.toList ≠ []) := Lib.hid fun e => by rw [e] at hz; exact h0 hz.symm
    by_cases hl : m < s.size
    · have hl' : (m : Int) < (s.size : Int) := by omega
      have HN := Lib.hid (HNO.out (.inr (.inl hl)))
      clear hz
      go_enter Tryz.func49, Tryz.ntmps49
      go_wp2
      go_ret
      exact ⟨by rw [HN.out]; rfl, rfl⟩
    · have hl' : ¬ (m : Int) < (s.size : Int) := by omega
      have HH : Hid (∀ hx : 0 < s.size, s.data.toList.head? = some s[0]) := Lib.hid fun hx => by
        rw [List.head?_eq_getElem?, List.getElem?_eq_getElem (by rw [hz]; exact hx)]; rfl
      have hp : 0 < s.size := by omega
      have hf : ((s[0].toNat : Int) == 48) = true ∧ 1 < s.size ∨ ¬ (((s[0].toNat : Int) == 48) = true ∧ 1 < s.size) := Classical.em _
      rcases hf with ⟨hf, hg⟩ | hf
      · have hg' : (1 : Int) < (s.size : Int) := by omega
        have HN := Lib.hid (HNO.out (.inr (.inr (.inl ⟨hg, by rw [HH.out hp, Sp.byte_48 _ hf]⟩))))
        clear hz
        go_enter Tryz.func49, Tryz.ntmps49
        go_wp2
        go_ret
        exact ⟨by rw [HN.out]; rfl, rfl⟩
      · have HC : Hid (s.size = 1 ∨ s.data.toList.head? ≠ some 48) := Lib.hid (by
          by_cases h1 : s.size = 1
          · exact .inl h1
          · refine .inr fun e => hf ⟨?_, by omega⟩
            rw [HH.out hp] at e
            injection e with e
            rw [e]
            rfl)
        have HAT : Hid (∀ k (h : k < s.size), s[k] ∈ s.data.toList) := Lib.hid fun k h => List.mem_iff_getElem.2 ⟨k, by rw [hz]; exact h, rfl⟩
        have HALL : Hid (∀ (h : ∀ c ∈ s.data.toList.take s.size, Sp.digit c = true), ∀ c ∈ s.data.toList, Sp.digit c = true) := Lib.hid fun h c hc => h c (by rw [List.take_of_length_le (by omega)]; exact hc)
        have HTK : Hid (s.data.toList.take s.size = s.data.toList) := Lib.hid (List.take_of_length_le (by omega))
        have hs10 : s.size ≤ 10 := by omega
        have ho : decide ((1 : Int) < (s.size : Int)) = true ∧ ((s[0].toNat : Int) == 48) = false ∨ decide ((1 : Int) < (s.size : Int)) = false := by
          by_cases h1 : (1 : Int) < (s.size : Int)
          · refine .inl ⟨decide_eq_true h1, ?_⟩
            cases hb : ((s[0].toNat : Int) == 48) with
            | false => rfl
            | true => exact absurd ⟨hb, by omega⟩ hf
          · exact .inr (decide_eq_false h1)
        clear hz hf hl h0
        rcases ho with ⟨ho, ho2⟩ | ho
        all_goals
          go_enter Tryz.func49, Tryz.ntmps49
          go_wp2_with fail
          go_loop [5, 6] (fun n i => ∃ (k v : Nat), k ≤ s.size ∧ i = .int .i64 k ∧ n = .int .i64 v ∧ v < 10 ^ k ∧ Hid (v = Sp.decV (s.data.toList.take k)) ∧ Hid (∀ c ∈ s.data.toList.take k, Sp.digit c = true)) (fun _ i => s.size - (intOf i).toNat)
          case atStart => exact ⟨0, 0, Nat.zero_le _, rfl, rfl, by decide, Lib.hid rfl, Lib.hid (by intro c hc; cases hc)⟩
          case round =>
            obtain ⟨k, v, hk, rfl, rfl, hv, HV, HK⟩ := hrel
            have hpow : 10 ^ k ≤ 10 ^ 10 := Nat.pow_le_pow_right (by decide) (by omega)
            have hv10 : v < 10000000000 := Nat.lt_of_lt_of_le hv hpow
            clear hpow
            by_cases hlt : k < s.size
            · cases hc : Sp.digit s[k] with
              | false =>
                have HN := Lib.hid (HNO.out (.inr (.inr (.inr ⟨_, HAT.out k hlt, hc⟩))))
                have hor : (s[k].toNat : Int) < 48 ∨ (¬ (s[k].toNat : Int) < 48 ∧ (57 : Int) < (s[k].toNat : Int)) := by
                  simp [Sp.digit] at hc; omega
                clear hc hv
                rcases hor with g1 | ⟨g1, g2⟩
                · go_wp2
                  go_ret
                  exact ⟨by rw [HN.out]; rfl, rfl⟩
                · go_wp2
                  go_ret
                  exact ⟨by rw [HN.out]; rfl, rfl⟩
              | true =>
                have hdv : 48 ≤ s[k].toNat ∧ s[k].toNat ≤ 57 := by simpa [Sp.digit] using hc
                have HD := Lib.hid (Sp.dec_next s k hlt)
                have HK2 : Hid (∀ c ∈ s.data.toList.take (k + 1), Sp.digit c = true) := Lib.hid (by
                  rw [Sp.take_succ s k hlt]
                  intro c hx
                  rcases List.mem_append.1 hx with hx | hx
                  · exact HK.out c hx
                  · rw [List.mem_singleton] at hx; subst hx; exact hc)
                have e48 : ¬ (s[k].toNat : Int) < 48 := by omega
                have e57 : ¬ (57 : Int) < (s[k].toNat : Int) := by omega
                have hnx : 10 * v + (s[k].toNat - 48) < 10 ^ (k + 1) := by rw [Nat.pow_succ]; omega
                clear hc hdv hv
                go_wp2
                go_round
                case rel => exact ⟨k + 1, 10 * v + (s[k].toNat - 48), by omega, by go_num, by go_num, hnx, Lib.hid (by rw [HD.out, ← HV.out]), HK2⟩
                case measure => first | (simp [intOf]; done) | (simp [intOf]; omega)
            · obtain rfl : k = s.size := by omega
              have HN := Lib.hid (HYES.out (by omega) hm HE.out (HALL.out HK.out) HC.out)
              rw [HTK.out] at HV
              clear hv
              go_wp2
              go_ret
              exact ⟨by rw [HN.out, HV.out]; rfl, rfl⟩

namespace Sp
theorem cutC_at (c : UInt8) : ∀ (k : Nat) (l : List UInt8) (h : k < l.length), (∀ x ∈ l.take k, x ≠ c) → l[k] = c → cutC c l = (l.take k, l.drop (k + 1), true)
  | 0, b :: r, _, _, hc => by
    have hc : b = c := hc
    simp [cutC, hc]
  | k + 1, b :: r, h, hn, hc => by
    have hb : b ≠ c := hn b (by simp)
    have := cutC_at c k r (by simpa using h) (fun x hx => hn x (by simp [hx])) hc
    simp [cutC, hb, this]
theorem cutC_miss (c : UInt8) : ∀ (l : List UInt8), (∀ x ∈ l, x ≠ c) → cutC c l = (l, [], false)
  | [], _ => rfl
  | b :: r, h => by
    have := cutC_miss c r (fun x hx => h x (by simp [hx]))
    simp [cutC, h b (by simp), this]
end Sp

set_option maxRecDepth 100000 in
set_option maxHeartbeats 4000000 in
theorem cut_any' (s : ByteArray) (c : UInt8) (w : World) (hs : s.size ≤ 140737488355328) :
    Calls Tryz.prog 43 #[.string s, .int .u8 c.toNat] w fun e w' => e = .returned (.tuple #[.string (Sp.toB (Sp.cutC c s.data.toList).1), .string (Sp.toB (Sp.cutC c s.data.toList).2.1), .bool (Sp.cutC c s.data.toList).2.2]) ∧ Below w.heap.size w w' := by
  have hz : s.data.toList.length = s.size := by simp
  have HAT : Hid (∀ k (h : k < s.size), (∀ x ∈ s.data.toList.take k, x ≠ c) → s[k] = c → Sp.toB (Sp.cutC c s.data.toList).1 = s.extract 0 k ∧ Sp.toB (Sp.cutC c s.data.toList).2.1 = s.extract (k + 1) s.size ∧ (Sp.cutC c s.data.toList).2.2 = true) := Lib.hid fun k h h1 h2 => by
    have e := Sp.cutC_at c k s.data.toList (by omega) h1 h2
    rw [e]
    refine ⟨WideShapes.bytes_inj ?_, WideShapes.bytes_inj ?_, rfl⟩
    · rw [Sp.toB_list, Lib.extract_from_zero]
    · rw [Sp.toB_list, Lib.extract_to_end]
  have HMISS : Hid ((∀ x ∈ s.data.toList.take s.size, x ≠ c) → Sp.toB (Sp.cutC c s.data.toList).1 = s ∧ Sp.toB (Sp.cutC c s.data.toList).2.1 = ⟨#[]⟩ ∧ (Sp.cutC c s.data.toList).2.2 = false) := Lib.hid fun h => by
    rw [List.take_of_length_le (by omega)] at h
    rw [Sp.cutC_miss c _ h]
    exact ⟨Sp.toB_of s, rfl, rfl⟩
  generalize Sp.toB (Sp.cutC c s.data.toList).1 = A at *
  generalize Sp.toB (Sp.cutC c s.data.toList).2.1 = B at *
  generalize (Sp.cutC c s.data.toList).2.2 = C at *
  clear hz
  go_enter Tryz.func43, Tryz.ntmps43
  go_wp2_with fail
  go_loop [7] (fun i => ∃ (k : Nat), k ≤ s.size ∧ i = .int .i64 k ∧ Hid (∀ x ∈ s.data.toList.take k, x ≠ c)) (fun i => s.size - (intOf i).toNat)
  case atStart => exact ⟨0, Nat.zero_le _, rfl, Lib.hid (by intro x hx; cases hx)⟩
  case round =>
    obtain ⟨k, hk, rfl, HK⟩ := hrel
    by_cases hlt : k < s.size
    · cases hc : ((s[k].toNat : Int) == (c.toNat : Int)) with
      | true =>
        have he : s[k] = c := by apply UInt8.toNat_inj.1; have h2 : (s[k].toNat : Int) = (c.toNat : Int) := by simpa using hc
                                 omega
        obtain ⟨q1, q2, q3⟩ := HAT.out k hlt HK.out he
        have QQ := Lib.hid (And.intro q1 (And.intro q2 q3))
        have y4 : IntKind.i64.wrap ((k : Int) + 1) = ((k + 1 : Nat) : Int) := by rw [IntKind.wrap_i64]; omega
        have y5 : (k : Int) + 1 ≤ (s.size : Int) := by omega
        clear q1 q2 q3 he
        go_wp2_with fail
        go_quiet (fail)
        go_wp2
        go_ret3
        refine ⟨?_, belowQ (Below.refl _ _) _⟩
        rw [QQ.out.1, QQ.out.2.1, QQ.out.2.2]
        rfl
      | false =>
        have he : s[k] ≠ c := fun e => by rw [e] at hc; simp at hc
        have HN : Hid (∀ x ∈ s.data.toList.take (k + 1), x ≠ c) := Lib.hid (by
          rw [Sp.take_succ s k hlt]
          intro x hx
          rcases List.mem_append.1 hx with hx | hx
          · exact HK.out x hx
          · rw [List.mem_singleton] at hx; subst hx; exact he)
        clear he
        go_wp2
        go_round
        case rel => exact ⟨k + 1, by omega, by go_num, HN⟩
        case measure => first | (simp [intOf]; done) | (simp [intOf]; omega)
    · obtain rfl : k = s.size := by omega
      have QQ := Lib.hid (HMISS.out HK.out)
      go_wp2
      go_ret3
      refine ⟨?_, Below.refl _ _⟩
      rw [QQ.out.1, QQ.out.2.1, QQ.out.2.2]
      rfl

end Go.Proofs.YtijfeeiplljnjaaGreatDoor
