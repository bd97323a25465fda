/-
  The walk of the law of two texts' spans.
-/
import Derived.Test.YtnfbhhffclahjaaDoorTsU
namespace Go.Proofs.YtnfbhhffclahjaaDoor
open Go.RowKit Go.Lib Go.Sort

theorem sumS_le : ∀ (l : List (List UInt8)) (t n : Nat), t ≤ 6311433600 → Sp.sumS l t = some n → n ≤ 6311433600
  | [], t, n, ht, h => by simp [Sp.sumS] at h; omega
  | w :: r, t, n, ht, h => by
    unfold Sp.sumS at h
    cases hw : Sp.wordS w with
    | none => rw [hw] at h; simp at h
    | some m =>
      rw [hw] at h
      simp only at h
      split at h
      · simp at h
      · exact sumS_le r (t + m) n (by omega) h
theorem parseL_le (s : List UInt8) : (Sp.parseL s).1 ≤ 1099511627776 := by
  unfold Sp.parseL
  split
  · simp
  · cases h : Sp.sumS (Sp.partsOf s) 0 with
    | none => simp
    | some n => have := sumS_le _ 0 n (by omega) h; simp only; omega

set_option maxHeartbeats 4000000 in
theorem spanWords_u (a b : ByteArray) (w : World) (ha : a.size ≤ 1048576) (hb : b.size ≤ 1048576) (HT : Hid (Tab w.heap.size w)) :
    Calls Tryd.prog 5 #[.string a, .string b] w fun e w' => e = .returned (.bool true) ∧ Below w.heap.size w w' := by
  have h1 := parseL_le a.data.toList
  have h2 := parseL_le b.data.toList
  have hlaw := Sp.parse_two a.data.toList b.data.toList
  have et : (a ++ ⟨#[32, 32]⟩ ++ b).data.toList = a.data.toList ++ 32 :: 32 :: b.data.toList := by simp
  have eu : ((⟨#[32]⟩ : ByteArray) ++ b ++ ⟨#[32]⟩ ++ a).data.toList = 32 :: (b.data.toList ++ 32 :: a.data.toList) := by simp
  have e32 : (⟨#[32]⟩ : ByteArray).size = 1 := rfl
  have e322 : (⟨#[32, 32]⟩ : ByteArray).size = 2 := rfl
  have st : (a ++ ⟨#[32, 32]⟩ ++ b).size ≤ 4294967296 := by simp only [ByteArray.size_append, e322]; omega
  have su : ((⟨#[32]⟩ : ByteArray) ++ b ++ ⟨#[32]⟩ ++ a).size ≤ 4294967296 := by simp only [ByteArray.size_append, e32]; omega
  rw [← et, ← eu] at hlaw
  have h3 := parseL_le (a ++ ⟨#[32, 32]⟩ ++ b).data.toList
  have h4 := parseL_le ((⟨#[32]⟩ : ByteArray) ++ b ++ ⟨#[32]⟩ ++ a).data.toList
  generalize hx : Sp.parseL a.data.toList = px at *
  generalize hy : Sp.parseL b.data.toList = py at *
  generalize hz : Sp.parseL (a ++ ⟨#[32, 32]⟩ ++ b).data.toList = pz at *
  generalize hu : Sp.parseL ((⟨#[32]⟩ : ByteArray) ++ b ++ ⟨#[32]⟩ ++ a).data.toList = pu at *
  obtain ⟨x, ok⟩ := px
  obtain ⟨y, is⟩ := py
  obtain ⟨z, both⟩ := pz
  obtain ⟨u, turned⟩ := pu
  dsimp only at h1 h2 h3 h4 hlaw
  have HX := Lib.hid hx
  have HY := Lib.hid hy
  have HZ := Lib.hid hz
  have HU := Lib.hid hu
  clear hx hy hz hu et eu e32 e322
  go_enter Tryd.func5, Tryd.ntmps5
  go_wp2_with fail
  refine (shown_any _ HT).mono ?_
  rintro e w1 ⟨rfl, hb1⟩
  go_wp2_with fail
  refine (parse_any a _ (by omega)).mono ?_
  rintro e w2 ⟨rfl, hb2⟩
  rw [HX.out]
  simp only [spanE]
  go_wp2_with fail
  refine (parse_any b _ (by omega)).mono ?_
  rintro e w3 ⟨rfl, hb3⟩
  rw [HY.out]
  simp only [spanE]
  go_wp2_with fail
  generalize a ++ ⟨#[32, 32]⟩ ++ b = tt at st HZ ⊢
  refine (parse_any tt _ st).mono ?_
  rintro e w4 ⟨rfl, hb4⟩
  rw [HZ.out]
  simp only [spanE]
  go_wp2_with fail
  generalize (⟨#[32]⟩ : ByteArray) ++ b ++ ⟨#[32]⟩ ++ a = uu at su HU ⊢
  refine (parse_any uu _ su).mono ?_
  rintro e w5 ⟨rfl, hb5⟩
  rw [HU.out]
  simp only [spanE]
  have hbb := (((hb1.trans (hb2.mono hb1.size)).trans (hb3.mono (Nat.le_trans hb1.size hb2.size))).trans (hb4.mono (Nat.le_trans hb1.size (Nat.le_trans hb2.size hb3.size)))).trans (hb5.mono (Nat.le_trans hb1.size (Nat.le_trans hb2.size (Nat.le_trans hb3.size hb4.size))))
  clear hb1 hb2 hb3 hb4 hb5
  cases ok with
  | false =>
    clear hlaw
    go_wp2
    go_ret
    exact ⟨rfl, hbb⟩
  | true =>
    cases is with
    | false =>
      clear hlaw
      go_wp2
      go_ret
      exact ⟨rfl, hbb⟩
    | true =>
      by_cases hx : x ≤ 6311433600
      · by_cases hy : y ≤ 6311433600
        · obtain ⟨l1, l2⟩ := hlaw rfl rfl hx hy
          by_cases hov : 6311433600 < x + y
          · rw [if_pos hov] at l1
            obtain ⟨rfl, rfl⟩ := Prod.mk.inj l1
            obtain ⟨rfl, rfl⟩ := Prod.mk.inj l2
            clear l1 l2
            go_wp2
            go_ret
            exact ⟨rfl, hbb⟩
          · rw [if_neg hov] at l1
            obtain ⟨rfl, rfl⟩ := Prod.mk.inj l1
            obtain ⟨rfl, rfl⟩ := Prod.mk.inj l2
            clear l1 l2
            have q1 : (((x + y : Nat) : Int) == (x : Int) + (y : Int)) = true := by simp
            have q2 : (((x + y : Nat) : Int) == ((x + y : Nat) : Int)) = true := by simp
            go_wp2
            go_ret
            exact ⟨by first | rfl | simp, hbb⟩
        · clear hlaw
          go_wp2
          go_ret
          exact ⟨rfl, hbb⟩
      · clear hlaw
        go_wp2
        go_ret
        exact ⟨rfl, hbb⟩

end Go.Proofs.YtnfbhhffclahjaaDoor
