/-
  The walk of the law of doubled percent signs, and of two texts.
-/
import Derived.Test.YtcefnglmacpehaaLw2
namespace Go.Proofs.Ytcefnglmacpehaa
open Go.RowKit

namespace Sp
theorem goL_len (u : List UInt8) (hm : mayL u = true) : ∀ (n : Nat) (s t : List UInt8), s.length ≤ n → goL u s = some t → t.length ≤ 60 * s.length
  | _, [], t, _, h => by
    simp [goL] at h
    subst h
    simp
  | 0, c :: r, t, hn, h => by simp at hn
  | n + 1, c :: r, t, hn, h => by
    by_cases hc : c = 37
    · subst hc
      match r with
      | [] => simp [goL] at h
      | d :: r2 =>
        rw [goL, if_pos rfl] at h
        cases hs : standsL d u with
        | none => simp [hs] at h
        | some x =>
          simp only [hs] at h
          obtain ⟨y, hy, rfl⟩ := Option.map_eq_some_iff.1 h
          have h1 := standsL_len _ _ _ hm hs
          have h2 := goL_len u hm n r2 y (by simp at hn; omega) hy
          simp only [List.length_append, List.length_cons]
          omega
    · rw [goL_other u c r hc] at h
      obtain ⟨y, hy, rfl⟩ := Option.map_eq_some_iff.1 h
      have h2 := goL_len u hm n r y (by simp at hn; omega) hy
      simp only [List.length_cons]
      omega
theorem specL_len (s u : List UInt8) : (specL s u).1.length ≤ 60 * s.length := by
  unfold specL
  split
  · rename_i h
    split
    · rename_i t ht
      exact goL_len u h s.length s t (Nat.le_refl _) ht
    · simp
  · simp
theorem specL_err (s u : List UInt8) (h : mayL u = true) : (specL s u).2 = 0 ∨ (specL s u).2 = 14 := by
  simp only [specL, h, if_true]
  split <;> simp
end Sp

theorem expandPercent_u (a b u : ByteArray) (w : World) (ha : a.size ≤ 1048576) (hbz : b.size ≤ 1048576) (hu : u.size ≤ 1048576) :
    Calls Try.prog 5 #[.string a, .string b, .string u] w fun e w' => e = .returned (.bool true) ∧ Below w.heap.size w w' := by
  by_cases hm : Sp.mayL u.data.toList = true
  · have HM := Lib.hid hm
    clear hm
    go_enter Try.func5, Try.ntmps5
    go_wp2_with fail
    refine (shown_any _).mono ?_
    rintro e w1 ⟨rfl, hb1⟩
    go_wp2_with fail
    refine (may_any u w1 (by omega)).mono ?_
    rintro e w2 ⟨rfl, hb2⟩
    rw [HM.out]
    have hb := hb1.trans (hb2.mono hb1.size)
    clear hb1 hb2
    go_wp2_with fail
    go_loop [9, 10] (fun d j => ∃ (k : Nat) (ob : ByteArray), k ≤ a.size ∧ d = .string ob ∧ j = .int .i64 k ∧ Hid (DblRel 37 a k ob)) (fun _ j => a.size - (intOf j).toNat)
    case atStart => exact ⟨0, ⟨#[]⟩, Nat.zero_le _, rfl, rfl, Lib.hid (DblRel.start _ _)⟩
    case round =>
      obtain ⟨k, ob, hk, rfl, rfl, HR⟩ := hrel
      have hac : ob.size ≤ 2 * k := HR.out.2
      by_cases hlt : k < a.size
      · have x1 : (0 : Int) ≤ (k : Int) + 1 := by omega
        have x2 : (k : Int) + 1 ≤ (a.size : Int) := by omega
        have x3 : (k : Int) ≤ (k : Int) + 1 := by omega
        have HX := Lib.hid (Sp.ext_one a k hlt)
        by_cases hc : (a[k].toNat : Int) = 37
        · have hcb : ((a[k].toNat : Int) == 37) = true := by simpa using hc
          have HC : Hid (a[k] = 37) := Lib.hid (UInt8.toNat_inj.1 (by simpa using (by omega : a[k].toNat = 37)))
          clear hc
          go_wp2
          go_round
          case rel => exact ⟨k + 1, _, by omega, rfl, by go_num, Lib.hid (HR.out.two hlt HC.out (by have hx := HX.out; simp at hx; simp [hx]))⟩
          case measure => first | (simp [intOf]; done) | (simp [intOf]; omega)
        · have hcb : ((a[k].toNat : Int) == 37) = false := by simpa using hc
          have HC : Hid (a[k] ≠ 37) := Lib.hid (fun h => hc (by rw [h]; rfl))
          clear hc
          go_wp2
          go_round
          case rel => exact ⟨k + 1, _, by omega, rfl, by go_num, Lib.hid (HR.out.plain hlt HC.out (by have hx := HX.out; simp at hx; simp [hx]))⟩
          case measure => first | (simp [intOf]; done) | (simp [intOf]; omega)
      · have HD := Lib.hid (HR.out.done hlt)
        have hab : (a ++ b).data.toList = a.data.toList ++ b.data.toList := by simp
        have habs : (a ++ b).size ≤ 2097152 := by simp; omega
        have HE : Hid (Sp.specL ob.data.toList u.data.toList = (a.data.toList, 0)) := Lib.hid (by rw [HD.out]; exact Sp.spec_dbl _ _ HM.out)
        have hx := Sp.spec_app a.data.toList b.data.toList u.data.toList HM.out
        have lx := Sp.specL_len a.data.toList u.data.toList
        have ly := Sp.specL_len b.data.toList u.data.toList
        have ex := Sp.specL_err a.data.toList u.data.toList HM.out
        have ey := Sp.specL_err b.data.toList u.data.toList HM.out
        rw [← hab] at hx
        have ea : a.data.toList.length = a.size := by rw [Array.length_toList]; rfl
        have eb : b.data.toList.length = b.size := by rw [Array.length_toList]; rfl
        rw [ea] at lx
        rw [eb] at ly
        generalize hsx : Sp.specL a.data.toList u.data.toList = sx at *
        generalize hsy : Sp.specL b.data.toList u.data.toList = sy at *
        generalize hsz : Sp.specL (a ++ b).data.toList u.data.toList = sz at *
        obtain ⟨x, f⟩ := sx
        obtain ⟨y, g⟩ := sy
        obtain ⟨z, h⟩ := sz
        have HSX := Lib.hid hsx
        have HSY := Lib.hid hsy
        have HSZ := Lib.hid hsz
        clear hsx hsy hsz ea eb
        dsimp only at hx lx ly ex ey
        have hos : ob.size ≤ 2097152 := by omega
        go_wp2_with fail
        refine (spec_any ob u _ (by omega) (by omega)).mono ?_
        rintro e w3 ⟨rfl, hb3⟩
        rw [HE.out]
        go_wp2_with fail
        refine (spec_any a u _ (by omega) (by omega)).mono ?_
        rintro e w4 ⟨rfl, hb4⟩
        rw [HSX.out]
        go_wp2_with fail
        refine (spec_any b u _ (by omega) (by omega)).mono ?_
        rintro e w5 ⟨rfl, hb5⟩
        rw [HSY.out]
        go_wp2_with fail
        refine (spec_any (a ++ b) u _ (by omega) (by omega)).mono ?_
        rintro e w6 ⟨rfl, hb6⟩
        rw [HSZ.out]
        have hb6' := ((((hb.trans (hb3.mono hb.size))).trans (hb4.mono (Nat.le_trans hb.size hb3.size))).trans (hb5.mono (Nat.le_trans hb.size (Nat.le_trans hb3.size hb4.size)))).trans (hb6.mono (Nat.le_trans hb.size (Nat.le_trans hb3.size (Nat.le_trans hb4.size hb5.size))))
        clear hb hb3 hb4 hb5 hb6
        rcases ex with rfl | rfl
        · obtain ⟨hg, hz⟩ := hx rfl
          subst hg
          rcases ey with rfl | rfl
          · have hz2 := hz rfl
            subst hz2
            have x1 : (x ++ y == ((⟨x.toArray⟩ : ByteArray) ++ ⟨y.toArray⟩).toList) = true := by
              rw [ByteArray.mk_append_mk]
              simp
            have x2 : (a.data.toList == a.data.toList) = true := by simp
            go_wp2
            go_ret
            exact ⟨rfl, hb6'⟩
          · have x2 : (a.data.toList == a.data.toList) = true := by simp
            go_wp2
            go_ret
            exact ⟨rfl, hb6'⟩
        · have x2 : (a.data.toList == a.data.toList) = true := by simp
          clear hx
          go_wp2
          go_ret
          exact ⟨rfl, hb6'⟩
  · have hm2 : Sp.mayL u.data.toList = false := by simpa using hm
    have HM := Lib.hid hm2
    have HS := Lib.hid (Sp.spec_not a.data.toList u.data.toList hm2)
    clear hm hm2
    go_enter Try.func5, Try.ntmps5
    go_wp2_with fail
    refine (shown_any _).mono ?_
    rintro e w1 ⟨rfl, hb1⟩
    go_wp2_with fail
    refine (may_any u w1 (by omega)).mono ?_
    rintro e w2 ⟨rfl, hb2⟩
    rw [HM.out]
    have hb := hb1.trans (hb2.mono hb1.size)
    clear hb1 hb2
    go_wp2_with fail
    refine (spec_any a u _ (by omega) (by omega)).mono ?_
    rintro e w4 ⟨rfl, hb4⟩
    rw [HS.out]
    have hb5 := hb.trans (hb4.mono hb.size)
    clear hb hb4
    go_wp2
    go_ret
    exact ⟨rfl, hb5⟩

end Go.Proofs.Ytcefnglmacpehaa
