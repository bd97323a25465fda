/-
  What the filters' laws show first: the program's walk.
-/
import Derived.Test.YtijfeeiplljnjaaGreatDoorUu
import Derived.Test.YtijfeeiplljnjaaGreatDoorUv
import Derived.Test.YtijfeeiplljnjaaGreatDoorUo
namespace Go.Proofs.YtijfeeiplljnjaaGreatDoor
open Go.RowKit Go.Shelf

namespace Sp
def shF : FD := ⟨[⟨#[97, 46, 115, 101, 114, 118, 105, 99, 101]⟩], [2], 5, 6311433599, ⟨#[120, 32, 121]⟩⟩
theorem sh_one : parseF [117, 110, 105, 116, 61, 97, 46, 115, 101, 114, 118, 105, 99, 101, 32, 107, 105, 110, 100, 61, 115, 116, 97, 116, 101, 32, 115, 105, 110, 99, 101, 61, 53, 32, 119, 111, 114, 100, 61, 39, 120, 32, 121, 39] = .ok shF := by kernel_rfl
theorem sh_two : parseF [115, 105, 110, 99, 101, 61, 49, 32, 115, 105, 110, 99, 101, 61, 50] = .error 7 := by kernel_rfl
theorem sh_may : mayF shF = true := by kernel_rfl
theorem sh_text : joinC (wordsF shF) = [117, 110, 105, 116, 61, 97, 46, 115, 101, 114, 118, 105, 99, 101, 32, 107, 105, 110, 100, 61, 115, 116, 97, 116, 101, 32, 115, 105, 110, 99, 101, 61, 53, 32, 34, 119, 111, 114, 100, 61, 120, 32, 121, 34] := by kernel_rfl
def shR : RowD := ⟨5, ⟨#[97, 46, 115, 101, 114, 118, 105, 99, 101]⟩, 1, 2, ⟨#[97, 110, 32, 120, 32, 121]⟩⟩
def shQ : RowD := ⟨4, ⟨#[97, 46, 115, 101, 114, 118, 105, 99, 101]⟩, 1, 2, ⟨#[97, 110, 32, 120, 32, 121]⟩⟩
theorem sh_is : isF shF shR = true := by kernel_rfl
theorem sh_not : isF shF shQ = false := by kernel_rfl
end Sp
set_option maxHeartbeats 16000000 in
set_option maxRecDepth 100000 in
theorem shown_any (w : World) (E : Env w) : Calls Tryz.prog 4 #[] w fun e w' => e = .returned (.bool true) ∧ Below w.heap.size w w' := by
  have HP1 := Lib.hid (fparse_any ⟨#[117, 110, 105, 116, 61, 97, 46, 115, 101, 114, 118, 105, 99, 101, 32, 107, 105, 110, 100, 61, 115, 116, 97, 116, 101, 32, 115, 105, 110, 99, 101, 61, 53, 32, 119, 111, 114, 100, 61, 39, 120, 32, 121, 39]⟩ w (by decide) E)
  have HE := Lib.hid E
  obtain ⟨f, hf⟩ : ∃ f, f = Sp.shF := ⟨_, rfl⟩
  have HM : Hid (Sp.mayF f = true) := Lib.hid (by rw [hf]; exact Sp.sh_may)
  have HT : Hid (Sp.joinC (Sp.wordsF f) = [117, 110, 105, 116, 61, 97, 46, 115, 101, 114, 118, 105, 99, 101, 32, 107, 105, 110, 100, 61, 115, 116, 97, 116, 101, 32, 115, 105, 110, 99, 101, 61, 53, 32, 34, 119, 111, 114, 100, 61, 120, 32, 121, 34]) := Lib.hid (by rw [hf]; exact Sp.sh_text)
  have HI1 : Hid (Sp.isF f Sp.shR = true) := Lib.hid (by rw [hf]; exact Sp.sh_is)
  have HI2 : Hid (Sp.isF f Sp.shQ = false) := Lib.hid (by rw [hf]; exact Sp.sh_not)
  have HPO : Hid (Sp.parseF [117, 110, 105, 116, 61, 97, 46, 115, 101, 114, 118, 105, 99, 101, 32, 107, 105, 110, 100, 61, 115, 116, 97, 116, 101, 32, 115, 105, 110, 99, 101, 61, 53, 32, 119, 111, 114, 100, 61, 39, 120, 32, 121, 39] = .ok f) := Lib.hid (by rw [hf]; exact Sp.sh_one)
  have tu : ((f.units.length : Int) == 1) = true := by rw [hf]; rfl
  have tk : ((f.kinds.length : Int) == 1) = true := by rw [hf]; rfl
  have tk0 : (0 : Int) < (f.kinds.length : Int) := by rw [hf]; decide
  have hk0 : 0 < f.kinds.length := by omega
  have HK0 : Hid (f.kinds[0] = 2) := Lib.hid (by subst hf; rfl)
  have ts : (f.since == 5) = true := by rw [hf]; rfl
  have tt : (f.till == 6311433599) = true := by rw [hf]; rfl
  have tw : (f.word.toList == [120, 32, 121]) = true := by rw [toL_is, hf]; decide
  clear hf E
  go_enter Tryz.func4, Tryz.ntmps4
  go_wp2_with fail
  refine HP1.out.mono ?_
  rintro e w1 ⟨hb1, hc1⟩
  rw [show (⟨#[117, 110, 105, 116, 61, 97, 46, 115, 101, 114, 118, 105, 99, 101, 32, 107, 105, 110, 100, 61, 115, 116, 97, 116, 101, 32, 115, 105, 110, 99, 101, 61, 53, 32, 119, 111, 114, 100, 61, 39, 120, 32, 121, 39]⟩ : ByteArray).data.toList = [117, 110, 105, 116, 61, 97, 46, 115, 101, 114, 118, 105, 99, 101, 32, 107, 105, 110, 100, 61, 115, 116, 97, 116, 101, 32, 115, 105, 110, 99, 101, 61, 53, 32, 119, 111, 114, 100, 61, 39, 120, 32, 121, 39] from rfl, HPO.out] at hc1
  obtain ⟨UA, uc, KA, kc, rfl, hg1⟩ := hc1
  have hb2 : Below w.heap.size w (w1.alloc (.cells #[.slice UA f.units.length uc, .slice KA f.kinds.length kc, .int .i64 f.since, .int .i64 f.till, .string f.word] 26)) := hb1.alloc hb1.size _
  have HF2 := Lib.hid (FB.new w1 (.slice UA f.units.length uc) (.slice KA f.kinds.length kc) (.int .i64 f.since) (.int .i64 f.till) (.string f.word) 26)
  have HG2 := Lib.hid ((hg1.on ((Below.refl w1.heap.size w1).alloc (Nat.le_refl _) (.cells #[.slice UA f.units.length uc, .slice KA f.kinds.length kc, .int .i64 f.since, .int .i64 f.till, .string f.word] 26))))
  have HL2 : Hid (w1.heap.size < (w1.alloc (.cells #[.slice UA f.units.length uc, .slice KA f.kinds.length kc, .int .i64 f.since, .int .i64 f.till, .string f.word] 26)).heap.size) := Lib.hid (by simp)
  have HP2 := Lib.hid (fparse_any ⟨#[115, 105, 110, 99, 101, 61, 49, 32, 115, 105, 110, 99, 101, 61, 50]⟩ _ (by decide) (HE.out.on hb2))
  have HB2 := Lib.hid hb2
  clear hb1 hb2 hg1 HP1
  unfold filtV filtC
  go_wp2_with fail
  refine HP2.out.mono ?_
  rintro e w3 ⟨hb3, hc3⟩
  rw [show (⟨#[115, 105, 110, 99, 101, 61, 49, 32, 115, 105, 110, 99, 101, 61, 50]⟩ : ByteArray).data.toList = [115, 105, 110, 99, 101, 61, 49, 32, 115, 105, 110, 99, 101, 61, 50] from rfl, Sp.sh_two] at hc3
  replace hc3 : e = .returned (.tuple #[.agg #[.slice none 0 0, .slice none 0 0, .int .i64 0, .int .i64 0, .string ⟨#[]⟩], .int .i64 7]) := hc3
  subst hc3
  have HF3 := Lib.hid (HF2.out.on HL2.out hb3)
  have HG3 := Lib.hid (HG2.out.on (hb3.mono (Nat.le_of_lt HL2.out)))
  have HB3 := Lib.hid (HB2.out.trans (hb3.mono HB2.out.size))
  have HL3 : Hid (w1.heap.size < w3.heap.size) := Lib.hid (Nat.lt_of_lt_of_le HL2.out hb3.size)
  generalize w1.heap.size = bf at *
  clear hb3 HP2 HF2 HG2 HB2 HL2
  have hb6 : Below w3.heap.size w3 (((w3.alloc (.cells #[.slice none 0 0, .slice none 0 0, .int .i64 0, .int .i64 0, .string ⟨#[]⟩] 26)).alloc (.cells #[.int .i64 5, .string ⟨#[97, 46, 115, 101, 114, 118, 105, 99, 101]⟩, .int .i64 1, .int .i64 2, .string ⟨#[97, 110, 32, 120, 32, 121]⟩] 33)).alloc (.cells #[.int .i64 4, .string ⟨#[97, 46, 115, 101, 114, 118, 105, 99, 101]⟩, .int .i64 1, .int .i64 2, .string ⟨#[97, 110, 32, 120, 32, 121]⟩] 33)) := (((Below.refl _ _).alloc (Nat.le_refl _) _).alloc (by simp) _).alloc (by simp; omega) _
  have hF6 := HF3.out.on HL3.out hb6
  have c0 := hF6.c0
  have c1 := hF6.c1
  have c2 := hF6.c2
  have c3 := hF6.c3
  have c4 := hF6.c4
  have HF6 := Lib.hid hF6
  have HB6 := Lib.hid hb6
  have hb6' := hb6
  clear hF6 hb6
  have hr6 : FB (((w3.alloc (.cells #[.slice none 0 0, .slice none 0 0, .int .i64 0, .int .i64 0, .string ⟨#[]⟩] 26)).alloc (.cells #[.int .i64 5, .string ⟨#[97, 46, 115, 101, 114, 118, 105, 99, 101]⟩, .int .i64 1, .int .i64 2, .string ⟨#[97, 110, 32, 120, 32, 121]⟩] 33)).alloc (.cells #[.int .i64 4, .string ⟨#[97, 46, 115, 101, 114, 118, 105, 99, 101]⟩, .int .i64 1, .int .i64 2, .string ⟨#[97, 110, 32, 120, 32, 121]⟩] 33)) (w3.heap.size + 1) (.int .i64 5) (.string ⟨#[97, 46, 115, 101, 114, 118, 105, 99, 101]⟩) (.int .i64 1) (.int .i64 2) (.string ⟨#[97, 110, 32, 120, 32, 121]⟩) := by
    have h := FB.new (w3.alloc (.cells #[.slice none 0 0, .slice none 0 0, .int .i64 0, .int .i64 0, .string ⟨#[]⟩] 26)) (.int .i64 5) (.string ⟨#[97, 46, 115, 101, 114, 118, 105, 99, 101]⟩) (.int .i64 1) (.int .i64 2) (.string ⟨#[97, 110, 32, 120, 32, 121]⟩) 33
    rw [World.size_alloc] at h
    exact h.on (by simp) ((Below.refl _ _).alloc (Nat.le_refl _) _)
  have hs6 : FB (((w3.alloc (.cells #[.slice none 0 0, .slice none 0 0, .int .i64 0, .int .i64 0, .string ⟨#[]⟩] 26)).alloc (.cells #[.int .i64 5, .string ⟨#[97, 46, 115, 101, 114, 118, 105, 99, 101]⟩, .int .i64 1, .int .i64 2, .string ⟨#[97, 110, 32, 120, 32, 121]⟩] 33)).alloc (.cells #[.int .i64 4, .string ⟨#[97, 46, 115, 101, 114, 118, 105, 99, 101]⟩, .int .i64 1, .int .i64 2, .string ⟨#[97, 110, 32, 120, 32, 121]⟩] 33)) (w3.heap.size + 1 + 1) (.int .i64 4) (.string ⟨#[97, 46, 115, 101, 114, 118, 105, 99, 101]⟩) (.int .i64 1) (.int .i64 2) (.string ⟨#[97, 110, 32, 120, 32, 121]⟩) := by
    have h := FB.new ((w3.alloc (.cells #[.slice none 0 0, .slice none 0 0, .int .i64 0, .int .i64 0, .string ⟨#[]⟩] 26)).alloc (.cells #[.int .i64 5, .string ⟨#[97, 46, 115, 101, 114, 118, 105, 99, 101]⟩, .int .i64 1, .int .i64 2, .string ⟨#[97, 110, 32, 120, 32, 121]⟩] 33)) (.int .i64 4) (.string ⟨#[97, 46, 115, 101, 114, 118, 105, 99, 101]⟩) (.int .i64 1) (.int .i64 2) (.string ⟨#[97, 110, 32, 120, 32, 121]⟩) 33
    rw [World.size_alloc, World.size_alloc] at h
    exact h
  have hl6 : bf < ((((w3.alloc (.cells #[.slice none 0 0, .slice none 0 0, .int .i64 0, .int .i64 0, .string ⟨#[]⟩] 26)).alloc (.cells #[.int .i64 5, .string ⟨#[97, 46, 115, 101, 114, 118, 105, 99, 101]⟩, .int .i64 1, .int .i64 2, .string ⟨#[97, 110, 32, 120, 32, 121]⟩] 33)).alloc (.cells #[.int .i64 4, .string ⟨#[97, 46, 115, 101, 114, 118, 105, 99, 101]⟩, .int .i64 1, .int .i64 2, .string ⟨#[97, 110, 32, 120, 32, 121]⟩] 33))).heap.size ∧ w3.heap.size + 1 < ((((w3.alloc (.cells #[.slice none 0 0, .slice none 0 0, .int .i64 0, .int .i64 0, .string ⟨#[]⟩] 26)).alloc (.cells #[.int .i64 5, .string ⟨#[97, 46, 115, 101, 114, 118, 105, 99, 101]⟩, .int .i64 1, .int .i64 2, .string ⟨#[97, 110, 32, 120, 32, 121]⟩] 33)).alloc (.cells #[.int .i64 4, .string ⟨#[97, 46, 115, 101, 114, 118, 105, 99, 101]⟩, .int .i64 1, .int .i64 2, .string ⟨#[97, 110, 32, 120, 32, 121]⟩] 33))).heap.size ∧ w3.heap.size + 1 + 1 < ((((w3.alloc (.cells #[.slice none 0 0, .slice none 0 0, .int .i64 0, .int .i64 0, .string ⟨#[]⟩] 26)).alloc (.cells #[.int .i64 5, .string ⟨#[97, 46, 115, 101, 114, 118, 105, 99, 101]⟩, .int .i64 1, .int .i64 2, .string ⟨#[97, 110, 32, 120, 32, 121]⟩] 33)).alloc (.cells #[.int .i64 4, .string ⟨#[97, 46, 115, 101, 114, 118, 105, 99, 101]⟩, .int .i64 1, .int .i64 2, .string ⟨#[97, 110, 32, 120, 32, 121]⟩] 33))).heap.size := by
    have := HL3.out
    refine ⟨by simp; omega, by simp, by simp⟩
  have HG6 := Lib.hid ((HG3.out.on (hb6'.mono (Nat.le_of_lt HL3.out))))
  have HZ6 := Lib.hid (HB3.out.trans (hb6'.mono HB3.out.size))
  have HR6 := Lib.hid hr6
  have HS6 := Lib.hid hs6
  have HL6 := Lib.hid hl6
  clear hr6 hs6 hl6 hb6'
  go_wp2_with fail
  generalize (((w3.alloc (.cells #[.slice none 0 0, .slice none 0 0, .int .i64 0, .int .i64 0, .string ⟨#[]⟩] 26)).alloc (.cells #[.int .i64 5, .string ⟨#[97, 46, 115, 101, 114, 118, 105, 99, 101]⟩, .int .i64 1, .int .i64 2, .string ⟨#[97, 110, 32, 120, 32, 121]⟩] 33)).alloc (.cells #[.int .i64 4, .string ⟨#[97, 46, 115, 101, 114, 118, 105, 99, 101]⟩, .int .i64 1, .int .i64 2, .string ⟨#[97, 110, 32, 120, 32, 121]⟩] 33)) = w6 at *
  refine (fmay_any f UA KA uc kc w6 (HG6.out.more (Nat.le_of_lt HL6.out.1))).mono ?_
  rintro e w7 ⟨rfl, hb7⟩
  rw [HM.out]
  obtain ⟨ad, hA, _⟩ := Rd.intAt HG6.out.rk 0 hk0
  subst hA
  have HF7 := Lib.hid (HF6.out.on HL6.out.1 hb7)
  have HR7 := Lib.hid (HR6.out.on HL6.out.2.1 hb7)
  have HS7 := Lib.hid (HS6.out.on HL6.out.2.2 hb7)
  have HG7 := Lib.hid (HG6.out.on (hb7.mono (Nat.le_of_lt HL6.out.1)))
  have HZ7 := Lib.hid (HZ6.out.trans (hb7.mono HZ6.out.size))
  have HL7 : Hid (bf < w7.heap.size ∧ w3.heap.size + 1 < w7.heap.size ∧ w3.heap.size + 1 + 1 < w7.heap.size) := Lib.hid ⟨Nat.lt_of_lt_of_le HL6.out.1 hb7.size, Nat.lt_of_lt_of_le HL6.out.2.1 hb7.size, Nat.lt_of_lt_of_le HL6.out.2.2 hb7.size⟩
  have HK7 : Hid (w7.cell? ad = some (.int .i64 2)) := Lib.hid (by
    obtain ⟨ad', had, hc⟩ := Rd.intAt HG7.out.rk 0 hk0
    injection had with had
    subst had
    have := hc w7 (Below.refl _ _)
    rw [HK0.out] at this
    rwa [show ad.add 0 = ad by simp [Addr.add]] at this)
  clear hb7
  clear c0 c1 c2 c3 c4
  have c0 := HF7.out.c0
  have c1 := HF7.out.c1
  have c2 := HF7.out.c2
  have c3 := HF7.out.c3
  have c4 := HF7.out.c4
  have r0 := HR7.out.c0
  have r1 := HR7.out.c1
  have r2 := HR7.out.c2
  have r3 := HR7.out.c3
  have r4 := HR7.out.c4
  have s0 := HS7.out.c0
  have s1 := HS7.out.c1
  have s2 := HS7.out.c2
  have s3 := HS7.out.c3
  have s4 := HS7.out.c4
  have k0 : w7.cell? ad = some (.int .i64 2) := HK7.out
  go_wp2_with fail
  refine (fis_any f UA (some ad) uc kc Sp.shR w7 (HG7.out.more (Nat.le_of_lt HL7.out.1)) (by decide) (HE.out.on HZ7.out)).mono ?_
  rw [HI1.out]
  rintro e w8 ⟨rfl, hb8⟩
  have HF8 := Lib.hid (HF7.out.on HL7.out.1 hb8)
  have HR8 := Lib.hid (HR7.out.on HL7.out.2.1 hb8)
  have HS8 := Lib.hid (HS7.out.on HL7.out.2.2 hb8)
  have HG8 := Lib.hid (HG7.out.on (hb8.mono (Nat.le_of_lt HL7.out.1)))
  have HZ8 := Lib.hid (HZ7.out.trans (hb8.mono HZ7.out.size))
  have HL8 : Hid (bf < w8.heap.size ∧ w3.heap.size + 1 < w8.heap.size ∧ w3.heap.size + 1 + 1 < w8.heap.size) := Lib.hid ⟨Nat.lt_of_lt_of_le HL7.out.1 hb8.size, Nat.lt_of_lt_of_le HL7.out.2.1 hb8.size, Nat.lt_of_lt_of_le HL7.out.2.2 hb8.size⟩
  have HK8 : Hid (w8.cell? ad = some (.int .i64 2)) := Lib.hid (by
    obtain ⟨ad', had, hc⟩ := Rd.intAt HG8.out.rk 0 hk0
    injection had with had
    subst had
    have := hc w8 (Below.refl _ _)
    rw [HK0.out] at this
    rwa [show ad.add 0 = ad by simp [Addr.add]] at this)
  clear hb8
  clear c0 c1 c2 c3 c4 r0 r1 r2 r3 r4 s0 s1 s2 s3 s4 k0
  have c0 := HF8.out.c0
  have c1 := HF8.out.c1
  have c2 := HF8.out.c2
  have c3 := HF8.out.c3
  have c4 := HF8.out.c4
  have r0 := HR8.out.c0
  have r1 := HR8.out.c1
  have r2 := HR8.out.c2
  have r3 := HR8.out.c3
  have r4 := HR8.out.c4
  have s0 := HS8.out.c0
  have s1 := HS8.out.c1
  have s2 := HS8.out.c2
  have s3 := HS8.out.c3
  have s4 := HS8.out.c4
  have k0 : w8.cell? ad = some (.int .i64 2) := HK8.out
  go_wp2_with fail
  refine (fis_any f UA (some ad) uc kc Sp.shQ w8 (HG8.out.more (Nat.le_of_lt HL8.out.1)) (by decide) (HE.out.on HZ8.out)).mono ?_
  rw [HI2.out]
  rintro e w9 ⟨rfl, hb9⟩
  have HF9 := Lib.hid (HF8.out.on HL8.out.1 hb9)
  have HR9 := Lib.hid (HR8.out.on HL8.out.2.1 hb9)
  have HS9 := Lib.hid (HS8.out.on HL8.out.2.2 hb9)
  have HG9 := Lib.hid (HG8.out.on (hb9.mono (Nat.le_of_lt HL8.out.1)))
  have HZ9 := Lib.hid (HZ8.out.trans (hb9.mono HZ8.out.size))
  have HL9 : Hid (bf < w9.heap.size ∧ w3.heap.size + 1 < w9.heap.size ∧ w3.heap.size + 1 + 1 < w9.heap.size) := Lib.hid ⟨Nat.lt_of_lt_of_le HL8.out.1 hb9.size, Nat.lt_of_lt_of_le HL8.out.2.1 hb9.size, Nat.lt_of_lt_of_le HL8.out.2.2 hb9.size⟩
  have HK9 : Hid (w9.cell? ad = some (.int .i64 2)) := Lib.hid (by
    obtain ⟨ad', had, hc⟩ := Rd.intAt HG9.out.rk 0 hk0
    injection had with had
    subst had
    have := hc w9 (Below.refl _ _)
    rw [HK0.out] at this
    rwa [show ad.add 0 = ad by simp [Addr.add]] at this)
  clear hb9
  clear c0 c1 c2 c3 c4 r0 r1 r2 r3 r4 s0 s1 s2 s3 s4 k0
  have c0 := HF9.out.c0
  have c1 := HF9.out.c1
  have c2 := HF9.out.c2
  have c3 := HF9.out.c3
  have c4 := HF9.out.c4
  have r0 := HR9.out.c0
  have r1 := HR9.out.c1
  have r2 := HR9.out.c2
  have r3 := HR9.out.c3
  have r4 := HR9.out.c4
  have s0 := HS9.out.c0
  have s1 := HS9.out.c1
  have s2 := HS9.out.c2
  have s3 := HS9.out.c3
  have s4 := HS9.out.c4
  have k0 : w9.cell? ad = some (.int .i64 2) := HK9.out
  go_wp2_with fail
  refine (fprint_yes f UA (some ad) uc kc w9 (HG9.out.more (Nat.le_of_lt HL9.out.1)) HM.out ⟨#[117, 110, 105, 116, 61, 97, 46, 115, 101, 114, 118, 105, 99, 101, 32, 107, 105, 110, 100, 61, 115, 116, 97, 116, 101, 32, 115, 105, 110, 99, 101, 61, 53, 32, 34, 119, 111, 114, 100, 61, 120, 32, 121, 34]⟩ HT.out.symm (HE.out.on HZ9.out)).mono ?_
  rintro e w10 ⟨rfl, hb10⟩
  have HZ10 := Lib.hid (HZ9.out.trans (hb10.mono HZ9.out.size))
  clear hb10
  go_wp2
  go_ret
  exact ⟨rfl, HZ10.out⟩

end Go.Proofs.YtijfeeiplljnjaaGreatDoor
