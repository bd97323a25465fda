/-
  The walk of the reference's words parted by blanks.
-/
import Derived.Test.YtnfbhhffclahjaaDoorTsV
namespace Go.Proofs.YtnfbhhffclahjaaDoor
open Go.RowKit Go.Lib

/-- where the loop of Blanks stands -/
def BRel (s : ByteArray) (k : Nat) (L : List ByteArray) (wd : ByteArray) : Prop :=
  (k ≤ s.size → Sp.partsOf s.data.toList = L.map (fun b => b.data.toList) ++ Sp.blanksTo Sp.blank wd.data.toList (s.data.toList.drop k)) ∧
  (s.size < k → Sp.partsOf s.data.toList = L.map (fun b => b.data.toList)) ∧ wd.size ≤ k ∧ L.length ≤ k
theorem BRel.start (s : ByteArray) : BRel s 0 [] ⟨#[]⟩ := ⟨fun _ => by simp [Sp.partsOf], fun h => by omega, Nat.zero_le _, Nat.zero_le _⟩
theorem BRel.grow {s : ByteArray} {k : Nat} {L : List ByteArray} {wd : ByteArray} (h : BRel s k L wd) (hk : k < s.size) (hb : Sp.blank s[k] = false) : BRel s (k + 1) L (wd ++ s.extract k (k + 1)) := by
  have he := Lib.extract_data s k (k + 1)
  have hd : s.data.toList.drop k = s[k] :: s.data.toList.drop (k + 1) := by
    rw [List.drop_eq_getElem_cons (by simpa using hk)]; simp [ByteArray.getElem_eq_getElem_data]
  refine ⟨fun _ => ?_, fun h => by omega, by have := h.2.2.1; simp; omega, by have := h.2.2.2; omega⟩
  rw [h.1 (by omega), hd, Sp.blanksTo, if_neg (by rw [hb]; simp)]
  rw [hd, show k + 1 - k = 1 from by omega] at he
  rw [show (wd ++ s.extract k (k + 1)).data.toList = wd.data.toList ++ (s.extract k (k + 1)).data.toList from by simp, he]
  rfl
theorem BRel.part {s : ByteArray} {k : Nat} {L : List ByteArray} {wd : ByteArray} (h : BRel s k L wd) (hk : k < s.size) (hb : Sp.blank s[k] = true) (hw : wd.data.toList ≠ []) : BRel s (k + 1) (L ++ [wd]) ⟨#[]⟩ := by
  have hd : s.data.toList.drop k = s[k] :: s.data.toList.drop (k + 1) := by
    rw [List.drop_eq_getElem_cons (by simpa using hk)]; simp [ByteArray.getElem_eq_getElem_data]
  refine ⟨fun _ => ?_, fun h => by omega, Nat.zero_le _, by have := h.2.2.2; simp; omega⟩
  rw [h.1 (by omega), hd, Sp.blanksTo, if_pos hb, if_neg hw]
  simp
theorem BRel.skip {s : ByteArray} {k : Nat} {L : List ByteArray} {wd : ByteArray} (h : BRel s k L wd) (hk : k < s.size) (hb : Sp.blank s[k] = true) (hw : wd.data.toList = []) : BRel s (k + 1) L ⟨#[]⟩ := by
  have hd : s.data.toList.drop k = s[k] :: s.data.toList.drop (k + 1) := by
    rw [List.drop_eq_getElem_cons (by simpa using hk)]; simp [ByteArray.getElem_eq_getElem_data]
  refine ⟨fun _ => ?_, fun h => by omega, Nat.zero_le _, by have := h.2.2.2; omega⟩
  rw [h.1 (by omega), hd, Sp.blanksTo, if_pos hb, if_pos hw]
theorem BRel.last {s : ByteArray} {L : List ByteArray} {wd : ByteArray} (h : BRel s s.size L wd) (hw : wd.data.toList ≠ []) : BRel s (s.size + 1) (L ++ [wd]) ⟨#[]⟩ := by
  refine ⟨fun _ => by omega, fun _ => ?_, Nat.zero_le _, by have := h.2.2.2; simp; omega⟩
  rw [h.1 (by omega), List.drop_eq_nil_of_le (by simp), Sp.blanksTo, if_neg hw]
  simp
theorem BRel.lastNo {s : ByteArray} {L : List ByteArray} {wd : ByteArray} (h : BRel s s.size L wd) (hw : wd.data.toList = []) : BRel s (s.size + 1) L ⟨#[]⟩ := by
  refine ⟨fun _ => by omega, fun _ => ?_, Nat.zero_le _, by have := h.2.2.2; omega⟩
  rw [h.1 (by omega), List.drop_eq_nil_of_le (by simp), Sp.blanksTo, if_pos hw]
  simp

set_option maxHeartbeats 8000000 in
theorem rblanks_by (s sep : ByteArray) (w : World) (hs : s.size ≤ 4294967296) (h0 : 0 < sep.size) (h2 : sep.size = 1) (e0 : (sep[0].toNat : Int) = 32) :
    Calls Tryd.prog 16 #[.string s, .string sep] w fun e w' => ∃ (A : Option Addr) (c : Nat) (l : List ByteArray), e = .returned (.slice A l.length c) ∧ l.map (fun b => b.data.toList) = Sp.partsOf s.data.toList ∧
      Rd w' w'.heap.size 1 A l.length (strCells l) ∧ Below w.heap.size w w' := by
  obtain ⟨i0, hi, hz0, hz1, hz2⟩ := info_parts str_info
  have q0 : (0 : Int) < (sep.size : Int) := by omega
  have q2 : ¬ (1 : Int) < (sep.size : Int) := by omega
  have E0 := Lib.hid e0
  clear h2 e0
  go_enter Tryd.func16, Tryd.ntmps16
  go_wp2_with fail
  go_loopw [5, 6, 7] (fun v d i wr => ∃ (k : Nat) (L : List ByteArray) (wd : ByteArray), k ≤ s.size + 1 ∧ i = .int .i64 k ∧ d = .string wd ∧ wr.ownsRow w.heap.size 9 1 v L.length (strCells L) ∧ Below w.heap.size w wr ∧ Hid (BRel s k L wd)) (fun _ _ i _ => s.size + 1 - (intOf i).toNat)
  case atStart => exact ⟨0, [], ⟨#[]⟩, by omega, rfl, rfl, ⟨by simp [strCells], .inl ⟨rfl, rfl⟩⟩, Below.refl _ _, Lib.hid (BRel.start s)⟩
  case round =>
    obtain ⟨k, L, wd, hk, rfl, rfl, hown, hb, HB⟩ := hrel
    have hLk : L.length ≤ k := HB.out.2.2.2
    have hwk : wd.size ≤ k := HB.out.2.2.1
    by_cases hend : k = s.size + 1
    · subst hend
      have x1 : ¬ ((s.size + 1 : Nat) : Int) ≤ (s.size : Int) := by omega
      go_wp2
      obtain ⟨A, c, rfl⟩ : ∃ A c, u5 = .slice A L.length c := by
        rcases hown.2 with ⟨rfl, h0⟩ | ⟨g, cap, cur, rfl, _⟩
        · exact ⟨none, 0, by rw [h0]⟩
        · exact ⟨_, _, rfl⟩
      go_ret
      exact ⟨A, c, L, rfl, (HB.out.2.1 (by omega)).symm, Rd.of_own hown, hb⟩
    · by_cases hlt : k < s.size
      · have x1 : (k : Int) ≤ (s.size : Int) := by omega
        have x2 : ((k : Int) == (s.size : Int)) = false := by simp; omega
        have y1 : (0 : Int) ≤ (k : Int) := by omega
        have y2 : (k : Int) < (s.size : Int) := by omega
        by_cases hbl : Sp.blank s[k] = true
        · have c1 : ((s[k].toNat : Int) == (sep[0].toNat : Int)) = true := by
            rw [E0.out]
            exact hbl
          have HBL := Lib.hid hbl
          clear hbl
          by_cases hw : wd.data.toList = []
          · have hwb : wd.toList.isEmpty = true := by rw [Lib.toList_data, hw]; rfl
            have HR : Hid (BRel s (k + 1) L ⟨#[]⟩) := Lib.hid (HB.out.skip hlt HBL.out hw)
            clear hw
            go_wp2_with fail
            refine wp_loop_rounds 2 ?_
            rw [rounds_succ]
            go_wp2_with fail
            go_region
            go_wp2_with fail
            rw [rounds_succ]
            go_wp2
            go_roundw
            case rel => exact ⟨k + 1, _, _, by omega, by go_num, rfl, hown, belowQ hb 1, HR⟩
            case measure => first | (simp [intOf]; done) | (simp [intOf]; omega)
          · have hwb : wd.toList.isEmpty = false := by rw [Lib.toList_data]; simpa using hw
            have HR : Hid (BRel s (k + 1) (L ++ [wd]) ⟨#[]⟩) := Lib.hid (HB.out.part hlt HBL.out hw)
            clear hw
            go_wp2_with fail
            refine wp_loop_rounds 2 ?_
            rw [rounds_succ]
            go_wp2_with fail
            go_region
            go_wp2_with fail
            rw [rounds_succ]
            go_wp2_with (at_builtin; refine wpList_app _ rfl _ _ 31 rfl w.heap.size 9 i0 (.string ⟨#[]⟩) 1 16 Tryd.underlying31 hi hz0 hz1 hz2 rfl (by decide) _ L.length (strCells L) rfl (World.ownsRow.alloc hown _) (wr.heap.size + 1) (some ⟨wr.heap.size, 0, none⟩) 1 1 [.string wd] rfl (Rd.new _ _ _) (by intro u hu; simp at hu; subst hu; rfl) (by unfold maxLen; omega) (by omega) (by have := hb.size; simp; omega) ?_)
            intro v' w2 hown' hgrow hx
            clear hx
            have HO := Lib.hid hown'
            have HG := Lib.hid hgrow
            clear hown' hgrow
            go_wp2
            go_roundw
            case rel => exact ⟨k + 1, L ++ [wd], _, by omega, by go_num, rfl, by have := HO.out; simpa [strCells] using this, ((belowQ hb 1).alloc (by have := hb.size; simpa using this) _).grown HG.out (by have := hb.size; simp; omega) (fun k hk => (hown.lt k hk).1), HR⟩
            case measure => first | (simp [intOf]; done) | (simp [intOf]; omega)
        · have hn : Sp.blank s[k] = false := by simpa using hbl
          have c1 : ((s[k].toNat : Int) == (sep[0].toNat : Int)) = false := by rw [E0.out]; exact hn
          have HN : Hid (BRel s (k + 1) L (wd ++ s.extract k (k + 1))) := Lib.hid (HB.out.grow hlt hn)
          have z1 : (0 : Int) ≤ (k : Int) + 1 := by omega
          have z2 : (k : Int) + 1 ≤ (s.size : Int) := by omega
          have z3 : (k : Int) ≤ (k : Int) + 1 := by omega
          clear hbl hn
          go_wp2_with fail
          refine wp_loop_rounds 2 ?_
          rw [rounds_succ]
          go_wp2_with fail
          go_region
          go_wp2_with fail
          rw [rounds_succ]
          go_wp2
          go_roundw
          case rel => exact ⟨k + 1, L, _, by omega, by go_num, rfl, hown, belowQ hb 1, HN⟩
          case measure => first | (simp [intOf]; done) | (simp [intOf]; omega)
      · obtain rfl : k = s.size := by omega
        have x2 : ((s.size : Int) == (s.size : Int)) = true := by simp
        by_cases hw : wd.data.toList = []
        · have hwb : wd.toList.isEmpty = true := by rw [Lib.toList_data, hw]; rfl
          have HR : Hid (BRel s (s.size + 1) L ⟨#[]⟩) := Lib.hid (HB.out.lastNo hw)
          clear hw
          go_wp2_with fail
          refine wp_loop_rounds 1 ?_
          rw [rounds_succ]
          go_wp2
          go_roundw
          case rel => exact ⟨s.size + 1, _, _, by omega, by go_num, rfl, hown, hb, HR⟩
          case measure => first | (simp [intOf]; done) | (simp [intOf]; omega)
        · have hwb : wd.toList.isEmpty = false := by rw [Lib.toList_data]; simpa using hw
          have HR : Hid (BRel s (s.size + 1) (L ++ [wd]) ⟨#[]⟩) := Lib.hid (HB.out.last hw)
          clear hw
          go_wp2_with fail
          refine wp_loop_rounds 1 ?_
          rw [rounds_succ]
          go_wp2_with (at_builtin; refine wpList_app _ rfl _ _ 31 rfl w.heap.size 9 i0 (.string ⟨#[]⟩) 1 16 Tryd.underlying31 hi hz0 hz1 hz2 rfl (by decide) _ L.length (strCells L) rfl (World.ownsRow.alloc hown _) (wr.heap.size + 1) (some ⟨wr.heap.size, 0, none⟩) 1 1 [.string wd] rfl (Rd.new _ _ _) (by intro u hu; simp at hu; subst hu; rfl) (by unfold maxLen; omega) (by omega) (by have := hb.size; simp; omega) ?_)
          intro v' w2 hown' hgrow hx
          clear hx
          have HO := Lib.hid hown'
          have HG := Lib.hid hgrow
          clear hown' hgrow
          go_wp2
          go_roundw
          case rel => exact ⟨s.size + 1, L ++ [wd], _, by omega, by go_num, rfl, by have := HO.out; simpa [strCells] using this, (hb.alloc (by have := hb.size; simpa using this) _).grown HG.out (by have := hb.size; simp; omega) (fun k hk => (hown.lt k hk).1), HR⟩
          case measure => first | (simp [intOf]; done) | (simp [intOf]; omega)

theorem rblanks_row (s : ByteArray) (w : World) (hs : s.size ≤ 4294967296) :
    Calls Tryd.prog 16 #[.string s, .string ⟨#[32]⟩] w fun e w' => ∃ (A : Option Addr) (c : Nat) (l : List ByteArray), e = .returned (.slice A l.length c) ∧ l.map (fun b => b.data.toList) = Sp.partsOf s.data.toList ∧
      Rd w' w'.heap.size 1 A l.length (strCells l) ∧ Below w.heap.size w w' :=
  rblanks_by s ⟨#[32]⟩ w hs (by decide) rfl rfl

end Go.Proofs.YtnfbhhffclahjaaDoor
