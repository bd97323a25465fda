/-
  The walk of the reference's words on what is asked for by now.
-/
import Derived.Test.YtkfeicgeobhccaaWj
namespace Go.Proofs.Ytkfeicgeobhccaa
open Go.RowKit

/-- where the loop of the reference's Asks stands -/
def RAskAt (l : List (Int × ByteArray × Int)) (heard now : Int) (k : Nat) (L : List (Int × ByteArray × Int)) : Prop := asksL l heard now = L ++ asksFrom (l.drop (max k heard.toNat)) now ∧ L.length ≤ k
theorem RAskAt.start (l : List (Int × ByteArray × Int)) (heard now : Int) : RAskAt l heard now 0 [] := ⟨by simp [asksL], by simp⟩
theorem RAskAt.skip {l : List (Int × ByteArray × Int)} {heard now : Int} {k : Nat} {L : List (Int × ByteArray × Int)} (hr : RAskAt l heard now k L) (hk : (k : Int) < heard) : RAskAt l heard now (k + 1) L := by
  refine ⟨?_, by have := hr.2; omega⟩
  rw [hr.1, show max k heard.toNat = max (k + 1) heard.toNat from by omega]
theorem RAskAt.more {l : List (Int × ByteArray × Int)} {heard now : Int} {k : Nat} {L : List (Int × ByteArray × Int)} (hr : RAskAt l heard now k L) (hh : ¬ (k : Int) < heard) (hk : k < l.length) {p : Int × ByteArray × Int} (hp : l[k] = p) (ht : p.1 ≤ now) : RAskAt l heard now (k + 1) (L ++ [p]) := by
  refine ⟨?_, by have := hr.2; simp; omega⟩
  rw [hr.1, show max k heard.toNat = k from by omega, show max (k + 1) heard.toNat = k + 1 from by omega, List.drop_eq_getElem_cons hk, hp]
  simp [asksFrom, ht]
theorem RAskAt.stop {l : List (Int × ByteArray × Int)} {heard now : Int} {k : Nat} {L : List (Int × ByteArray × Int)} (hr : RAskAt l heard now k L) (hh : ¬ (k : Int) < heard) (hk : k < l.length) {p : Int × ByteArray × Int} (hp : l[k] = p) (ht : ¬ p.1 ≤ now) : asksL l heard now = L := by
  rw [hr.1, show max k heard.toNat = k from by omega, List.drop_eq_getElem_cons hk, hp]
  simp [asksFrom, ht]
theorem RAskAt.done {l : List (Int × ByteArray × Int)} {heard now : Int} {k : Nat} {L : List (Int × ByteArray × Int)} (hr : RAskAt l heard now k L) (hk : ¬ k < l.length) : asksL l heard now = L := by
  rw [hr.1, List.drop_eq_nil_of_le (by omega)]
  simp [asksFrom]

set_option maxRecDepth 100000 in
set_option maxHeartbeats 4000000 in
theorem rasks_any (aA : Option Addr) (an ac : Nat) (cA : Option Addr) (cn cc : Nat) (kA : Option Addr) (kn kc : Nat) (l : List (Int × ByteArray × Int)) (heard now : Int) (w : World) (B : Nat) (h : Rd w B 3 kA kn (askCells l)) (hB : B ≤ w.heap.size) (hn : kn ≤ 1099511627776) :
    Calls Try.prog 23 #[.agg #[.slice aA an ac, .slice cA cn cc, .slice kA kn kc], .int .i64 heard, .int .i64 now] w fun e w' => ∃ (A' : Option Addr) (c' : Nat), e = .returned (.slice A' (asksL l heard now).length c') ∧ w'.ownsRow w.heap.size 51 3 (.slice A' (asksL l heard now).length c') (asksL l heard now).length (askCells (asksL l heard now)) ∧ Below w.heap.size w w' := by
  obtain ⟨i0, hi, hz0, hz1, hz2⟩ := info_parts ask_info
  have hl : l.length = kn := by have h1 := h.1; rw [askCells_len] at h1; omega
  have HL := Lib.hid hl
  clear hl
  go_enter Try.func23, Try.ntmps23
  go_wp2_with fail
  go_loopw [7, 13] (fun v iv wr => ∃ (k : Nat) (L : List (Int × ByteArray × Int)), k ≤ kn ∧ iv = .int .i64 k ∧ wr.ownsRow (w.heap.size + 1) 51 3 v L.length (askCells L) ∧ Below (w.heap.size + 1) (w.alloc (.cells #[.slice aA an ac, .slice cA cn cc, .slice kA kn kc] 26)) wr ∧ Hid (RAskAt l heard now k L)) (fun _ iv _ => kn - (intOf iv).toNat)
  case atStart => exact ⟨0, [], Nat.zero_le _, rfl, ⟨by simp [askCells], .inl ⟨rfl, rfl⟩⟩, Below.refl _ _, Lib.hid (RAskAt.start _ _ _)⟩
  case round =>
    obtain ⟨k, L, hk, rfl, hown, hb, HA⟩ := hrel
    have hLk : L.length ≤ k := HA.out.2
    have hbs : w.heap.size + 1 ≤ wr.heap.size := by have := hb.size; simpa using this
    have hbw : Below w.heap.size w wr := ((Below.refl w.heap.size w).alloc (Nat.le_refl _) (.cells #[.slice aA an ac, .slice cA cn cc, .slice kA kn kc] 26)).trans (hb.mono (by omega))
    by_cases hlt : k < kn
    · obtain ⟨ad, rfl, hadB, hc⟩ := (h.below (hbw.mono hB)).here (by omega)
      have hkl : k < l.length := by rw [HL.out]; exact hlt
      obtain ⟨p1, p2, p3⟩ := askCells_at l k hkl
      have c1 := hc _ _ p1
      have c2 := hc _ _ p2
      have c3 := hc _ _ p3
      rw [Mem.add_field _ _ 1 (by omega)] at c2
      rw [Mem.add_field _ _ 2 (by omega)] at c3
      generalize hp : l[k] = p at *
      obtain ⟨pt, pu, py⟩ := p
      dsimp only at c1 c2 c3
      have HP := Lib.hid hp
      have x1 : (0 : Int) ≤ (k : Int) := by omega
      have x2 : (k : Int) < (kn : Int) := by omega
      clear hp p1 p2 p3 hc
      have hb1 := hb.alloc hbs (.cells #[.int .i64 pt, .string pu, .int .i64 py] 51)
      have hbw1 := hbw.alloc hbw.size (.cells #[.int .i64 pt, .string pu, .int .i64 py] 51)
      have hown1 := World.ownsRow.alloc hown (.cells #[.int .i64 pt, .string pu, .int .i64 py] 51)
      by_cases hh : (k : Int) < heard
      · have HN := Lib.hid (HA.out.skip hh)
        go_wp2
        go_roundw
        case rel => exact ⟨k + 1, L, by omega, by go_num, hown1, hb1, HN⟩
        case measure => first | (simp [intOf]; done) | (simp [intOf]; omega)
      · by_cases ht : pt ≤ now
        · have HN := Lib.hid (HA.out.more hh hkl HP.out ht)
          have hti : ¬ now < pt := by omega
          have hs1 : (wr.alloc (.cells #[.int .i64 pt, .string pu, .int .i64 py] 51)).heap.size = wr.heap.size + 1 := by simp
          have hr1 := Rd.fresh (wr.alloc (.cells #[.int .i64 pt, .string pu, .int .i64 py] 51)) #[.int .i64 pt, .string pu, .int .i64 py] 51 1 3 rfl
          rw [hs1] at hr1
          clear hs1
          go_wp2_with (at_builtin; refine wpList_app _ rfl _ _ 24 rfl (w.heap.size + 1) 51 i0 (.agg #[.int .i64 0, .string ⟨#[]⟩, .int .i64 0]) 3 32 Try.underlying24 hi hz0 hz1 hz2 rfl (by decide) _ L.length (askCells L) rfl (World.ownsRow.alloc hown1 _) (wr.heap.size + 1 + 1) (some ⟨wr.heap.size + 1, 0, none⟩) 1 1 [.int .i64 pt, .string pu, .int .i64 py] rfl hr1 (by intro u hu; simp at hu; rcases hu with rfl | rfl | rfl <;> rfl) (by unfold maxLen; omega) (by omega) (by simp <;> omega) ?_)
          intro v' w2 hown' hgr hx
          clear hx
          have HO := Lib.hid hown'
          have hb2 := (hb1.alloc (by simp <;> omega) (.cells #[.int .i64 pt, .string pu, .int .i64 py] 51)).grown hgr (by simp <;> omega) (fun k hk => (hown.lt k hk).1)
          clear hown' hgr
          go_wp2
          go_roundw
          case rel => exact ⟨k + 1, L ++ [(pt, pu, py)], by omega, by go_num, by have := HO.out; rw [askCells_app, List.length_append]; exact this, hb2, HN⟩
          case measure => first | (simp [intOf]; done) | (simp [intOf]; omega)
        · have HD := Lib.hid (HA.out.stop hh hkl HP.out ht)
          have hti : now < pt := by omega
          go_wp2_with fail
          obtain ⟨A', c', rfl⟩ := own_slice hown
          go_ret
          exact ⟨A', c', by rw [HD.out]; rfl, by rw [HD.out]; exact own_mono hown1 (by omega), hbw1⟩
    · have x1 : ¬ (k : Int) < (kn : Int) := by omega
      have HD := Lib.hid (HA.out.done (by rw [HL.out]; exact hlt))
      go_wp2_with fail
      obtain ⟨A', c', rfl⟩ := own_slice hown
      go_ret
      exact ⟨A', c', by rw [HD.out]; rfl, by rw [HD.out]; exact own_mono hown (by omega), hbw⟩

end Go.Proofs.Ytkfeicgeobhccaa
