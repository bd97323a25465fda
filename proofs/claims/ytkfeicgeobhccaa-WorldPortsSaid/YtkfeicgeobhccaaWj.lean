/-
  The walk of what is asked for by now.
-/
import Derived.Test.YtkfeicgeobhccaaWi
namespace Go.Proofs.Ytkfeicgeobhccaa
open Go.RowKit

/-- what is asked for from a place on, by now -/
def asksFrom (l : List (Int × ByteArray × Int)) (now : Int) : List (Int × ByteArray × Int) := l.takeWhile fun p => decide (p.1 ≤ now)
def asksL (l : List (Int × ByteArray × Int)) (heard now : Int) : List (Int × ByteArray × Int) := asksFrom (l.drop heard.toNat) now
theorem askCells_len (l : List (Int × ByteArray × Int)) : (askCells l).length = l.length * 3 := by
  induction l with
  | nil => rfl
  | cons p r ih => simp [askCells] at ih ⊢; omega
theorem askCells_at (l : List (Int × ByteArray × Int)) (k : Nat) (h : k < l.length) : (askCells l)[k * 3]? = some (.int .i64 l[k].1) ∧ (askCells l)[k * 3 + 1]? = some (.string l[k].2.1) ∧ (askCells l)[k * 3 + 2]? = some (.int .i64 l[k].2.2) := by
  induction l generalizing k with
  | nil => simp at h
  | cons p r ih =>
    cases k with
    | zero => simp [askCells]
    | succ k =>
      have h2 := ih k (by simpa using h)
      simp only [askCells, List.flatMap_cons] at h2 ⊢
      rw [show (k + 1) * 3 = k * 3 + 3 from by omega, show k * 3 + 3 + 1 = (k * 3 + 1) + 3 from by omega, show k * 3 + 3 + 2 = (k * 3 + 2) + 3 from by omega]
      rw [List.getElem?_append_right (by simp), List.getElem?_append_right (by simp), List.getElem?_append_right (by simp)]
      simpa using h2
theorem askCells_one (l : List (Int × ByteArray × Int)) : ∀ u ∈ askCells l, u.oneCell' = true := by
  intro u hu
  obtain ⟨p, _, hp⟩ := List.mem_flatMap.1 hu
  simp at hp
  rcases hp with rfl | rfl | rfl <;> rfl
theorem ask_info : (Try.prog.info? 51).map (fun i => (i.zero, i.size, i.bytes)) = some (some (.agg #[.int .i64 0, .string ⟨#[]⟩, .int .i64 0]), 3, 32) := by kernel_rfl
theorem askCells_app (a b : List (Int × ByteArray × Int)) : askCells (a ++ b) = askCells a ++ askCells b := by simp [askCells]
/-- where the loop of Asks stands -/
def AskAt (l : List (Int × ByteArray × Int)) (h : Nat) (now : Int) (k : Nat) (L : List (Int × ByteArray × Int)) : Prop := asksFrom (l.drop h) now = L ++ asksFrom (l.drop (h + k)) now ∧ L.length ≤ k
theorem AskAt.start (l : List (Int × ByteArray × Int)) (h : Nat) (now : Int) : AskAt l h now 0 [] := ⟨by simp, by simp⟩
theorem AskAt.more {l : List (Int × ByteArray × Int)} {h : Nat} {now : Int} {k : Nat} {L : List (Int × ByteArray × Int)} (hr : AskAt l h now k L) (hk : h + k < l.length) {p : Int × ByteArray × Int} (hp : l[h + k] = p) (ht : p.1 ≤ now) : AskAt l h now (k + 1) (L ++ [p]) := by
  refine ⟨?_, by have := hr.2; simp; omega⟩
  rw [hr.1, List.drop_eq_getElem_cons hk, hp]
  simp [asksFrom, ht, Nat.add_assoc]
theorem AskAt.stop {l : List (Int × ByteArray × Int)} {h : Nat} {now : Int} {k : Nat} {L : List (Int × ByteArray × Int)} (hr : AskAt l h now k L) (hk : h + k < l.length) {p : Int × ByteArray × Int} (hp : l[h + k] = p) (ht : ¬ p.1 ≤ now) : asksFrom (l.drop h) now = L := by
  rw [hr.1, List.drop_eq_getElem_cons hk, hp]
  simp [asksFrom, ht]
theorem AskAt.done {l : List (Int × ByteArray × Int)} {h : Nat} {now : Int} {k : Nat} {L : List (Int × ByteArray × Int)} (hr : AskAt l h now k L) (hk : ¬ h + k < l.length) : asksFrom (l.drop h) now = L := by
  rw [hr.1, List.drop_eq_nil_of_le (by omega)]
  simp [asksFrom]

set_option maxRecDepth 100000 in
set_option maxHeartbeats 4000000 in
theorem asks_any (aA : Option Addr) (an ac : Nat) (cA : Option Addr) (cn cc : Nat) (kA : Option Addr) (kn kc : Nat) (l : List (Int × ByteArray × Int)) (heard now : Int) (w : World) (B : Nat) (h : Rd w B 3 kA kn (askCells l)) (hB : B ≤ w.heap.size) (hn : kn ≤ 1099511627776) :
    Calls Try.prog 22 #[.agg #[.slice aA an ac, .slice cA cn cc, .slice kA kn kc], .int .i64 heard, .int .i64 now] w fun e w' => ∃ (A' : Option Addr) (c' : Nat), e = .returned (.slice A' (asksL l heard now).length c') ∧ w'.ownsRow w.heap.size 51 3 (.slice A' (asksL l heard now).length c') (asksL l heard now).length (askCells (asksL l heard now)) ∧ Below w.heap.size w w' := by
  obtain ⟨i0, hi, hz0, hz1, hz2⟩ := info_parts ask_info
  have hl : l.length = kn := by have h1 := h.1; rw [askCells_len] at h1; omega
  have HL := Lib.hid hl
  clear hl
  have HR : Hid (asksL l heard now = asksFrom (l.drop heard.toNat) now) := Lib.hid rfl
  have hmax : max heard 0 = ((heard.toNat : Nat) : Int) := by omega
  generalize heard.toNat = hN at *
  go_enter Try.func22, Try.ntmps22
  go_wp2_with fail
  go_loopw [7, 8] (fun v iv wr => ∃ (k : Nat) (L : List (Int × ByteArray × Int)), k ≤ kn ∧ iv = .int .i64 ((hN + k : Nat) : Int) ∧ wr.ownsRow (w.heap.size + 1) 51 3 v L.length (askCells L) ∧ Below (w.heap.size + 1) (w.alloc (.cells #[.slice aA an ac, .slice cA cn cc, .slice kA kn kc] 26)) wr ∧ Hid (AskAt l hN now k L)) (fun _ iv _ => kn - (intOf iv).toNat)
  case atStart => exact ⟨0, [], Nat.zero_le _, by first | rfl | (simp [hmax]; done) | (congr 1), ⟨by simp [askCells], .inl ⟨rfl, rfl⟩⟩, Below.refl _ _, Lib.hid (AskAt.start _ _ _)⟩
  case round =>
    obtain ⟨k, L, hk, rfl, hown, hb, HA⟩ := hrel
    have hLk : L.length ≤ k := HA.out.2
    have hbs : w.heap.size + 1 ≤ wr.heap.size := by have := hb.size; simpa using this
    have hbw : Below w.heap.size w wr := ((Below.refl w.heap.size w).alloc (Nat.le_refl _) (.cells #[.slice aA an ac, .slice cA cn cc, .slice kA kn kc] 26)).trans (hb.mono (by omega))
    have q2 : wr.cell? ⟨w.heap.size, 2, none⟩ = some (.slice kA kn kc) := (hb.cell (p := ⟨w.heap.size, 2, none⟩) (by simp)).trans (by go_simp)
    by_cases hlt : hN + k < kn
    · obtain ⟨ad, rfl, hadB, hc⟩ := (h.below (hbw.mono hB)).here (by omega)
      have hkl : hN + k < l.length := by rw [HL.out]; exact hlt
      obtain ⟨p1, p2, p3⟩ := askCells_at l (hN + k) hkl
      have c1 := hc _ _ p1
      have c2 := hc _ _ p2
      have c3 := hc _ _ p3
      rw [Mem.add_field _ _ 1 (by omega)] at c2
      rw [Mem.add_field _ _ 2 (by omega)] at c3
      generalize hp : l[hN + k] = p at *
      obtain ⟨pt, pu, py⟩ := p
      dsimp only at c1 c2 c3
      have HP := Lib.hid hp
      have x1 : (0 : Int) ≤ ((hN + k : Nat) : Int) := by omega
      have x2 : ((hN + k : Nat) : Int) < (kn : Int) := by omega
      clear hp p1 p2 p3 hc
      have hk1 : k + 1 ≤ kn := by omega
      have HM := Lib.hid (fun ht : pt ≤ now => HA.out.more hkl HP.out ht)
      have HSt := Lib.hid (fun ht : ¬ pt ≤ now => HA.out.stop hkl HP.out ht)
      have HI : Hid (∀ i, hN + k = i → hN + (k + 1) = i + 1) := Lib.hid (by intro i hi; omega)
      generalize hik : hN + k = i at *
      have HI2 := Lib.hid (HI.out i rfl)
      clear hik HI
      by_cases ht : pt ≤ now
      · have HN := Lib.hid (HM.out ht)
        go_wp2_with (at_builtin; refine wpList_app _ rfl _ _ 24 rfl (w.heap.size + 1) 51 i0 (.agg #[.int .i64 0, .string ⟨#[]⟩, .int .i64 0]) 3 32 Try.underlying24 hi hz0 hz1 hz2 rfl (by decide) _ L.length (askCells L) rfl (World.ownsRow.alloc hown _) (wr.heap.size + 1) (some ⟨wr.heap.size, 0, none⟩) 1 1 [.int .i64 pt, .string pu, .int .i64 py] rfl (Rd.fresh wr #[.int .i64 pt, .string pu, .int .i64 py] 51 1 3 rfl) (by intro u hu; simp at hu; rcases hu with rfl | rfl | rfl <;> rfl) (by unfold maxLen; omega) (by omega) (by simp <;> omega) ?_)
        intro v' w2 hown' hgr hx
        clear hx
        have HO := Lib.hid hown'
        have hb2 := (hb.alloc hbs (.cells #[.int .i64 pt, .string pu, .int .i64 py] 51)).grown hgr (by simp <;> omega) (fun k hk => (hown.lt k hk).1)
        clear hown' hgr
        go_wp2
        go_roundw
        case rel => exact ⟨k + 1, L ++ [(pt, pu, py)], by omega, by rw [HI2.out]; go_num, by have := HO.out; rw [askCells_app, List.length_append]; exact this, hb2, HN⟩
        case measure => first | (simp [intOf]; done) | (simp [intOf]; omega)
      · have HD := Lib.hid (HSt.out ht)
        go_wp2_with fail
        obtain ⟨A', c', rfl⟩ := own_slice hown
        go_ret
        exact ⟨A', c', by rw [HR.out, HD.out]; rfl, by rw [HR.out, HD.out]; exact own_mono hown (by omega), hbw⟩
    · have x1 : ¬ ((hN + k : Nat) : Int) < (kn : Int) := by omega
      have HD := Lib.hid (HA.out.done (by rw [HL.out]; exact hlt))
      go_wp2_with fail
      obtain ⟨A', c', rfl⟩ := own_slice hown
      go_ret
      exact ⟨A', c', by rw [HR.out, HD.out]; rfl, by rw [HR.out, HD.out]; exact own_mono hown (by omega), hbw⟩

end Go.Proofs.Ytkfeicgeobhccaa
