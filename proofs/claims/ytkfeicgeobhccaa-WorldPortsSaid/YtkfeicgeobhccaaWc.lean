/-
  The walk of an act's texts.
-/
import Derived.Test.YtkfeicgeobhccaaWb
namespace Go.Proofs.Ytkfeicgeobhccaa
open Go.RowKit

/-- where the loop of says stands -/
def SayAt (l : List (Int × ByteArray)) (k : Nat) (last : Int) : Prop := saysFrom 0 l = saysFrom last (l.drop k)
theorem SayAt.start (l : List (Int × ByteArray)) : SayAt l 0 0 := by unfold SayAt; simp
theorem say_drop (l : List (Int × ByteArray)) (k : Nat) (h : k < l.length) : l.drop k = l[k] :: l.drop (k + 1) := List.drop_eq_getElem_cons h
theorem SayAt.more {l : List (Int × ByteArray)} {k : Nat} {last : Int} (h : SayAt l k last) (hk : k < l.length) {p : Int × ByteArray} (hp : l[k] = p) (hb : sayB last p = true) : SayAt l (k + 1) p.1 := by
  unfold SayAt at h ⊢
  rw [h, say_drop l k hk, hp, saysFrom, hb, Bool.true_and]
theorem SayAt.no {l : List (Int × ByteArray)} {k : Nat} {last : Int} (h : SayAt l k last) (hk : k < l.length) {p : Int × ByteArray} (hp : l[k] = p) (hb : sayB last p = false) : saysFrom 0 l = false := by
  unfold SayAt at h
  rw [h, say_drop l k hk, hp, saysFrom, hb, Bool.false_and]
theorem SayAt.done {l : List (Int × ByteArray)} {k : Nat} {last : Int} (h : SayAt l k last) (hk : ¬ k < l.length) : saysFrom 0 l = true := by
  unfold SayAt at h
  rw [h, List.drop_eq_nil_of_le (by omega), saysFrom]

set_option maxHeartbeats 4000000 in
theorem says_any (A : Option Addr) (n c B : Nat) (l : List (Int × ByteArray)) (w : World) (h : Rd w B 2 A n (sayCells l)) (hB : B ≤ w.heap.size) (hz : ∀ p ∈ l, p.2.size ≤ 140737488355328) (hn : n ≤ 140737488355328) :
    Calls Try.prog 42 #[.slice A n c] w fun e w' => e = .returned (.bool (saysB l)) ∧ Below w.heap.size w w' := by
  have hl : l.length = n := by have h1 := h.1; rw [sayCells_len] at h1; omega
  have HL := Lib.hid hl
  have HZ := Lib.hid hz
  clear hz
  go_enter Try.func42, Try.ntmps42
  go_wp2_with fail
  go_loopw [3, 8] (fun lv iv wr => ∃ (k : Nat) (last : Int), k ≤ n ∧ lv = .int .i64 last ∧ iv = .int .i64 k ∧ Below w.heap.size w wr ∧ Hid (SayAt l k last)) (fun _ iv _ => n - (intOf iv).toNat)
  case atStart => exact ⟨0, 0, Nat.zero_le _, rfl, rfl, Below.refl _ _, Lib.hid (SayAt.start _)⟩
  case round =>
    obtain ⟨k, last, hk, rfl, rfl, hb, HS⟩ := hrel
    by_cases hlt : k < n
    · obtain ⟨ad, rfl, hadB, hc⟩ := h.here (by omega)
      have hke : k < l.length := by rw [HL.out]; exact hlt
      obtain ⟨p1, p2⟩ := sayCells_at l k hke
      have c1 : wr.cell? (ad.add (k * 2)) = some (.int .i64 l[k].1) := by rw [hb.cell (p := ad.add (k * 2)) (by rw [Mem.add_block]; omega)]; exact hc _ _ p1
      have c2 : wr.cell? (ad.add (k * 2 + 1)) = some (.string l[k].2) := by rw [hb.cell (p := ad.add (k * 2 + 1)) (by rw [Mem.add_block]; omega)]; exact hc _ _ p2
      rw [Mem.add_field _ _ 1 (by omega)] at c2
      have hsz : l[k].2.size ≤ 140737488355328 := HZ.out _ (List.getElem_mem hke)
      generalize hp : l[k] = p at *
      obtain ⟨aft, txt⟩ := p
      dsimp only at c1 c2 hsz
      have HP := Lib.hid hp
      have x1 : (0 : Int) ≤ (k : Int) := by omega
      have x2 : (k : Int) < (n : Int) := by omega
      have hbs := hb.size
      clear hl p1 p2 hp hc
      cases hsp : spanB aft with
      | false =>
        have hno : sayB last (aft, txt) = false := by simp [sayB, hsp]
        have HSP := Lib.hid hsp
        clear hsp
        have HN := Lib.hid (HS.out.no (p := (aft, txt)) hke HP.out hno)
        clear hno
        go_wp2_with fail
        refine (span_any aft _).mono ?_
        rintro e w' ⟨rfl, rfl⟩
        rw [HSP.out]
        go_wp2
        go_ret
        exact ⟨ret_bool (by unfold saysB; rw [HN.out]; rfl), (hb.alloc hbs _)⟩
      | true =>
        have HSP := Lib.hid hsp
        cases hev : (aft == 1099511627776) with
        | true =>
          have hno : sayB last (aft, txt) = false := by simp [sayB, hsp, hev]
          clear hsp
          have HN := Lib.hid (HS.out.no (p := (aft, txt)) hke HP.out hno)
          clear hno
          go_wp2_with fail
          refine (span_any aft _).mono ?_
          rintro e w' ⟨rfl, rfl⟩
          rw [HSP.out]
          go_wp2
          go_ret
          exact ⟨ret_bool (by unfold saysB; rw [HN.out]; rfl), (hb.alloc hbs _)⟩
        | false =>
          by_cases hla : aft < last
          · have hno : sayB last (aft, txt) = false := by simp [sayB, hsp, hev, hla]
            clear hsp
            have HN := Lib.hid (HS.out.no (p := (aft, txt)) hke HP.out hno)
            clear hno
            go_wp2_with fail
            refine (span_any aft _).mono ?_
            rintro e w' ⟨rfl, rfl⟩
            rw [HSP.out]
            go_wp2
            go_ret
            exact ⟨ret_bool (by unfold saysB; rw [HN.out]; rfl), (hb.alloc hbs _)⟩
          · cases hcl : (cleanL txt.data.toList && decide (txt.size ≤ 100)) with
            | false =>
              have hno : sayB last (aft, txt) = false := by unfold sayB; rw [hcl, Bool.and_false]
              have HCL := Lib.hid hcl
              clear hsp hcl
              have HN := Lib.hid (HS.out.no (p := (aft, txt)) hke HP.out hno)
              clear hno
              go_wp2_with fail
              refine (span_any aft _).mono ?_
              rintro e w' ⟨rfl, rfl⟩
              rw [HSP.out]
              go_wp2_with fail
              refine (clean_any txt _ hsz).mono ?_
              rintro e w' ⟨rfl, rfl⟩
              rw [HCL.out]
              go_wp2
              go_ret
              exact ⟨ret_bool (by unfold saysB; rw [HN.out]; rfl), (hb.alloc hbs _)⟩
            | true =>
              have hyes : sayB last (aft, txt) = true := by unfold sayB; rw [hcl, hsp, hev]; simp; omega
              have HM := Lib.hid (HS.out.more (p := (aft, txt)) hke HP.out hyes)
              have HCL := Lib.hid hcl
              clear hsp hcl hyes
              go_wp2_with fail
              refine (span_any aft _).mono ?_
              rintro e w' ⟨rfl, rfl⟩
              rw [HSP.out]
              go_wp2_with fail
              refine (clean_any txt _ hsz).mono ?_
              rintro e w' ⟨rfl, rfl⟩
              rw [HCL.out]
              go_wp2
              go_roundw
              case rel => exact ⟨k + 1, aft, by omega, rfl, by go_num, (hb.alloc hbs _), HM⟩
              case measure => first | (simp [intOf]; done) | (simp [intOf]; omega)
    · have HD := Lib.hid (HS.out.done (by rw [HL.out]; exact hlt))
      have x1 : ¬ (k : Int) < (n : Int) := by omega
      go_wp2
      go_ret
      exact ⟨ret_bool (by unfold saysB; rw [HD.out, HL.out, Bool.true_and, Bool.eq_iff_iff]; simp; try omega), hb⟩

end Go.Proofs.Ytkfeicgeobhccaa
