/-
  slices.IndexFunc and slices.ContainsFunc at parts that lie anywhere: walks over a function value that lays blocks of its own.
-/
import Derived.Test.YtpkpoglmmjaoeaaGreatDoorCm
import Derived.Test.YtpkpoglmmjaoeaaGreatDoorMem
import Derived.Shelf.Abstract
namespace Go.Proofs.YtpkpoglmmjaoeaaGreatDoor
open Go.RowKit Go.Shelf

def partC (q : Sp.PartD) : List Value := [.int .i64 q.fr, .int .i64 q.to, .int .i64 q.st]
def partsC (l : List Sp.PartD) : List Value := l.flatMap partC
instance : Inhabited Sp.PartD := ⟨⟨-1, -1, 0⟩⟩
theorem partsC_len (l : List Sp.PartD) : (partsC l).length = l.length * 3 := by
  induction l with
  | nil => rfl
  | cons x r ih => rw [partsC, List.flatMap_cons, List.length_append, List.length_cons, Nat.add_mul]; unfold partsC at ih; rw [ih]; simp [partC]; omega
theorem partsC_at : ∀ (l : List Sp.PartD) (k : Nat) (h : k < l.length) (j : Nat), j < 3 → (partsC l)[k * 3 + j]? = (partC l[k])[j]?
  | [], k, h, j, hj => by simp at h
  | x :: r, 0, h, j, hj => by
    rw [partsC, List.flatMap_cons, Nat.zero_mul, Nat.zero_add, List.getElem?_append_left (by simpa [partC] using hj)]
    rfl
  | x :: r, k + 1, h, j, hj => by
    have ih := partsC_at r k (by simpa using h) j hj
    rw [partsC, List.flatMap_cons, List.getElem?_append_right (by simp [partC]; omega)]
    show (partsC r)[(k + 1) * 3 + j - (partC x).length]? = _
    rw [show (k + 1) * 3 + j - (partC x).length = k * 3 + j from by simp [partC]; omega, ih]
    rfl
theorem Rd.partAt {w : World} {B n : Nat} {A : Option Addr} {l : List Sp.PartD} (h : Rd w B 3 A n (partsC l)) (k : Nat) (hk : k < l.length) : ∃ ad, A = some ad ∧ ∀ W, Below B w W →
    W.cell? (ad.add (k * 3)) = some (.int .i64 l[k].fr) ∧ W.cell? ⟨(ad.add (k * 3)).block, (ad.add (k * 3)).off + 1, none⟩ = some (.int .i64 l[k].to) ∧ W.cell? ⟨(ad.add (k * 3)).block, (ad.add (k * 3)).off + 2, none⟩ = some (.int .i64 l[k].st) := by
  have hl : l.length = n := by have := h.1; rw [partsC_len] at this; omega
  obtain ⟨ad, rfl, _, _⟩ := h.here (by omega)
  refine ⟨ad, rfl, fun W hW => ?_⟩
  obtain ⟨ad', e, _, hc⟩ := (h.below hW).here (by omega)
  injection e with e
  subst e
  have g := fun j hj u hu => hc (k * 3 + j) u ((partsC_at l k hk j hj).trans hu)
  have g0 := g 0 (by omega) _ rfl
  have g1 := g 1 (by omega) _ rfl
  have g2 := g 2 (by omega) _ rfl
  rw [Mem.add_field _ _ 1 (by omega)] at g1
  rw [Mem.add_field _ _ 2 (by omega)] at g2
  exact ⟨g0, g1, g2⟩

/-- what is asked of a predicate that may lay blocks of its own -/
def Tells (g : Nat) (lb : Array Value) (l : List Sp.PartD) (p : Sp.PartD → Bool) (B : Nat) (w : World) : Prop :=
  ∀ (W : World) (x : Sp.PartD), x ∈ l → Below B w W → Calls Tryz.prog g (#[partV x] ++ lb) W fun e w' => e = .returned (.bool (p x)) ∧ Below W.heap.size W w'
set_option maxRecDepth 100000 in
set_option maxHeartbeats 8000000 in
theorem idx_any (p : Sp.PartD → Bool) (g : Nat) (lb : Array Value) (eg : ∀ args w, (callFunc g args).run Tryz.prog w = .ok (.enter g args) w) (l : List Sp.PartD) (A : Option Addr) (n c : Nat) (w : World) (h : Rd w w.heap.size 3 A n (partsC l)) (hn : n ≤ 9223372036854775807) (hp : Tells g lb l p w.heap.size w) :
    Calls Tryz.prog 68 #[.slice A n c, .func (.func g) #[] lb] w fun e w' => (∃ i : Int, e = .returned (.int .i64 i) ∧ decide (i ≥ 0) = l.any p) ∧ Below w.heap.size w w' := by
  have hlen : l.length = n := by have := h.1; rw [partsC_len] at this; omega
  have HL := Lib.hid hlen
  have HROW := Lib.hid (fun k hk => Rd.partAt h k hk)
  have HP : Hid (Tells g lb l p w.heap.size w) := Lib.hid hp
  clear hlen h hp
  go_enter Tryz.func68, Tryz.ntmps68
  go_wp2_with fail
  go_loopw [5, 8] (fun _ iv wr => ∃ k : Nat, k ≤ n ∧ iv = .int .i64 k ∧ Hid (Below w.heap.size w wr) ∧ Hid (∀ x ∈ l.take k, p x = false)) (fun _ iv _ => n - (intOf iv).toNat)
  case atStart => exact ⟨0, Nat.zero_le _, rfl, Lib.hid (Below.refl _ _), Lib.hid (by simp)⟩
  case round =>
    obtain ⟨k, hk, rfl, HB, HA⟩ := hrel
    by_cases hlt : k < n
    · have hkl : k < l.length := by rw [HL.out]; exact hlt
      obtain ⟨ad, rfl, hc⟩ := HROW.out k hkl
      obtain ⟨c0, c1, c2⟩ := hc wr HB.out
      have HC := Lib.hid (HP.out wr l[k] (List.getElem_mem hkl) HB.out)
      have HTK : Hid (l.take (k + 1) = l.take k ++ [l[k]]) := Lib.hid (List.take_succ_eq_append_getElem hkl)
      have HMEM : Hid (l[k] ∈ l) := Lib.hid (List.getElem_mem hkl)
      clear hc
      generalize hy : l[k] = y at *
      generalize hq : p y = q at *
      have HQ := Lib.hid hq
      clear hq hy
      obtain ⟨fr, tt, st⟩ := y
      dsimp only at c0 c1 c2
      simp only [partV] at HC
      have x1 : (0 : Int) ≤ (k : Int) := by omega
      have x2 : (k : Int) < (n : Int) := by omega
      cases q with
      | true =>
        have HR : Hid (l.any p = true) := Lib.hid (List.any_eq_true.2 ⟨_, HMEM.out, HQ.out⟩)
        go_wp2_with (go_at_fn g; refine (HC.out).mono ?_; rintro e w2 ⟨rfl, hb2⟩; have HB2 := Lib.hid (HB.out.trans (hb2.mono HB.out.size)); clear hb2)
        go_ret
        exact ⟨⟨(k : Int), rfl, by rw [HR.out]; exact decide_eq_true (by omega)⟩, HB2.out⟩
      | false =>
        go_wp2_with (go_at_fn g; refine (HC.out).mono ?_; rintro e w2 ⟨rfl, hb2⟩; have HB2 := Lib.hid (HB.out.trans (hb2.mono HB.out.size)); clear hb2)
        go_roundw
        case rel => exact ⟨k + 1, by omega, by go_num, HB2, Lib.hid (by
          rw [HTK.out]
          intro x hx
          rcases List.mem_append.1 hx with hx | hx
          · exact HA.out x hx
          · rw [List.mem_singleton] at hx; rw [hx]; exact HQ.out)⟩
        case measure => simp [intOf]; omega
    · have hke : k = n := by omega
      have x2 : ¬ (k : Int) < (n : Int) := by omega
      have HR : Hid (l.any p = false) := Lib.hid (by
        rw [List.any_eq_false]
        intro x hx
        have := HA.out x (by rw [List.take_of_length_le (by rw [HL.out]; omega)]; exact hx)
        rw [this]; simp)
      have HBE := HB
      clear hke HA
      go_wp2
      go_ret
      exact ⟨⟨-1, rfl, by rw [HR.out]; rfl⟩, HBE.out⟩
theorem contains_any (p : Sp.PartD → Bool) (g : Nat) (lb : Array Value) (eg : ∀ args w, (callFunc g args).run Tryz.prog w = .ok (.enter g args) w) (l : List Sp.PartD) (A : Option Addr) (n c : Nat) (w : World) (h : Rd w w.heap.size 3 A n (partsC l)) (hn : n ≤ 9223372036854775807) (hp : Tells g lb l p w.heap.size w) :
    Calls Tryz.prog 39 #[.slice A n c, .func (.func g) #[] lb] w fun e w' => e = .returned (.bool (l.any p)) ∧ Below w.heap.size w w' := by
  have HI := Lib.hid (idx_any p g lb eg l A n c w h hn hp)
  generalize l.any p = q at *
  clear h hp
  go_enter Tryz.func39, Tryz.ntmps39
  go_wp2_with fail
  refine HI.out.mono ?_
  rintro e w2 ⟨⟨i, rfl, hi⟩, hb⟩
  have HB := Lib.hid hb
  clear hb HI
  cases q with
  | true =>
    have h1 : i ≥ 0 := of_decide_eq_true hi
    clear hi
    go_wp2
    go_ret
    exact ⟨rfl, HB.out⟩
  | false =>
    have h1 : ¬ i ≥ 0 := of_decide_eq_false hi
    have h2 : decide (0 ≤ i) = false := decide_eq_false (by omega)
    have H1 := Lib.hid h1
    clear hi h1
    go_wp2
    go_ret
    exact ⟨rfl, HB.out⟩

end Go.Proofs.YtpkpoglmmjaoeaaGreatDoor
