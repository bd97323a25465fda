/-
  slices.Index, Contains, IndexFunc, ContainsFunc at texts and at numbers that lie anywhere.
-/
import Derived.Test.YtijfeeiplljnjaaGreatDoorUl
import Derived.Shelf.Abstract
namespace Go.Proofs.YtijfeeiplljnjaaGreatDoor
open Go.RowKit Go.Shelf

set_option maxHeartbeats 4000000 in
theorem iidx_any (x : Int) (l : List Int) (A : Option Addr) (n c : Nat) (w : World) (h : Rd w w.heap.size 1 A n (intsV l)) (hn : n ≤ 9223372036854775807) :
    Calls Tryz.prog 54 #[.slice A n c, .int .i64 x] w fun e w' => (∃ i : Int, e = .returned (.int .i64 i) ∧ decide (i ≥ 0) = l.any (fun d => decide (d = x))) ∧ w = w' := by
  have hlen : l.length = n := by have := h.1; rw [intsV_len] at this; omega
  have HL := Lib.hid hlen
  have HROW := Lib.hid (fun k hk => Rd.intAt h k hk)
  clear hlen h
  go_enter Tryz.func54, Tryz.ntmps54
  go_wp2_with fail
  go_loopw [5, 8] (fun _ iv wr => w = wr ∧ ∃ k : Nat, k ≤ n ∧ iv = .int .i64 k ∧ Hid (∀ d ∈ l.take k, decide (d = x) = false)) (fun _ iv _ => n - (intOf iv).toNat)
  case atStart => exact ⟨rfl, 0, Nat.zero_le _, rfl, Lib.hid (by simp)⟩
  case round =>
    obtain ⟨rfl, k, hk, rfl, HA⟩ := hrel
    by_cases hlt : k < n
    · have hkl : k < l.length := by rw [HL.out]; exact hlt
      obtain ⟨ad, rfl, hc⟩ := HROW.out k hkl
      have c0 := hc w (Below.refl _ _)
      have HTK : Hid (l.take (k + 1) = l.take k ++ [l[k]]) := Lib.hid (List.take_succ_eq_append_getElem hkl)
      have HMEM : Hid (l[k] ∈ l) := Lib.hid (List.getElem_mem hkl)
      clear hc
      generalize l[k] = y at *
      have x1 : (0 : Int) ≤ (k : Int) := by omega
      have x2 : (k : Int) < (n : Int) := by omega
      cases hq : (x == y) with
      | true =>
        have HR : Hid (l.any (fun d => decide (d = x)) = true) := Lib.hid (List.any_eq_true.2 ⟨_, HMEM.out, by have : x = y := (by simpa using hq); simp [this]⟩)
        go_wp2
        go_ret
        exact ⟨⟨(k : Int), rfl, by rw [HR.out]; exact decide_eq_true (by omega)⟩, rfl⟩
      | false =>
        have HQ : Hid (decide (y = x) = false) := Lib.hid (decide_eq_false (fun e => by subst e; simp at hq))
        go_wp2
        go_roundw
        case rel => exact ⟨by first | rfl | trivial, k + 1, by omega, by go_num, Lib.hid (by
          rw [HTK.out]
          intro d hd
          rcases List.mem_append.1 hd with hd | hd
          · exact HA.out d hd
          · rw [List.mem_singleton] at hd; rw [hd]; exact HQ.out)⟩
        case measure => simp [intOf]; omega
    · have x2 : ¬ (k : Int) < (n : Int) := by omega
      have HR : Hid (l.any (fun d => decide (d = x)) = false) := Lib.hid (by
        rw [List.any_eq_false]
        intro d hd
        have := HA.out d (by rw [List.take_of_length_le (by rw [HL.out]; omega)]; exact hd)
        rw [this]; simp)
      go_wp2
      go_ret
      exact ⟨⟨-1, rfl, by rw [HR.out]; rfl⟩, rfl⟩
theorem icontains_any (x : Int) (l : List Int) (A : Option Addr) (n c : Nat) (w : World) (h : Rd w w.heap.size 1 A n (intsV l)) (hn : n ≤ 9223372036854775807) :
    Calls Tryz.prog 27 #[.slice A n c, .int .i64 x] w fun e w' => e = .returned (.bool (l.any (fun d => decide (d = x)))) ∧ w = w' := by
  have HI := Lib.hid (iidx_any x l A n c w h hn)
  generalize l.any (fun d => decide (d = x)) = q at *
  clear h
  go_enter Tryz.func27, Tryz.ntmps27
  go_wp2_with fail
  refine HI.out.mono ?_
  rintro e w2 ⟨⟨i, rfl, hi⟩, rfl⟩
  clear HI
  cases q with
  | true =>
    have h1 : i ≥ 0 := of_decide_eq_true hi
    clear hi
    go_wp2
    go_ret
    exact ⟨rfl, rfl⟩
  | false =>
    have h1 : ¬ i ≥ 0 := of_decide_eq_false hi
    have h2 : decide (0 ≤ i) = false := decide_eq_false (by omega)
    have H1 := Lib.hid h1
    clear hi h1
    go_wp2
    go_ret
    exact ⟨rfl, rfl⟩

theorem bytes_same {x y : ByteArray} (h : (x.toList == y.toList) = true) : x = y := by
  apply WideShapes.bytes_inj
  rw [← Sp.bytes_list, ← Sp.bytes_list]
  simpa using h

set_option maxHeartbeats 4000000 in
theorem sidx_any (x : ByteArray) (l : List ByteArray) (A : Option Addr) (n c : Nat) (w : World) (h : Rd w w.heap.size 1 A n (strsV l)) (hn : n ≤ 9223372036854775807) :
    Calls Tryz.prog 38 #[.slice A n c, .string x] w fun e w' => (∃ i : Int, e = .returned (.int .i64 i) ∧ decide (i ≥ 0) = l.any (fun d => decide (d = x))) ∧ w = w' := by
  have hlen : l.length = n := by have := h.1; rw [strsV_len] at this; omega
  have HL := Lib.hid hlen
  have HROW := Lib.hid (fun k hk => Rd.strAt h k hk)
  clear hlen h
  go_enter Tryz.func38, Tryz.ntmps38
  go_wp2_with fail
  go_loopw [5, 8] (fun _ iv wr => w = wr ∧ ∃ k : Nat, k ≤ n ∧ iv = .int .i64 k ∧ Hid (∀ d ∈ l.take k, decide (d = x) = false)) (fun _ iv _ => n - (intOf iv).toNat)
  case atStart => exact ⟨rfl, 0, Nat.zero_le _, rfl, Lib.hid (by simp)⟩
  case round =>
    obtain ⟨rfl, k, hk, rfl, HA⟩ := hrel
    by_cases hlt : k < n
    · have hkl : k < l.length := by rw [HL.out]; exact hlt
      obtain ⟨ad, rfl, hc⟩ := HROW.out k hkl
      have c0 := hc w (Below.refl _ _)
      have HTK : Hid (l.take (k + 1) = l.take k ++ [l[k]]) := Lib.hid (List.take_succ_eq_append_getElem hkl)
      have HMEM : Hid (l[k] ∈ l) := Lib.hid (List.getElem_mem hkl)
      clear hc
      generalize l[k] = y at *
      have x1 : (0 : Int) ≤ (k : Int) := by omega
      have x2 : (k : Int) < (n : Int) := by omega
      cases hq : (x.toList == y.toList) with
      | true =>
        have HR : Hid (l.any (fun d => decide (d = x)) = true) := Lib.hid (List.any_eq_true.2 ⟨_, HMEM.out, by have : x = y := bytes_same hq; simp [this]⟩)
        go_wp2
        go_ret
        exact ⟨⟨(k : Int), rfl, by rw [HR.out]; exact decide_eq_true (by omega)⟩, rfl⟩
      | false =>
        have HQ : Hid (decide (y = x) = false) := Lib.hid (decide_eq_false (fun e => by subst e; simp at hq))
        go_wp2
        go_roundw
        case rel => exact ⟨by first | rfl | trivial, k + 1, by omega, by go_num, Lib.hid (by
          rw [HTK.out]
          intro d hd
          rcases List.mem_append.1 hd with hd | hd
          · exact HA.out d hd
          · rw [List.mem_singleton] at hd; rw [hd]; exact HQ.out)⟩
        case measure => simp [intOf]; omega
    · have x2 : ¬ (k : Int) < (n : Int) := by omega
      have HR : Hid (l.any (fun d => decide (d = x)) = false) := Lib.hid (by
        rw [List.any_eq_false]
        intro d hd
        have := HA.out d (by rw [List.take_of_length_le (by rw [HL.out]; omega)]; exact hd)
        rw [this]; simp)
      go_wp2
      go_ret
      exact ⟨⟨-1, rfl, by rw [HR.out]; rfl⟩, rfl⟩
theorem scontains_any (x : ByteArray) (l : List ByteArray) (A : Option Addr) (n c : Nat) (w : World) (h : Rd w w.heap.size 1 A n (strsV l)) (hn : n ≤ 9223372036854775807) :
    Calls Tryz.prog 26 #[.slice A n c, .string x] w fun e w' => e = .returned (.bool (l.any (fun d => decide (d = x)))) ∧ w = w' := by
  have HI := Lib.hid (sidx_any x l A n c w h hn)
  generalize l.any (fun d => decide (d = x)) = q at *
  clear h
  go_enter Tryz.func26, Tryz.ntmps26
  go_wp2_with fail
  refine HI.out.mono ?_
  rintro e w2 ⟨⟨i, rfl, hi⟩, rfl⟩
  clear HI
  cases q with
  | true =>
    have h1 : i ≥ 0 := of_decide_eq_true hi
    clear hi
    go_wp2
    go_ret
    exact ⟨rfl, rfl⟩
  | false =>
    have h1 : ¬ i ≥ 0 := of_decide_eq_false hi
    have h2 : decide (0 ≤ i) = false := decide_eq_false (by omega)
    have H1 := Lib.hid h1
    clear hi h1
    go_wp2
    go_ret
    exact ⟨rfl, rfl⟩

/-- what is asked of a predicate that may lay blocks of its own -/
def TellsS (g : Nat) (lb : Array Value) (l : List ByteArray) (p : ByteArray → Bool) (B : Nat) (w : World) : Prop :=
  ∀ (W : World) (x : ByteArray), x ∈ l → Below B w W → Calls Tryz.prog g (#[.string x] ++ lb) W fun e w' => e = .returned (.bool (p x)) ∧ Below W.heap.size W w'
set_option maxRecDepth 100000 in
set_option maxHeartbeats 8000000 in
theorem sidxf_any (p : ByteArray → Bool) (g : Nat) (lb : Array Value) (eg : ∀ args w, (callFunc g args).run Tryz.prog w = .ok (.enter g args) w) (l : List ByteArray) (A : Option Addr) (n c : Nat) (w : World) (h : Rd w w.heap.size 1 A n (strsV l)) (hn : n ≤ 9223372036854775807) (hp : TellsS g lb l p w.heap.size w) :
    Calls Tryz.prog 51 #[.slice A n c, .func (.func g) #[] lb] w fun e w' => (∃ i : Int, e = .returned (.int .i64 i) ∧ decide (i ≥ 0) = l.any p) ∧ Below w.heap.size w w' := by
  have hlen : l.length = n := by have := h.1; rw [strsV_len] at this; omega
  have HL := Lib.hid hlen
  have HROW := Lib.hid (fun k hk => Rd.strAt h k hk)
  have HP : Hid (TellsS g lb l p w.heap.size w) := Lib.hid hp
  clear hlen h hp
  go_enter Tryz.func51, Tryz.ntmps51
  go_wp2_with fail
  go_loopw [5, 8] (fun _ iv wr => ∃ k : Nat, k ≤ n ∧ iv = .int .i64 k ∧ Hid (Below w.heap.size w wr) ∧ Hid (∀ x ∈ l.take k, p x = false)) (fun _ iv _ => n - (intOf iv).toNat)
  case atStart => exact ⟨0, Nat.zero_le _, rfl, Lib.hid (Below.refl _ _), Lib.hid (by simp)⟩
  case round =>
    obtain ⟨k, hk, rfl, HB, HA⟩ := hrel
    by_cases hlt : k < n
    · have hkl : k < l.length := by rw [HL.out]; exact hlt
      obtain ⟨ad, rfl, hc⟩ := HROW.out k hkl
      have c0 := hc wr HB.out
      have HC := Lib.hid (HP.out wr l[k] (List.getElem_mem hkl) HB.out)
      have HTK : Hid (l.take (k + 1) = l.take k ++ [l[k]]) := Lib.hid (List.take_succ_eq_append_getElem hkl)
      have HMEM : Hid (l[k] ∈ l) := Lib.hid (List.getElem_mem hkl)
      clear hc
      generalize hy : l[k] = y at *
      generalize hq : p y = q at *
      have HQ := Lib.hid hq
      clear hq hy
      have x1 : (0 : Int) ≤ (k : Int) := by omega
      have x2 : (k : Int) < (n : Int) := by omega
      cases q with
      | true =>
        have HR : Hid (l.any p = true) := Lib.hid (List.any_eq_true.2 ⟨_, HMEM.out, HQ.out⟩)
        go_wp2_with (go_at_fn g; refine (HC.out).mono ?_; rintro e w2 ⟨rfl, hb2⟩; have HB2 := Lib.hid (HB.out.trans (hb2.mono HB.out.size)); clear hb2)
        go_ret
        exact ⟨⟨(k : Int), rfl, by rw [HR.out]; exact decide_eq_true (by omega)⟩, HB2.out⟩
      | false =>
        go_wp2_with (go_at_fn g; refine (HC.out).mono ?_; rintro e w2 ⟨rfl, hb2⟩; have HB2 := Lib.hid (HB.out.trans (hb2.mono HB.out.size)); clear hb2)
        go_roundw
        case rel => exact ⟨k + 1, by omega, by go_num, HB2, Lib.hid (by
          rw [HTK.out]
          intro x hx
          rcases List.mem_append.1 hx with hx | hx
          · exact HA.out x hx
          · rw [List.mem_singleton] at hx; rw [hx]; exact HQ.out)⟩
        case measure => simp [intOf]; omega
    · have hke : k = n := by omega
      have x2 : ¬ (k : Int) < (n : Int) := by omega
      have HR : Hid (l.any p = false) := Lib.hid (by
        rw [List.any_eq_false]
        intro x hx
        have := HA.out x (by rw [List.take_of_length_le (by rw [HL.out]; omega)]; exact hx)
        rw [this]; simp)
      have HBE := HB
      clear hke HA
      go_wp2
      go_ret
      exact ⟨⟨-1, rfl, by rw [HR.out]; rfl⟩, HBE.out⟩
theorem scontainsf_any (p : ByteArray → Bool) (g : Nat) (lb : Array Value) (eg : ∀ args w, (callFunc g args).run Tryz.prog w = .ok (.enter g args) w) (l : List ByteArray) (A : Option Addr) (n c : Nat) (w : World) (h : Rd w w.heap.size 1 A n (strsV l)) (hn : n ≤ 9223372036854775807) (hp : TellsS g lb l p w.heap.size w) :
    Calls Tryz.prog 19 #[.slice A n c, .func (.func g) #[] lb] w fun e w' => e = .returned (.bool (l.any p)) ∧ Below w.heap.size w w' := by
  have HI := Lib.hid (sidxf_any p g lb eg l A n c w h hn hp)
  generalize l.any p = q at *
  clear h hp
  go_enter Tryz.func19, Tryz.ntmps19
  go_wp2_with fail
  refine HI.out.mono ?_
  rintro e w2 ⟨⟨i, rfl, hi⟩, hb⟩
  have HB := Lib.hid hb
  clear hb HI
  cases q with
  | true =>
    have h1 : i ≥ 0 := of_decide_eq_true hi
    clear hi
    go_wp2
    go_ret
    exact ⟨rfl, HB.out⟩
  | false =>
    have h1 : ¬ i ≥ 0 := of_decide_eq_false hi
    have h2 : decide (0 ≤ i) = false := decide_eq_false (by omega)
    have H1 := Lib.hid h1
    clear hi h1
    go_wp2
    go_ret
    exact ⟨rfl, HB.out⟩

/-- what is asked of a predicate that may lay blocks of its own -/
def TellsI (g : Nat) (lb : Array Value) (l : List Int) (p : Int → Bool) (B : Nat) (w : World) : Prop :=
  ∀ (W : World) (x : Int), x ∈ l → Below B w W → Calls Tryz.prog g (#[.int .i64 x] ++ lb) W fun e w' => e = .returned (.bool (p x)) ∧ Below W.heap.size W w'
set_option maxRecDepth 100000 in
set_option maxHeartbeats 8000000 in
theorem iidxf_any (p : Int → Bool) (g : Nat) (lb : Array Value) (eg : ∀ args w, (callFunc g args).run Tryz.prog w = .ok (.enter g args) w) (l : List Int) (A : Option Addr) (n c : Nat) (w : World) (h : Rd w w.heap.size 1 A n (intsV l)) (hn : n ≤ 9223372036854775807) (hp : TellsI g lb l p w.heap.size w) :
    Calls Tryz.prog 53 #[.slice A n c, .func (.func g) #[] lb] w fun e w' => (∃ i : Int, e = .returned (.int .i64 i) ∧ decide (i ≥ 0) = l.any p) ∧ Below w.heap.size w w' := by
  have hlen : l.length = n := by have := h.1; rw [intsV_len] at this; omega
  have HL := Lib.hid hlen
  have HROW := Lib.hid (fun k hk => Rd.intAt h k hk)
  have HP : Hid (TellsI g lb l p w.heap.size w) := Lib.hid hp
  clear hlen h hp
  go_enter Tryz.func53, Tryz.ntmps53
  go_wp2_with fail
  go_loopw [5, 8] (fun _ iv wr => ∃ k : Nat, k ≤ n ∧ iv = .int .i64 k ∧ Hid (Below w.heap.size w wr) ∧ Hid (∀ x ∈ l.take k, p x = false)) (fun _ iv _ => n - (intOf iv).toNat)
  case atStart => exact ⟨0, Nat.zero_le _, rfl, Lib.hid (Below.refl _ _), Lib.hid (by simp)⟩
  case round =>
    obtain ⟨k, hk, rfl, HB, HA⟩ := hrel
    by_cases hlt : k < n
    · have hkl : k < l.length := by rw [HL.out]; exact hlt
      obtain ⟨ad, rfl, hc⟩ := HROW.out k hkl
      have c0 := hc wr HB.out
      have HC := Lib.hid (HP.out wr l[k] (List.getElem_mem hkl) HB.out)
      have HTK : Hid (l.take (k + 1) = l.take k ++ [l[k]]) := Lib.hid (List.take_succ_eq_append_getElem hkl)
      have HMEM : Hid (l[k] ∈ l) := Lib.hid (List.getElem_mem hkl)
      clear hc
      generalize hy : l[k] = y at *
      generalize hq : p y = q at *
      have HQ := Lib.hid hq
      clear hq hy
      have x1 : (0 : Int) ≤ (k : Int) := by omega
      have x2 : (k : Int) < (n : Int) := by omega
      cases q with
      | true =>
        have HR : Hid (l.any p = true) := Lib.hid (List.any_eq_true.2 ⟨_, HMEM.out, HQ.out⟩)
        go_wp2_with (go_at_fn g; refine (HC.out).mono ?_; rintro e w2 ⟨rfl, hb2⟩; have HB2 := Lib.hid (HB.out.trans (hb2.mono HB.out.size)); clear hb2)
        go_ret
        exact ⟨⟨(k : Int), rfl, by rw [HR.out]; exact decide_eq_true (by omega)⟩, HB2.out⟩
      | false =>
        go_wp2_with (go_at_fn g; refine (HC.out).mono ?_; rintro e w2 ⟨rfl, hb2⟩; have HB2 := Lib.hid (HB.out.trans (hb2.mono HB.out.size)); clear hb2)
        go_roundw
        case rel => exact ⟨k + 1, by omega, by go_num, HB2, Lib.hid (by
          rw [HTK.out]
          intro x hx
          rcases List.mem_append.1 hx with hx | hx
          · exact HA.out x hx
          · rw [List.mem_singleton] at hx; rw [hx]; exact HQ.out)⟩
        case measure => simp [intOf]; omega
    · have hke : k = n := by omega
      have x2 : ¬ (k : Int) < (n : Int) := by omega
      have HR : Hid (l.any p = false) := Lib.hid (by
        rw [List.any_eq_false]
        intro x hx
        have := HA.out x (by rw [List.take_of_length_le (by rw [HL.out]; omega)]; exact hx)
        rw [this]; simp)
      have HBE := HB
      clear hke HA
      go_wp2
      go_ret
      exact ⟨⟨-1, rfl, by rw [HR.out]; rfl⟩, HBE.out⟩
theorem icontainsf_any (p : Int → Bool) (g : Nat) (lb : Array Value) (eg : ∀ args w, (callFunc g args).run Tryz.prog w = .ok (.enter g args) w) (l : List Int) (A : Option Addr) (n c : Nat) (w : World) (h : Rd w w.heap.size 1 A n (intsV l)) (hn : n ≤ 9223372036854775807) (hp : TellsI g lb l p w.heap.size w) :
    Calls Tryz.prog 22 #[.slice A n c, .func (.func g) #[] lb] w fun e w' => e = .returned (.bool (l.any p)) ∧ Below w.heap.size w w' := by
  have HI := Lib.hid (iidxf_any p g lb eg l A n c w h hn hp)
  generalize l.any p = q at *
  clear h hp
  go_enter Tryz.func22, Tryz.ntmps22
  go_wp2_with fail
  refine HI.out.mono ?_
  rintro e w2 ⟨⟨i, rfl, hi⟩, hb⟩
  have HB := Lib.hid hb
  clear hb HI
  cases q with
  | true =>
    have h1 : i ≥ 0 := of_decide_eq_true hi
    clear hi
    go_wp2
    go_ret
    exact ⟨rfl, HB.out⟩
  | false =>
    have h1 : ¬ i ≥ 0 := of_decide_eq_false hi
    have h2 : decide (0 ≤ i) = false := decide_eq_false (by omega)
    have H1 := Lib.hid h1
    clear hi h1
    go_wp2
    go_ret
    exact ⟨rfl, HB.out⟩

end Go.Proofs.YtijfeeiplljnjaaGreatDoor
