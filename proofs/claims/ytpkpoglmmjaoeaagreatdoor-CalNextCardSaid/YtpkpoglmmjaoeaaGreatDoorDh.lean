/-
  The parts of a field as a text says them: the program's walk.
-/
import Derived.Test.YtpkpoglmmjaoeaaGreatDoorDg
import Derived.Test.YtpkpoglmmjaoeaaGreatDoorDd
import Derived.RangeFuncBox
import Derived.Maps.AppendAt
namespace Go.Proofs.YtpkpoglmmjaoeaaGreatDoor
open Go.RowKit Go.Shelf
attribute [local go_sem] Oper.semAt_some

namespace Sp
theorem allSome_snoc {α : Type} : ∀ (l : List (Option α)) (ps : List α) (x : α), allSome l = some ps → allSome (l ++ [some x]) = some (ps ++ [x])
  | [], ps, x, h => by
    injection h with h
    subst h; rfl
  | none :: r, ps, x, h => by cases h
  | some y :: r, ps, x, h => by
    rw [allSome] at h
    cases hr : allSome r with
    | none => rw [hr] at h; cases h
    | some q =>
      rw [hr] at h
      injection h with h
      subst h
      rw [List.cons_append, allSome, allSome_snoc r q x hr]
      rfl
theorem allSome_none {α : Type} : ∀ (a r : List (Option α)), allSome (a ++ none :: r) = none
  | [], r => rfl
  | none :: a, r => rfl
  | some y :: a, r => by rw [List.cons_append, allSome, allSome_none a r]
theorem split_most (c : UInt8) : ∀ l : List UInt8, (splitC c l).length ≤ l.length + 1
  | [] => by simp [splitC]
  | b :: r => by
    have ih := split_most c r
    unfold splitC
    split
    · simp only [List.length_cons]; omega
    · split
      · simp
      · rename_i h
        rw [h] at ih
        simp only [List.length_cons] at ih ⊢; omega
theorem split_part (c : UInt8) : ∀ (l x : List UInt8), x ∈ splitC c l → x.length ≤ l.length
  | [], x, h => by
    simp [splitC] at h
    simp [h]
  | b :: r, x, h => by
    have ih := split_part c r
    unfold splitC at h
    split at h
    · rcases List.mem_cons.1 h with rfl | h
      · simp
      · have := ih x h; simp only [List.length_cons]; omega
    · split at h
      · simp at h
        simp [h]
      · rename_i y z hs
        rw [hs] at ih
        rcases List.mem_cons.1 h with rfl | h
        · have := ih y (by simp)
          simp only [List.length_cons]; omega
        · have := ih x (by simp [h])
          simp only [List.length_cons]; omega
def partsB (pre : List ByteArray) : Option (List PartD) := allSome (pre.map fun x => partP x.data.toList)
theorem partsB_snoc {pre : List ByteArray} {ps : List PartD} {x : ByteArray} {p : PartD} (h : partsB pre = some ps) (hp : partP x.data.toList = some p) : partsB (pre ++ [x]) = some (ps ++ [p]) := by
  unfold partsB at h ⊢
  rw [List.map_append, List.map_singleton, hp]
  exact allSome_snoc _ _ _ h
theorem partsP_of {l : List UInt8} {xs : List ByteArray} (h : xs.map (fun x => x.data.toList) = splitC 44 l) : partsP l = partsB xs := by
  unfold partsP partsB
  rw [← h, List.map_map]; rfl
theorem partsP_bad {l : List UInt8} {pre : List ByteArray} {x : ByteArray} (h : (pre ++ [x]).map (fun x => x.data.toList) <+: splitC 44 l) (hx : partP x.data.toList = none) : partsP l = none := by
  obtain ⟨r, hr⟩ := h
  unfold partsP
  rw [← hr, List.map_append, List.map_map, List.map_append, List.append_assoc]
  simp only [List.map_cons, List.map_nil, List.singleton_append, Function.comp, hx]
  exact allSome_none _ _
theorem partsB_len : ∀ {pre : List ByteArray} {ps : List PartD}, partsB pre = some ps → ps.length = pre.length
  | [], ps, h => by injection h with h; subst h; rfl
  | x :: r, ps, h => by
    unfold partsB at h
    rw [List.map_cons] at h
    cases hp : partP x.data.toList with
    | none => rw [hp] at h; cases h
    | some p =>
      rw [hp, allSome] at h
      cases hr : allSome (r.map fun x => partP x.data.toList) with
      | none => rw [hr] at h; cases h
      | some q =>
        rw [hr] at h
        injection h with h
        subst h
        rw [List.length_cons, List.length_cons, partsB_len (pre := r) (ps := q) hr]
end Sp
theorem ownsRow_base {W : World} {B B' : Nat} {e : TypeId} {size : Nat} {v : Value} {k : Nat} {xs : List Value} (h : W.ownsRow B e size v k xs) (hB : B' ≤ B) : W.ownsRow B' e size v k xs := by
  refine ⟨h.1, ?_⟩
  rcases h.2 with h | ⟨g, cap, cur, hv, hb, h⟩
  · exact .inl h
  · exact .inr ⟨g, cap, cur, hv, Nat.le_trans hB hb, h⟩
theorem ownsRow_ne {W : World} {B b : Nat} {e : TypeId} {size : Nat} {v : Value} {k : Nat} {xs : List Value} (h : W.ownsRow B e size v k xs) (hb : b < B) : some b ≠ v.ownBlock := by
  rcases h.2 with ⟨rfl, _⟩ | ⟨g, cap, cur, rfl, hg, _⟩
  · simp [Value.ownBlock]
  · intro e
    obtain rfl : b = g := by simpa [Value.ownBlock] using e
    omega
theorem ownsRow_grow {W W' : World} {B : Nat} {e : TypeId} {size : Nat} {v : Value} {k : Nat} {xs : List Value} (h : W.ownsRow B e size v k xs) (hb : Below W.heap.size W W') : W'.ownsRow B e size v k xs :=
  h.kept (grown_of_below hb) (by cases v.ownBlock with | none => exact .inl rfl | some b => exact .inr (by simp))
/-- the parts that have come, in a row of the call's own -/
def PartsI (n₀ bo : Nat) (pre : List ByteArray) (W : World) : Prop := ∃ v ps, Sp.partsB pre = some ps ∧ Boxed W bo 23 v ∧ W.ownsRow n₀ 62 3 v ps.length (partsC ps)
theorem partsI_own (B n₀ bo : Nat) : OwnFrom B (PartsI n₀ bo) := fun pre X Y row ⟨v, ps, hp, hb, hw⟩ hg hr => by
  obtain ⟨v', h1, h2, _⟩ := (holdsRow_own n₀ bo 23 62 3 (fun ps : List Sp.PartD => ps.length) partsC (fun _ _ => True)) ps X Y row ⟨v, hb, hw, trivial⟩ hg (fun r e => (hr r e).2)
  exact ⟨v', ps, hp, h1, h2⟩
theorem partsI_set {n₀ bo b : Nat} {pre : List ByteArray} {W : World} {u : Value} (h : PartsI n₀ bo pre W) (h1 : bo ≠ b) (h2 : b < n₀) : PartsI n₀ bo pre (W.setCell ⟨b, 0, none⟩ u) := by
  obtain ⟨v, ps, hp, hb, hw⟩ := h
  exact ⟨v, ps, hp, hb.other h1 u, hw.kept (grownBy_setCell' W b u) (.inr (Ne.symm (ownsRow_ne hw h2)))⟩
theorem boxes_own {β : Type} {B b1 b2 : Nat} {t1 t2 : TypeId} {v1 v2 : Value} : OwnFrom B (fun (_ : β) W => Boxed W b1 t1 v1 ∧ Boxed W b2 t2 v2) := fun _ X Y row hs hg hr =>
  ⟨boxed_own b1 t1 (fun (_ : Unit) => v1) () X Y row hs.1 hg (fun r e => (hr r e).2), boxed_own b2 t2 (fun (_ : Unit) => v2) () X Y row hs.2 hg (fun r e => (hr r e).2)⟩
theorem info_part : (Tryz.prog.info? 62).map (fun i => (i.zero, i.size, i.bytes)) = some (some (.agg #[.int .i64 0, .int .i64 0, .int .i64 0]), 3, 24) := by kernel_rfl
theorem partsC_snoc (ps : List Sp.PartD) (p : Sp.PartD) : partsC (ps ++ [p]) = partsC ps ++ [.int .i64 p.fr, .int .i64 p.to, .int .i64 p.st] := by
  unfold partsC; rw [List.flatMap_append, List.flatMap_singleton]; rfl
theorem PB.here {w : World} {b : Nat} {p : Sp.PartD} (h : PB w b p) : ∀ j u, ([.int .i64 p.fr, .int .i64 p.to, .int .i64 p.st] : List Value)[j]? = some u → w.cell? ((⟨b, 0, none⟩ : Addr).add j) = some u
  | 0, u, hu => by injection hu with hu; rw [← hu]; exact h.c0
  | 1, u, hu => by injection hu with hu; rw [← hu]; exact h.c1
  | 2, u, hu => by injection hu with hu; rw [← hu]; exact h.c2
  | j + 3, u, hu => by simp at hu
theorem part_oneCell (p : Sp.PartD) : ∀ u ∈ ([.int .i64 p.fr, .int .i64 p.to, .int .i64 p.st] : List Value), u.oneCell' = true := by
  intro u hu
  simp at hu
  rcases hu with rfl | rfl | rfl <;> simp [Value.oneCell']
def PartsPost (l : List UInt8) (e : Ending) (W : World) : Prop :=
  (∃ ps A n c, Sp.partsP l = some ps ∧ e = .returned (.tuple #[.slice A n c, .bool true]) ∧ (Rd W W.heap.size 3 A n (partsC ps) ∧ n ≤ 9223372036854775807)) ∨ (Sp.partsP l = none ∧ e = .returned (.tuple #[.slice none 0 0, .bool false]))
set_option maxRecDepth 100000 in
set_option maxHeartbeats 16000000 in
theorem parts_in (n : Nat) (hn : 20 ≤ n) (s : ByteArray) (w : World) (hs : s.size ≤ 1048576) (E : Env w) :
    CallsIn Fence.wide n Tryz.prog 59 #[.string s] w fun e w' => PartsPost s.data.toList e w' ∧ Below w.heap.size w w' := by
  have h1 : 1 ≤ n := by omega
  obtain ⟨i0, hi, hz0, hz1, hz2⟩ := info_parts info_part
  refine callsIn_of_wp_marks Tryz.func59 rfl trivial ?_ rfl
  simp only [Tryz.ntmps59, List.size_toArray, List.length_cons, List.length_nil, Nat.reduceAdd, Nat.reduceSub, Array.replicate_succ, Array.replicate_zero, List.push_toArray, List.append_toArray, List.nil_append, List.cons_append]
  gi_wp2_with fail
  refine ⟨trivial, (callsIn_wide.2 (splitSeq_any _ _ _)).mono ?_⟩
  rintro e w' ⟨rfl, rfl⟩
  gi_wp2_with fail
  have ksz : (((((((w.alloc (.cells #[.slice none 0 0] 23)).alloc (.cells #[.bool false] 4)).alloc (.cells #[.slice none 0 0] 23)).alloc (.cells #[.string s] 9)).alloc (.cells #[.string ⟨#[44]⟩] 9)).alloc (.cells #[.int .i64 0] 3))).heap.size = w.heap.size + 6 := by simp
  have kB : Below w.heap.size w (((((((w.alloc (.cells #[.slice none 0 0] 23)).alloc (.cells #[.bool false] 4)).alloc (.cells #[.slice none 0 0] 23)).alloc (.cells #[.string s] 9)).alloc (.cells #[.string ⟨#[44]⟩] 9)).alloc (.cells #[.int .i64 0] 3))) := ((((((((((((Below.refl _ _).alloc (by first | exact Nat.le_refl _ | (simp; done) | (simp; omega)) _)).alloc (by first | exact Nat.le_refl _ | (simp; done) | (simp; omega)) _)).alloc (by first | exact Nat.le_refl _ | (simp; done) | (simp; omega)) _)).alloc (by first | exact Nat.le_refl _ | (simp; done) | (simp; omega)) _)).alloc (by first | exact Nat.le_refl _ | (simp; done) | (simp; omega)) _)).alloc (by first | exact Nat.le_refl _ | (simp; done) | (simp; omega)) _)
  have k0 : Boxed (((((((w.alloc (.cells #[.slice none 0 0] 23)).alloc (.cells #[.bool false] 4)).alloc (.cells #[.slice none 0 0] 23)).alloc (.cells #[.string s] 9)).alloc (.cells #[.string ⟨#[44]⟩] 9)).alloc (.cells #[.int .i64 0] 3))) (w.heap.size) 23 (.slice none 0 0) := by
    have h := (Boxed.alloc (Boxed.alloc (Boxed.alloc (Boxed.alloc (Boxed.alloc (Boxed.new w 23 (.slice none 0 0)) (.cells #[.bool false] 4)) (.cells #[.slice none 0 0] 23)) (.cells #[.string s] 9)) (.cells #[.string ⟨#[44]⟩] 9)) (.cells #[.int .i64 0] 3))
    try simp only [World.size_alloc] at h
    exact h
  have k1 : Boxed (((((((w.alloc (.cells #[.slice none 0 0] 23)).alloc (.cells #[.bool false] 4)).alloc (.cells #[.slice none 0 0] 23)).alloc (.cells #[.string s] 9)).alloc (.cells #[.string ⟨#[44]⟩] 9)).alloc (.cells #[.int .i64 0] 3))) (w.heap.size + 1) 4 (.bool false) := by
    have h := (Boxed.alloc (Boxed.alloc (Boxed.alloc (Boxed.alloc (Boxed.new (w.alloc (.cells #[.slice none 0 0] 23)) 4 (.bool false)) (.cells #[.slice none 0 0] 23)) (.cells #[.string s] 9)) (.cells #[.string ⟨#[44]⟩] 9)) (.cells #[.int .i64 0] 3))
    try simp only [World.size_alloc] at h
    exact h
  have k2 : Boxed (((((((w.alloc (.cells #[.slice none 0 0] 23)).alloc (.cells #[.bool false] 4)).alloc (.cells #[.slice none 0 0] 23)).alloc (.cells #[.string s] 9)).alloc (.cells #[.string ⟨#[44]⟩] 9)).alloc (.cells #[.int .i64 0] 3))) (w.heap.size + 1 + 1) 23 (.slice none 0 0) := by
    have h := (Boxed.alloc (Boxed.alloc (Boxed.alloc (Boxed.new ((w.alloc (.cells #[.slice none 0 0] 23)).alloc (.cells #[.bool false] 4)) 23 (.slice none 0 0)) (.cells #[.string s] 9)) (.cells #[.string ⟨#[44]⟩] 9)) (.cells #[.int .i64 0] 3))
    try simp only [World.size_alloc] at h
    exact h
  have k3 : Boxed (((((((w.alloc (.cells #[.slice none 0 0] 23)).alloc (.cells #[.bool false] 4)).alloc (.cells #[.slice none 0 0] 23)).alloc (.cells #[.string s] 9)).alloc (.cells #[.string ⟨#[44]⟩] 9)).alloc (.cells #[.int .i64 0] 3))) (w.heap.size + 1 + 1 + 1) 9 (.string s) := by
    have h := (Boxed.alloc (Boxed.alloc (Boxed.new (((w.alloc (.cells #[.slice none 0 0] 23)).alloc (.cells #[.bool false] 4)).alloc (.cells #[.slice none 0 0] 23)) 9 (.string s)) (.cells #[.string ⟨#[44]⟩] 9)) (.cells #[.int .i64 0] 3))
    try simp only [World.size_alloc] at h
    exact h
  have k4 : Boxed (((((((w.alloc (.cells #[.slice none 0 0] 23)).alloc (.cells #[.bool false] 4)).alloc (.cells #[.slice none 0 0] 23)).alloc (.cells #[.string s] 9)).alloc (.cells #[.string ⟨#[44]⟩] 9)).alloc (.cells #[.int .i64 0] 3))) (w.heap.size + 1 + 1 + 1 + 1) 9 (.string ⟨#[44]⟩) := by
    have h := (Boxed.alloc (Boxed.new ((((w.alloc (.cells #[.slice none 0 0] 23)).alloc (.cells #[.bool false] 4)).alloc (.cells #[.slice none 0 0] 23)).alloc (.cells #[.string s] 9)) 9 (.string ⟨#[44]⟩)) (.cells #[.int .i64 0] 3))
    try simp only [World.size_alloc] at h
    exact h
  have k5 : Boxed (((((((w.alloc (.cells #[.slice none 0 0] 23)).alloc (.cells #[.bool false] 4)).alloc (.cells #[.slice none 0 0] 23)).alloc (.cells #[.string s] 9)).alloc (.cells #[.string ⟨#[44]⟩] 9)).alloc (.cells #[.int .i64 0] 3))) (w.heap.size + 1 + 1 + 1 + 1 + 1) 3 (.int .i64 0) := by
    have h := (Boxed.new (((((w.alloc (.cells #[.slice none 0 0] 23)).alloc (.cells #[.bool false] 4)).alloc (.cells #[.slice none 0 0] 23)).alloc (.cells #[.string s] 9)).alloc (.cells #[.string ⟨#[44]⟩] 9)) 3 (.int .i64 0))
    try simp only [World.size_alloc] at h
    exact h
  generalize ((((((w.alloc (.cells #[.slice none 0 0] 23)).alloc (.cells #[.bool false] 4)).alloc (.cells #[.slice none 0 0] 23)).alloc (.cells #[.string s] 9)).alloc (.cells #[.string ⟨#[44]⟩] 9)).alloc (.cells #[.int .i64 0] 3)) = W0 at *
  have HE0 := Lib.hid (E.on (show Below w.heap.size w W0 from kB))
  have HPB := Lib.hid (fun xs => Sp.partsP_of (l := s.data.toList) (xs := xs))
  have hSz := kB.size
  have hL0 : w.heap.size < W0.heap.size := by omega
  have hL1 : w.heap.size + 1 < W0.heap.size := by omega
  have hL2 : w.heap.size + 1 + 1 < W0.heap.size := by omega
  have hL3 : w.heap.size + 1 + 1 + 1 < W0.heap.size := by omega
  have hL4 : w.heap.size + 1 + 1 + 1 + 1 < W0.heap.size := by omega
  have hL5 : w.heap.size + 1 + 1 + 1 + 2 < W0.heap.size := by omega
  have h1b : 1 ≤ n - 1 - 1 := by omega
  have hN0 : w.heap.size + 1 + 1 + 1 + 3 ≤ W0.heap.size := by omega
  refine range_gen h1 (gf := 84) (lb := #[.pointer (some ⟨w.heap.size + 1 + 1 + 1 + 1, 0, none⟩), .pointer (some ⟨w.heap.size + 1 + 1 + 1, 0, none⟩), .pointer (some ⟨w.heap.size + 1 + 1 + 1 + 2, 0, none⟩)]) rfl (enters_of Tryz.func84 (by kernel_rfl) rfl)
    (splitSeq1_seq (n - 1) (by omega) (w.heap.size + 1 + 1 + 1 + 1) (w.heap.size + 1 + 1 + 1) (w.heap.size + 1 + 1 + 1 + 2) 44 s (by omega) W0 (by omega) (by omega) (by omega) (by omega) (by omega) k4 k3 k5)
    (fun h k b hb => (k b hb).trans (h b hb)) (fun W o b hb => World.putObj_heap_other (by omega)) (fun X Y k ⟨v, e⟩ hk => by rw [e]; exact Below.heap_setCell _ _ _ k (by simp; omega)) (fun _ => rfl)
    (fun pre W => PartsI (w.heap.size + 1 + 1 + 1 + 3) (w.heap.size + 1 + 1) pre W ∧ (Boxed W (w.heap.size) 23 (.slice none 0 0) ∧ Boxed W (w.heap.size + 1) 4 (.bool false)) ∧ Below w.heap.size w W ∧ W0.heap.size ≤ W.heap.size)
    (fun c pre W => (c = .ret ∧ Sp.partsP s.data.toList = none) ∧ (Boxed W (w.heap.size) 23 (.slice none 0 0) ∧ Boxed W (w.heap.size + 1) 4 (.bool false)) ∧ Below w.heap.size w W)
    (OwnFrom.and (partsI_own _ _ _) (OwnFrom.and boxes_own (OwnFrom.and (ownFrom_below (by omega) (by omega)) (fun _ X Y row hs hg _ => Nat.le_trans hs hg.size))))
    (fun c => OwnFrom.and (ownFrom_pure _ (fun _ => c = .ret ∧ Sp.partsP s.data.toList = none)) (OwnFrom.and boxes_own (ownFrom_below (by omega) (by omega))))
    ⟨⟨_, [], rfl, k2, World.ownsRow_nil _ _ _ _⟩, ⟨k0, k1⟩, kB, Nat.le_refl _⟩
    (fun pre X Y ⟨hp, ⟨hb0, hb1⟩, hbw, hzz⟩ ⟨v, e⟩ => by rw [e]; exact ⟨partsI_set hp (by omega) (by omega), ⟨hb0.other (by omega) _, hb1.other (by omega) _⟩, hbw.setCell (p := ⟨w.heap.size + 1 + 1 + 1, 0, none⟩) (by dsimp only; omega) _, by rw [World.size_setCell]; exact hzz⟩)
    (fun x => { tmps := #[.string s, undef, .pointer (some ⟨w.heap.size, 0, none⟩), .pointer (some ⟨w.heap.size + 1, 0, none⟩), .pointer (some ⟨w.heap.size + 1 + 1, 0, none⟩), .string x, undef, undef, .string s, .func (.func 84) #[] #[.pointer (some ⟨w.heap.size + 1 + 1 + 1 + 1, 0, none⟩), .pointer (some ⟨w.heap.size + 1 + 1 + 1, 0, none⟩), .pointer (some ⟨w.heap.size + 1 + 1 + 1 + 2, 0, none⟩)], .string x, undef, undef, undef, undef, undef, undef, undef, undef, undef, undef, undef, undef], defers := [] })
    ?assign ?body ?done ?stop
  case assign =>
    intro x W K hK
    gi_wp2
    exact hK
  case body =>
    rintro pre x W hkn ⟨⟨v, ps, hps, hbo, hrow⟩, ⟨hb0, hb1⟩, hbw, hzW⟩
    have hxm : x.data.toList ∈ Sp.splitC 44 s.data.toList := hkn.subset (by simp)
    have hxs : x.size ≤ 1048576 := by
      have h2 := Sp.split_part 44 _ _ hxm
      have h3 := bytes_size s
      have h4 := bytes_size x
      omega
    have hln : ps.length ≤ 1048576 := by
      have h2 := hkn.length_le
      have h3 := Sp.split_most 44 s.data.toList
      have h4 := bytes_size s
      have h5 := Sp.partsB_len hps
      simp only [List.length_map, List.length_append, List.length_singleton] at h2
      omega
    have HPA := Lib.hid (part_any x W hxs (E.on hbw))
    have HKN := Lib.hid hkn
    have HPS := Lib.hid hps
    have hsW := hbw.size
    have hsW' : w.heap.size ≤ W.heap.size := hsW
    clear hkn hps hxm hxs
    have hbl : w.heap.size + 1 + 1 < W.heap.size := hbo.lt
    gi_wp2_with fail
    refine ⟨trivial, (CallsIn.inRound _ (callsIn_wide.2 HPA.out)).mono ?_⟩
    rintro e w2 ⟨(⟨q, hq, rfl⟩ | ⟨hq, q, rfl⟩), hb2⟩
    · have HQ := Lib.hid hq
      have hbo2 := Boxed.under hbo hb2
      have hrow2 := ownsRow_grow hrow hb2
      have hal : Below w2.heap.size w2 (w2.alloc (.cells #[.int .i64 q.fr, .int .i64 q.to, .int .i64 q.st] 62)) := (Below.refl _ _).alloc (Nat.le_refl _) _
      have hbo3 := Boxed.under hbo2 hal
      have hrow3 := ownsRow_grow hrow2 hal
      have hco := hbo3.cell
      have hs2 := hb2.size
      have hs3 : (w2.alloc (.cells #[.int .i64 q.fr, .int .i64 q.to, .int .i64 q.st] 62)).heap.size = w2.heap.size + 1 := World.size_alloc _ _
      have hnew := PB.here (PB.new (w2.alloc (.cells #[.int .i64 q.fr, .int .i64 q.to, .int .i64 q.st] 62)) q.fr q.to q.st)
      rw [hs3] at hnew
      simp only [pv]
      gi_wp2_with (gi_at_builtin; refine wpListIn_append_own _ rfl _ _ 23 rfl (w.heap.size + 1 + 1 + 1 + 3) 62 i0 (.agg #[.int .i64 0, .int .i64 0, .int .i64 0]) 3 24 Tryz.underlying23 hi hz0 hz1 hz2 rfl (by decide) _ _ _ rfl (hrow3.alloc _) ⟨w2.heap.size + 1, 0, none⟩ 1 1 [.int .i64 q.fr, .int .i64 q.to, .int .i64 q.st] rfl rfl hnew (part_oneCell q) (by simp only [maxLen]; omega) (by omega) (by simp; omega) ?_; intro v' w1 hown' hgrow _; obtain ⟨g', cap', rfl⟩ := ownsRow_succ hown'; obtain ⟨hv1, hv2, hr2, hk2, hbA⟩ := Boxed.appended hbo3 (by decide) (ownsRow_base hrow3 (show w.heap.size + 1 + 1 ≤ _ by omega)) (by simp; omega) (Nat.le_refl _) (ownsRow_base hown' (show w.heap.size + 1 + 1 ≤ _ by omega)) hgrow; have hc1 := hv1.cell; have hf1 := hv1.frozen)
      have hblk : ∀ b, b < w.heap.size + 1 + 1 + 1 + 3 → b ≠ w.heap.size + 1 + 1 → (w1.setCell ⟨w.heap.size + 1 + 1, 0, none⟩ (.slice (some ⟨g', 0, none⟩) (ps.length + 1) cap')).heap[b]? = W.heap[b]? := fun b hb hne =>
        (Below.heap_setCell w1 ⟨w.heap.size + 1 + 1, 0, none⟩ _ b hne).trans ((hgrow.block b (by simp; omega) (ownsRow_ne hrow3 hb)).trans ((Below.heap_alloc _ _ b (by simp; omega)).trans ((Below.heap_alloc w2 _ b (by omega)).trans (hb2.block b (by omega)))))
      refine ⟨(KeepsFrom.of_grownBy (grown_of_below hb2) (fun j e => by cases e)).trans (((KeepsOthers.alloc _ _).from _).trans (hk2.from _)), ⟨hblk _ (by omega) (by omega), hblk _ (by omega) (by omega), hblk _ (by omega) (by omega)⟩, ⟨_, ps ++ [q], Sp.partsB_snoc HPS.out HQ.out, hv2, ?_⟩, ⟨(hblk _ (by omega) (by omega)).trans hb0, (hblk _ (by omega) (by omega)).trans hb1⟩, (hbw.trans (hb2.mono hsW')).trans ((hal.mono (by omega)).trans (hbA.mono (by omega))), by have := hk2.size; omega⟩
      rw [partsC_snoc, List.length_append, List.length_singleton]
      exact hown'.kept (grownBy_setCell' w1 (w.heap.size + 1 + 1) _) (.inr (hv1.not_row (by decide) hown').symm)
    · have HQ := Lib.hid (Sp.partsP_bad HKN.out hq)
      have hal : Below w2.heap.size w2 (w2.alloc (.cells #[.int .i64 q.fr, .int .i64 q.to, .int .i64 q.st] 62)) := (Below.refl _ _).alloc (Nat.le_refl _) _
      have hx0 := Boxed.under (Boxed.under hb0 hb2) hal
      have hx1 := Boxed.under (Boxed.under hb1 hb2) hal
      have hc0 := hx0.cell
      have hf0 := hx0.frozen
      have hc1 := hx1.cell
      have hf1 := hx1.frozen
      have hs2 := hb2.size
      have hal2 : Below w.heap.size w (w2.alloc (.cells #[.int .i64 q.fr, .int .i64 q.to, .int .i64 q.st] 62)) := (hbw.trans (hb2.mono hsW')).trans (hal.mono (by omega))
      have hkf : KeepsFrom W0.heap.size W (w2.alloc (.cells #[.int .i64 q.fr, .int .i64 q.to, .int .i64 q.st] 62)) := (KeepsFrom.of_grownBy (grown_of_below hb2) (fun j e => by cases e)).trans ((KeepsOthers.alloc _ _).from _)
      have HK := Lib.hid hkf
      have HA := Lib.hid hal2
      clear hkf hal2 hal
      simp only [pv]
      gi_wp2
      exact ⟨HK.out.trans (((KeepsOthers.setCell _ _ _).from _).trans ((KeepsOthers.setCell _ _ _).from _)), ⟨rfl, HQ.out⟩, ⟨Boxed.other (hx0.set _) (by omega) _, (Boxed.other hx1 (by omega) _).set _⟩, (HA.out.setCell (p := ⟨w.heap.size, 0, none⟩) (Nat.le_refl _) _).setCell (p := ⟨w.heap.size + 1, 0, none⟩) (by dsimp only; omega) _⟩
  case done =>
    rintro xs W hxs ⟨⟨v, ps, hps, hbo, hrow⟩, ⟨hb0, hb1⟩, hbw, _⟩ hK
    have HR := Lib.hid (HPB.out xs hxs)
    have HPS := Lib.hid hps
    have hln : ps.length ≤ 1048577 := by
      have h2 := congrArg List.length hxs
      have h3 := Sp.split_most 44 s.data.toList
      have h4 := bytes_size s
      have h5 := Sp.partsB_len hps
      simp only [List.length_map] at h2
      omega
    clear hxs hps
    have hc0 := hb0.cell
    have hf0 := hb0.frozen
    have hc1 := hb1.cell
    have hf1 := hb1.frozen
    have hco := hbo.cell
    obtain ⟨A, k, c, rfl, hk⟩ : ∃ A k c, v = .slice A k c ∧ k = ps.length := by
      rcases hrow.2 with ⟨rfl, h0⟩ | ⟨g, cap, cur, rfl, _⟩
      · exact ⟨_, _, _, rfl, h0.symm⟩
      · exact ⟨_, _, _, rfl, rfl⟩
    have hne0 := ownsRow_ne hrow (show w.heap.size < w.heap.size + 1 + 1 + 1 + 3 by omega)
    have hne1 := ownsRow_ne hrow (show w.heap.size + 1 < w.heap.size + 1 + 1 + 1 + 3 by omega)
    have hrw := (hrow.kept (grownBy_setCell' W (w.heap.size) (.slice A k c)) (.inr hne0.symm)).kept (grownBy_setCell' _ (w.heap.size + 1) (.bool true)) (.inr hne1.symm)
    have HRW := Lib.hid hrw
    have HKK := Lib.hid hk
    clear hrow hrw hne0 hne1 hk
    gi_wp2
    have hK1 := (KeepsOthers.setCell W ⟨w.heap.size, 0, none⟩ (.slice A k c)).same _ _ hK rfl
    have hK2 := (KeepsOthers.setCell (W.setCell ⟨w.heap.size, 0, none⟩ (.slice A k c)) ⟨w.heap.size + 1, 0, none⟩ (.bool true)).same _ _ hK1 rfl
    refine ⟨by simp, .inl ⟨_, _, rfl, run_takeDeferred hK2, ?_⟩⟩
    have bV2 := Boxed.other (hb0.set (.slice A k c)) (show w.heap.size ≠ w.heap.size + 1 by omega) (.bool true)
    have bO2 := (Boxed.other hb1 (show w.heap.size + 1 ≠ w.heap.size by omega) (.slice A k c)).set (.bool true)
    have hc4 := cell_kept bV2.cell (grownBy_putObj' _ W0.heap.size (.deferred none)) (fun r e => by cases e; exact ⟨_, hK2, rfl⟩)
    have hc5 := cell_kept bO2.cell (grownBy_putObj' _ W0.heap.size (.deferred none)) (fun r e => by cases e; exact ⟨_, hK2, rfl⟩)
    have hBF : Below w.heap.size w ((W.setCell ⟨w.heap.size, 0, none⟩ (.slice A k c)).setCell ⟨w.heap.size + 1, 0, none⟩ (.bool true)) := (hbw.setCell (p := ⟨w.heap.size, 0, none⟩) (Nat.le_refl _) _).setCell (p := ⟨w.heap.size + 1, 0, none⟩) (by dsimp only; omega) _
    have hrp := ownsRow_putObj HRW.out (.deferred none) hK2 rfl
    rw [← HKK.out] at hrp
    refine ⟨.tuple #[.slice A k c, .bool true], ?_, .inl ⟨ps, A, k, c, HR.out.trans HPS.out, rfl, Rd.of_own hrp, by rw [HKK.out]; omega⟩, hBF.trans (belowK_b (w := w) (Nat.le_refl _) _ W0.heap.size _ _ kB.size hK2 rfl rfl)⟩
    simp [results, Tryz.f59, go_sem, hc4, hc5]
  case stop =>
    rintro c pre W hpre ⟨⟨rfl, hn⟩, ⟨hb0, hb1⟩, hbw⟩ hK
    have HN := Lib.hid hn
    clear hn hpre
    gi_wp2
    refine ⟨by simp, .inl ⟨_, _, rfl, run_takeDeferred hK, ?_⟩⟩
    have hc4 := cell_kept hb0.cell (grownBy_putObj' _ W0.heap.size (.deferred none)) (fun r e => by cases e; exact ⟨_, hK, rfl⟩)
    have hc5 := cell_kept hb1.cell (grownBy_putObj' _ W0.heap.size (.deferred none)) (fun r e => by cases e; exact ⟨_, hK, rfl⟩)
    refine ⟨.tuple #[.slice none 0 0, .bool false], ?_, .inr ⟨HN.out, rfl⟩, hbw.trans (belowK_b (w := w) (Nat.le_refl _) W W0.heap.size _ _ kB.size hK rfl rfl)⟩
    simp [results, Tryz.f59, go_sem, hc4, hc5]
theorem parts_any (s : ByteArray) (w : World) (hs : s.size ≤ 1048576) (E : Env w) :
    Calls Tryz.prog 59 #[.string s] w fun e w' => PartsPost s.data.toList e w' ∧ Below w.heap.size w w' := callsIn_wide.1 (parts_in 20 (Nat.le_refl _) s w hs E)

end Go.Proofs.YtpkpoglmmjaoeaaGreatDoor
