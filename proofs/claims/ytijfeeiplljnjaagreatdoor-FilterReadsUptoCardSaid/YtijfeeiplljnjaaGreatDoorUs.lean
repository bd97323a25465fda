/-
  A word of a filter is read: the program's walk.
-/
import Derived.Test.YtijfeeiplljnjaaGreatDoorUr
import Derived.Test.YtijfeeiplljnjaaGreatDoorRd
import Derived.Lib.SlicesS
namespace Go.Proofs.YtijfeeiplljnjaaGreatDoor
open Go.RowKit Go.Shelf

/-- a new list of kinds is put into a reader -/
theorem FRm.kinds {B b mb n : Nat} {s : Sp.PS} {w w' : World} {uv kv kv' : Value} {ys : List Int} (hB : B ≤ b ∧ B ≤ mb) (hb : w.heap[b]? = some (.cells #[uv, kv, .int .i64 s.f.since, .int .i64 s.f.till, .string s.f.word, .map (some mb)] 42 (0, 0))) (hu : OwnS B uv s.f.units w) (hk : OwnI B kv s.f.kinds w) (hh : Had mb n s.h0 s.h1 s.h2 w)
    (hy : OwnI B kv' ys w') (hg : w.grownBy w' kv.ownBlock) :
    (w'.heap[b]? = some (.cells #[uv, kv, .int .i64 s.f.since, .int .i64 s.f.till, .string s.f.word, .map (some mb)] 42 (0, 0))) ∧ Below B w w' ∧ FRm B b mb n ⟨⟨s.f.units, ys, s.f.since, s.f.till, s.f.word⟩, s.h0, s.h1, s.h2⟩ (w'.setCell ⟨b, 1, none⟩ kv') := by
  have hlt : b < w.heap.size := (Array.getElem?_eq_some_iff.1 hb).1
  have hub : kv.ownBlock ≠ some b := fun e => by
    obtain ⟨cs, hc⟩ := hk.row b e
    rw [hb] at hc
    injection hc with hc
    injection hc with _ hc _
    revert hc
    decide
  have hb' := (hg.block b hlt (fun e => hub e.symm)).trans hb
  have hrow : ∀ g, kv.ownBlock = some g → ∃ cs T' fz, w.heap[g]? = some (.cells cs T' fz) ∧ T' ≠ 9 := fun g e => by
    obtain ⟨cs, hc⟩ := hk.row g e
    exact ⟨cs, _, _, hc, by decide⟩
  refine ⟨hb', grown_below hg (by omega) (fun g e => (World.ownsRow.lt hk g e).1), ?_⟩
  have hgs := grown_setCell w' b 1 kv'
  have hrb : ∀ T, T ≠ 42 → ∀ g, (some b : Option Nat) = some g → ∃ cs T' fz, w'.heap[g]? = some (.cells cs T' fz) ∧ T' ≠ T := fun T hT g e => by
    injection e with e
    subst e
    exact ⟨_, _, _, hb', fun e => hT e.symm⟩
  refine ⟨uv, kv', hB, by simp [World.setCell, Array.getElem?_modify, hb'], own_other (own_other hu hg hrow) hgs (hrb _ (by decide)), own_other hy hgs (hrb _ (by decide)), (hh.kept hg (fun g e => ?_)).kept hgs (fun g e => ?_)⟩
  · obtain ⟨cs, T, fz, hc, _⟩ := hrow g e; exact ⟨cs, T, fz, hc⟩
  · obtain ⟨cs, T, fz, hc, _⟩ := hrb 3 (by decide) g e; exact ⟨cs, T, fz, hc⟩

theorem FRm.mono {B b mb n n' : Nat} {s : Sp.PS} {w : World} (h : FRm B b mb n s w) (hn : n ≤ n') : FRm B b mb n' s w := by
  obtain ⟨uv, kv, h1, h2, h3, h4, D, h5, r⟩ := h
  exact ⟨uv, kv, h1, h2, h3, h4, D, h5.mono hn, r⟩
/-- a field of one cell is put into a reader -/
theorem FRm.field {B b mb n : Nat} {s s' : Sp.PS} {w : World} (i : Nat) (x : Value) (h : FRm B b mb n s w) (hu : s'.f.units = s.f.units) (hk : s'.f.kinds = s.f.kinds) (h0 : s'.h0 = s.h0) (h1 : s'.h1 = s.h1) (h2 : s'.h2 = s.h2)
    (hc : ∀ uv kv, (#[uv, kv, .int .i64 s.f.since, .int .i64 s.f.till, .string s.f.word, .map (some mb)] : Array Value).setIfInBounds i x = #[uv, kv, .int .i64 s'.f.since, .int .i64 s'.f.till, .string s'.f.word, .map (some mb)]) : FRm B b mb n s' (w.setCell ⟨b, i, none⟩ x) := by
  obtain ⟨uv, kv, hB, hb, h3, h4, h5⟩ := h
  have hgs := grown_setCell w b i x
  have hrb : ∀ T, T ≠ 42 → ∀ g, (some b : Option Nat) = some g → ∃ cs T' fz, w.heap[g]? = some (.cells cs T' fz) ∧ T' ≠ T := fun T hT g e => by
    injection e with e
    subst e
    exact ⟨_, _, _, hb, fun e => hT e.symm⟩
  have hh : Had mb n s.h0 s.h1 s.h2 (w.setCell ⟨b, i, none⟩ x) := h5.kept hgs (fun g e => by obtain ⟨cs, T, fz, hc, _⟩ := hrb 3 (by decide) g e; exact ⟨cs, T, fz, hc⟩)
  have hu2 : OwnS B uv s.f.units (w.setCell ⟨b, i, none⟩ x) := own_other h3 hgs (hrb _ (by decide))
  have hk2 : OwnI B kv s.f.kinds (w.setCell ⟨b, i, none⟩ x) := own_other h4 hgs (hrb _ (by decide))
  refine ⟨uv, kv, hB, ?_, by rw [hu]; exact hu2, by rw [hk]; exact hk2, by rw [h0, h1, h2]; exact hh⟩
  rw [← hc]
  simp [World.setCell, Array.getElem?_modify, hb]
theorem own_map {B : Nat} {v : Value} {T : TypeId} {n mb : Nat} {xs : List Value} {w w' : World} (h : w.ownsRow B T 1 v n xs) (hg : w.grownBy w' (some mb)) (hr : ∀ cs T fz, w.heap[mb]? ≠ some (.cells cs T fz)) : w'.ownsRow B T 1 v n xs := by
  refine h.kept hg ?_
  cases hv : v.ownBlock with
  | none => exact .inl rfl
  | some g =>
    refine .inr fun e => ?_
    injection e with e
    subst e
    rcases h.2 with ⟨hv2, _⟩ | ⟨g', cap, cur, hv2, _, hh, _⟩
    · rw [hv2] at hv; cases hv
    · rw [hv2] at hv
      injection hv with hv
      have : g' = g := hv
      subst this
      exact hr _ _ _ hh
theorem map_at {mb n : Nat} {D : DataW Unit} {w : World} (h : w.ownsMap Tryz.prog 9 (plainElem Tryz.prog 4) mb n D) : ∀ cs T fz, w.heap[mb]? ≠ some (.cells cs T fz) := by
  obtain ⟨es, ck, h, _⟩ := h
  intro cs T fz e
  rw [h] at e
  cases e
/-- a reader stands where its own map is written -/
theorem FRm.mapped {B b mb n : Nat} {s : Sp.PS} {w w' : World} {D : DataW Unit} {h0 h1 h2 : Bool} {uv kv : Value} (hB : B ≤ b ∧ B ≤ mb) (hb : w.heap[b]? = some (.cells #[uv, kv, .int .i64 s.f.since, .int .i64 s.f.till, .string s.f.word, .map (some mb)] 42 (0, 0))) (hu : OwnS B uv s.f.units w) (hk : OwnI B kv s.f.kinds w)
    (hm : w.ownsMap Tryz.prog 9 (plainElem Tryz.prog 4) mb n D) (hg : w.grownBy w' (some mb)) (hh : Had mb (n + 1) h0 h1 h2 w') : Below B w w' ∧ FRm B b mb (n + 1) ⟨s.f, h0, h1, h2⟩ w' := by
  have hmm := map_at hm
  have hlt : b < w.heap.size := (Array.getElem?_eq_some_iff.1 hb).1
  refine ⟨grown_below hg (by omega) (fun g e => by injection e with e; omega), uv, kv, hB, (hg.block b hlt (fun e => ?_)).trans hb, own_map hu hg hmm, own_map hk hg hmm, hh⟩
  injection e with e
  subst e
  exact hmm _ _ _ hb
theorem key_lit {l : List UInt8} : WideAt.IsKeyLit (.string l) := by first | exact .inr (.inr ⟨_, rfl⟩) | exact ⟨_, rfl⟩ | trivial
theorem had_put0 {mb n : Nat} {w' : World} {D : DataW Unit} {h0 h1 h2 : Bool} (hm : Go.Maps.IsMap D) (_ : D.atKey kS (.lit (.bool false)) = .lit (.bool h0)) (e1 : D.atKey kT (.lit (.bool false)) = .lit (.bool h1)) (e2 : D.atKey kW (.lit (.bool false)) = .lit (.bool h2))
    (h : w'.ownsMap Tryz.prog 9 (plainElem Tryz.prog 4) mb n (D.put kS (.lit (.bool true)))) : Had mb n true h1 h2 w' :=
  ⟨_, h, hm.put _ _, Go.Maps.atKey_put_same hm (key_lit) _ _, (Go.Maps.atKey_put_other (fun e => absurd (Lit.string.inj e) (by decide)) _ _).trans e1, (Go.Maps.atKey_put_other (fun e => absurd (Lit.string.inj e) (by decide)) _ _).trans e2⟩
theorem had_put1 {mb n : Nat} {w' : World} {D : DataW Unit} {h0 h1 h2 : Bool} (hm : Go.Maps.IsMap D) (e0 : D.atKey kS (.lit (.bool false)) = .lit (.bool h0)) (_ : D.atKey kT (.lit (.bool false)) = .lit (.bool h1)) (e2 : D.atKey kW (.lit (.bool false)) = .lit (.bool h2))
    (h : w'.ownsMap Tryz.prog 9 (plainElem Tryz.prog 4) mb n (D.put kT (.lit (.bool true)))) : Had mb n h0 true h2 w' :=
  ⟨_, h, hm.put _ _, (Go.Maps.atKey_put_other (fun e => absurd (Lit.string.inj e) (by decide)) _ _).trans e0, Go.Maps.atKey_put_same hm (key_lit) _ _, (Go.Maps.atKey_put_other (fun e => absurd (Lit.string.inj e) (by decide)) _ _).trans e2⟩
theorem had_put2 {mb n : Nat} {w' : World} {D : DataW Unit} {h0 h1 h2 : Bool} (hm : Go.Maps.IsMap D) (e0 : D.atKey kS (.lit (.bool false)) = .lit (.bool h0)) (e1 : D.atKey kT (.lit (.bool false)) = .lit (.bool h1)) (_ : D.atKey kW (.lit (.bool false)) = .lit (.bool h2))
    (h : w'.ownsMap Tryz.prog 9 (plainElem Tryz.prog 4) mb n (D.put kW (.lit (.bool true)))) : Had mb n h0 h1 true w' :=
  ⟨_, h, hm.put _ _, (Go.Maps.atKey_put_other (fun e => absurd (Lit.string.inj e) (by decide)) _ _).trans e0, (Go.Maps.atKey_put_other (fun e => absurd (Lit.string.inj e) (by decide)) _ _).trans e1, Go.Maps.atKey_put_same hm (key_lit) _ _⟩
namespace Sp
theorem cutC_index (c : UInt8) : ∀ l : List UInt8, Lib.cut l [c] = cutC c l
  | [] => by simp [Lib.cut, Lib.index, cutC]
  | b :: r => by
    have ih := cutC_index c r
    have hge := Lib.index_ge r [c]
    unfold Lib.cut at ih ⊢
    rw [cutC]
    by_cases h : b = c
    · have hp : ([c] : List UInt8).isPrefixOf (b :: r) = true := by simp [h, List.isPrefixOf]
      have hi : Lib.index (b :: r) [c] = 0 := by rw [Lib.index, if_pos hp]
      rw [hi, if_pos h]
      simp
    · have hp : ([c] : List UInt8).isPrefixOf (b :: r) = false := by simp [List.isPrefixOf, Ne.symm h]
      rw [if_neg h, ← ih]
      by_cases h1 : Lib.index r [c] = -1
      · have hi : Lib.index (b :: r) [c] = -1 := by rw [Lib.index, hp, h1]; rfl
        rw [hi, h1]; rfl
      · have hi : Lib.index (b :: r) [c] = Lib.index r [c] + 1 := by rw [Lib.index, hp, if_neg (by decide), if_neg (by simpa using h1)]
        rw [hi, if_pos (by omega), if_pos (by omega)]
        have e : (Lib.index r [c] + 1).toNat = (Lib.index r [c]).toNat + 1 := by omega
        rw [e, List.take_succ_cons]
        simp only [List.length_singleton, List.drop_succ_cons]
def kinds6 : List ByteArray := [⟨#[115, 97, 105, 100]⟩, ⟨#[115, 116, 97, 116, 101]⟩, ⟨#[106, 111, 98]⟩, ⟨#[99, 111, 110, 110]⟩, ⟨#[116, 105, 109, 101, 114]⟩, ⟨#[97, 115, 107]⟩]
def keys5 : List ByteArray := [⟨#[117, 110, 105, 116]⟩, ⟨#[107, 105, 110, 100]⟩, ⟨#[115, 105, 110, 99, 101]⟩, ⟨#[117, 110, 116, 105, 108]⟩, ⟨#[119, 111, 114, 100]⟩]
theorem bytes_ne {x y : ByteArray} (h : x.data.toList ≠ y.data.toList) : ¬ x = y := fun e => h (by rw [e])
theorem kindIx (v : ByteArray) : (kindP v.data.toList = none ∧ Lib.idxOfS kinds6 v = -1) ∨ (∃ i : Nat, i < 6 ∧ kindP v.data.toList = some (1 + (i : Int)) ∧ Lib.idxOfS kinds6 v = (i : Int)) := by
  have eqv : ∀ (l : List UInt8), v.data.toList = l → v = ⟨l.toArray⟩ := fun l h => WideShapes.bytes_inj (by rw [h])
  by_cases h1 : v.data.toList = [115, 97, 105, 100]
  · refine .inr ⟨0, by decide, by rw [kindP, if_pos h1]; rfl, ?_⟩; rw [eqv _ h1]; decide +kernel
  by_cases h2 : v.data.toList = [115, 116, 97, 116, 101]
  · refine .inr ⟨1, by decide, by rw [h2]; rfl, ?_⟩; rw [eqv _ h2]; decide +kernel
  by_cases h3 : v.data.toList = [106, 111, 98]
  · refine .inr ⟨2, by decide, by rw [h3]; rfl, ?_⟩; rw [eqv _ h3]; decide +kernel
  by_cases h4 : v.data.toList = [99, 111, 110, 110]
  · refine .inr ⟨3, by decide, by rw [h4]; rfl, ?_⟩; rw [eqv _ h4]; decide +kernel
  by_cases h5 : v.data.toList = [116, 105, 109, 101, 114]
  · refine .inr ⟨4, by decide, by rw [h5]; rfl, ?_⟩; rw [eqv _ h5]; decide +kernel
  by_cases h6 : v.data.toList = [97, 115, 107]
  · refine .inr ⟨5, by decide, by rw [h6]; rfl, ?_⟩; rw [eqv _ h6]; decide +kernel
  refine .inl ⟨by rw [kindP, if_neg h1, if_neg h2, if_neg h3, if_neg h4, if_neg h5, if_neg h6], ?_⟩
  have n : ∀ l : List UInt8, v.data.toList ≠ l → ¬ (⟨l.toArray⟩ : ByteArray) = v := fun l h e => h (by rw [← e])
  unfold Lib.idxOfS kinds6
  simp only [Lib.idxFromS]
  rw [if_neg (n [115, 97, 105, 100] h1), if_neg (n [115, 116, 97, 116, 101] h2), if_neg (n [106, 111, 98] h3), if_neg (n [99, 111, 110, 110] h4), if_neg (n [116, 105, 109, 101, 114] h5), if_neg (n [97, 115, 107] h6)]
def isKey (k : List UInt8) : Bool := decide (k = kUnit) || (decide (k = kKind) || (decide (k = kSince) || (decide (k = kUntil) || decide (k = kWord))))
theorem keys_is (v : ByteArray) : keys5.any (fun d => decide (d = v)) = isKey v.data.toList := by
  have n : ∀ l : List UInt8, decide ((⟨l.toArray⟩ : ByteArray) = v) = decide (v.data.toList = l) := fun l => by
    apply decide_eq_decide.2
    constructor
    · intro e; rw [← e]
    · intro e; exact WideShapes.bytes_inj (by rw [e])
  unfold keys5 isKey
  simp only [List.any_cons, List.any_nil, Bool.or_false]
  rw [show decide ((⟨#[117, 110, 105, 116]⟩ : ByteArray) = v) = _ from n kUnit, show decide ((⟨#[107, 105, 110, 100]⟩ : ByteArray) = v) = _ from n kKind, show decide ((⟨#[115, 105, 110, 99, 101]⟩ : ByteArray) = v) = _ from n kSince, show decide ((⟨#[117, 110, 116, 105, 108]⟩ : ByteArray) = v) = _ from n kUntil, show decide ((⟨#[119, 111, 114, 100]⟩ : ByteArray) = v) = _ from n kWord]
end Sp
theorem fkinds_any (w : World) : Calls Tryz.prog 29 #[] w fun e w' => e = .returned (.slice (some ⟨w.heap.size, 0, none⟩) 6 6) ∧ w' = w.alloc (.cells #[.string ⟨#[115, 97, 105, 100]⟩, .string ⟨#[115, 116, 97, 116, 101]⟩, .string ⟨#[106, 111, 98]⟩, .string ⟨#[99, 111, 110, 110]⟩, .string ⟨#[116, 105, 109, 101, 114]⟩, .string ⟨#[97, 115, 107]⟩] 9) := by
  go_enter Tryz.func29, Tryz.ntmps29
  go_wp2
  go_ret
  exact ⟨by simp, by simp⟩
theorem fkidx_any (v : ByteArray) (w : World) : Calls Tryz.prog 38 #[.slice (some ⟨w.heap.size, 0, none⟩) 6 6, .string v] (w.alloc (.cells #[.string ⟨#[115, 97, 105, 100]⟩, .string ⟨#[115, 116, 97, 116, 101]⟩, .string ⟨#[106, 111, 98]⟩, .string ⟨#[99, 111, 110, 110]⟩, .string ⟨#[116, 105, 109, 101, 114]⟩, .string ⟨#[97, 115, 107]⟩] 9)) fun e w' => e = .returned (.int .i64 (Lib.idxOfS Sp.kinds6 v)) ∧ w' = w.alloc (.cells #[.string ⟨#[115, 97, 105, 100]⟩, .string ⟨#[115, 116, 97, 116, 101]⟩, .string ⟨#[106, 111, 98]⟩, .string ⟨#[99, 111, 110, 110]⟩, .string ⟨#[116, 105, 109, 101, 114]⟩, .string ⟨#[97, 115, 107]⟩] 9) := by
  have h := Tryz.slices_Index_string w.heap.size 0 6 6 Sp.kinds6 v (w.alloc (.cells #[.string ⟨#[115, 97, 105, 100]⟩, .string ⟨#[115, 116, 97, 116, 101]⟩, .string ⟨#[106, 111, 98]⟩, .string ⟨#[99, 111, 110, 110]⟩, .string ⟨#[116, 105, 109, 101, 114]⟩, .string ⟨#[97, 115, 107]⟩] 9)) (by decide) (by decide) (fun j hj => by
    rw [Lib.cell_of_heap Array.getElem?_push_size]
    match j, hj with
    | 0, _ => rfl
    | 1, _ => rfl
    | 2, _ => rfl
    | 3, _ => rfl
    | 4, _ => rfl
    | 5, _ => rfl
    | j + 6, hj => exact absurd hj (by simp [Sp.kinds6]))
  exact h
theorem fkeys_any (v : ByteArray) (w : World) : Calls Tryz.prog 26 #[.slice (some ⟨w.heap.size, 0, none⟩) 5 5, .string v] (w.alloc (.cells #[.string ⟨#[117, 110, 105, 116]⟩, .string ⟨#[107, 105, 110, 100]⟩, .string ⟨#[115, 105, 110, 99, 101]⟩, .string ⟨#[117, 110, 116, 105, 108]⟩, .string ⟨#[119, 111, 114, 100]⟩] 9)) fun e w' => e = .returned (.bool (Sp.isKey v.data.toList)) ∧ w' = (w.alloc (.cells #[.string ⟨#[117, 110, 105, 116]⟩, .string ⟨#[107, 105, 110, 100]⟩, .string ⟨#[115, 105, 110, 99, 101]⟩, .string ⟨#[117, 110, 116, 105, 108]⟩, .string ⟨#[119, 111, 114, 100]⟩] 9)) := by
  have h := scontains_any v Sp.keys5 (some ⟨w.heap.size, 0, none⟩) 5 5 (w.alloc (.cells #[.string ⟨#[117, 110, 105, 116]⟩, .string ⟨#[107, 105, 110, 100]⟩, .string ⟨#[115, 105, 110, 99, 101]⟩, .string ⟨#[117, 110, 116, 105, 108]⟩, .string ⟨#[119, 111, 114, 100]⟩] 9)) (by
    have := Rd.fresh w #[.string ⟨#[117, 110, 105, 116]⟩, .string ⟨#[107, 105, 110, 100]⟩, .string ⟨#[115, 105, 110, 99, 101]⟩, .string ⟨#[117, 110, 116, 105, 108]⟩, .string ⟨#[119, 111, 114, 100]⟩] 9 5 1 rfl
    rw [World.size_alloc]
    exact this) (by decide)
  rw [Sp.keys_is] at h
  exact h.mono fun e w' ⟨h1, h2⟩ => ⟨h1, h2.symm⟩

end Go.Proofs.YtijfeeiplljnjaaGreatDoor
