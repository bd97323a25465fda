/-
  Plain functions that the walks of names compute: a text up to its last point, a text parted at its first '@', kinds, parts, templates. No program in sight.
-/
import Derived.Test.YtijfeeiplljnjaaGreatDoorSp0
import Derived.Lib.LastIndexByte
namespace Go.Proofs.YtijfeeiplljnjaaGreatDoor
namespace Sp

/-- a text up to its last point, and behind it -/
def lastCut : List UInt8 → Option (List UInt8 × List UInt8)
  | [] => none
  | c :: r =>
    match lastCut r with
    | some (h, t) => some (c :: h, t)
    | none => if c = 46 then some ([], r) else none

def cutDot (l : List UInt8) : List UInt8 × List UInt8 := (lastCut l).getD ([], [])

/-- a text parted at its first '@' -/
def cutAt : List UInt8 → List UInt8 × List UInt8 × Bool
  | [] => ([], [], false)
  | c :: r => if c = 64 then ([], r, true) else (c :: (cutAt r).1, (cutAt r).2.1, (cutAt r).2.2)

theorem lastCut_none : ∀ (l : List UInt8), (∀ c ∈ l, c ≠ 46) → lastCut l = none
  | [], _ => rfl
  | c :: r, h => by
    have hr := lastCut_none r (fun x hx => h x (List.mem_cons_of_mem _ hx))
    have hc : c ≠ 46 := h c (List.mem_cons_self ..)
    simp [lastCut, hr, hc]

theorem lastCut_some : ∀ (h t : List UInt8), (∀ c ∈ t, c ≠ 46) → lastCut (h ++ 46 :: t) = some (h, t)
  | [], t, ht => by simp [lastCut, lastCut_none t ht]
  | c :: h, t, ht => by simp [lastCut, lastCut_some h t ht]

theorem lastCut_spec : ∀ (l : List UInt8), (lastCut l = none ∧ ∀ c ∈ l, c ≠ 46) ∨ ∃ h t, lastCut l = some (h, t) ∧ l = h ++ 46 :: t ∧ ∀ c ∈ t, c ≠ 46
  | [] => .inl ⟨rfl, by simp⟩
  | c :: r => by
    rcases lastCut_spec r with ⟨e, hn⟩ | ⟨h, t, e, hl, ht⟩
    · by_cases hc : c = 46
      · exact .inr ⟨[], r, by simp [lastCut, e, hc], by simp [hc], hn⟩
      · refine .inl ⟨by simp [lastCut, e, hc], ?_⟩
        intro x hx
        rcases List.mem_cons.1 hx with rfl | hx
        · exact hc
        · exact hn x hx
    · exact .inr ⟨c :: h, t, by simp [lastCut, e], by simp [hl], ht⟩

theorem cutDot_miss (l : List UInt8) (h : ∀ c ∈ l, c ≠ 46) : cutDot l = ([], []) := by simp [cutDot, lastCut_none l h]
theorem cutDot_hit (h t : List UInt8) (ht : ∀ c ∈ t, c ≠ 46) : cutDot (h ++ 46 :: t) = (h, t) := by simp [cutDot, lastCut_some h t ht]

theorem cutAt_miss : ∀ (l : List UInt8), (∀ c ∈ l, c ≠ 64) → cutAt l = (l, [], false)
  | [], _ => rfl
  | c :: r, h => by
    have hr := cutAt_miss r (fun x hx => h x (List.mem_cons_of_mem _ hx))
    have hc : c ≠ 64 := h c (List.mem_cons_self ..)
    simp [cutAt, hr, hc]

theorem cutAt_hit : ∀ (p i : List UInt8), (∀ c ∈ p, c ≠ 64) → cutAt (p ++ 64 :: i) = (p, i, true)
  | [], i, _ => by simp [cutAt]
  | c :: p, i, h => by
    have hr := cutAt_hit p i (fun x hx => h x (List.mem_cons_of_mem _ hx))
    have hc : c ≠ 64 := h c (List.mem_cons_self ..)
    simp [cutAt, hr, hc]

theorem cutAt_spec : ∀ (l : List UInt8), (cutAt l = (l, [], false) ∧ ∀ c ∈ l, c ≠ 64) ∨ ∃ p i, cutAt l = (p, i, true) ∧ l = p ++ 64 :: i ∧ ∀ c ∈ p, c ≠ 64
  | [] => .inl ⟨rfl, by simp⟩
  | c :: r => by
    by_cases hc : c = 64
    · exact .inr ⟨[], r, by simp [cutAt, hc], by simp [hc], by simp⟩
    · rcases cutAt_spec r with ⟨e, hn⟩ | ⟨p, i, e, hl, hp⟩
      · refine .inl ⟨by simp [cutAt, e, hc], ?_⟩
        intro x hx
        rcases List.mem_cons.1 hx with rfl | hx
        · exact hc
        · exact hn x hx
      · refine .inr ⟨c :: p, i, by simp [cutAt, e, hc], by simp [hl], ?_⟩
        intro x hx
        rcases List.mem_cons.1 hx with rfl | hx
        · exact hc
        · exact hp x hx

/-- which kind has that suffix? 0: none -/
def kindOfSuffix (t : List UInt8) : Int :=
  if suffix 1 = t then 1 else if suffix 2 = t then 2 else if suffix 3 = t then 3 else if suffix 4 = t then 4 else 0

def kindL (l : List UInt8) : Int :=
  if 60 < l.length || (cutAt (cutDot l).1).1.isEmpty || !allName (cutAt (cutDot l).1).1 || !allName (cutAt (cutDot l).1).2.1 then 0 else kindOfSuffix (cutDot l).2
def mayL (l : List UInt8) : Bool := kindL l != 0
def partsL (l : List UInt8) : List UInt8 × List UInt8 × Bool := if mayL l then cutAt (cutDot l).1 else ([], [], false)
def madeL (p i : List UInt8) (k : Int) : List UInt8 := p ++ [64] ++ i ++ [46] ++ suffix k
def bareL (l : List UInt8) : Bool := (partsL l).2.2 && (partsL l).2.1.isEmpty
def templateL (l : List UInt8) : List UInt8 := if (partsL l).2.1.isEmpty then [] else madeL (partsL l).1 [] (kindL l)
def instanceL (t i : List UInt8) : List UInt8 × Bool :=
  if !bareL t || i.isEmpty || !mayL (madeL (partsL t).1 i (kindL t)) then ([], false) else (madeL (partsL t).1 i (kindL t), true)
def changeL (l : List UInt8) (k : Int) : List UInt8 :=
  if !mayL l || !mayL ((cutDot l).1 ++ [46] ++ suffix k) then [] else (cutDot l).1 ++ [46] ++ suffix k

theorem cutDot_len (l : List UInt8) : (cutDot l).1.length ≤ l.length ∧ (cutDot l).2.length ≤ l.length := by
  rcases lastCut_spec l with ⟨e, _⟩ | ⟨h, t, e, hl, _⟩
  · simp [cutDot, e]
  · subst hl; simp [cutDot, e]; omega

theorem cutAt_len (l : List UInt8) : (cutAt l).1.length ≤ l.length ∧ (cutAt l).2.1.length ≤ l.length := by
  rcases cutAt_spec l with ⟨e, _⟩ | ⟨h, t, e, hl, _⟩
  · simp [e]
  · rw [e, hl]; simp; omega

theorem partsL_len (l : List UInt8) : (partsL l).1.length ≤ l.length ∧ (partsL l).2.1.length ≤ l.length := by
  unfold partsL
  have h1 := cutDot_len l
  have h2 := cutAt_len (cutDot l).1
  split
  · omega
  · simp

theorem mayL_len (l : List UInt8) (h : mayL l = true) : l.length ≤ 60 := by
  have h2 : kindL l ≠ 0 := by simpa [mayL] using h
  unfold kindL at h2
  split at h2
  · exact absurd rfl h2
  · rename_i h3
    simp at h3
    omega

theorem partsL_len60 (l : List UInt8) : (partsL l).1.length ≤ 60 ∧ (partsL l).2.1.length ≤ 60 := by
  by_cases hm : mayL l = true
  · have := mayL_len l hm
    have := partsL_len l
    omega
  · simp [partsL, hm]

theorem kindL_range (l : List UInt8) : 0 ≤ kindL l ∧ kindL l ≤ 4 := by
  unfold kindL kindOfSuffix
  repeat' split
  all_goals omega

/-- the last point's place, and what stands ahead of it and behind it -/
theorem dot_at (s : ByteArray) (i : Nat) (hi : i < s.size) (hc : ((s.data[i]!).toNat : Int) = 46) (hn : ∀ j, i < j → j < s.size → ((s.data[j]!).toNat : Int) ≠ 46) :
    cutDot s.data.toList = (s.data.toList.take i, s.data.toList.drop (i + 1)) := by
  have hlen : s.data.toList.length = s.size := by simp
  have hb : ∀ j, (h : j < s.size) → s.data[j]! = s.data.toList[j]'(by simpa using h) := by
    intro j h
    have h' : j < s.data.size := h
    rw [getElem!_pos s.data j h']; simp
  have e : s.data.toList = s.data.toList.take i ++ 46 :: s.data.toList.drop (i + 1) := by
    have h1 : s.data.toList[i]'(by simpa using hi) = 46 := by
      rw [← hb i hi]
      apply UInt8.toNat.inj
      have : ((s.data[i]!).toNat : Int) = 46 := hc
      have h2 : (46 : UInt8).toNat = 46 := rfl
      omega
    rw [← h1, ← List.drop_eq_getElem_cons, List.take_append_drop]
  have ht : ∀ c ∈ s.data.toList.drop (i + 1), c ≠ 46 := by
    intro c hc2
    obtain ⟨j, hj, rfl⟩ := List.mem_iff_getElem.1 hc2
    rw [List.getElem_drop]
    have hj' : i + 1 + j < s.size := by
      have : j < s.data.toList.length - (i + 1) := by simpa using hj
      omega
    rw [← hb _ hj']
    intro h
    apply hn (i + 1 + j) (by omega) hj'
    rw [h]; rfl
  conv => lhs; rw [e]
  exact cutDot_hit _ _ ht

theorem dot_none (s : ByteArray) (hn : ∀ j, j < s.size → ((s.data[j]!).toNat : Int) ≠ 46) : cutDot s.data.toList = ([], []) := by
  apply cutDot_miss
  intro c hc
  obtain ⟨j, hj, rfl⟩ := List.mem_iff_getElem.1 hc
  have h' : j < s.data.size := by simpa using hj
  intro h
  apply hn j h'
  have : s.data[j]! = s.data.toList[j] := by rw [getElem!_pos s.data j h']; simp
  rw [this, h]; rfl

theorem index_spec : ∀ (l : List UInt8) (c : UInt8), (Lib.indexByte l c = -1 ∧ ∀ x ∈ l, x ≠ c) ∨ ∃ i : Nat, Lib.indexByte l c = i ∧ i < l.length ∧ l = l.take i ++ c :: l.drop (i + 1) ∧ ∀ x ∈ l.take i, x ≠ c
  | [], c => .inl ⟨rfl, by simp⟩
  | b :: r, c => by
    by_cases hb : b = c
    · exact .inr ⟨0, by simp [Lib.indexByte, hb], by simp, by simp [hb], by simp⟩
    · rcases index_spec r c with ⟨e, hn⟩ | ⟨i, e, hi, hl, hp⟩
      · refine .inl ⟨by simp [Lib.indexByte, hb, e], ?_⟩
        intro x hx
        rcases List.mem_cons.1 hx with rfl | hx
        · exact hb
        · exact hn x hx
      · refine .inr ⟨i + 1, ?_, by simp; omega, by simpa using hl, ?_⟩
        · have : (i : Int) ≠ -1 := by omega
          simp [Lib.indexByte, hb, e, this]
        · intro x hx
          rw [List.take_succ_cons] at hx
          rcases List.mem_cons.1 hx with rfl | hx
          · exact hb
          · exact hp x hx

/-- does a text end in a kind's suffix, with something ahead of its point? -/
def endsK (l : List UInt8) (k : Int) : Bool := decide ((46 :: suffix k).length < l.length) && decide (l.drop (l.length - (46 :: suffix k).length) = 46 :: suffix k)
/-- the last of the first kinds that a text ends in, and what stands ahead -/
def sufTo (l : List UInt8) : Nat → Int × List UInt8
  | 0 => (0, [])
  | n + 1 => if endsK l ((n + 1 : Nat) : Int) then (((n + 1 : Nat) : Int), l.take (l.length - (46 :: suffix ((n + 1 : Nat) : Int)).length)) else sufTo l n
theorem sufTo_succ (s : ByteArray) (k : Nat) (suf : List UInt8) (hs : suffix ((k : Int) + 1) = suf) :
    sufTo s.data.toList (k + 1) = if 1 + (suf.length : Int) < s.size ∧ ((s.extract (s.size - (1 + suf.length)) s.size).toList == (ByteArray.mk #[46] ++ ByteArray.mk suf.toArray).toList) = true then ((k : Int) + 1, s.data.toList.take (s.size - (1 + suf.length))) else sufTo s.data.toList k := by
  have e : (((k + 1 : Nat) : Int)) = (k : Int) + 1 := by omega
  have e2 : s.data.toList.length = s.size := by simp
  have e3 : (46 :: suf).length = 1 + suf.length := by simp; omega
  have e4 : (s.extract (s.size - (1 + suf.length)) s.size).toList = s.data.toList.drop (s.size - (1 + suf.length)) := by
    rw [ByteArray.toList_eq]; simp; exact List.take_of_length_le (by simp)
  have e5 : (ByteArray.mk #[46] ++ ByteArray.mk suf.toArray).toList = 46 :: suf := by rw [ByteArray.toList_eq]; simp
  simp only [sufTo, endsK, e, hs, e2, e3, e4, e5, Bool.and_eq_true, decide_eq_true_eq, beq_iff_eq]
  congr 1
  rw [eq_iff_iff]
  exact and_congr (by omega) Iff.rfl
theorem sufTo_len (l : List UInt8) : ∀ k : Nat, (sufTo l k).2.length ≤ l.length
  | 0 => by simp [sufTo]
  | n + 1 => by
    unfold sufTo
    split
    · simp
    · exact sufTo_len l n
/-- the reference's pieces of a name -/
def ofL (l : List UInt8) : Int × List UInt8 × List UInt8 × Bool :=
  if 60 < l.length then (0, [], [], false)
  else if (sufTo l 4).1 = 0 then (0, [], [], false)
  else if (cutAt (sufTo l 4).2).1 = [] then (0, [], [], false)
  else if allName ((cutAt (sufTo l 4).2).1 ++ (cutAt (sufTo l 4).2).2.1) = false then (0, [], [], false)
  else ((sufTo l 4).1, cutAt (sufTo l 4).2)
theorem ofL_len (l : List UInt8) : (ofL l).2.1.length ≤ 60 ∧ (ofL l).2.2.1.length ≤ 60 := by
  unfold ofL
  split
  · simp
  · rename_i h
    split
    · simp
    · split
      · simp
      · split
        · simp
        · have h1 := sufTo_len l 4
          have h2 := cutAt_len (sufTo l 4).2
          simp only
          omega

/-- a name of its pieces, as the reference makes it -/
def rmakeL (k : Int) (p i : List UInt8) (at0 : Bool) : List UInt8 := if at0 then p ++ [64] ++ i ++ [46] ++ suffix k else p ++ [46] ++ suffix k
def rtemplateL (l : List UInt8) : List UInt8 :=
  if (ofL l).2.2.2 && !(ofL l).2.2.1.isEmpty then rmakeL (ofL l).1 (ofL l).2.1 [] (ofL l).2.2.2 else []
def rinstanceL (t i : List UInt8) : List UInt8 × Bool :=
  if !((ofL t).2.2.2 && (ofL t).2.2.1.isEmpty) || i.isEmpty then ([], false)
  else if ofL (rmakeL (ofL t).1 (ofL t).2.1 i (ofL t).2.2.2) = ((ofL t).1, (ofL t).2.1, i, (ofL t).2.2.2) then (rmakeL (ofL t).1 (ofL t).2.1 i (ofL t).2.2.2, true) else ([], false)
def rchangeL (l : List UInt8) (k : Int) : List UInt8 :=
  if (ofL l).1 = 0 ∨ suffix k = [] then []
  else if 0 < (ofL (rmakeL k (ofL l).2.1 (ofL l).2.2.1 (ofL l).2.2.2)).1 then rmakeL k (ofL l).2.1 (ofL l).2.2.1 (ofL l).2.2.2 else []
end Sp

end Go.Proofs.YtijfeeiplljnjaaGreatDoor
