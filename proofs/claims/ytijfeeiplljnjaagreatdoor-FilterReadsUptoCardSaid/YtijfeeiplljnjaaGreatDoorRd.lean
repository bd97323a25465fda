/-
  The walks of a row's text and of its cursor, the program's and the reference's.
-/
import Derived.Test.YtijfeeiplljnjaaGreatDoorRc
import Derived.Test.YtijfeeiplljnjaaGreatDoorMem
import Derived.Deep.RegionLaw
import Derived.Deep.RegionHeld3
import Derived.Deep.DeepCutAuto
namespace Go.Proofs.YtijfeeiplljnjaaGreatDoor
open Go.RowKit

theorem Rd.fresh (w : World) (xs : Array Value) (t : TypeId) (n size : Nat) (h : xs.size = n * size) : Rd (w.alloc (.cells xs t)) (w.heap.size + 1) size (some ⟨w.heap.size, 0, none⟩) n xs.toList := by
  refine ⟨by simpa using h, fun _ => ⟨_, rfl, by simp, ?_⟩⟩
  intro j u hu
  rw [Array.getElem?_toList] at hu
  by_cases hj : j = 0
  · subst hj; simpa [Addr.add] using hu
  · simpa [Addr.add, hj] using hu
theorem dataApp (a b : ByteArray) : (a ++ b).data.toList = a.data.toList ++ b.data.toList := by rw [ByteArray.data_append]; simp
/-- the next world: what lay there lies there -/
structure Nxt (W W' : World) : Prop where
  out : Below W.heap.size W W'
theorem Rd.nxt {W W' : World} {size n : Nat} {A : Option Addr} {xs : List Value} (h : Nxt W W') (hr : Rd W W.heap.size size A n xs) : Rd W' W'.heap.size size A n xs := (Rd.below hr h.out).more h.out.size
theorem Rd.nxtAlloc {W : World} {o : Obj} {size n : Nat} {A : Option Addr} {xs : List Value} (hr : Rd W W.heap.size size A n xs) : Rd (W.alloc o) (W.alloc o).heap.size size A n xs := (hr.alloc (Nat.le_refl _) o).more (by simp)
theorem Rd.newRow {W : World} {cs : Array Value} {t : TypeId} {n b : Nat} (hb : b = W.heap.size) (h : cs.size = n * 1) : Rd (W.alloc (.cells cs t)) (W.alloc (.cells cs t)).heap.size 1 (some ⟨b, 0, none⟩) n cs.toList := by
  subst hb
  have := Rd.fresh W cs t n 1 (by omega)
  rwa [← World.size_alloc W (.cells cs t)] at this
theorem since_more {W0 W W' : World} (h : Below W0.heap.size W0 W) (hb : Below W.heap.size W W') : Below W0.heap.size W0 W' := h.trans (hb.mono h.size)
theorem since_alloc {W0 W : World} (h : Below W0.heap.size W0 W) (o : Obj) : Below W0.heap.size W0 (W.alloc o) := h.alloc h.size o
theorem since_drew {W0 W : World} (h : Below W0.heap.size W0 W) : Below W0.heap.size W0 W.drew := h.drew

theorem join5 (W : World) (b : Nat) (A B C D T : ByteArray) (hr : Rd W W.heap.size 1 (some ⟨b, 0, none⟩) 5 [.string A, .string B, .string C, .string D, .string T])
    (hA : A.size ≤ 1000000) (hB : B.size ≤ 1000000) (hC : C.size ≤ 1000000) (hD : D.size ≤ 1000000) (hT : T.size ≤ 1000000) :
    Calls Tryz.prog 60 #[.slice (some ⟨b, 0, none⟩) 5 5, .string ⟨#[32]⟩] W fun e w' => e = .returned (.string (Sp.toB (A.data.toList ++ 32 :: (B.data.toList ++ 32 :: (C.data.toList ++ 32 :: (D.data.toList ++ 32 :: T.data.toList)))))) ∧ Below W.heap.size W w' := by
  obtain ⟨ad, had, hlt, hc⟩ := hr.2 (by omega)
  injection had with had
  subst had
  have hcells : ∀ (j : Nat) x, [A, B, C, D, T][j]? = some x → W.cell? ⟨b, 0 + j, none⟩ = some (.string x) := by
    intro j x hx
    have h2 : [Value.string A, .string B, .string C, .string D, .string T][j]? = some (.string x) := by
      have : [Value.string A, .string B, .string C, .string D, .string T] = [A, B, C, D, T].map Value.string := rfl
      rw [this, List.getElem?_map, hx]
      rfl
    have := hc j _ h2
    by_cases hj : j = 0
    · subst hj; simpa [Addr.add] using this
    · simpa [Addr.add, hj] using this
  have e : Lib.join ([A, B, C, D, T].map (·.data.toList)) (⟨#[32]⟩ : ByteArray).data.toList = A.data.toList ++ 32 :: (B.data.toList ++ 32 :: (C.data.toList ++ 32 :: (D.data.toList ++ 32 :: T.data.toList))) := by
    simp [Lib.join, List.intercalate, List.intersperse]
  have := Tryz.strings_Join b 0 5 [A, B, C, D, T] ⟨#[32]⟩ W hcells hlt (by simp) (by simp) (by
    rw [e]
    have z : ∀ x : ByteArray, x.data.toList.length = x.size := fun x => by simp
    simp only [List.length_append, List.length_cons, z]
    omega)
  rw [e] at this
  exact this
theorem itoaB_any (n : Int) (w : World) (h0 : 0 ≤ n) (h1 : n ≤ 9223372036854775807) (E : Env w) :
    Calls Tryz.prog 30 #[.int .i64 n] w fun e w' => e = .returned (.string (Sp.toB (Sp.decI n))) ∧ Below w.heap.size w w' := itoa_any n w h0 h1 E

theorem toB_size (l : List UInt8) : (Sp.toB l).size = l.length := by simp [Sp.toB, ByteArray.size]
theorem decB_size (n : Int) (h0 : 0 ≤ n) (h1 : n < 10000000000) : (Sp.toB (Sp.decI n)).size ≤ 10 := by
  rw [toB_size]
  exact Sp.dec_len _ (by omega)
theorem unitW_size (u : ByteArray) (h : u = ⟨#[]⟩ ∨ (¬ u.toList.isEmpty = true ∧ Sp.mayL u.data.toList = true)) : (unitW u).size ≤ 60 := by
  rcases h with rfl | ⟨h1, h2⟩
  · have e : unitW ⟨#[]⟩ = ⟨#[45]⟩ := by rw [unitW, if_pos (by rw [Sp.bytes_list]; rfl)]
    rw [e]
    decide
  · have e : unitW u = u := by rw [unitW, if_neg h1]
    rw [e]
    have := Sp.mayL_len _ h2
    simpa using this
theorem toB_app (a b : List UInt8) : Sp.toB (a ++ b) = Sp.toB a ++ Sp.toB b := by
  apply WideShapes.bytes_inj
  rw [dataApp, Sp.toB_list, Sp.toB_list, Sp.toB_list]

end Go.Proofs.YtijfeeiplljnjaaGreatDoor
