/-
  The walk of the world that the laws show at.
-/
import Derived.Test.YtkfeicgeobhccaaWg
namespace Go.Proofs.Ytkfeicgeobhccaa
open Go.RowKit

theorem Rd.fresh (w : World) (xs : Array Value) (t : TypeId) (n size : Nat) (h : xs.size = n * size) : Rd (w.alloc (.cells xs t)) (w.heap.size + 1) size (some ⟨w.heap.size, 0, none⟩) n xs.toList := by
  refine ⟨by simpa using h, fun _ => ⟨_, rfl, by simp, ?_⟩⟩
  intro j u hu
  rw [Array.getElem?_toList] at hu
  by_cases hj : j = 0
  · subst hj; simpa [Addr.add] using hu
  · simpa [Addr.add, hj] using hu
def aName : ByteArray := ⟨#[97, 46, 115, 101, 114, 118, 105, 99, 101]⟩
def toldActs : List ActD := [⟨aName, 2, -1, 0, 3, 0, 0, 0, none, 0, 0, []⟩, ⟨aName, 2, 0, 2, 5, 0, 0, 0, none, 0, 0, []⟩]
def toldCalls : List (Int × Int × Int) := [(1, 80, 0), (2, 81, 0), (2, 80, 4)]
def toldAsks : List (Int × ByteArray × Int) := [(1, aName, 1), (5, aName, 2)]
theorem nil_in (w : World) (B : Nat) (a : ActD) (h1 : a.sA = none) (h2 : a.sn = 0) (h3 : a.says = []) (h4 : a.unit.size ≤ 140737488355328) : ActIn w B a := by
  obtain ⟨un, pa, nu, at_, la, co, re, di, sA, sn, sc, sy⟩ := a
  dsimp only at h1 h2 h3 h4
  subst h1; subst h2; subst h3
  exact ⟨Rd.empty, Nat.zero_le _, h4, by simp⟩
/-- what told leaves: three rows -/
def ToldAt (w' : World) (v : Value) : Prop :=
  ∃ b1 b2 b3, v = .agg #[.slice (some ⟨b1, 0, none⟩) 2 2, .slice (some ⟨b2, 0, none⟩) 3 3, .slice (some ⟨b3, 0, none⟩) 2 2] ∧ ActsIn w' w'.heap.size (some ⟨b1, 0, none⟩) 2 toldActs ∧ Rd w' w'.heap.size 3 (some ⟨b2, 0, none⟩) 3 (callCells toldCalls) ∧ Rd w' w'.heap.size 3 (some ⟨b3, 0, none⟩) 2 (askCells toldAsks)

theorem told_rows (w : World) (o : Obj) : ToldAt ((((w.alloc o).alloc (.cells #[.string ⟨#[97, 46, 115, 101, 114, 118, 105, 99, 101]⟩, .int .i64 2, .int .i64 (-1), .int .i64 0, .int .i64 3, .int .i64 0, .int .i64 0, .int .i64 0, .slice none 0 0, .string ⟨#[97, 46, 115, 101, 114, 118, 105, 99, 101]⟩, .int .i64 2, .int .i64 0, .int .i64 2, .int .i64 5, .int .i64 0, .int .i64 0, .int .i64 0, .slice none 0 0] 38)).alloc (.cells #[.int .i64 1, .int .i64 80, .int .i64 0, .int .i64 2, .int .i64 81, .int .i64 0, .int .i64 2, .int .i64 80, .int .i64 4] 54)).alloc (.cells #[.int .i64 1, .string ⟨#[97, 46, 115, 101, 114, 118, 105, 99, 101]⟩, .int .i64 1, .int .i64 5, .string ⟨#[97, 46, 115, 101, 114, 118, 105, 99, 101]⟩, .int .i64 2] 51)) (.agg #[.slice (some ⟨w.heap.size + 1, 0, none⟩) 2 2, .slice (some ⟨w.heap.size + 1 + 1, 0, none⟩) 3 3, .slice (some ⟨w.heap.size + 1 + 1 + 1, 0, none⟩) 2 2]) ∧ Below w.heap.size w ((((w.alloc o).alloc (.cells #[.string ⟨#[97, 46, 115, 101, 114, 118, 105, 99, 101]⟩, .int .i64 2, .int .i64 (-1), .int .i64 0, .int .i64 3, .int .i64 0, .int .i64 0, .int .i64 0, .slice none 0 0, .string ⟨#[97, 46, 115, 101, 114, 118, 105, 99, 101]⟩, .int .i64 2, .int .i64 0, .int .i64 2, .int .i64 5, .int .i64 0, .int .i64 0, .int .i64 0, .slice none 0 0] 38)).alloc (.cells #[.int .i64 1, .int .i64 80, .int .i64 0, .int .i64 2, .int .i64 81, .int .i64 0, .int .i64 2, .int .i64 80, .int .i64 4] 54)).alloc (.cells #[.int .i64 1, .string ⟨#[97, 46, 115, 101, 114, 118, 105, 99, 101]⟩, .int .i64 1, .int .i64 5, .string ⟨#[97, 46, 115, 101, 114, 118, 105, 99, 101]⟩, .int .i64 2] 51)) := by
  have e1 := Rd.fresh (w.alloc o) #[.string ⟨#[97, 46, 115, 101, 114, 118, 105, 99, 101]⟩, .int .i64 2, .int .i64 (-1), .int .i64 0, .int .i64 3, .int .i64 0, .int .i64 0, .int .i64 0, .slice none 0 0, .string ⟨#[97, 46, 115, 101, 114, 118, 105, 99, 101]⟩, .int .i64 2, .int .i64 0, .int .i64 2, .int .i64 5, .int .i64 0, .int .i64 0, .int .i64 0, .slice none 0 0] 38 2 9 rfl
  have e2 := Rd.fresh ((w.alloc o).alloc (.cells #[.string ⟨#[97, 46, 115, 101, 114, 118, 105, 99, 101]⟩, .int .i64 2, .int .i64 (-1), .int .i64 0, .int .i64 3, .int .i64 0, .int .i64 0, .int .i64 0, .slice none 0 0, .string ⟨#[97, 46, 115, 101, 114, 118, 105, 99, 101]⟩, .int .i64 2, .int .i64 0, .int .i64 2, .int .i64 5, .int .i64 0, .int .i64 0, .int .i64 0, .slice none 0 0] 38)) #[.int .i64 1, .int .i64 80, .int .i64 0, .int .i64 2, .int .i64 81, .int .i64 0, .int .i64 2, .int .i64 80, .int .i64 4] 54 3 3 rfl
  have e3 := Rd.fresh (((w.alloc o).alloc (.cells #[.string ⟨#[97, 46, 115, 101, 114, 118, 105, 99, 101]⟩, .int .i64 2, .int .i64 (-1), .int .i64 0, .int .i64 3, .int .i64 0, .int .i64 0, .int .i64 0, .slice none 0 0, .string ⟨#[97, 46, 115, 101, 114, 118, 105, 99, 101]⟩, .int .i64 2, .int .i64 0, .int .i64 2, .int .i64 5, .int .i64 0, .int .i64 0, .int .i64 0, .slice none 0 0] 38)).alloc (.cells #[.int .i64 1, .int .i64 80, .int .i64 0, .int .i64 2, .int .i64 81, .int .i64 0, .int .i64 2, .int .i64 80, .int .i64 4] 54)) #[.int .i64 1, .string ⟨#[97, 46, 115, 101, 114, 118, 105, 99, 101]⟩, .int .i64 1, .int .i64 5, .string ⟨#[97, 46, 115, 101, 114, 118, 105, 99, 101]⟩, .int .i64 2] 51 2 3 rfl
  have f1 := (e1.alloc (by simp) (.cells #[.int .i64 1, .int .i64 80, .int .i64 0, .int .i64 2, .int .i64 81, .int .i64 0, .int .i64 2, .int .i64 80, .int .i64 4] 54)).alloc (by simp) (.cells #[.int .i64 1, .string ⟨#[97, 46, 115, 101, 114, 118, 105, 99, 101]⟩, .int .i64 1, .int .i64 5, .string ⟨#[97, 46, 115, 101, 114, 118, 105, 99, 101]⟩, .int .i64 2] 51)
  have f2 := e2.alloc (by simp) (.cells #[.int .i64 1, .string ⟨#[97, 46, 115, 101, 114, 118, 105, 99, 101]⟩, .int .i64 1, .int .i64 5, .string ⟨#[97, 46, 115, 101, 114, 118, 105, 99, 101]⟩, .int .i64 2] 51)
  have hb := (((Below.refl w.heap.size w).alloc (Nat.le_refl _) o).alloc (by simp) (.cells #[.string ⟨#[97, 46, 115, 101, 114, 118, 105, 99, 101]⟩, .int .i64 2, .int .i64 (-1), .int .i64 0, .int .i64 3, .int .i64 0, .int .i64 0, .int .i64 0, .slice none 0 0, .string ⟨#[97, 46, 115, 101, 114, 118, 105, 99, 101]⟩, .int .i64 2, .int .i64 0, .int .i64 2, .int .i64 5, .int .i64 0, .int .i64 0, .int .i64 0, .slice none 0 0] 38)).alloc (by simp <;> omega) (.cells #[.int .i64 1, .int .i64 80, .int .i64 0, .int .i64 2, .int .i64 81, .int .i64 0, .int .i64 2, .int .i64 80, .int .i64 4] 54)
  have hb2 := hb.alloc (by simp <;> omega) (.cells #[.int .i64 1, .string ⟨#[97, 46, 115, 101, 114, 118, 105, 99, 101]⟩, .int .i64 1, .int .i64 5, .string ⟨#[97, 46, 115, 101, 114, 118, 105, 99, 101]⟩, .int .i64 2] 51)
  have s1 : (w.alloc o).heap.size = w.heap.size + 1 := by simp
  have s2 : ((w.alloc o).alloc (.cells #[.string ⟨#[97, 46, 115, 101, 114, 118, 105, 99, 101]⟩, .int .i64 2, .int .i64 (-1), .int .i64 0, .int .i64 3, .int .i64 0, .int .i64 0, .int .i64 0, .slice none 0 0, .string ⟨#[97, 46, 115, 101, 114, 118, 105, 99, 101]⟩, .int .i64 2, .int .i64 0, .int .i64 2, .int .i64 5, .int .i64 0, .int .i64 0, .int .i64 0, .slice none 0 0] 38)).heap.size = w.heap.size + 1 + 1 := by simp
  have s3 : (((w.alloc o).alloc (.cells #[.string ⟨#[97, 46, 115, 101, 114, 118, 105, 99, 101]⟩, .int .i64 2, .int .i64 (-1), .int .i64 0, .int .i64 3, .int .i64 0, .int .i64 0, .int .i64 0, .slice none 0 0, .string ⟨#[97, 46, 115, 101, 114, 118, 105, 99, 101]⟩, .int .i64 2, .int .i64 0, .int .i64 2, .int .i64 5, .int .i64 0, .int .i64 0, .int .i64 0, .slice none 0 0] 38)).alloc (.cells #[.int .i64 1, .int .i64 80, .int .i64 0, .int .i64 2, .int .i64 81, .int .i64 0, .int .i64 2, .int .i64 80, .int .i64 4] 54)).heap.size = w.heap.size + 1 + 1 + 1 := by simp
  rw [s1] at f1
  rw [s2] at f2
  rw [s3] at e3
  refine ⟨⟨_, _, _, rfl, ⟨f1.more (by simp <;> omega), by omega, ?_⟩, f2.more (by simp), e3.more (by simp)⟩, hb2⟩
  intro a ha
  simp only [toldActs, List.mem_cons, List.not_mem_nil, or_false] at ha
  rcases ha with rfl | rfl
  · exact ⟨nil_in _ _ _ rfl rfl rfl (by decide), Nat.zero_le _⟩
  · exact ⟨nil_in _ _ _ rfl rfl rfl (by decide), Nat.zero_le _⟩

set_option maxRecDepth 100000 in
set_option maxHeartbeats 4000000 in
theorem told_any (w : World) : Calls Try.prog 25 #[] w fun e w' => ∃ v, e = .returned v ∧ ToldAt w' v ∧ Below w.heap.size w w' := by
  go_enter Try.func25, Try.ntmps25
  go_wp2_with fail
  refine bodyPost_ret (v := .agg #[.slice (some ⟨w.heap.size + 1, 0, none⟩) 2 2, .slice (some ⟨w.heap.size + 1 + 1, 0, none⟩) 3 3, .slice (some ⟨w.heap.size + 1 + 1 + 1, 0, none⟩) 2 2]) (by simp [results, Try.results25, go_sem]) rfl ?_
  exact ⟨_, rfl, (told_rows w _).1, (told_rows w _).2⟩

end Go.Proofs.Ytkfeicgeobhccaa
