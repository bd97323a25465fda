/-
  The reference's words on who calls: one put behind the other.
-/
import Derived.Test.YtkfeicgeobhccaaWn
import Derived.Test.YtkfeicgeobhccaaMf
import Derived.Test.YtkfeicgeobhccaaMg
import Derived.BigQuiet
import Derived.Deep.RegionHeld3
namespace Go.Proofs.Ytkfeicgeobhccaa
open Go.RowKit

theorem Rd.take {w : World} {B size n : Nat} {A : Option Addr} {xs : List Value} (h : Rd w B size A n xs) (k : Nat) (hk : k ≤ n) : Rd w B size A k (xs.take (k * size)) := by
  have hm : k * size ≤ n * size := Nat.mul_le_mul_right _ hk
  refine ⟨by rw [List.length_take, h.1]; omega, fun h0 => ?_⟩
  obtain ⟨ad, rfl, h1, h2⟩ := h.2 (by omega)
  refine ⟨ad, rfl, h1, fun j u hu => h2 j u ?_⟩
  rw [List.getElem?_take] at hu
  split at hu
  · exact hu
  · cases hu
theorem add_add (ad : Addr) (a b : Nat) : (ad.add a).add b = ad.add (a + b) := by
  unfold Addr.add
  by_cases ha : a = 0
  · subst ha; simp
  · by_cases hb : b = 0
    · subst hb; simp [ha]
    · simp [ha, hb, Nat.add_assoc]
theorem add_block (ad : Addr) (a : Nat) : (ad.add a).block = ad.block := by
  unfold Addr.add; split <;> rfl
theorem Rd.drop {w : World} {B size n : Nat} {ad : Addr} {xs : List Value} (h : Rd w B size (some ad) n xs) (k : Nat) : Rd w B size (some (ad.add (k * size))) (n - k) (xs.drop (k * size)) := by
  refine ⟨by rw [List.length_drop, h.1, Nat.sub_mul], fun h0 => ?_⟩
  obtain ⟨ad', e, h1, h2⟩ := h.2 (by omega)
  injection e with e
  subst e
  refine ⟨_, rfl, by rw [add_block]; exact h1, fun j u hu => ?_⟩
  rw [List.getElem?_drop] at hu
  have := h2 (k * size + j) u hu
  rwa [add_add]
theorem Mg.ins_through {X Y : List Mg.C} {c : Mg.C} (h : ∀ x ∈ X, ¬ c.1 < x.1) : Mg.ins c (X ++ Y) = X ++ Mg.ins c Y := by
  induction X with
  | nil => rfl
  | cons x r ih => rw [List.cons_append, Mg.ins, if_neg (h x (by simp)), ih (fun y hy => h y (by simp [hy]))]; rfl
theorem Mg.ins_here {Y : List Mg.C} {c : Mg.C} (h : ∀ x ∈ Y, c.1 < x.1) : Mg.ins c Y = c :: Y := by
  cases Y with
  | nil => rfl
  | cons y r => rw [Mg.ins, if_pos (h y (by simp))]
theorem Mg.up_le {L : List Mg.C} (h : Mg.Up L) (i j : Nat) (hij : i ≤ j) (hj : j < L.length) : (L[i]'(by omega)).1 ≤ L[j].1 := by
  induction L generalizing i j with
  | nil => simp at hj
  | cons y r ih =>
    cases i with
    | zero =>
      cases j with
      | zero => exact Int.le_refl _
      | succ j => exact h.1 _ (List.getElem_mem _)
    | succ i =>
      cases j with
      | zero => omega
      | succ j => exact ih h.2 i j (by omega) (by simpa using hj)
/-- where one is put in -/
theorem Mg.ins_at {L : List Mg.C} {c : Mg.C} (hU : Mg.Up L) (k : Nat) (hk : k ≤ L.length) (h1 : ∀ x ∈ L.drop k, c.1 < x.1) (h2 : ∀ h : 0 < k, ¬ c.1 < (L[k - 1]'(by omega)).1) : Mg.ins c L = L.take k ++ ([c] ++ L.drop k) := by
  conv => lhs; rw [← List.take_append_drop k L]
  rw [Mg.ins_through (fun x hx => ?_), Mg.ins_here h1]; rfl
  obtain ⟨j, hj, rfl⟩ := List.mem_iff_getElem.1 hx
  rw [List.length_take] at hj
  rw [List.getElem_take]
  have := Mg.up_le hU j (k - 1) (by omega) (by omega)
  have := h2 (by omega)
  omega
theorem callCells_take (L : List (Int × Int × Int)) (k : Nat) : (callCells L).take (k * 3) = callCells (L.take k) := by
  conv => lhs; rw [← List.take_append_drop k L]
  rw [callCells_app]
  by_cases h : k ≤ L.length
  · rw [List.take_append_of_le_length (by rw [callCells_len, List.length_take]; omega), List.take_of_length_le (by rw [callCells_len, List.length_take]; omega)]
  · rw [List.drop_eq_nil_of_le (by omega), List.take_of_length_le (by rw [List.length_append, callCells_len, callCells_len, List.length_take]; simp; omega)]; simp [callCells]
theorem callCells_drop (L : List (Int × Int × Int)) (k : Nat) : (callCells L).drop (k * 3) = callCells (L.drop k) := by
  have h := List.take_append_drop (k * 3) (callCells L)
  have h2 : callCells (L.take k) ++ callCells (L.drop k) = callCells L := by rw [← callCells_app, List.take_append_drop]
  rw [callCells_take, ← h2] at h
  exact List.append_cancel_left (by rw [h2] at h; rw [h2]; exact h)
theorem hasI_snoc (ps : List Int) (x : Int) (k : Nat) (h : k < ps.length) : hasI (ps.take (k + 1)) x = (hasI (ps.take k) x || (ps[k] == x)) := by
  rw [hasI_take ps x k h]
  congr 1
  exact Bool.eq_iff_iff.2 (by simp; exact eq_comm)
theorem belowQ' {w w' : World} {B : Nat} (h : Below B w w') (q : Nat) : Below B w (w'.drewN q) := by
  induction q with
  | zero => exact h
  | succ q ih => exact ih.drew
theorem since_alloc {W0 W : World} (h : Below W0.heap.size W0 W) (o : Obj) : Below W0.heap.size W0 (W.alloc o) := h.alloc h.size o
theorem since_grown {W0 W W' : World} {row : Option Nat} (h : Below W0.heap.size W0 W) (hg : W.grownBy W' row) (hr : ∀ k, row = some k → W0.heap.size ≤ k) : Below W0.heap.size W0 W' := h.grown hg h.size hr
theorem own_fresh (X : World) (cs : Array Value) (e : TypeId) (n size : Nat) (h : cs.size = n * size) (hn : n ≤ maxLen) : (X.alloc (.cells cs e)).ownsRow X.heap.size e size (.slice (some ⟨X.heap.size, 0, none⟩) n n) n cs.toList :=
  ⟨by rw [Array.length_toList, h], .inr ⟨X.heap.size, n, cs, rfl, Nat.le_refl _, heap_alloc_new X _, Nat.le_refl _, hn, h, by rw [← h]; exact List.take_of_length_le (by simp)⟩⟩
/-- one thing laid anew, with others behind it -/
theorem step_put {P : Program} {ops : Array Oper} {o : Oper} {a : Act} {K : Act → World → Prop} {Q : Exit → Act → World → Prop} {E : Prop} (W0 X : World) (hS : Below W0.heap.size W0 X) (hgd : o.guard = none) (s x : Operand) (t : TypeId)
    (ho : o.op = .call { callee := .builtin .append, args := #[s, x], argTypes := #[t, t] })
    (e : TypeId) (i : TypeInfo) (z : Value) (size bytes : Nat) (ht : P.underlying t = some (.slice e)) (hi : P.info? e = some i) (hz : i.zero = some z)
    (hsize : i.size = size) (hby : i.bytes = bytes) (hzs : z.cells.size = size) (hsz : 0 < size)
    (cs : Array Value) (hcs : cs.size = size) (hs : a.eval s = .slice (some ⟨X.heap.size, 0, none⟩) 1 1)
    (B : Nat) (A : Option Addr) (m c : Nat) (news : List Value) (hx : a.eval x = .slice A m c) (hr : Rd X B size A m news) (hB : B ≤ X.heap.size) (h1 : ∀ u ∈ news, u.oneCell' = true)
    (h63 : 1 + m ≤ maxLen) (hbytes : (1 + m) * bytes ≤ 140737488355328)
    (h : ∀ A' c' w', Rd w' w'.heap.size size A' (1 + m) (cs.toList ++ news) → Below W0.heap.size W0 w' → K (a.put o.dst (.slice A' (1 + m) c')) w') :
    if Region.wanted o (yielded ops a.tmps) = true then Oper.wp P o a (X.alloc (.cells cs e)) K Q else E := by
  have hown := own_mono (own_fresh X cs e 1 size (by omega) (by unfold maxLen; omega)) hS.size
  refine step_app (X.alloc (.cells cs e)) hgd s x t ho W0.heap.size e i z size bytes ht hi hz hsize hby hzs hsz _ 1 cs.toList hs hown B A m c news hx (hr.alloc hB _) h1 h63 hbytes (Nat.le_trans hS.size (by simp)) ?_
  intro v' w' h2 h3 _
  obtain ⟨A', c', rfl⟩ := own_slice h2
  exact h A' c' w' (Rd.of_own h2) (since_grown (since_alloc hS _) h3 (fun k hk => (hown.lt k hk).1))
theorem callCells_one (l : List (Int × Int × Int)) : ∀ u ∈ callCells l, u.oneCell' = true := by
  intro u hu
  simp only [callCells, List.mem_flatMap] at hu
  obtain ⟨p, _, hp⟩ := hu
  simp at hp
  rcases hp with rfl | rfl | rfl <;> rfl

set_option maxRecDepth 100000 in
set_option maxHeartbeats 8000000 in
theorem rcalls_any (aA : Option Addr) (an ac : Nat) (cA : Option Addr) (cn cc : Nat) (kA : Option Addr) (kn kc : Nat) (l : List (Int × Int × Int)) (pA : Option Addr) (pn pc : Nat) (ps : List Int) (w : World) (B : Nat) (h : Rd w B 3 cA cn (callCells l)) (hp : Rd w B 1 pA pn (ps.map (Value.int .i64))) (hB : B ≤ w.heap.size) (hn : cn ≤ 1099511627776) (hpn : pn ≤ 140737488355328) :
    Calls Try.prog 20 #[.agg #[.slice aA an ac, .slice cA cn cc, .slice kA kn kc], .slice pA pn pc] w fun e w' => ∃ (A' : Option Addr) (n' c' : Nat), e = .returned (.slice A' n' c') ∧ n' = (callsF ps l).length ∧ w'.ownsRow w.heap.size 54 3 (.slice A' n' c') n' (callCells (Mg.isort (callsF ps l))) ∧ Below w.heap.size w w' := by
  obtain ⟨i0, hi, hz0, hz1, hz2⟩ := info_parts call_info
  have hl : l.length = cn := by have h1 := h.1; rw [callCells_len] at h1; omega
  have HL := Lib.hid hl
  have HPL : Hid (ps.length = pn) := Lib.hid (by have h1 := hp.1; simp at h1; omega)
  clear hl
  go_enter Try.func20, Try.ntmps20
  go_wp2_with fail
  go_loopw [5, 15] (fun v iv wr => ∃ (k n : Nat) (L : List (Int × Int × Int)), k ≤ cn ∧ iv = .int .i64 k ∧ wr.ownsRow (w.heap.size + 1) 54 3 v n (callCells L) ∧ Below (w.heap.size + 1) (w.alloc (.cells #[.slice aA an ac, .slice cA cn cc, .slice kA kn kc] 26)) wr ∧ n ≤ k ∧ Hid (L.length = n ∧ n = (callsF ps (l.take k)).length ∧ L = Mg.isort (callsF ps (l.take k)))) (fun _ iv _ => cn - (intOf iv).toNat)
  case atStart => exact ⟨0, 0, [], Nat.zero_le _, rfl, ⟨by simp [callCells], .inl ⟨rfl, rfl⟩⟩, Below.refl _ _, by simp, Lib.hid ⟨rfl, rfl, rfl⟩⟩
  case round =>
    obtain ⟨k, n, L, hk, rfl, hown, hb, hLk, HA⟩ := hrel
    obtain ⟨A', c', rfl⟩ := own_slice hown
    have hbs : w.heap.size + 1 ≤ wr.heap.size := by have := hb.size; simpa using this
    have hbw : Below w.heap.size w wr := ((Below.refl w.heap.size w).alloc (Nat.le_refl _) (.cells #[.slice aA an ac, .slice cA cn cc, .slice kA kn kc] 26)).trans (hb.mono (by omega))
    by_cases hlt : k < cn
    · obtain ⟨ad, rfl, hadB, hc⟩ := (h.below (hbw.mono hB)).here (by omega)
      have hkl : k < l.length := by rw [HL.out]; exact hlt
      obtain ⟨p1, p2, p3⟩ := callCells_at l k hkl
      have c1 := hc _ _ p1
      have c2 := hc _ _ p2
      have c3 := hc _ _ p3
      rw [Mem.add_field _ _ 1 (by omega)] at c2
      rw [Mem.add_field _ _ 2 (by omega)] at c3
      have HY := Lib.hid (callsF_yes ps l k hkl)
      have HNO := Lib.hid (callsF_no ps l k hkl)
      generalize hpp : l[k] = p at *
      obtain ⟨pt, pu, py⟩ := p
      dsimp only at c1 c2 c3
      have x1 : (0 : Int) ≤ (k : Int) := by omega
      have x2 : (k : Int) < (cn : Int) := by omega
      clear hpp p1 p2 p3 hc
      have hbA := hbw.alloc hbw.size (.cells #[.int .i64 pt, .int .i64 pu, .int .i64 py] 54)
      have hbB := hb.alloc hbs (.cells #[.int .i64 pt, .int .i64 pu, .int .i64 py] 54)
      have HP := Lib.hid (hp.below (hbA.mono hB))
      have hown1 := World.ownsRow.alloc hown (.cells #[.int .i64 pt, .int .i64 pu, .int .i64 py] 54)
      go_wp2_with fail
      go_loopw [8, 21] (fun bv iv W => ∃ (j : Nat) (b : Bool), j ≤ pn ∧ iv = .int .i64 j ∧ bv = .bool b ∧ (wr.alloc (.cells #[.int .i64 pt, .int .i64 pu, .int .i64 py] 54)) = W ∧ Hid (b = hasI (ps.take j) pu)) (fun _ iv _ => pn - (intOf iv).toNat)
      case atStart => exact ⟨0, false, Nat.zero_le _, rfl, rfl, by first | rfl | trivial, Lib.hid rfl⟩
      case round =>
        obtain ⟨j, b, hj, rfl, rfl, rfl, HB⟩ := hrel
        by_cases hjt : j < pn
        · obtain ⟨qa, rfl, hqB, hqc⟩ := HP.out.here (by omega)
          have hjl : j < ps.length := by rw [HPL.out]; exact hjt
          have d0 : (wr.alloc (.cells #[.int .i64 pt, .int .i64 pu, .int .i64 py] 54)).cell? (qa.add j) = some (.int .i64 ps[j]) := hqc j _ (by simp [hjl])
          have HT := Lib.hid (hasI_snoc ps pu j hjl)
          generalize hpj : ps[j] = pj at *
          have y1 : (0 : Int) ≤ (j : Int) := by omega
          have y2 : (j : Int) < (pn : Int) := by omega
          clear hpj hqc
          cases b with
          | true =>
            go_wp2
            go_roundw
            case rel => exact ⟨j + 1, true, by omega, by go_num, rfl, by first | rfl | trivial, Lib.hid (by rw [HT.out, ← HB.out]; rfl)⟩
            case measure => first | (simp [intOf]; done) | (simp [intOf]; omega)
          | false =>
            cases he : (pj == pu) with
            | true =>
              have HE := Lib.hid (show hasI (ps.take (j + 1)) pu = true by rw [HT.out, ← HB.out, he]; rfl)
              go_wp2
              go_roundw
              case rel => exact ⟨j + 1, true, by omega, by go_num, rfl, by first | rfl | trivial, Lib.hid HE.out.symm⟩
              case measure => first | (simp [intOf]; done) | (simp [intOf]; omega)
            | false =>
              have HE := Lib.hid (show hasI (ps.take (j + 1)) pu = false by rw [HT.out, ← HB.out, he]; rfl)
              go_wp2
              go_roundw
              case rel => exact ⟨j + 1, false, by omega, by go_num, rfl, by first | rfl | trivial, Lib.hid HE.out.symm⟩
              case measure => first | (simp [intOf]; done) | (simp [intOf]; omega)
        · have y2 : ¬ (j : Int) < (pn : Int) := by omega
          have HBB : Hid (b = hasI ps pu) := Lib.hid (by have := HB.out; rw [List.take_of_length_le (by rw [HPL.out]; omega)] at this; exact this)
          clear HB
          cases b with
          | false =>
            have HN := Lib.hid (HNO.out HBB.out.symm)
            go_wp2
            go_roundw
            case rel => exact ⟨k + 1, n, L, by omega, by go_num, hown1, hbB, by omega, Lib.hid (by rw [HN.out]; exact HA.out)⟩
            case measure => first | (simp [intOf]; done) | (simp [intOf]; omega)
          | true =>
            have HN := Lib.hid (HY.out HBB.out.symm)
            have HR := Lib.hid (Rd.of_own hown1)
            have hvw : (A' = none ∧ c' = 0 ∧ n = 0) ∨ ∃ g, A' = some ⟨g, 0, none⟩ ∧ n ≤ c' ∧ c' ≤ 9223372036854775807 := by
              rcases hown1.2 with ⟨h0, h1⟩ | ⟨g, cap, cur, h1, _, _, h2, h3, _⟩
              · injection h0 with h2 h3 h4
                exact .inl ⟨h2, h4, h1⟩
              · injection h1 with h4 h5 h6
                subst h6
                exact .inr ⟨g, h4, h2, by unfold maxLen at h3; omega⟩
            clear hown hown1 hbA hbw hb HP HNO HY
            rcases hvw with ⟨rfl, rfl, rfl⟩ | ⟨g, rfl, hnc, hcm⟩
            · obtain rfl : L = [] := List.eq_nil_of_length_eq_zero HA.out.1
              go_wp2_with fail
              go_loopw [11] (fun kv W => ∃ q : Nat, kv = .int .i64 0 ∧ W = (wr.alloc (.cells #[.int .i64 pt, .int .i64 pu, .int .i64 py] 54)).drewN q) (fun _ _ => 0)
              case atStart => exact ⟨0, rfl, rfl⟩
              case round =>
                obtain ⟨q, rfl, rfl⟩ := hrel
                have f0 : ((wr.alloc (.cells #[.int .i64 pt, .int .i64 pu, .int .i64 py] 54)).drewN q).cell? ⟨wr.heap.size, 0, none⟩ = some (.int .i64 pt) := by simp
                have f1 : ((wr.alloc (.cells #[.int .i64 pt, .int .i64 pu, .int .i64 py] 54)).drewN q).cell? ⟨wr.heap.size, 1, none⟩ = some (.int .i64 pu) := by simp
                have f2 : ((wr.alloc (.cells #[.int .i64 pt, .int .i64 pu, .int .i64 py] 54)).drewN q).cell? ⟨wr.heap.size, 2, none⟩ = some (.int .i64 py) := by simp
                have HBQ := Lib.hid (belowQ' hbB q)
                have HSZ : Hid (((wr.alloc (.cells #[.int .i64 pt, .int .i64 pu, .int .i64 py] 54)).drewN q).heap.size = (wr.alloc (.cells #[.int .i64 pt, .int .i64 pu, .int .i64 py] 54)).heap.size) := Lib.hid rfl
                generalize (wr.alloc (.cells #[.int .i64 pt, .int .i64 pu, .int .i64 py] 54)).drewN q = W2 at *
                go_wp2_with fail
                go_quiet (fail)
                go_wp2_with fail
                have g0 : (W2.drewN nq).cell? ⟨wr.heap.size, 0, none⟩ = some (.int .i64 pt) := f0
                have g1 : (W2.drewN nq).cell? ⟨wr.heap.size, 1, none⟩ = some (.int .i64 pu) := f1
                have g2 : (W2.drewN nq).cell? ⟨wr.heap.size, 2, none⟩ = some (.int .i64 py) := f2
                have HBR := Lib.hid (belowQ' HBQ.out nq)
                have HSR : Hid ((W2.drewN nq).heap.size = (wr.alloc (.cells #[.int .i64 pt, .int .i64 pu, .int .i64 py] 54)).heap.size) := Lib.hid HSZ.out
                clear f0 f1 f2 HBQ HSZ
                generalize W2.drewN nq = W3 at *
                have k0 : ∀ W, Below W3.heap.size W3 W → W.cell? ⟨wr.heap.size, 0, none⟩ = some (.int .i64 pt) := fun W hW => (hW.cell (p := ⟨wr.heap.size, 0, none⟩) (by rw [HSR.out]; simp)).trans g0
                have k1 : ∀ W, Below W3.heap.size W3 W → W.cell? ⟨wr.heap.size, 1, none⟩ = some (.int .i64 pu) := fun W hW => (hW.cell (p := ⟨wr.heap.size, 1, none⟩) (by rw [HSR.out]; simp)).trans g1
                have k2 : ∀ W, Below W3.heap.size W3 W → W.cell? ⟨wr.heap.size, 2, none⟩ = some (.int .i64 py) := fun W hW => (hW.cell (p := ⟨wr.heap.size, 2, none⟩) (by rw [HSR.out]; simp)).trans g2
                have hq : Below W3.heap.size W3 W3.drew := (Below.refl _ _).drew
                have HWS : Hid (wr.heap.size + 1 ≤ W3.heap.size) := Lib.hid (by rw [HSR.out]; simp)
                clear g0 g1 g2
                go_region_held3 (fun W => Below W3.heap.size W3 W) (first | assumption | exact since_alloc (by assumption) _) (first | (refine step_put W3 W3.drew hq rfl _ _ 23 rfl 54 i0 (.agg #[.int .i64 0, .int .i64 0, .int .i64 0]) 3 24 Try.underlying23 hi hz0 hz1 hz2 rfl (by decide) #[.int .i64 pt, .int .i64 pu, .int .i64 py] rfl rfl W3.heap.size none 0 _ (callCells []) rfl Rd.empty (Nat.le_refl _) (callCells_one _) (by decide) (by decide) ?_; intro A5 c5 w5 hr5' q5; have hr5 : Rd w5 w5.heap.size 3 A5 1 (callCells [(pt, pu, py)]) := hr5'; clear hr5') | (refine step_grow _ rfl _ _ 23 rfl W3.heap.size 54 i0 (.agg #[.int .i64 0, .int .i64 0, .int .i64 0]) 3 24 Try.underlying23 hi hz0 hz1 hz2 rfl (by decide) none 0 0 W3.heap.size (callCells []) rfl (fun _ => rfl) Rd.empty w5.heap.size A5 _ c5 _ rfl hr5 (by omega) (callCells_one _) (by omega) (by decide) (by decide) (Below.size q5) ?_; intro v6 w6 hown6' hgr6; have q6 := since_grown q5 hgr6 (by intro k hk; cases hk); have hown6 := own_mono hown6' (Nat.le_trans hbs (Nat.le_trans (by omega) HWS.out)); clear hown6' hgr6))
                all_goals
                  have hfin := HBR.out.trans (q6.mono (Nat.le_trans (Nat.le_trans hbs (by omega)) HWS.out))
                  have HOW := Lib.hid hown6
                  clear hown6
                  go_wp2
                  go_roundw
                  case rel => exact ⟨k + 1, 1, [(pt, pu, py)], by omega, by go_num, HOW.out, hfin, by omega, Lib.hid (by
                    have h1 := HA.out
                    refine ⟨rfl, ?_, ?_⟩
                    · rw [HN.out, List.length_append, ← h1.2.1]; rfl
                    · rw [HN.out, Mg.isort_app, ← h1.2.2]; rfl)⟩
                  case measure => first | (simp [intOf]; done) | (simp [intOf]; omega)
            · go_wp2_with fail
              go_loopw [11] (fun kv W => ∃ j q : Nat, j ≤ n ∧ kv = .int .i64 j ∧ W = (wr.alloc (.cells #[.int .i64 pt, .int .i64 pu, .int .i64 py] 54)).drewN q ∧ Hid (∀ x ∈ L.drop j, pt < x.1)) (fun kv _ => (intOf kv).toNat)
              case atStart => exact ⟨n, 0, Nat.le_refl _, rfl, rfl, Lib.hid (by have := HA.out.1; rw [List.drop_eq_nil_of_le (by omega)]; simp)⟩
              case round =>
                obtain ⟨j, q, hj, rfl, rfl, HG⟩ := hrel
                have f0 : ((wr.alloc (.cells #[.int .i64 pt, .int .i64 pu, .int .i64 py] 54)).drewN q).cell? ⟨wr.heap.size, 0, none⟩ = some (.int .i64 pt) := by simp
                have f1 : ((wr.alloc (.cells #[.int .i64 pt, .int .i64 pu, .int .i64 py] 54)).drewN q).cell? ⟨wr.heap.size, 1, none⟩ = some (.int .i64 pu) := by simp
                have f2 : ((wr.alloc (.cells #[.int .i64 pt, .int .i64 pu, .int .i64 py] 54)).drewN q).cell? ⟨wr.heap.size, 2, none⟩ = some (.int .i64 py) := by simp
                have HRQ := Lib.hid (HR.out.drewN q)
                have HBQ := Lib.hid (belowQ' hbB q)
                have HSZ : Hid (((wr.alloc (.cells #[.int .i64 pt, .int .i64 pu, .int .i64 py] 54)).drewN q).heap.size = (wr.alloc (.cells #[.int .i64 pt, .int .i64 pu, .int .i64 py] 54)).heap.size) := Lib.hid rfl
                have HDR : Hid (∀ m, ((wr.alloc (.cells #[.int .i64 pt, .int .i64 pu, .int .i64 py] 54)).drewN q).drewN m = (wr.alloc (.cells #[.int .i64 pt, .int .i64 pu, .int .i64 py] 54)).drewN (q + m)) := Lib.hid (fun m => World.drewN_drewN _ _ _)
                generalize (wr.alloc (.cells #[.int .i64 pt, .int .i64 pu, .int .i64 py] 54)).drewN q = W2 at *
                by_cases hj0 : 0 < j
                · obtain ⟨i, rfl⟩ : ∃ i, j = i + 1 := ⟨j - 1, by omega⟩
                  have hil : i < L.length := by have := HA.out.1; omega
                  obtain ⟨qa, hqa, hqB, hqc⟩ := HRQ.out.here (by omega)
                  injection hqa with hqa
                  subst hqa
                  have e0 := hqc _ _ (callCells_at L i hil).1
                  simp only [Addr.add_lit, Nat.zero_add] at e0
                  have HGS : Hid (pt < L[i].1 → ∀ x ∈ L.drop i, pt < x.1) := Lib.hid (by
                    intro h1 x hx
                    rw [List.drop_eq_getElem_cons hil] at hx
                    rcases List.mem_cons.1 hx with e | hx
                    · subst e; exact h1
                    · exact HG.out x hx)
                  have HGE : Hid (¬ pt < L[i].1 → ∀ h : 0 < i + 1, ¬ pt < (L[i + 1 - 1]'(by omega)).1) := Lib.hid (fun h1 _ => h1)
                  generalize hLi : L[i].1 = lt at *
                  have y1 : (0 : Int) ≤ (i : Int) := by omega
                  have y2 : (i : Int) < (n : Int) := by omega
                  have y3 : ((i + 1 : Nat) : Int) = (i : Int) + 1 := by omega
                  rw [y3]
                  have y4 : IntKind.i64.wrap ((i : Int) + 1 - 1) = (i : Int) := by rw [show (i : Int) + 1 - 1 = (i : Int) from by omega, IntKind.wrap_i64]; omega
                  have y5 : decide ((0 : Int) < (i : Int) + 1) = true := decide_eq_true (by omega)
                  have y6 : IntKind.i64.wrap (i : Int) = (i : Int) := by rw [IntKind.wrap_i64]; omega
                  clear hqc hLi y3
                  by_cases ht : pt < lt
                  · have HG2 := Lib.hid (HGS.out ht)
                    go_wp2_with fail
                    go_quiet (fail)
                    go_wp2
                    go_roundw
                    case rel => exact ⟨i, _, by omega, by go_num, HDR.out _, HG2⟩
                    case measure => first | (simp [intOf]; done) | (simp [intOf]; omega)
                  · have HG3 := Lib.hid (HGE.out ht)
                    have HINS := Lib.hid (Mg.ins_at (L := L) (c := (pt, pu, py)) (by have := HA.out.2.2; rw [this]; exact Mg.up_isort _) (i + 1) (by omega) HG.out HG3.out)
                    go_wp2_with fail
                    go_quiet (fail)
                    go_wp2_with fail
                    obtain ⟨x, hx⟩ : ∃ x, x = i + 1 := ⟨_, rfl⟩
                    rw [show (i : Int) + 1 = (x : Int) from by omega]
                    rw [← hx] at HINS
                    have hxn : x ≤ n := by omega
                    clear hx y1 y2 y4 y5 y6 HGS HGE HG3 HG HDR hj hj0 hil e0 ht
                    have g0 : (W2.drewN nq).cell? ⟨wr.heap.size, 0, none⟩ = some (.int .i64 pt) := f0
                    have g1 : (W2.drewN nq).cell? ⟨wr.heap.size, 1, none⟩ = some (.int .i64 pu) := f1
                    have g2 : (W2.drewN nq).cell? ⟨wr.heap.size, 2, none⟩ = some (.int .i64 py) := f2
                    have HRR := Lib.hid (HRQ.out.drewN nq)
                    have HBR := Lib.hid (belowQ' HBQ.out nq)
                    have HSR : Hid ((W2.drewN nq).heap.size = (wr.alloc (.cells #[.int .i64 pt, .int .i64 pu, .int .i64 py] 54)).heap.size) := Lib.hid HSZ.out
                    clear f0 f1 f2 HRQ HBQ HSZ
                    generalize W2.drewN nq = W3 at *
                    have z1 : (0 : Int) ≤ (x : Int) := by omega
                    have z2 : (x : Int) ≤ (n : Int) := by omega
                    have z3 : (x : Int) ≤ (c' : Int) := by omega
                    have HNONE : Hid ((some ⟨g, 0, none⟩ : Option Addr) = none → x = 0) := Lib.hid (fun e => by cases e)
                    have HPRE : Hid (∀ W, Below W3.heap.size W3 W → Rd W W3.heap.size 3 (some ⟨g, 0, none⟩) x (callCells (L.take x))) := Lib.hid (fun W hW => by
                      have := ((HRR.out.more (Nat.le_of_eq HSR.out.symm)).below hW).take x hxn
                      rwa [callCells_take] at this)
                    have HSUF : Hid (∀ W, Below W3.heap.size W3 W → Rd W W3.heap.size 3 (if c' = x then some ⟨g, 0, none⟩ else some ⟨g, x * 3, none⟩) (n - x) (callCells (L.drop x))) := Lib.hid (fun W hW => by
                      split
                      · rw [List.drop_eq_nil_of_le (by rw [HA.out.1]; omega), show n - x = 0 from by omega]; exact Rd.empty
                      · have := ((HRR.out.more (Nat.le_of_eq HSR.out.symm)).below hW).drop x
                        rwa [callCells_drop, Addr.add_lit, Nat.zero_add] at this)
                    have k0 : ∀ W, Below W3.heap.size W3 W → W.cell? ⟨wr.heap.size, 0, none⟩ = some (.int .i64 pt) := fun W hW => (hW.cell (p := ⟨wr.heap.size, 0, none⟩) (by rw [HSR.out]; simp)).trans g0
                    have k1 : ∀ W, Below W3.heap.size W3 W → W.cell? ⟨wr.heap.size, 1, none⟩ = some (.int .i64 pu) := fun W hW => (hW.cell (p := ⟨wr.heap.size, 1, none⟩) (by rw [HSR.out]; simp)).trans g1
                    have k2 : ∀ W, Below W3.heap.size W3 W → W.cell? ⟨wr.heap.size, 2, none⟩ = some (.int .i64 py) := fun W hW => (hW.cell (p := ⟨wr.heap.size, 2, none⟩) (by rw [HSR.out]; simp)).trans g2
                    have hq : Below W3.heap.size W3 W3.drew := (Below.refl _ _).drew
                    have HWS : Hid (wr.heap.size + 1 ≤ W3.heap.size) := Lib.hid (by rw [HSR.out]; simp)
                    clear g0 g1 g2
                    go_region_held3 (fun W => Below W3.heap.size W3 W) (first | assumption | exact since_alloc (by assumption) _) (first | (refine step_put W3 W3.drew hq rfl _ _ 23 rfl 54 i0 (.agg #[.int .i64 0, .int .i64 0, .int .i64 0]) 3 24 Try.underlying23 hi hz0 hz1 hz2 rfl (by decide) #[.int .i64 pt, .int .i64 pu, .int .i64 py] rfl rfl W3.heap.size _ _ _ _ rfl (HSUF.out _ hq) (Nat.le_refl _) (callCells_one _) (by unfold maxLen; omega) (by omega) ?_; intro A5 c5 w5 hr5' q5; have hr5 : Rd w5 w5.heap.size 3 A5 (1 + (n - x)) (callCells ((pt, pu, py) :: L.drop x)) := hr5'; clear hr5') | (refine step_grow _ rfl _ _ 23 rfl W3.heap.size 54 i0 (.agg #[.int .i64 0, .int .i64 0, .int .i64 0]) 3 24 Try.underlying23 hi hz0 hz1 hz2 rfl (by decide) _ _ _ W3.heap.size _ rfl HNONE.out (HPRE.out _ q5) w5.heap.size A5 _ c5 _ rfl hr5 (by omega) (callCells_one _) (by omega) (by unfold maxLen; omega) (by omega) (Below.size q5) ?_; intro v6 w6 hown6' hgr6; have q6 := since_grown q5 hgr6 (by intro k hk; cases hk); have hown6 := own_mono hown6' (Nat.le_trans hbs (Nat.le_trans (by omega) HWS.out)); clear hown6' hgr6))
                    all_goals
                      have hfin := HBR.out.trans (q6.mono (Nat.le_trans (Nat.le_trans hbs (by omega)) HWS.out))
                      have HOW := Lib.hid hown6
                      clear hown6
                      go_wp2
                      go_roundw
                      case rel => exact ⟨k + 1, x + (1 + (n - x)), Mg.ins (pt, pu, py) L, by omega, by go_num, by rw [HINS.out, callCells_app, callCells_app]; exact HOW.out, hfin, by omega, Lib.hid (by
                        have h1 := HA.out
                        refine ⟨by rw [HINS.out]; simp; omega, ?_, ?_⟩
                        · rw [HN.out, List.length_append, ← h1.2.1]; simp; omega
                        · rw [HN.out, Mg.isort_app, ← h1.2.2])⟩
                      case measure => first | (simp [intOf]; done) | (simp [intOf]; omega)

                · have HINS := Lib.hid (Mg.ins_at (L := L) (c := (pt, pu, py)) (by have := HA.out.2.2; rw [this]; exact Mg.up_isort _) j (by omega) HG.out (fun h => absurd h hj0))
                  have y5 : decide ((0 : Int) < (j : Int)) = false := decide_eq_false (by omega)
                  have y6 : decide (0 < j) = false := decide_eq_false (by omega)
                  go_wp2_with fail
                  go_quiet (fail)
                  go_wp2_with fail
                  obtain ⟨x, hx⟩ : ∃ x, x = j := ⟨_, rfl⟩
                  rw [← hx]
                  rw [← hx] at HINS
                  have hxn : x ≤ n := by omega
                  clear hx y5 y6 HG HDR hj hj0
                  have g0 : (W2.drewN nq).cell? ⟨wr.heap.size, 0, none⟩ = some (.int .i64 pt) := f0
                  have g1 : (W2.drewN nq).cell? ⟨wr.heap.size, 1, none⟩ = some (.int .i64 pu) := f1
                  have g2 : (W2.drewN nq).cell? ⟨wr.heap.size, 2, none⟩ = some (.int .i64 py) := f2
                  have HRR := Lib.hid (HRQ.out.drewN nq)
                  have HBR := Lib.hid (belowQ' HBQ.out nq)
                  have HSR : Hid ((W2.drewN nq).heap.size = (wr.alloc (.cells #[.int .i64 pt, .int .i64 pu, .int .i64 py] 54)).heap.size) := Lib.hid HSZ.out
                  clear f0 f1 f2 HRQ HBQ HSZ
                  generalize W2.drewN nq = W3 at *
                  have z1 : (0 : Int) ≤ (x : Int) := by omega
                  have z2 : (x : Int) ≤ (n : Int) := by omega
                  have z3 : (x : Int) ≤ (c' : Int) := by omega
                  have HNONE : Hid ((some ⟨g, 0, none⟩ : Option Addr) = none → x = 0) := Lib.hid (fun e => by cases e)
                  have HPRE : Hid (∀ W, Below W3.heap.size W3 W → Rd W W3.heap.size 3 (some ⟨g, 0, none⟩) x (callCells (L.take x))) := Lib.hid (fun W hW => by
                    have := ((HRR.out.more (Nat.le_of_eq HSR.out.symm)).below hW).take x hxn
                    rwa [callCells_take] at this)
                  have HSUF : Hid (∀ W, Below W3.heap.size W3 W → Rd W W3.heap.size 3 (if c' = x then some ⟨g, 0, none⟩ else some ⟨g, x * 3, none⟩) (n - x) (callCells (L.drop x))) := Lib.hid (fun W hW => by
                    split
                    · rw [List.drop_eq_nil_of_le (by rw [HA.out.1]; omega), show n - x = 0 from by omega]; exact Rd.empty
                    · have := ((HRR.out.more (Nat.le_of_eq HSR.out.symm)).below hW).drop x
                      rwa [callCells_drop, Addr.add_lit, Nat.zero_add] at this)
                  have k0 : ∀ W, Below W3.heap.size W3 W → W.cell? ⟨wr.heap.size, 0, none⟩ = some (.int .i64 pt) := fun W hW => (hW.cell (p := ⟨wr.heap.size, 0, none⟩) (by rw [HSR.out]; simp)).trans g0
                  have k1 : ∀ W, Below W3.heap.size W3 W → W.cell? ⟨wr.heap.size, 1, none⟩ = some (.int .i64 pu) := fun W hW => (hW.cell (p := ⟨wr.heap.size, 1, none⟩) (by rw [HSR.out]; simp)).trans g1
                  have k2 : ∀ W, Below W3.heap.size W3 W → W.cell? ⟨wr.heap.size, 2, none⟩ = some (.int .i64 py) := fun W hW => (hW.cell (p := ⟨wr.heap.size, 2, none⟩) (by rw [HSR.out]; simp)).trans g2
                  have hq : Below W3.heap.size W3 W3.drew := (Below.refl _ _).drew
                  have HWS : Hid (wr.heap.size + 1 ≤ W3.heap.size) := Lib.hid (by rw [HSR.out]; simp)
                  clear g0 g1 g2
                  go_region_held3 (fun W => Below W3.heap.size W3 W) (first | assumption | exact since_alloc (by assumption) _) (first | (refine step_put W3 W3.drew hq rfl _ _ 23 rfl 54 i0 (.agg #[.int .i64 0, .int .i64 0, .int .i64 0]) 3 24 Try.underlying23 hi hz0 hz1 hz2 rfl (by decide) #[.int .i64 pt, .int .i64 pu, .int .i64 py] rfl rfl W3.heap.size _ _ _ _ rfl (HSUF.out _ hq) (Nat.le_refl _) (callCells_one _) (by unfold maxLen; omega) (by omega) ?_; intro A5 c5 w5 hr5' q5; have hr5 : Rd w5 w5.heap.size 3 A5 (1 + (n - x)) (callCells ((pt, pu, py) :: L.drop x)) := hr5'; clear hr5') | (refine step_grow _ rfl _ _ 23 rfl W3.heap.size 54 i0 (.agg #[.int .i64 0, .int .i64 0, .int .i64 0]) 3 24 Try.underlying23 hi hz0 hz1 hz2 rfl (by decide) _ _ _ W3.heap.size _ rfl HNONE.out (HPRE.out _ q5) w5.heap.size A5 _ c5 _ rfl hr5 (by omega) (callCells_one _) (by omega) (by unfold maxLen; omega) (by omega) (Below.size q5) ?_; intro v6 w6 hown6' hgr6; have q6 := since_grown q5 hgr6 (by intro k hk; cases hk); have hown6 := own_mono hown6' (Nat.le_trans hbs (Nat.le_trans (by omega) HWS.out)); clear hown6' hgr6))
                  all_goals
                    have hfin := HBR.out.trans (q6.mono (Nat.le_trans (Nat.le_trans hbs (by omega)) HWS.out))
                    have HOW := Lib.hid hown6
                    clear hown6
                    go_wp2
                    go_roundw
                    case rel => exact ⟨k + 1, x + (1 + (n - x)), Mg.ins (pt, pu, py) L, by omega, by go_num, by rw [HINS.out, callCells_app, callCells_app]; exact HOW.out, hfin, by omega, Lib.hid (by
                      have h1 := HA.out
                      refine ⟨by rw [HINS.out]; simp; omega, ?_, ?_⟩
                      · rw [HN.out, List.length_append, ← h1.2.1]; simp; omega
                      · rw [HN.out, Mg.isort_app, ← h1.2.2])⟩
                    case measure => first | (simp [intOf]; done) | (simp [intOf]; omega)

    · have x2 : ¬ (k : Int) < (cn : Int) := by omega
      have HD : Hid (n = (callsF ps l).length ∧ L = Mg.isort (callsF ps l)) := Lib.hid (by
        have := HA.out.2
        rw [List.take_of_length_le (by rw [HL.out]; omega)] at this; exact this)
      have HO := Lib.hid (own_mono hown (show w.heap.size ≤ w.heap.size + 1 by omega))
      clear hown
      go_wp2
      go_ret
      exact ⟨A', n, c', rfl, HD.out.1, by rw [← HD.out.2]; exact HO.out, hbw⟩

end Go.Proofs.Ytkfeicgeobhccaa
