/-
  The walk of the law that says of any world what any command does.
-/
import Derived.Test.YtkfeicgeobhccaaWz
import Derived.Deep.RegionHeld3
import Derived.Shelf.SlicesQ.Load
namespace Go.Proofs.Ytkfeicgeobhccaa
open Go.RowKit

set_option maxRecDepth 100000 in
set_option maxHeartbeats 16000000 in
theorem worldfind_any (D : WorldD) (nm : ByteArray) (ty : Int) (u1 u2 u3 u4 u5 u6 u8 u9 u10 u11 u12 u13 u14 u15 u16 u17 u18 u19 u20 u21 u22 u23 u24 u25 u26 u27 u28 u29 u30 u31 u32 u33 u34 : Value) (part num att : Int) (w : World) (h : WorldGood w D) :
    Calls Try.prog 4 #[worldV D, .agg #[.string nm, u1, u2, u3, u4, u5, u6, .int .i64 ty, u8, u9, u10, u11, u12, u13, u14, u15, u16, u17, u18, u19, u20, u21, u22, u23, u24, u25, u26, u27, u28, u29, u30, u31, u32, u33, u34], .int .i64 part, .int .i64 num, .int .i64 att] w fun e w' => e = .returned (.bool true) ∧ Below w.heap.size w w' := by
  have hrl := reach_le
  have hba := h.ba
  have HF := Lib.hid (fun (hs : D.an ≤ 300) w' (hb : Below w.heap.size w w') => find_uni D.aA D.an D.ac D.cA D.cn D.cc D.kA D.kn D.kc D.acts nm part num att w' w.heap.size ((h.acts hs).below hb) hb.size)
  have HR := Lib.hid (fun w' (hb : Below w.heap.size w w') => rfind_uni D.aA D.an D.ac D.cA D.cn D.cc D.kA D.kn D.kc D.acts nm part num att w' w.heap.size (h.ra.below hb) hb.size (by omega))
  have HD := Lib.hid (fun (hs : D.an ≤ 300) w' (hb : Below w.heap.size w w') => does_uni D.aA D.an D.ac D.cA D.cn D.cc D.kA D.kn D.kc D.acts nm ty u1 u2 u3 u4 u5 u6 u8 u9 u10 u11 u12 u13 u14 u15 u16 u17 u18 u19 u20 u21 u22 u23 u24 u25 u26 u27 u28 u29 u30 u31 u32 u33 u34 part num att w' w.heap.size ((h.acts hs).below hb) hb.size)
  have HE := Lib.hid (fun w' (hb : Below w.heap.size w w') => rdoes_any D.aA D.an D.ac D.cA D.cn D.cc D.kA D.kn D.kc D.acts nm ty u1 u2 u3 u4 u5 u6 u8 u9 u10 u11 u12 u13 u14 u15 u16 u17 u18 u19 u20 u21 u22 u23 u24 u25 u26 u27 u28 u29 u30 u31 u32 u33 u34 part num att w' w.heap.size (h.ra.below hb) hb.size (by omega))
  have HS := Lib.hid (fun w' => small_any D.aA D.an D.ac D.cA D.cn D.cc D.kA D.kn D.kc w')
  have HW1 := Lib.hid (found_row h nm part num att)
  have HW2 := Lib.hid (does_row h nm ty part num att)
  obtain ⟨aA, an, ac, l, cA, cn, cc, lc, kA, kn, kc, lk⟩ := D
  simp only [worldV] at HF HR HD HE HS HW1 HW2 ⊢
  clear h hba hrl
  generalize foundOr l nm part num att = y at *
  generalize doesOf (findAct l nm part num att) nm ty part num att = z at *
  generalize (findAct l nm part num att).isSome = ok at *
  generalize hsm : (decide (an ≤ 300) && (decide (cn ≤ 200) && decide (kn ≤ 200))) = sm at *
  have HSM : Hid (sm = true → an ≤ 300) := Lib.hid (fun e => by rw [← hsm] at e; simp at e; exact e.1)
  clear hsm
  have hbW := ((Below.refl w.heap.size w).alloc (Nat.le_refl _) (.cells #[.slice aA an ac, .slice cA cn cc, .slice kA kn kc] 26)).alloc (by simp) (.cells #[.string nm, u1, u2, u3, u4, u5, u6, .int .i64 ty, u8, u9, u10, u11, u12, u13, u14, u15, u16, u17, u18, u19, u20, u21, u22, u23, u24, u25, u26, u27, u28, u29, u30, u31, u32, u33, u34] 35)
  have hx0 : Box ((w.alloc (.cells #[.slice aA an ac, .slice cA cn cc, .slice kA kn kc] 26)).alloc (.cells #[.string nm, u1, u2, u3, u4, u5, u6, .int .i64 ty, u8, u9, u10, u11, u12, u13, u14, u15, u16, u17, u18, u19, u20, u21, u22, u23, u24, u25, u26, u27, u28, u29, u30, u31, u32, u33, u34] 35)) w.heap.size [.slice aA an ac, .slice cA cn cc, .slice kA kn kc] := (Box.new w #[.slice aA an ac, .slice cA cn cc, .slice kA kn kc] 26).below ((Below.refl (w.alloc (.cells #[.slice aA an ac, .slice cA cn cc, .slice kA kn kc] 26)).heap.size (w.alloc (.cells #[.slice aA an ac, .slice cA cn cc, .slice kA kn kc] 26))).alloc (Nat.le_refl _) _) (by simp)
  have hy0 : Box ((w.alloc (.cells #[.slice aA an ac, .slice cA cn cc, .slice kA kn kc] 26)).alloc (.cells #[.string nm, u1, u2, u3, u4, u5, u6, .int .i64 ty, u8, u9, u10, u11, u12, u13, u14, u15, u16, u17, u18, u19, u20, u21, u22, u23, u24, u25, u26, u27, u28, u29, u30, u31, u32, u33, u34] 35)) (w.heap.size + 1) [.string nm, u1, u2, u3, u4, u5, u6, .int .i64 ty, u8, u9, u10, u11, u12, u13, u14, u15, u16, u17, u18, u19, u20, u21, u22, u23, u24, u25, u26, u27, u28, u29, u30, u31, u32, u33, u34] := by have := Box.new (w.alloc (.cells #[.slice aA an ac, .slice cA cn cc, .slice kA kn kc] 26)) #[.string nm, u1, u2, u3, u4, u5, u6, .int .i64 ty, u8, u9, u10, u11, u12, u13, u14, u15, u16, u17, u18, u19, u20, u21, u22, u23, u24, u25, u26, u27, u28, u29, u30, u31, u32, u33, u34] 35; rwa [World.size_alloc] at this
  have HX0 := Lib.hid hx0
  have HY0 := Lib.hid hy0
  clear hx0 hy0
  go_enter Try.func4, Try.ntmps4
  go_wp2_with fail
  have hsz0 : ((w.alloc (.cells #[.slice aA an ac, .slice cA cn cc, .slice kA kn kc] 26)).alloc (.cells #[.string nm, u1, u2, u3, u4, u5, u6, .int .i64 ty, u8, u9, u10, u11, u12, u13, u14, u15, u16, u17, u18, u19, u20, u21, u22, u23, u24, u25, u26, u27, u28, u29, u30, u31, u32, u33, u34] 35)).heap.size = w.heap.size + 2 := by simp
  generalize ((w.alloc (.cells #[.slice aA an ac, .slice cA cn cc, .slice kA kn kc] 26)).alloc (.cells #[.string nm, u1, u2, u3, u4, u5, u6, .int .i64 ty, u8, u9, u10, u11, u12, u13, u14, u15, u16, u17, u18, u19, u20, u21, u22, u23, u24, u25, u26, u27, u28, u29, u30, u31, u32, u33, u34] 35)) = w0 at *
  refine (shown_any _).mono ?_
  rintro e w1 ⟨rfl, hb1⟩
  have h1 := hbW.trans (hb1.mono hbW.size)
  have HX1 := Lib.hid (HX0.out.below hb1 (by omega))
  have HY1 := Lib.hid (HY0.out.below hb1 (by omega))
  have hz1 : w.heap.size + 2 ≤ w1.heap.size := by have := hb1.size; omega
  clear hb1 HX0 HY0 hbW hsz0
  have c0 := HX1.out 0 _ rfl
  have c1 := HX1.out 1 _ rfl
  have c2 := HX1.out 2 _ rfl
  go_wp2_with fail
  refine (HS.out _).mono ?_
  rintro e w2 ⟨rfl, hb2⟩
  have h2 := h1.trans (hb2.mono h1.size)
  have HX2 := Lib.hid (HX1.out.below hb2 (by omega))
  have HY2 := Lib.hid (HY1.out.below hb2 (by omega))
  have hz2 : w.heap.size + 2 ≤ w2.heap.size := by have := hb2.size; omega
  clear hb2 HX1 HY1 c0 c1 c2 hz1 h1
  cases sm with
  | false =>
    go_wp2
    go_ret
    exact ⟨rfl, h2⟩
  | true =>
    have han := HSM.out rfl
    have HF := Lib.hid (HF.out han)
    have HD := Lib.hid (HD.out han)
    have c0 := HX2.out 0 _ rfl
    have c1 := HX2.out 1 _ rfl
    have c2 := HX2.out 2 _ rfl
    have d0 := HY2.out 0 _ rfl
    go_wp2_with fail
    refine (HF.out _ h2).mono ?_
    rintro e w3 ⟨tA, tc, rfl, hrow, hb3⟩
    have h3 := h2.trans (hb3.mono h2.size)
    have HX3 := Lib.hid (HX2.out.below hb3 (by omega))
    have HY3 := Lib.hid (HY2.out.below hb3 (by omega))
    have hz3 : w.heap.size + 2 ≤ w3.heap.size := by have := hb3.size; omega
    have HROW := Lib.hid hrow
    clear hb3 hrow HX2 HY2 c0 c1 c2 d0 hz2 h2
    obtain ⟨un, pa, nu, at_, la, co, re, di, sA, sn, sc, sy⟩ := y
    simp only [findE, actV, actC] at HR HROW HW1 ⊢
    have hw4 := h3.alloc h3.size (.cells #[.string un, .int .i64 pa, .int .i64 nu, .int .i64 at_, .int .i64 la, .int .i64 co, .int .i64 re, .int .i64 di, .slice tA sn tc] 38)
    have HX4 := Lib.hid (HX3.out.below ((Below.refl w3.heap.size w3).alloc (Nat.le_refl _) (.cells #[.string un, .int .i64 pa, .int .i64 nu, .int .i64 at_, .int .i64 la, .int .i64 co, .int .i64 re, .int .i64 di, .slice tA sn tc] 38)) (by omega))
    have HY4 := Lib.hid (HY3.out.below ((Below.refl w3.heap.size w3).alloc (Nat.le_refl _) (.cells #[.string un, .int .i64 pa, .int .i64 nu, .int .i64 at_, .int .i64 la, .int .i64 co, .int .i64 re, .int .i64 di, .slice tA sn tc] 38)) (by omega))
    have HA4 := Lib.hid (Box.new w3 #[.string un, .int .i64 pa, .int .i64 nu, .int .i64 at_, .int .i64 la, .int .i64 co, .int .i64 re, .int .i64 di, .slice tA sn tc] 38)
    have HROW4 := Lib.hid (HROW.out.alloc (Nat.le_refl _) (.cells #[.string un, .int .i64 pa, .int .i64 nu, .int .i64 at_, .int .i64 la, .int .i64 co, .int .i64 re, .int .i64 di, .slice tA sn tc] 38))
    have hz4 : (w3.alloc (.cells #[.string un, .int .i64 pa, .int .i64 nu, .int .i64 at_, .int .i64 la, .int .i64 co, .int .i64 re, .int .i64 di, .slice tA sn tc] 38)).heap.size = w3.heap.size + 1 := by simp
    clear HX3 HY3 HROW
    have c0 := HX4.out 0 _ rfl
    have c1 := HX4.out 1 _ rfl
    have c2 := HX4.out 2 _ rfl
    have d0 := HY4.out 0 _ rfl
    go_wp2_with fail
    clear c0 c1 c2 d0
    have HBA : Hid (Below (w3.alloc (.cells #[.string un, .int .i64 pa, .int .i64 nu, .int .i64 at_, .int .i64 la, .int .i64 co, .int .i64 re, .int .i64 di, .slice tA sn tc] 38)).heap.size (w3.alloc (.cells #[.string un, .int .i64 pa, .int .i64 nu, .int .i64 at_, .int .i64 la, .int .i64 co, .int .i64 re, .int .i64 di, .slice tA sn tc] 38)) (w3.alloc (.cells #[.string un, .int .i64 pa, .int .i64 nu, .int .i64 at_, .int .i64 la, .int .i64 co, .int .i64 re, .int .i64 di, .slice tA sn tc] 38))) := Lib.hid (Below.refl _ _)
    obtain ⟨w4, hw4e⟩ : ∃ x, x = w3.alloc (.cells #[.string un, .int .i64 pa, .int .i64 nu, .int .i64 at_, .int .i64 la, .int .i64 co, .int .i64 re, .int .i64 di, .slice tA sn tc] 38) := ⟨_, rfl⟩
    rw [← hw4e] at hw4 HX4 HY4 HA4 HROW4 hz4 ⊢
    clear HBA hw4e h3
    refine (HR.out _ hw4).mono ?_
    rintro e w5 ⟨rfl, hb5⟩
    have h5 := hw4.trans (hb5.mono hw4.size)
    have hz5 : w3.heap.size + 1 ≤ w5.heap.size := by have := hb5.size; omega
    have HX5 := Lib.hid (HX4.out.below hb5 (by omega))
    have HY5 := Lib.hid (HY4.out.below hb5 (by omega))
    have HA5 := Lib.hid (HA4.out.below hb5 (by omega))
    have HROW5 := Lib.hid (HROW4.out.below (hb5.mono (by omega)))
    clear hb5 HX4 HY4 HA4 HROW4 hw4 hz4
    have h6 := h5.alloc h5.size (.cells #[.string un, .int .i64 pa, .int .i64 nu, .int .i64 at_, .int .i64 la, .int .i64 co, .int .i64 re, .int .i64 di, .slice sA sn sc] 38)
    have BB := (Below.refl w5.heap.size w5).alloc (Nat.le_refl _) (.cells #[.string un, .int .i64 pa, .int .i64 nu, .int .i64 at_, .int .i64 la, .int .i64 co, .int .i64 re, .int .i64 di, .slice sA sn sc] 38)
    have HX6 := Lib.hid (HX5.out.below BB (by omega))
    have HY6 := Lib.hid (HY5.out.below BB (by omega))
    have HA6 := Lib.hid (HA5.out.below BB (by omega))
    have HB6 := Lib.hid (Box.new w5 #[.string un, .int .i64 pa, .int .i64 nu, .int .i64 at_, .int .i64 la, .int .i64 co, .int .i64 re, .int .i64 di, .slice sA sn sc] 38)
    have HROW6 := Lib.hid (HROW5.out.below (BB.mono (by omega)))
    have hz6 : w5.heap.size + 1 = (w5.alloc (.cells #[.string un, .int .i64 pa, .int .i64 nu, .int .i64 at_, .int .i64 la, .int .i64 co, .int .i64 re, .int .i64 di, .slice sA sn sc] 38)).heap.size := by simp
    clear BB HX5 HY5 HA5 HROW5
    have c0 := HX6.out 0 _ rfl
    clear c0
    go_wp2_with fail
    generalize (w5.alloc (.cells #[.string un, .int .i64 pa, .int .i64 nu, .int .i64 at_, .int .i64 la, .int .i64 co, .int .i64 re, .int .i64 di, .slice sA sn sc] 38)) = W0 at *
    obtain ⟨zu, zp, zn, zt, zl, zc, zr, zd, zA, zs, zk, zy⟩ := z
    simp only [actV, actC] at HD HE HW2
    try dsimp only at HW1
    try dsimp only at HW2
    try dsimp only at HROW6
    have HSA := Lib.hid (fun W (hW : Below W0.heap.size W0 W) => sameact2_any ⟨un, pa, nu, at_, la, co, re, di, sA, sn, sc, sy⟩ tA tc W0.heap.size W ((HROW6.out.more (by omega)).below hW) ((HW1.out.1.below (h6.trans (hW.mono h6.size))).more h6.size) hW.size HW1.out.2)
    have HSB := Lib.hid (fun (A' : Option Addr) (c' B' : Nat) W (hW : Below W0.heap.size W0 W) (hB' : W0.heap.size ≤ B') (hB2 : B' ≤ W.heap.size) (hr : Rd W B' 2 A' zs (sayCells zy)) => sameact2_any ⟨zu, zp, zn, zt, zl, zc, zr, zd, zA, zs, zk, zy⟩ A' c' B' W hr ((HW2.out.1.below (h6.trans (hW.mono h6.size))).more (Nat.le_trans h6.size hB')) hB2 HW2.out.2)
    have HDD := Lib.hid (fun W (hW : Below W0.heap.size W0 W) => HD.out W (h6.trans (hW.mono h6.size)))
    have HEE := Lib.hid (fun W (hW : Below W0.heap.size W0 W) => HE.out W (h6.trans (hW.mono h6.size)))
    simp only [actV, actC] at HSA HSB
    have k0 : ∀ W, Below W0.heap.size W0 W → W.cell? ⟨w.heap.size, 0, none⟩ = some (.slice aA an ac) := fun W hW => (HX6.out.below hW (by omega)) 0 _ rfl
    have k1 : ∀ W, Below W0.heap.size W0 W → W.cell? ⟨w.heap.size, 1, none⟩ = some (.slice cA cn cc) := fun W hW => (HX6.out.below hW (by omega)) 1 _ rfl
    have k2 : ∀ W, Below W0.heap.size W0 W → W.cell? ⟨w.heap.size, 2, none⟩ = some (.slice kA kn kc) := fun W hW => (HX6.out.below hW (by omega)) 2 _ rfl
    obtain ⟨ua, hua⟩ : ∃ ua : Array Value, ua = #[.string nm, u1, u2, u3, u4, u5, u6, .int .i64 ty, u8, u9, u10, u11, u12, u13, u14, u15, u16, u17, u18, u19, u20, u21, u22, u23, u24, u25, u26, u27, u28, u29, u30, u31, u32, u33, u34] := ⟨_, rfl⟩
    have hus : ua.size = 35 := by rw [hua]; rfl
    have HYU := Lib.hid (fun W (hW : Below W0.heap.size W0 W) => (show Box W (w.heap.size + 1) ua.toList from by rw [hua]; exact HY6.out.below hW (by omega)))
    rw [← hua] at HDD HEE ⊢
    clear hua
    obtain ⟨kU, hkU⟩ : ∃ k : Nat, k = 35 := ⟨35, rfl⟩
    have zU : ∀ w, (Go.sizeOf 35).run Try.prog w = .ok kU w := by intro w; rw [hkU]; exact Try.sizeOf35 w
    have lU : ∀ W, Below W0.heap.size W0 W → Sem.run Try.prog (loadCellsFrom ⟨w.heap.size + 1, 0, none⟩ 0 kU #[]) W = .ok ua W := by intro W hW; have h1 := run_loadCellsFrom_list Try.prog W ⟨w.heap.size + 1, 0, none⟩ ua.toList kU (by rw [hkU]; simpa using hus) (fun j v hv => by rw [Addr.add_mid, Nat.zero_add]; exact HYU.out W hW j v hv); simpa using h1
    clear hkU hus HYU
    have m0 : ∀ W, Below W0.heap.size W0 W → W.cell? ⟨w3.heap.size, 0, none⟩ = some (.string un) := fun W hW => (HA6.out.below hW (by omega)) 0 _ rfl
    have m1 : ∀ W, Below W0.heap.size W0 W → W.cell? ⟨w3.heap.size, 1, none⟩ = some (.int .i64 pa) := fun W hW => (HA6.out.below hW (by omega)) 1 _ rfl
    have m2 : ∀ W, Below W0.heap.size W0 W → W.cell? ⟨w3.heap.size, 2, none⟩ = some (.int .i64 nu) := fun W hW => (HA6.out.below hW (by omega)) 2 _ rfl
    have m3 : ∀ W, Below W0.heap.size W0 W → W.cell? ⟨w3.heap.size, 3, none⟩ = some (.int .i64 at_) := fun W hW => (HA6.out.below hW (by omega)) 3 _ rfl
    have m4 : ∀ W, Below W0.heap.size W0 W → W.cell? ⟨w3.heap.size, 4, none⟩ = some (.int .i64 la) := fun W hW => (HA6.out.below hW (by omega)) 4 _ rfl
    have m5 : ∀ W, Below W0.heap.size W0 W → W.cell? ⟨w3.heap.size, 5, none⟩ = some (.int .i64 co) := fun W hW => (HA6.out.below hW (by omega)) 5 _ rfl
    have m6 : ∀ W, Below W0.heap.size W0 W → W.cell? ⟨w3.heap.size, 6, none⟩ = some (.int .i64 re) := fun W hW => (HA6.out.below hW (by omega)) 6 _ rfl
    have m7 : ∀ W, Below W0.heap.size W0 W → W.cell? ⟨w3.heap.size, 7, none⟩ = some (.int .i64 di) := fun W hW => (HA6.out.below hW (by omega)) 7 _ rfl
    have m8 : ∀ W, Below W0.heap.size W0 W → W.cell? ⟨w3.heap.size, 8, none⟩ = some (.slice tA sn tc) := fun W hW => (HA6.out.below hW (by omega)) 8 _ rfl
    have n0 : ∀ W, Below W0.heap.size W0 W → W.cell? ⟨w5.heap.size, 0, none⟩ = some (.string un) := fun W hW => (HB6.out.below hW (by omega)) 0 _ rfl
    have n1 : ∀ W, Below W0.heap.size W0 W → W.cell? ⟨w5.heap.size, 1, none⟩ = some (.int .i64 pa) := fun W hW => (HB6.out.below hW (by omega)) 1 _ rfl
    have n2 : ∀ W, Below W0.heap.size W0 W → W.cell? ⟨w5.heap.size, 2, none⟩ = some (.int .i64 nu) := fun W hW => (HB6.out.below hW (by omega)) 2 _ rfl
    have n3 : ∀ W, Below W0.heap.size W0 W → W.cell? ⟨w5.heap.size, 3, none⟩ = some (.int .i64 at_) := fun W hW => (HB6.out.below hW (by omega)) 3 _ rfl
    have n4 : ∀ W, Below W0.heap.size W0 W → W.cell? ⟨w5.heap.size, 4, none⟩ = some (.int .i64 la) := fun W hW => (HB6.out.below hW (by omega)) 4 _ rfl
    have n5 : ∀ W, Below W0.heap.size W0 W → W.cell? ⟨w5.heap.size, 5, none⟩ = some (.int .i64 co) := fun W hW => (HB6.out.below hW (by omega)) 5 _ rfl
    have n6 : ∀ W, Below W0.heap.size W0 W → W.cell? ⟨w5.heap.size, 6, none⟩ = some (.int .i64 re) := fun W hW => (HB6.out.below hW (by omega)) 6 _ rfl
    have n7 : ∀ W, Below W0.heap.size W0 W → W.cell? ⟨w5.heap.size, 7, none⟩ = some (.int .i64 di) := fun W hW => (HB6.out.below hW (by omega)) 7 _ rfl
    have n8 : ∀ W, Below W0.heap.size W0 W → W.cell? ⟨w5.heap.size, 8, none⟩ = some (.slice sA sn sc) := fun W hW => (HB6.out.below hW (by omega)) 8 _ rfl
    have hq : Below W0.heap.size W0 W0.drew := (Below.refl _ _).drew
    clear HX6 HY6 HA6 HB6 HROW6 HF HR HD HE HS HW1 HW2
    go_region_held3 (fun W => Below W0.heap.size W0 W) (assumption) (first | (go_at_call_of 15 tA; refine (HSA.out _ (by assumption)).mono ?_; rintro e w6 ⟨rfl, hb6⟩; have q6 := since_more (by assumption) hb6) | (go_at_call 16; refine (HDD.out _ (by assumption)).mono ?_; rintro e w7 ⟨A7, c7, rfl, hr7, hb7⟩; have q7 := since_more (by assumption) hb7; have hs7 := q7.size) | (go_at_call 17; refine (HEE.out _ (by assumption)).mono ?_; rintro e w8 ⟨rfl, hb8⟩; have q8 := since_more (by assumption) hb8; have hr8 := hr7.below hb8; have hs8 := hb8.size) | (go_at_call_of 15 A7; refine (HSB.out A7 c7 w7.heap.size w8 q8 hs7 hs8 hr8).mono ?_; rintro e w9 ⟨rfl, hb9⟩; have q9 := since_more (by assumption) hb9))
    all_goals
      have hfin := h6.trans (q9.mono h6.size)
      go_wp2
      go_ret
      exact ⟨rfl, hfin⟩

end Go.Proofs.Ytkfeicgeobhccaa
