import Derived.Test.YthgelhglfbgagaaGreatDoorPrsL
import Derived.Test.YthgelhglfbgagaaGreatDoorG1
import Derived.Test.YthgelhglfbgagaaGreatDoorG4
import Derived.Test.YthgelhglfbgagaaGreatDoorHeld
import Derived.Test.YthgelhglfbgagaaGreatDoorG5
import Derived.Test.YthgelhglfbgagaaGreatDoorG6
import Derived.Deep.RegionHeld3
namespace Go.Proofs.YthgelhglfbgagaaGreatDoor
open Go Go.RowKit Go.BigFrame

set_option maxRecDepth 100000 in
set_option maxHeartbeats 16000000 in
theorem lawParseBigraph (v0 : Value) (sig : List Ctl) (s : ByteArray) (w : World) (h0 : CtlsM 9223372036854775807 w v0 sig) (hz1 : s.size ≤ maxLen) (hE : Env w) : Calls Tryz.prog 3 #[v0, .string s] w fun e w' => e = .returned (.bool true) ∧ Below w.heap.size w w' := by
  have HEV := Lib.hid hE
  clear hE
  by_cases u0 : s.size ≤ 1048576
  case neg =>
    go_enter Tryz.func3, Tryz.ntmps3
    go_wp2_with fail
    go_ret
    exact ⟨rfl, Below.refl _ _⟩
  by_cases t0 : totC sig ≤ 1048576
  case neg =>
    go_enter Tryz.func3, Tryz.ntmps3
    go_wp2_with fail
    have hb : Below w.heap.size w w := Below.refl _ _
    refine (szControlS_ct _ sig (1048576) _ (-1) (by show _ = _; unfold left; rw [if_pos (by omega)]) (h0.below hb) (by omega) (by omega)).mono ?_
    rintro e w1 ⟨rfl, b⟩
    have hb := bthen hb b
    clear b
    go_wp2_with fail
    go_ret
    exact ⟨rfl, hb⟩
  obtain ⟨R0, ok, hss, hi, hR⟩ : ∃ (R0 : Big) (ok : Bool), (∀ v0 W, CtlsAt W v0 sig → Calls Tryz.prog 6 #[v0, .string s] W (GivesIn R0 ok W)) ∧ (∀ v0 W, CtlsAt W v0 sig → Env W → Calls Tryz.prog 8 #[v0, .string s] W (GivesBig R0 ok W)) ∧ (((cntB R0 : Int) ≤ 100000000)) :=
    ⟨parV sig s, parB sig s, fun v0 W h0 => specParseBigraph_ct v0 sig s W h0 u0, fun v0 W h0 hE => implParseBigraph_ct v0 sig s W h0 u0 hE, parV_len sig s⟩
  have HS : Hid _ := hss
  have HI : Hid _ := hi
  clear hss hi
  have g0A : CtlsAt w v0 sig := h0.small (by omega)
  have c0 := totC_ge sig
  go_enter Tryz.func3, Tryz.ntmps3
  go_wp2_with fail
  have hb : Below w.heap.size w w := Below.refl _ _
  obtain ⟨W0, hW0⟩ : ∃ W, W = w := ⟨_, rfl⟩
  have z0 : w.heap.size ≤ W0.heap.size := by rw [hW0]; exact Nat.le_refl _
  have hb : Below w.heap.size w W0 := by rw [hW0]; exact Below.refl _ _
  rw [← hW0]
  clear hW0
  refine (szControlS_ct _ sig (1048576) _ (1048576 - (totC sig : Int)) (by show _ = _; unfold left; rw [if_neg (by omega)]) (h0.below hb) (by omega) (by omega)).mono ?_
  rintro e w1 ⟨rfl, b⟩
  have z1 : W0.heap.size ≤ w1.heap.size := b.size
  have hb := bthen hb b
  clear b
  go_wp2_with fail
  refine (toControlS_ct _ sig _ (g0A.below hb)).mono ?_
  rintro e w2 ⟨ps0, rfl, ops0, b⟩
  have ops0 := ops0.at
  have z2 : w1.heap.size ≤ w2.heap.size := b.size
  have hb := bthen hb b
  clear b
  go_wp2_with fail
  refine (HS.out _ _ ops0).mono ?_
  rintro e w3 ⟨up0, bsp0, rfl, p0, ndp0, b⟩
  have rp0 := p0.at
  obtain ⟨p0_1, p0_5, p0_2, p0_6, p0_3, p0_7, p0_4, p0_8, rfl⟩ := rp0.shape
  have z3 : w2.heap.size ≤ w3.heap.size := b.size
  have ops0 := ops0.below b
  have hb := bthen hb b
  clear b
  go_wp2_with fail
  clear ops0
  clear p0 ndp0
  obtain ⟨Yp0, hYp0⟩ : ∃ W, W = w3.alloc (.cells #[.int .i64 R0.roots, .slice p0_1 R0.nodes.length p0_5, .slice p0_2 R0.sites.length p0_6, .int .i64 R0.edges, .slice p0_3 R0.outer.length p0_7, .slice p0_4 R0.inner.length p0_8] 29) := ⟨_, rfl⟩
  rw [← hYp0]
  have b : Below w3.heap.size w3 Yp0 := by rw [hYp0]; exact balloc _ _
  have P0 : Box Yp0 w3.heap.size #[.int .i64 R0.roots, .slice p0_1 R0.nodes.length p0_5, .slice p0_2 R0.sites.length p0_6, .int .i64 R0.edges, .slice p0_3 R0.outer.length p0_7, .slice p0_4 R0.inner.length p0_8] 29 := by rw [hYp0]; exact Box.new _ _ _
  have ltp0 : w3.heap.size < Yp0.heap.size := P0.lt
  have z4 : w3.heap.size ≤ Yp0.heap.size := b.size
  have rp0 := rp0.below b
  have hb := bthen hb b
  clear b
  clear hYp0
  obtain ⟨W1, hW1⟩ : ∃ W, W = Yp0 := ⟨_, rfl⟩
  have k1 : Below W1.heap.size W1 Yp0 := by rw [hW1]; exact Below.refl _ _
  rw [← hW1] at rp0
  have y1 : W1.heap.size ≤ Yp0.heap.size := by rw [hW1]; exact Nat.le_refl _
  have y2 : Yp0.heap.size ≤ W1.heap.size := by rw [hW1]; exact Nat.le_refl _
  clear hW1
  have qP0 := P0.cell
  go_wp2_with fail
  clear qP0
  refine (toControlS_ct _ sig _ (g0A.below hb)).mono ?_
  rintro e w4 ⟨ux0, rfl, x0, b⟩
  obtain ⟨xa0, xc0, rfl⟩ := x0.shp
  have hx0 := x0.lt
  have z5 : Yp0.heap.size ≤ w4.heap.size := b.size
  have P0 := P0.below b
  have k1 := bthen k1 b
  have hb := bthen hb b
  clear b
  have qP0 := P0.cell
  go_wp2_with fail
  clear qP0
  refine (HI.out _ _ x0.at (HEV.out.below hb)).mono ?_
  rintro e w5 ⟨ug0, bsg0, rfl, g0, ndg0, b⟩
  obtain ⟨g0_1, g0_5, g0_2, g0_6, g0_3, g0_7, g0_4, g0_8, rfl⟩ := g0.at.shape
  have hg0 := g0.lt
  have z6 : w4.heap.size ≤ w5.heap.size := b.size
  have P0 := P0.below b
  have x0 := x0.keep (keep_below b (fun p hp => (x0.lt p hp).2))
  have k1 := bthen k1 b
  have hb := bthen hb b
  clear b
  have qa1P0 := (P0.alloc (.cells #[.int .i64 R0.roots, .slice g0_1 R0.nodes.length g0_5, .slice g0_2 R0.sites.length g0_6, .int .i64 R0.edges, .slice g0_3 R0.outer.length g0_7, .slice g0_4 R0.inner.length g0_8] 29)).cell
  have qP0 := P0.cell
  go_wp2_with fail
  clear qP0
  clear qa1P0
  obtain ⟨G0W, hG0W⟩ : ∃ W, W = w5.alloc (.cells #[.int .i64 R0.roots, .slice g0_1 R0.nodes.length g0_5, .slice g0_2 R0.sites.length g0_6, .int .i64 R0.edges, .slice g0_3 R0.outer.length g0_7, .slice g0_4 R0.inner.length g0_8] 29) := ⟨_, rfl⟩
  rw [← hG0W]
  have b : Below w5.heap.size w5 G0W := by rw [hG0W]; exact balloc _ _
  have G0 : Box G0W w5.heap.size #[.int .i64 R0.roots, .slice g0_1 R0.nodes.length g0_5, .slice g0_2 R0.sites.length g0_6, .int .i64 R0.edges, .slice g0_3 R0.outer.length g0_7, .slice g0_4 R0.inner.length g0_8] 29 := by rw [hG0W]; exact Box.new _ _ _
  have yg0 : w5.heap.size + 1 ≤ G0W.heap.size := G0.lt
  have z7 : w5.heap.size ≤ G0W.heap.size := b.size
  have P0 := P0.below b
  have x0 := x0.keep (keep_below b (fun p hp => (x0.lt p hp).2))
  have g0 := g0.keep (keep_below b (fun p hp => (g0.lt p hp).2))
  have k1 := bthen k1 b
  have hb := bthen hb b
  clear b
  clear hG0W
  refine (eqBigraph_ct _ _ R0 _ g0.at (rp0.below k1)).mono ?_
  rintro e w6 ⟨rfl, b⟩
  have z8 : G0W.heap.size ≤ w6.heap.size := b.size
  have P0 := P0.below b
  have G0 := G0.below b
  have x0 := x0.keep (keep_below b (fun p hp => (x0.lt p hp).2))
  have g0 := g0.keep (keep_below b (fun p hp => (g0.lt p hp).2))
  have k1 := bthen k1 b
  have hb := bthen hb b
  clear b
  have qP0 := P0.cell
  have qG0 := G0.cell
  go_wp2_with fail
  clear qP0 qG0
  refine (toControlS_ct _ sig _ (g0A.below hb)).mono ?_
  rintro e w7 ⟨y0, rfl, oy0, b⟩
  have oy0 := oy0.at
  have z9 : w6.heap.size ≤ w7.heap.size := b.size
  have P0 := P0.below b
  have G0 := G0.below b
  have x0 := x0.keep (keep_below b (fun p hp => (x0.lt p hp).2))
  have g0 := g0.keep (keep_below b (fun p hp => (g0.lt p hp).2))
  have k1 := bthen k1 b
  have hb := bthen hb b
  clear b
  have qP0 := P0.cell
  have qG0 := G0.cell
  go_wp2_with fail
  clear qP0 qG0
  refine (eqControlS_ct _ _ sig _ x0.at oy0).mono ?_
  rintro e w8 ⟨rfl, b⟩
  have z10 : w7.heap.size ≤ w8.heap.size := b.size
  have P0 := P0.below b
  have G0 := G0.below b
  have x0 := x0.keep (keep_below b (fun p hp => (x0.lt p hp).2))
  have g0 := g0.keep (keep_below b (fun p hp => (g0.lt p hp).2))
  have k1 := bthen k1 b
  have hb := bthen hb b
  clear b
  clear oy0
  have qP0 := P0.cell
  have qG0 := G0.cell
  go_wp2_with fail
  clear qP0 qG0
  refine (markControlS_ct _ sig (1) _ _ x0 (by omega) (by omega)).mono ?_
  rintro e w9 ⟨rfl, _, o⟩
  have z11 : w8.heap.size ≤ w9.heap.size := o.size
  have P0 := P0.keep (o.block _ P0.lt (fun h => by have := hx0 _ h; omega))
  have G0 := G0.keep (o.block _ G0.lt (fun h => by have := hx0 _ h; omega))
  have g0 := g0.keep (fun p hp => o.block p (g0.lt p hp).2 (fun h => by have := hx0 _ h; have := hg0 _ hp; omega))
  have hb := hb.trans (o.below (fun p hp => by have := hx0 p hp; omega) (by omega))
  have k1 := k1.trans (o.below (fun p hp => by have := hx0 p hp; omega) (by omega))
  clear o
  clear x0
  have qP0 := P0.cell
  have qG0 := G0.cell
  go_wp2_with fail
  clear qP0 qG0
  refine (eqBigraph_ct _ _ R0 _ g0.at (rp0.below k1)).mono ?_
  rintro e w10 ⟨rfl, b⟩
  have z12 : w9.heap.size ≤ w10.heap.size := b.size
  have P0 := P0.below b
  have G0 := G0.below b
  have g0 := g0.keep (keep_below b (fun p hp => (g0.lt p hp).2))
  have k1 := bthen k1 b
  have hb := bthen hb b
  clear b
  have qP0 := P0.cell
  have qG0 := G0.cell
  go_wp2_with fail
  clear qP0 qG0
  refine (markBigraph_ct _ R0 bsg0 (1) _ _ g0 ndg0 (by omega) (by omega)).mono ?_
  rintro e w11 ⟨rfl, m0, o⟩
  have z13 : w10.heap.size ≤ w11.heap.size := o.size
  have P0 := P0.keep (o.block _ P0.lt (fun h => by have := hg0 _ h; omega))
  have G0 := G0.keep (o.block _ G0.lt (fun h => by have := hg0 _ h; omega))
  have hb := hb.trans (o.below (fun p hp => by have := hg0 p hp; omega) (by omega))
  have k1 := k1.trans (o.below (fun p hp => by have := hg0 p hp; omega) (by omega))
  clear o
  have hm0 := hg0
  clear g0
  have qP0 := P0.cell
  have qG0 := G0.cell
  go_wp2_with fail
  clear qP0 qG0
  refine (heldBigraph_ct _ R0 (1) _ m0.at (by omega) (by omega)).mono ?_
  rintro e w12 ⟨rfl, b⟩
  have z14 : w11.heap.size ≤ w12.heap.size := b.size
  have P0 := P0.below b
  have G0 := G0.below b
  have m0 := m0.keep (keep_below b (fun p hp => (m0.lt p hp).2))
  have k1 := bthen k1 b
  have hb := bthen hb b
  clear b
  have qP0 := P0.cell
  have qG0 := G0.cell
  go_wp2_with fail
  clear qP0 qG0
  refine (toControlS_ct _ sig _ (g0A.below hb)).mono ?_
  rintro e w13 ⟨fs0, rfl, ofs0, b⟩
  have ofs0 := ofs0.at
  have z15 : w12.heap.size ≤ w13.heap.size := b.size
  have P0 := P0.below b
  have G0 := G0.below b
  have m0 := m0.keep (keep_below b (fun p hp => (m0.lt p hp).2))
  have k1 := bthen k1 b
  have hb := bthen hb b
  clear b
  have qP0 := P0.cell
  have qG0 := G0.cell
  go_wp2_with fail
  clear qP0 qG0
  refine (HI.out _ _ ofs0 (HEV.out.below hb)).mono ?_
  rintro e w14 ⟨uf0, bsf0, rfl, f0, ndf0, b⟩
  have rf0 := f0.at
  obtain ⟨f0_1, f0_5, f0_2, f0_6, f0_3, f0_7, f0_4, f0_8, rfl⟩ := rf0.shape
  have z16 : w13.heap.size ≤ w14.heap.size := b.size
  have P0 := P0.below b
  have G0 := G0.below b
  have ofs0 := ofs0.below b
  have m0 := m0.keep (keep_below b (fun p hp => (m0.lt p hp).2))
  have k1 := bthen k1 b
  have hb := bthen hb b
  clear b
  have qb1P0 := (P0.alloc (.cells #[.int .i64 R0.roots, .slice f0_1 R0.nodes.length f0_5, .slice f0_2 R0.sites.length f0_6, .int .i64 R0.edges, .slice f0_3 R0.outer.length f0_7, .slice f0_4 R0.inner.length f0_8] 29)).cell
  have qb1G0 := (G0.alloc (.cells #[.int .i64 R0.roots, .slice f0_1 R0.nodes.length f0_5, .slice f0_2 R0.sites.length f0_6, .int .i64 R0.edges, .slice f0_3 R0.outer.length f0_7, .slice f0_4 R0.inner.length f0_8] 29)).cell
  have qP0 := P0.cell
  have qG0 := G0.cell
  go_wp2_with fail
  clear qP0 qG0
  clear qb1P0 qb1G0
  clear ofs0
  clear f0 ndf0
  obtain ⟨Yf0, hYf0⟩ : ∃ W, W = w14.alloc (.cells #[.int .i64 R0.roots, .slice f0_1 R0.nodes.length f0_5, .slice f0_2 R0.sites.length f0_6, .int .i64 R0.edges, .slice f0_3 R0.outer.length f0_7, .slice f0_4 R0.inner.length f0_8] 29) := ⟨_, rfl⟩
  rw [← hYf0]
  have b : Below w14.heap.size w14 Yf0 := by rw [hYf0]; exact balloc _ _
  have F0 : Box Yf0 w14.heap.size #[.int .i64 R0.roots, .slice f0_1 R0.nodes.length f0_5, .slice f0_2 R0.sites.length f0_6, .int .i64 R0.edges, .slice f0_3 R0.outer.length f0_7, .slice f0_4 R0.inner.length f0_8] 29 := by rw [hYf0]; exact Box.new _ _ _
  have ltf0 : w14.heap.size < Yf0.heap.size := F0.lt
  have z17 : w14.heap.size ≤ Yf0.heap.size := b.size
  have P0 := P0.below b
  have G0 := G0.below b
  have rf0 := rf0.below b
  have m0 := m0.keep (keep_below b (fun p hp => (m0.lt p hp).2))
  have k1 := bthen k1 b
  have hb := bthen hb b
  clear b
  clear hYf0
  refine (eqBigraph_ct _ _ R0 _ rf0 (rp0.below k1)).mono ?_
  rintro e w15 ⟨rfl, b⟩
  have z18 : Yf0.heap.size ≤ w15.heap.size := b.size
  have P0 := P0.below b
  have G0 := G0.below b
  have F0 := F0.below b
  have rf0 := rf0.below b
  have m0 := m0.keep (keep_below b (fun p hp => (m0.lt p hp).2))
  have k1 := bthen k1 b
  have hb := bthen hb b
  clear b
  have qP0 := P0.cell
  have qG0 := G0.cell
  have qF0 := F0.cell
  go_wp2_with fail
  clear qP0 qG0 qF0
  refine (heldBigraph_ct _ R0 (1) _ m0.at (by omega) (by omega)).mono ?_
  rintro e w16 ⟨rfl, b⟩
  have z19 : w15.heap.size ≤ w16.heap.size := b.size
  have P0 := P0.below b
  have G0 := G0.below b
  have F0 := F0.below b
  have m0 := m0.keep (keep_below b (fun p hp => (m0.lt p hp).2))
  have k1 := bthen k1 b
  have hb := bthen hb b
  clear b
  have qP0 := P0.cell
  have qG0 := G0.cell
  have qF0 := F0.cell
  go_wp2_with fail
  go_ret
  exact ⟨rfl, hb⟩
end Go.Proofs.YthgelhglfbgagaaGreatDoor
