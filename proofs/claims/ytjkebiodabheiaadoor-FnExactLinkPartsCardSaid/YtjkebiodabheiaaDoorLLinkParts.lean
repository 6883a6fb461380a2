import Derived.Test.YtjkebiodabheiaaDoorPartL
import Derived.Test.YtjkebiodabheiaaDoorLaw1
import Derived.Test.YtjkebiodabheiaaDoorHeld
import Derived.Test.YtjkebiodabheiaaDoorSz
import Derived.Test.YtjkebiodabheiaaDoorToB
import Derived.Test.YtjkebiodabheiaaDoorEq
import Derived.Deep.RegionHeld3
namespace Go.Proofs.YtjkebiodabheiaaDoor
open Go Go.RowKit Go.BigFrame

set_option maxRecDepth 100000 in
set_option maxHeartbeats 16000000 in
theorem lawLinkParts (v0 : Value) (sig : List Ctl) (v1 : Value) (bg : Big) (w : World) (h0 : CtlsM 9223372036854775807 w v0 sig) (h1 : BigM 9223372036854775807 w v1 bg) : Calls Tryd.prog 6 #[v0, v1] w fun e w' => e = .returned (.bool true) ∧ Below w.heap.size w w' := by
  obtain ⟨p1_1, p1_5, p1_2, p1_6, p1_3, p1_7, p1_4, p1_8, rfl⟩ := h1.mshape
  by_cases t0 : totC sig ≤ 1048576
  case neg =>
    go_enter Tryd.func6, Tryd.ntmps6
    go_wp2_with fail
    obtain ⟨W0, hW0⟩ : ∃ W, W = w.alloc (.cells #[.int .i64 bg.roots, .slice p1_1 bg.nodes.length p1_5, .slice p1_2 bg.sites.length p1_6, .int .i64 bg.edges, .slice p1_3 bg.outer.length p1_7, .slice p1_4 bg.inner.length p1_8] 34) := ⟨_, rfl⟩
    rw [← hW0]
    have hb : Below w.heap.size w W0 := by rw [hW0]; exact balloc _ _
    have B1 : Box W0 w.heap.size #[.int .i64 bg.roots, .slice p1_1 bg.nodes.length p1_5, .slice p1_2 bg.sites.length p1_6, .int .i64 bg.edges, .slice p1_3 bg.outer.length p1_7, .slice p1_4 bg.inner.length p1_8] 34 := by rw [hW0]; exact Box.new _ _ _
    clear hW0
    refine (szControlS_ct _ sig (1048576) _ (-1) (by show _ = _; unfold left; rw [if_pos (by omega)]) (h0.below hb) (by omega) (by omega)).mono ?_
    rintro e w1 ⟨rfl, b⟩
    have B1 := B1.below b
    have hb := bthen hb b
    clear b
    have qB1 := B1.cell
    go_wp2_with fail
    go_ret
    exact ⟨rfl, hb⟩
  by_cases t1 : totC sig + totB bg ≤ 1048576
  case neg =>
    go_enter Tryd.func6, Tryd.ntmps6
    go_wp2_with fail
    obtain ⟨W0, hW0⟩ : ∃ W, W = w.alloc (.cells #[.int .i64 bg.roots, .slice p1_1 bg.nodes.length p1_5, .slice p1_2 bg.sites.length p1_6, .int .i64 bg.edges, .slice p1_3 bg.outer.length p1_7, .slice p1_4 bg.inner.length p1_8] 34) := ⟨_, rfl⟩
    rw [← hW0]
    have hb : Below w.heap.size w W0 := by rw [hW0]; exact balloc _ _
    have B1 : Box W0 w.heap.size #[.int .i64 bg.roots, .slice p1_1 bg.nodes.length p1_5, .slice p1_2 bg.sites.length p1_6, .int .i64 bg.edges, .slice p1_3 bg.outer.length p1_7, .slice p1_4 bg.inner.length p1_8] 34 := by rw [hW0]; exact Box.new _ _ _
    clear hW0
    refine (szControlS_ct _ sig (1048576) _ (1048576 - (totC sig : Int)) (by show _ = _; unfold left; rw [if_neg (by omega)]) (h0.below hb) (by omega) (by omega)).mono ?_
    rintro e w1 ⟨rfl, b⟩
    have B1 := B1.below b
    have hb := bthen hb b
    clear b
    have qB1 := B1.cell
    go_wp2_with fail
    clear qB1
    refine (szBigraph_ct _ bg (1048576 - (totC sig : Int)) _ (-1) (by show _ = _; unfold left; rw [if_pos (by omega)]) (h1.below hb) (by omega) (by omega)).mono ?_
    rintro e w2 ⟨rfl, b⟩
    have B1 := B1.below b
    have hb := bthen hb b
    clear b
    have qB1 := B1.cell
    go_wp2_with fail
    go_ret
    exact ⟨rfl, hb⟩
  obtain ⟨R0, ok, hss, hi, hR⟩ : ∃ (R0 : List Int) (ok : Bool), (∀ v0 v1 W, CtlsAt W v0 sig → BigAt W v1 bg → Calls Tryd.prog 22 #[v0, v1] W (GivesInts R0 ok W)) ∧ (∀ v0 v1 W, CtlsAt W v0 sig → BigAt W v1 bg → Calls Tryd.prog 23 #[v0, v1] W (GivesInts R0 ok W)) ∧ (((R0.length : Int) ≤ 100000000)) :=
    ⟨partR sig bg, goodB sig bg, fun v0 v1 W h0 h1 => specLinkParts_ct v0 v1 sig bg W ⟨h0, h1⟩, fun v0 v1 W h0 h1 => implLinkParts_ct v0 v1 sig bg W ⟨h0, h1⟩, partR_len sig bg⟩
  have HS : Hid _ := hss
  have HI : Hid _ := hi
  clear hss hi
  have g0A : CtlsAt w v0 sig := h0.small (by omega)
  have c0 := totC_ge sig
  have g1A : BigAt w (.agg #[.int .i64 bg.roots, .slice p1_1 bg.nodes.length p1_5, .slice p1_2 bg.sites.length p1_6, .int .i64 bg.edges, .slice p1_3 bg.outer.length p1_7, .slice p1_4 bg.inner.length p1_8]) bg := h1.small (by omega)
  have c1 := cntB_le bg
  go_enter Tryd.func6, Tryd.ntmps6
  go_wp2_with fail
  obtain ⟨W0, hW0⟩ : ∃ W, W = w.alloc (.cells #[.int .i64 bg.roots, .slice p1_1 bg.nodes.length p1_5, .slice p1_2 bg.sites.length p1_6, .int .i64 bg.edges, .slice p1_3 bg.outer.length p1_7, .slice p1_4 bg.inner.length p1_8] 34) := ⟨_, rfl⟩
  rw [← hW0]
  have hb : Below w.heap.size w W0 := by rw [hW0]; exact balloc _ _
  have B1 : Box W0 w.heap.size #[.int .i64 bg.roots, .slice p1_1 bg.nodes.length p1_5, .slice p1_2 bg.sites.length p1_6, .int .i64 bg.edges, .slice p1_3 bg.outer.length p1_7, .slice p1_4 bg.inner.length p1_8] 34 := by rw [hW0]; exact Box.new _ _ _
  clear hW0
  have z0 : w.heap.size + 1 ≤ W0.heap.size := by have := B1.lt; omega
  refine (szControlS_ct _ sig (1048576) _ (1048576 - (totC sig : Int)) (by show _ = _; unfold left; rw [if_neg (by omega)]) (h0.below hb) (by omega) (by omega)).mono ?_
  rintro e w1 ⟨rfl, b⟩
  have z1 : W0.heap.size ≤ w1.heap.size := b.size
  have B1 := B1.below b
  have hb := bthen hb b
  clear b
  have qB1 := B1.cell
  go_wp2_with fail
  clear qB1
  refine (szBigraph_ct _ bg (1048576 - (totC sig : Int)) _ (1048576 - (totC sig : Int) - (totB bg : Int)) (by show _ = _; unfold left; rw [if_neg (by omega)]) (h1.below hb) (by omega) (by omega)).mono ?_
  rintro e w2 ⟨rfl, b⟩
  have z2 : w1.heap.size ≤ w2.heap.size := b.size
  have B1 := B1.below b
  have hb := bthen hb b
  clear b
  have qB1 := B1.cell
  go_wp2_with fail
  clear qB1
  have b := bdrew (Below.refl w2.heap.size w2)
  have B1 := B1.below b
  have hb := bthen hb b
  clear b
  have z3 : w2.heap.size ≤ w2.drew.heap.size := Nat.le_refl _
  go_region_held3 (fun w' => w'.cell? ⟨w.heap.size, 0, none⟩ = some (.int .i64 bg.roots) ∧ w'.cell? ⟨w.heap.size, 1, none⟩ = some (.slice p1_1 bg.nodes.length p1_5) ∧ w'.cell? ⟨w.heap.size, 2, none⟩ = some (.slice p1_2 bg.sites.length p1_6) ∧ w'.cell? ⟨w.heap.size, 3, none⟩ = some (.int .i64 bg.edges) ∧ w'.cell? ⟨w.heap.size, 4, none⟩ = some (.slice p1_3 bg.outer.length p1_7) ∧ w'.cell? ⟨w.heap.size, 5, none⟩ = some (.slice p1_4 bg.inner.length p1_8)) (first | exact ⟨B1.cell 0, B1.cell 1, B1.cell 2, B1.cell 3, B1.cell 4, B1.cell 5⟩) (first | (go_at_call 17; (with_reducible refine (toControlS_ct _ sig _ (g0A.below hb)).mono ?_); rintro e w3 ⟨ps0, rfl, ops0, b⟩; have ops0 := ops0.at; have z4 : w2.drew.heap.size ≤ w3.heap.size := b.size; have B1 := B1.below b; have hb := bthen hb b; clear b) | (go_at_call 18; (with_reducible refine (toBigraph_ct _ bg _ (g1A.below hb)).mono ?_); rintro e w4 ⟨ps1, bsps1, rfl, ops1, _, b⟩; have ops1 := ops1.at; have z5 : w3.heap.size ≤ w4.heap.size := b.size; have B1 := B1.below b; have ops0 := ops0.below b; have hb := bthen hb b; clear b) | (go_at_call 22; (with_reducible refine (HS.out _ _ _ ops0 ops1).mono ?_); rintro e w5 ⟨up0, rfl, p0, b⟩; have rp0 := p0.at; obtain ⟨pa0, pc0, rfl⟩ := p0.shp; have z6 : w4.heap.size ≤ w5.heap.size := b.size; have B1 := B1.below b; have ops0 := ops0.below b; have ops1 := ops1.below b; have hb := bthen hb b; clear b))
  clear ops0 ops1
  clear p0
  obtain ⟨W1, hW1⟩ : ∃ W, W = w5 := ⟨_, rfl⟩
  have k1 : Below W1.heap.size W1 w5 := by rw [hW1]; exact Below.refl _ _
  rw [← hW1] at rp0
  have y1 : W1.heap.size ≤ w5.heap.size := by rw [hW1]; exact Nat.le_refl _
  have y2 : w5.heap.size ≤ W1.heap.size := by rw [hW1]; exact Nat.le_refl _
  clear hW1
  have qB1 := B1.cell
  go_wp2_with fail
  clear qB1
  refine (toControlS_ct _ sig _ (g0A.below hb)).mono ?_
  rintro e w6 ⟨ux0, rfl, x0, b⟩
  obtain ⟨xa0, xc0, rfl⟩ := x0.shp
  have hx0 := x0.lt
  have z7 : w5.heap.size ≤ w6.heap.size := b.size
  have B1 := B1.below b
  have k1 := bthen k1 b
  have hb := bthen hb b
  clear b
  have qB1 := B1.cell
  go_wp2_with fail
  clear qB1
  refine (toBigraph_ct _ bg _ (g1A.below hb)).mono ?_
  rintro e w7 ⟨ux1, bsx1, rfl, x1, ndx1, b⟩
  obtain ⟨d1_1, d1_5, d1_2, d1_6, d1_3, d1_7, d1_4, d1_8, rfl⟩ := x1.at.shape
  have hx1 := x1.lt
  have z8 : w6.heap.size ≤ w7.heap.size := b.size
  have B1 := B1.below b
  have x0 := x0.keep (keep_below b (fun p hp => (x0.lt p hp).2))
  have k1 := bthen k1 b
  have hb := bthen hb b
  clear b
  have qB1 := B1.cell
  go_wp2_with fail
  clear qB1
  obtain ⟨X1, hX1⟩ : ∃ W, W = w7.alloc (.cells #[.int .i64 bg.roots, .slice d1_1 bg.nodes.length d1_5, .slice d1_2 bg.sites.length d1_6, .int .i64 bg.edges, .slice d1_3 bg.outer.length d1_7, .slice d1_4 bg.inner.length d1_8] 43) := ⟨_, rfl⟩
  rw [← hX1]
  have b : Below w7.heap.size w7 X1 := by rw [hX1]; exact balloc _ _
  have C1 : Box X1 w7.heap.size #[.int .i64 bg.roots, .slice d1_1 bg.nodes.length d1_5, .slice d1_2 bg.sites.length d1_6, .int .i64 bg.edges, .slice d1_3 bg.outer.length d1_7, .slice d1_4 bg.inner.length d1_8] 43 := by rw [hX1]; exact Box.new _ _ _
  have y13 : w7.heap.size + 1 ≤ X1.heap.size := C1.lt
  have z9 : w7.heap.size ≤ X1.heap.size := b.size
  have B1 := B1.below b
  have x0 := x0.keep (keep_below b (fun p hp => (x0.lt p hp).2))
  have x1 := x1.keep (keep_below b (fun p hp => (x1.lt p hp).2))
  have k1 := bthen k1 b
  have hb := bthen hb b
  clear b
  clear hX1
  refine (HI.out _ _ _ x0.at x1.at).mono ?_
  rintro e w8 ⟨ug0, rfl, g0, b⟩
  obtain ⟨ga0, gc0, rfl⟩ := g0.shp
  have hg0 := g0.lt
  have z10 : X1.heap.size ≤ w8.heap.size := b.size
  have B1 := B1.below b
  have C1 := C1.below b
  have x0 := x0.keep (keep_below b (fun p hp => (x0.lt p hp).2))
  have x1 := x1.keep (keep_below b (fun p hp => (x1.lt p hp).2))
  have k1 := bthen k1 b
  have hb := bthen hb b
  clear b
  have qB1 := B1.cell
  have qC1 := C1.cell
  go_wp2_with fail
  clear qB1 qC1
  refine (eqIntS_ct _ _ R0 _ g0.at (rp0.below k1)).mono ?_
  rintro e w9 ⟨rfl, b⟩
  have z11 : w8.heap.size ≤ w9.heap.size := b.size
  have B1 := B1.below b
  have C1 := C1.below b
  have x0 := x0.keep (keep_below b (fun p hp => (x0.lt p hp).2))
  have x1 := x1.keep (keep_below b (fun p hp => (x1.lt p hp).2))
  have g0 := g0.keep (keep_below b (fun p hp => (g0.lt p hp).2))
  have k1 := bthen k1 b
  have hb := bthen hb b
  clear b
  have qB1 := B1.cell
  have qC1 := C1.cell
  go_wp2_with fail
  clear qB1 qC1
  refine (toControlS_ct _ sig _ (g0A.below hb)).mono ?_
  rintro e w10 ⟨y0, rfl, oy0, b⟩
  have oy0 := oy0.at
  have z12 : w9.heap.size ≤ w10.heap.size := b.size
  have B1 := B1.below b
  have C1 := C1.below b
  have x0 := x0.keep (keep_below b (fun p hp => (x0.lt p hp).2))
  have x1 := x1.keep (keep_below b (fun p hp => (x1.lt p hp).2))
  have g0 := g0.keep (keep_below b (fun p hp => (g0.lt p hp).2))
  have k1 := bthen k1 b
  have hb := bthen hb b
  clear b
  have qB1 := B1.cell
  have qC1 := C1.cell
  go_wp2_with fail
  clear qB1 qC1
  refine (eqControlS_ct _ _ sig _ x0.at oy0).mono ?_
  rintro e w11 ⟨rfl, b⟩
  have z13 : w10.heap.size ≤ w11.heap.size := b.size
  have B1 := B1.below b
  have C1 := C1.below b
  have x0 := x0.keep (keep_below b (fun p hp => (x0.lt p hp).2))
  have x1 := x1.keep (keep_below b (fun p hp => (x1.lt p hp).2))
  have g0 := g0.keep (keep_below b (fun p hp => (g0.lt p hp).2))
  have k1 := bthen k1 b
  have hb := bthen hb b
  clear b
  clear oy0
  have qB1 := B1.cell
  have qC1 := C1.cell
  go_wp2_with fail
  clear qB1 qC1
  have b := bdrew (Below.refl w11.heap.size w11)
  have B1 := B1.below b
  have C1 := C1.below b
  have x0 := x0.keep (keep_below b (fun p hp => (x0.lt p hp).2))
  have x1 := x1.keep (keep_below b (fun p hp => (x1.lt p hp).2))
  have g0 := g0.keep (keep_below b (fun p hp => (g0.lt p hp).2))
  have k1 := bthen k1 b
  have hb := bthen hb b
  clear b
  have z14 : w11.heap.size ≤ w11.drew.heap.size := Nat.le_refl _
  go_region_held3 (fun w' => w'.cell? ⟨w7.heap.size, 0, none⟩ = some (.int .i64 bg.roots) ∧ w'.cell? ⟨w7.heap.size, 1, none⟩ = some (.slice d1_1 bg.nodes.length d1_5) ∧ w'.cell? ⟨w7.heap.size, 2, none⟩ = some (.slice d1_2 bg.sites.length d1_6) ∧ w'.cell? ⟨w7.heap.size, 3, none⟩ = some (.int .i64 bg.edges) ∧ w'.cell? ⟨w7.heap.size, 4, none⟩ = some (.slice d1_3 bg.outer.length d1_7) ∧ w'.cell? ⟨w7.heap.size, 5, none⟩ = some (.slice d1_4 bg.inner.length d1_8) ∧ w'.cell? ⟨w.heap.size, 0, none⟩ = some (.int .i64 bg.roots) ∧ w'.cell? ⟨w.heap.size, 1, none⟩ = some (.slice p1_1 bg.nodes.length p1_5) ∧ w'.cell? ⟨w.heap.size, 2, none⟩ = some (.slice p1_2 bg.sites.length p1_6) ∧ w'.cell? ⟨w.heap.size, 3, none⟩ = some (.int .i64 bg.edges) ∧ w'.cell? ⟨w.heap.size, 4, none⟩ = some (.slice p1_3 bg.outer.length p1_7) ∧ w'.cell? ⟨w.heap.size, 5, none⟩ = some (.slice p1_4 bg.inner.length p1_8)) (first | exact ⟨C1.cell 0, C1.cell 1, C1.cell 2, C1.cell 3, C1.cell 4, C1.cell 5, B1.cell 0, B1.cell 1, B1.cell 2, B1.cell 3, B1.cell 4, B1.cell 5⟩) (first | (go_at_call 18; (with_reducible refine (toBigraph_ct _ bg _ (g1A.below hb)).mono ?_); rintro e w12 ⟨y1, bsy1, rfl, oy1, _, b⟩; have oy1 := oy1.at; have z15 : w11.drew.heap.size ≤ w12.heap.size := b.size; have B1 := B1.below b; have C1 := C1.below b; have x0 := x0.keep (keep_below b (fun p hp => (x0.lt p hp).2)); have x1 := x1.keep (keep_below b (fun p hp => (x1.lt p hp).2)); have g0 := g0.keep (keep_below b (fun p hp => (g0.lt p hp).2)); have k1 := bthen k1 b; have hb := bthen hb b; clear b) | (go_at_call 21; (with_reducible refine (eqBigraph_ct _ _ bg _ x1.at oy1).mono ?_); rintro e w13 ⟨rfl, b⟩; have z16 : w12.heap.size ≤ w13.heap.size := b.size; have B1 := B1.below b; have C1 := C1.below b; have x0 := x0.keep (keep_below b (fun p hp => (x0.lt p hp).2)); have x1 := x1.keep (keep_below b (fun p hp => (x1.lt p hp).2)); have g0 := g0.keep (keep_below b (fun p hp => (g0.lt p hp).2)); have k1 := bthen k1 b; have hb := bthen hb b; clear b))
  clear oy1
  have qB1 := B1.cell
  have qC1 := C1.cell
  go_wp2_with fail
  clear qB1 qC1
  refine (markControlS_ct _ sig (1) _ _ x0 (by omega) (by omega)).mono ?_
  rintro e w14 ⟨rfl, _, o⟩
  have z17 : w13.heap.size ≤ w14.heap.size := o.size
  have B1 := B1.keep (o.block _ B1.lt (fun h => by have := hx0 _ h; omega))
  have C1 := C1.keep (o.block _ C1.lt (fun h => by have := hx0 _ h; omega))
  have x1 := x1.keep (fun p hp => o.block p (x1.lt p hp).2 (fun h => by have := hx0 _ h; have := hx1 _ hp; omega))
  have g0 := g0.keep (fun p hp => o.block p (g0.lt p hp).2 (fun h => by have := hx0 _ h; have := hg0 _ hp; omega))
  have hb := hb.trans (o.below (fun p hp => by have := hx0 p hp; omega) (by omega))
  have k1 := k1.trans (o.below (fun p hp => by have := hx0 p hp; omega) (by omega))
  clear o
  clear x0
  have qB1 := B1.cell
  have qC1 := C1.cell
  go_wp2_with fail
  clear qB1 qC1
  refine (markBigraph_ct _ bg bsx1 (1 + (3 * (sig.length : Int) : Int)) _ _ x1 ndx1 (by omega) (by omega)).mono ?_
  rintro e w15 ⟨rfl, _, o⟩
  have z18 : w14.heap.size ≤ w15.heap.size := o.size
  have B1 := B1.keep (o.block _ B1.lt (fun h => by have := hx1 _ h; omega))
  have C1 := C1.keep (o.block _ C1.lt (fun h => by have := hx1 _ h; omega))
  have g0 := g0.keep (fun p hp => o.block p (g0.lt p hp).2 (fun h => by have := hx1 _ h; have := hg0 _ hp; omega))
  have hb := hb.trans (o.below (fun p hp => by have := hx1 p hp; omega) (by omega))
  have k1 := k1.trans (o.below (fun p hp => by have := hx1 p hp; omega) (by omega))
  clear o
  clear x1
  have qB1 := B1.cell
  have qC1 := C1.cell
  go_wp2_with fail
  clear qB1 qC1
  refine (eqIntS_ct _ _ R0 _ g0.at (rp0.below k1)).mono ?_
  rintro e w16 ⟨rfl, b⟩
  have z19 : w15.heap.size ≤ w16.heap.size := b.size
  have B1 := B1.below b
  have C1 := C1.below b
  have g0 := g0.keep (keep_below b (fun p hp => (g0.lt p hp).2))
  have k1 := bthen k1 b
  have hb := bthen hb b
  clear b
  have qB1 := B1.cell
  have qC1 := C1.cell
  go_wp2_with fail
  clear qB1 qC1
  refine (markIntS_ct _ R0 (1) _ _ g0 (by omega) (by omega)).mono ?_
  rintro e w17 ⟨rfl, m0, o⟩
  have z20 : w16.heap.size ≤ w17.heap.size := o.size
  have B1 := B1.keep (o.block _ B1.lt (fun h => by have := hg0 _ h; omega))
  have C1 := C1.keep (o.block _ C1.lt (fun h => by have := hg0 _ h; omega))
  have hb := hb.trans (o.below (fun p hp => by have := hg0 p hp; omega) (by omega))
  have k1 := k1.trans (o.below (fun p hp => by have := hg0 p hp; omega) (by omega))
  clear o
  have hm0 := hg0
  clear g0
  have qB1 := B1.cell
  have qC1 := C1.cell
  go_wp2_with fail
  clear qB1 qC1
  refine (heldIntS_ct _ R0 (1) _ m0.at (by omega) (by omega)).mono ?_
  rintro e w18 ⟨rfl, b⟩
  have z21 : w17.heap.size ≤ w18.heap.size := b.size
  have B1 := B1.below b
  have C1 := C1.below b
  have m0 := m0.keep (keep_below b (fun p hp => (m0.lt p hp).2))
  have k1 := bthen k1 b
  have hb := bthen hb b
  clear b
  have qB1 := B1.cell
  have qC1 := C1.cell
  go_wp2_with fail
  clear qB1 qC1
  have b := bdrew (Below.refl w18.heap.size w18)
  have B1 := B1.below b
  have C1 := C1.below b
  have m0 := m0.keep (keep_below b (fun p hp => (m0.lt p hp).2))
  have k1 := bthen k1 b
  have hb := bthen hb b
  clear b
  have z22 : w18.heap.size ≤ w18.drew.heap.size := Nat.le_refl _
  go_region_held3 (fun w' => w'.cell? ⟨w.heap.size, 0, none⟩ = some (.int .i64 bg.roots) ∧ w'.cell? ⟨w.heap.size, 1, none⟩ = some (.slice p1_1 bg.nodes.length p1_5) ∧ w'.cell? ⟨w.heap.size, 2, none⟩ = some (.slice p1_2 bg.sites.length p1_6) ∧ w'.cell? ⟨w.heap.size, 3, none⟩ = some (.int .i64 bg.edges) ∧ w'.cell? ⟨w.heap.size, 4, none⟩ = some (.slice p1_3 bg.outer.length p1_7) ∧ w'.cell? ⟨w.heap.size, 5, none⟩ = some (.slice p1_4 bg.inner.length p1_8)) (first | exact ⟨B1.cell 0, B1.cell 1, B1.cell 2, B1.cell 3, B1.cell 4, B1.cell 5⟩) (first | (go_at_call 17; (with_reducible refine (toControlS_ct _ sig _ (g0A.below hb)).mono ?_); rintro e w19 ⟨fs0, rfl, ofs0, b⟩; have ofs0 := ofs0.at; have z23 : w18.drew.heap.size ≤ w19.heap.size := b.size; have B1 := B1.below b; have C1 := C1.below b; have m0 := m0.keep (keep_below b (fun p hp => (m0.lt p hp).2)); have k1 := bthen k1 b; have hb := bthen hb b; clear b) | (go_at_call 18; (with_reducible refine (toBigraph_ct _ bg _ (g1A.below hb)).mono ?_); rintro e w20 ⟨fs1, bsfs1, rfl, ofs1, _, b⟩; have ofs1 := ofs1.at; have z24 : w19.heap.size ≤ w20.heap.size := b.size; have B1 := B1.below b; have C1 := C1.below b; have ofs0 := ofs0.below b; have m0 := m0.keep (keep_below b (fun p hp => (m0.lt p hp).2)); have k1 := bthen k1 b; have hb := bthen hb b; clear b) | (go_at_call 23; (with_reducible refine (HI.out _ _ _ ofs0 ofs1).mono ?_); rintro e w21 ⟨uf0, rfl, f0, b⟩; have rf0 := f0.at; obtain ⟨fa0, fc0, rfl⟩ := f0.shp; have z25 : w20.heap.size ≤ w21.heap.size := b.size; have B1 := B1.below b; have C1 := C1.below b; have ofs0 := ofs0.below b; have ofs1 := ofs1.below b; have m0 := m0.keep (keep_below b (fun p hp => (m0.lt p hp).2)); have k1 := bthen k1 b; have hb := bthen hb b; clear b))
  clear ofs0 ofs1
  clear f0
  have qB1 := B1.cell
  have qC1 := C1.cell
  go_wp2_with fail
  clear qB1 qC1
  refine (eqIntS_ct _ _ R0 _ rf0 (rp0.below k1)).mono ?_
  rintro e w22 ⟨rfl, b⟩
  have z26 : w21.heap.size ≤ w22.heap.size := b.size
  have B1 := B1.below b
  have C1 := C1.below b
  have rf0 := rf0.below b
  have m0 := m0.keep (keep_below b (fun p hp => (m0.lt p hp).2))
  have k1 := bthen k1 b
  have hb := bthen hb b
  clear b
  have qB1 := B1.cell
  have qC1 := C1.cell
  go_wp2_with fail
  clear qB1 qC1
  refine (heldIntS_ct _ R0 (1) _ m0.at (by omega) (by omega)).mono ?_
  rintro e w23 ⟨rfl, b⟩
  have z27 : w22.heap.size ≤ w23.heap.size := b.size
  have B1 := B1.below b
  have C1 := C1.below b
  have m0 := m0.keep (keep_below b (fun p hp => (m0.lt p hp).2))
  have k1 := bthen k1 b
  have hb := bthen hb b
  clear b
  have qB1 := B1.cell
  have qC1 := C1.cell
  go_wp2_with fail
  go_ret
  exact ⟨rfl, hb⟩
end Go.Proofs.YtjkebiodabheiaaDoor
