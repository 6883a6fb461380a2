import Derived.Test.YthbdmcobpcoajaaGreatDoorDiscI
import Derived.Test.YthbdmcobpcoajaaGreatDoorG1
import Derived.Test.YthbdmcobpcoajaaGreatDoorRgL
import Derived.Test.YthbdmcobpcoajaaGreatDoorG4
import Derived.Test.YthbdmcobpcoajaaGreatDoorHeld
import Derived.Test.YthbdmcobpcoajaaGreatDoorG5
import Derived.Test.YthbdmcobpcoajaaGreatDoorG6
import Derived.Deep.RegionHeld3
namespace Go.Proofs.YthbdmcobpcoajaaGreatDoor
open Go Go.RowKit Go.BigFrame

set_option maxRecDepth 100000 in
set_option maxHeartbeats 16000000 in
theorem lawDiscreteOf (v0 : Value) (sig : List Ctl) (v1 : Value) (bg : Big) (w : World) (h0 : CtlsM 9223372036854775807 w v0 sig) (h1 : BigM 9223372036854775807 w v1 bg) : Calls Tryz.prog 7 #[v0, v1] w fun e w' => e = .returned (.bool true) ∧ Below w.heap.size w w' := by
  obtain ⟨p1_1, p1_5, p1_2, p1_6, p1_3, p1_7, p1_4, p1_8, rfl⟩ := h1.mshape
  by_cases t0 : totC sig ≤ 1048576
  case neg =>
    go_enter Tryz.func7, Tryz.ntmps7
    go_wp2_with fail
    obtain ⟨W0, hW0⟩ : ∃ W, W = w.alloc (.cells #[.int .i64 bg.roots, .slice p1_1 bg.nodes.length p1_5, .slice p1_2 bg.sites.length p1_6, .int .i64 bg.edges, .slice p1_3 bg.outer.length p1_7, .slice p1_4 bg.inner.length p1_8] 28) := ⟨_, rfl⟩
    rw [← hW0]
    have hb : Below w.heap.size w W0 := by rw [hW0]; exact balloc _ _
    have B1 : Box W0 w.heap.size #[.int .i64 bg.roots, .slice p1_1 bg.nodes.length p1_5, .slice p1_2 bg.sites.length p1_6, .int .i64 bg.edges, .slice p1_3 bg.outer.length p1_7, .slice p1_4 bg.inner.length p1_8] 28 := by rw [hW0]; exact Box.new _ _ _
    clear hW0
    refine (szControlS_ct _ sig (1048576) _ (-1) (by show _ = _; unfold left; rw [if_pos (by omega)]) (h0.below hb) (by omega) (by omega)).mono ?_
    rintro e w1 ⟨rfl, b⟩
    have B1 := B1.below b
    have hb := bthen hb b
    clear b
    have qB1 := B1.cell
    go_wp2_with fail
    go_ret
    exact ⟨rfl, hb⟩
  by_cases t1 : totC sig + totB bg ≤ 1048576
  case neg =>
    go_enter Tryz.func7, Tryz.ntmps7
    go_wp2_with fail
    obtain ⟨W0, hW0⟩ : ∃ W, W = w.alloc (.cells #[.int .i64 bg.roots, .slice p1_1 bg.nodes.length p1_5, .slice p1_2 bg.sites.length p1_6, .int .i64 bg.edges, .slice p1_3 bg.outer.length p1_7, .slice p1_4 bg.inner.length p1_8] 28) := ⟨_, rfl⟩
    rw [← hW0]
    have hb : Below w.heap.size w W0 := by rw [hW0]; exact balloc _ _
    have B1 : Box W0 w.heap.size #[.int .i64 bg.roots, .slice p1_1 bg.nodes.length p1_5, .slice p1_2 bg.sites.length p1_6, .int .i64 bg.edges, .slice p1_3 bg.outer.length p1_7, .slice p1_4 bg.inner.length p1_8] 28 := by rw [hW0]; exact Box.new _ _ _
    clear hW0
    refine (szControlS_ct _ sig (1048576) _ (1048576 - (totC sig : Int)) (by show _ = _; unfold left; rw [if_neg (by omega)]) (h0.below hb) (by omega) (by omega)).mono ?_
    rintro e w1 ⟨rfl, b⟩
    have B1 := B1.below b
    have hb := bthen hb b
    clear b
    have qB1 := B1.cell
    go_wp2_with fail
    clear qB1
    refine (szBigraph_ct _ bg (1048576 - (totC sig : Int)) _ (-1) (by show _ = _; unfold left; rw [if_pos (by omega)]) (h1.below hb) (by omega) (by omega)).mono ?_
    rintro e w2 ⟨rfl, b⟩
    have B1 := B1.below b
    have hb := bthen hb b
    clear b
    have qB1 := B1.cell
    go_wp2_with fail
    go_ret
    exact ⟨rfl, hb⟩
  obtain ⟨R0, R1, ok, hss, hi, hR⟩ : ∃ (R0 : Big) (R1 : Big) (ok : Bool), (∀ v0 v1 W, CtlsAt W v0 sig → BigAt W v1 bg → Calls Tryz.prog 30 #[v0, v1] W (GivesBig2 R0 R1 ok W)) ∧ (∀ v0 v1 W, CtlsAt W v0 sig → BigAt W v1 bg → Calls Tryz.prog 31 #[v0, v1] W (GivesBig2 R0 R1 ok W)) ∧ (((cntB R0 : Int) ≤ 100000000) ∧ ((cntB R1 : Int) ≤ 100000000)) :=
    ⟨dscW sig bg, dscO sig bg, dscC sig bg, fun v0 v1 W h0 h1 => specDiscreteOf_ct v0 v1 sig bg W ⟨h0, h1⟩, fun v0 v1 W h0 h1 => implDiscreteOf_ct v0 v1 sig bg W ⟨h0, h1⟩, dscW_len sig bg, dscO_len sig bg⟩
  have HS : Hid _ := hss
  have HI : Hid _ := hi
  clear hss hi
  have g0A : CtlsAt w v0 sig := h0.small (by omega)
  have c0 := totC_ge sig
  have g1A : BigAt w (.agg #[.int .i64 bg.roots, .slice p1_1 bg.nodes.length p1_5, .slice p1_2 bg.sites.length p1_6, .int .i64 bg.edges, .slice p1_3 bg.outer.length p1_7, .slice p1_4 bg.inner.length p1_8]) bg := h1.small (by omega)
  have c1 := cntB_le bg
  go_enter Tryz.func7, Tryz.ntmps7
  go_wp2_with fail
  obtain ⟨W0, hW0⟩ : ∃ W, W = w.alloc (.cells #[.int .i64 bg.roots, .slice p1_1 bg.nodes.length p1_5, .slice p1_2 bg.sites.length p1_6, .int .i64 bg.edges, .slice p1_3 bg.outer.length p1_7, .slice p1_4 bg.inner.length p1_8] 28) := ⟨_, rfl⟩
  rw [← hW0]
  have hb : Below w.heap.size w W0 := by rw [hW0]; exact balloc _ _
  have B1 : Box W0 w.heap.size #[.int .i64 bg.roots, .slice p1_1 bg.nodes.length p1_5, .slice p1_2 bg.sites.length p1_6, .int .i64 bg.edges, .slice p1_3 bg.outer.length p1_7, .slice p1_4 bg.inner.length p1_8] 28 := by rw [hW0]; exact Box.new _ _ _
  clear hW0
  have z0 : w.heap.size + 1 ≤ W0.heap.size := by have := B1.lt; omega
  refine (szControlS_ct _ sig (1048576) _ (1048576 - (totC sig : Int)) (by show _ = _; unfold left; rw [if_neg (by omega)]) (h0.below hb) (by omega) (by omega)).mono ?_
  rintro e w1 ⟨rfl, b⟩
  have z1 : W0.heap.size ≤ w1.heap.size := b.size
  have B1 := B1.below b
  have hb := bthen hb b
  clear b
  have qB1 := B1.cell
  go_wp2_with fail
  clear qB1
  refine (szBigraph_ct _ bg (1048576 - (totC sig : Int)) _ (1048576 - (totC sig : Int) - (totB bg : Int)) (by show _ = _; unfold left; rw [if_neg (by omega)]) (h1.below hb) (by omega) (by omega)).mono ?_
  rintro e w2 ⟨rfl, b⟩
  have z2 : w1.heap.size ≤ w2.heap.size := b.size
  have B1 := B1.below b
  have hb := bthen hb b
  clear b
  have qB1 := B1.cell
  go_wp2_with fail
  clear qB1
  have c1_0 := fun y => gr_cell (w := w2) (B1.cell 0) y
  have c1_1 := fun y => gr_cell (w := w2) (B1.cell 1) y
  have c1_2 := fun y => gr_cell (w := w2) (B1.cell 2) y
  have c1_3 := fun y => gr_cell (w := w2) (B1.cell 3) y
  have c1_4 := fun y => gr_cell (w := w2) (B1.cell 4) y
  have c1_5 := fun y => gr_cell (w := w2) (B1.cell 5) y
  refine rg_region_lates [7, 8] [0, 1, 2, 3, 4, 5, 6, 7, 8, 9, 10] [11, 12, 13] (lo := (.cons _ (.cons _ (.cons _ .nil)))) (by rfl) (tAt 1 (eCtls sig) (tAt 3 (eBig bg) (tAt 4 (eBig2Ok w2.heap.size R0 R1 ok) (tAt 9 (eBox w2.heap.size #[.int .i64 0, .slice none 0 0, .slice none 0 0, .int .i64 0, .slice none 0 0, .slice none 0 0] 34) (tAt 10 (eBox w2.heap.size #[.int .i64 0, .slice none 0 0, .slice none 0 0, .int .i64 0, .slice none 0 0, .slice none 0 0] 34) tNil))))) (by kernel_rfl) (by rfl) (by kernel_rfl) (fun _ _ _ _ _ h => h) ?_
  refine rg_quiet anti_end [0] [1, 2, 3, 4, 5, 6, 7, 8, 9, 10] (lo := (.cons _ .nil)) (by rfl) (by kernel_rfl) ?_
  repeat (go_big_quiet_step (fail))
  refine wpQuiet_nil ?_
  refine rg_call 1 rfl rfl 16 #[v0] ?_ ?_ ?_
  · intro w; simp [go_sem]
  · rintro w' ⟨y, rfl⟩ hd
    refine (toControlS_ct _ sig _ (g0A.below (bthen hb (gr_below _ _)))).mono ?_
    rintro e w1 ⟨u1, rfl, hu1, bb⟩
    exact ⟨_, rfl, bb, hu1.at⟩
  intro v hv
  obtain ⟨ksp0a, ksp0c, rfl⟩ := hv
  simp only [Act.put, List.setIfInBounds_toArray, List.set_cons_zero, List.set_cons_succ]
  refine rg_quiet anti_end [2] [3, 4, 5, 6, 7, 8, 9, 10] (lo := (.cons _ .nil)) (by rfl) (by kernel_rfl) ?_
  repeat (go_big_quiet_step (fail))
  refine wpQuiet_nil ?_
  refine rg_call 3 rfl rfl 17 #[.agg #[.int .i64 bg.roots, .slice p1_1 bg.nodes.length p1_5, .slice p1_2 bg.sites.length p1_6, .int .i64 bg.edges, .slice p1_3 bg.outer.length p1_7, .slice p1_4 bg.inner.length p1_8]] ?_ ?_ ?_
  · intro w; simp [go_sem]
  · rintro w' ⟨y, rfl⟩ hd
    refine (toBigraph_ct _ bg _ (g1A.below (bthen hb (gr_below _ _)))).mono ?_
    rintro e w1 ⟨u1, bs1, rfl, hu1, _, bb⟩
    exact ⟨_, rfl, bb, hu1.at⟩
  intro v hv
  obtain ⟨ksp1_1, ksp1_5, ksp1_2, ksp1_6, ksp1_3, ksp1_7, ksp1_4, ksp1_8, rfl⟩ := hv
  simp only [Act.put, List.setIfInBounds_toArray, List.set_cons_zero, List.set_cons_succ]
  refine rg_call 4 rfl rfl 30 #[(.slice ksp0a sig.length ksp0c), (.agg #[.int .i64 bg.roots, .slice ksp1_1 bg.nodes.length ksp1_5, .slice ksp1_2 bg.sites.length ksp1_6, .int .i64 bg.edges, .slice ksp1_3 bg.outer.length ksp1_7, .slice ksp1_4 bg.inner.length ksp1_8])] ?_ ?_ ?_
  · intro w; simp [go_sem]
  · rintro w' ⟨y, rfl⟩ hd
    obtain ⟨_, j0⟩ := hd ⟨1, .data⟩ (by simp) rfl _ rfl (by decide) 32 rfl
    have j0 : CtlsAt (gr w2 y) (.slice ksp0a sig.length ksp0c) sig := j0
    obtain ⟨_, j1⟩ := hd ⟨3, .data⟩ (by simp) rfl _ rfl (by decide) 34 rfl
    have j1 : BigAt (gr w2 y) (.agg #[.int .i64 bg.roots, .slice ksp1_1 bg.nodes.length ksp1_5, .slice ksp1_2 bg.sites.length ksp1_6, .int .i64 bg.edges, .slice ksp1_3 bg.outer.length ksp1_7, .slice ksp1_4 bg.inner.length ksp1_8]) bg := j1
    refine (HS.out _ _ _ j0 j1).mono ?_
    rintro e w1 ⟨u1, bs1, u2, bs2, rfl, hu1, nd1, hu2, nd2, hd12, bb⟩
    exact ⟨_, rfl, bb, rfl, bs1, bs2, hu1.mono (gr_below _ _).size, nd1, hu2.mono (gr_below _ _).size, nd2, hd12, fun p hp => hu1.lt p hp, fun p hp => hu2.lt p hp⟩
  intro v hv
  obtain ⟨_, _, rfl, ⟨sp0_1, sp0_5, sp0_2, sp0_6, sp0_3, sp0_7, sp0_4, sp0_8, rfl⟩, ⟨sp1_1, sp1_5, sp1_2, sp1_6, sp1_3, sp1_7, sp1_4, sp1_8, rfl⟩⟩ := hv
  simp only [Act.put, List.setIfInBounds_toArray, List.set_cons_zero, List.set_cons_succ]
  refine rg_quiet anti_end [5, 6, 7, 8] [9, 10] (lo := (.cons _ (.cons _ (.cons _ (.cons _ .nil))))) (by rfl) (by kernel_rfl) ?_
  repeat (go_big_quiet_step (fail))
  refine wpQuiet_nil ?_
  refine rg_made 9 rfl rfl ?_ ?_
  · rintro w' ⟨y, rfl⟩ hd
    refine ⟨_, _, by simp [go_sem]; exact ⟨rfl, rfl⟩, balloc _ _, rfl, Box.new _ _ _, (gr_below _ _).size, ?_⟩
    exact ⟨Nat.le_refl _, by simp [blkOf]⟩
  intro v hv
  obtain ⟨spg0, rfl⟩ := hv
  simp only [Act.put, List.setIfInBounds_toArray, List.set_cons_zero, List.set_cons_succ]
  refine rg_made 10 rfl rfl ?_ ?_
  · rintro w' ⟨y, rfl⟩ hd
    refine ⟨_, _, by simp [go_sem]; exact ⟨rfl, rfl⟩, balloc _ _, rfl, Box.new _ _ _, (gr_below _ _).size, ?_⟩
    exact ⟨Nat.le_refl _, by simp [blkOf]⟩
  intro v hv
  obtain ⟨spg1, rfl⟩ := hv
  simp only [Act.put, List.setIfInBounds_toArray, List.set_cons_zero, List.set_cons_succ]
  intro w3 _ b hF
  obtain ⟨UA4, UB4, d4, u4, ⟨UA3, UB3, d3, u3, ⟨UA2, UB2, d2, u2, ⟨UA1, UB1, d1, u1, ⟨UA0, UB0, d0, u0, _, _⟩, _⟩, hsp⟩, hal0⟩, hal1⟩ := hF
  have z3 : w2.heap.size ≤ w3.heap.size := b.size
  have B1 := B1.below b
  have hb := bthen hb b
  clear b
  obtain ⟨_, bssp0, bssp1, sp0, ndsp0, sp1, ndsp1, dissp, clsp0, clsp1⟩ := hsp
  have sp0 : BigOwn w2.heap.size w3 (.agg #[.int .i64 R0.roots, .slice sp0_1 R0.nodes.length sp0_5, .slice sp0_2 R0.sites.length sp0_6, .int .i64 R0.edges, .slice sp0_3 R0.outer.length sp0_7, .slice sp0_4 R0.inner.length sp0_8]) R0 bssp0 := sp0
  have sp1 : BigOwn w2.heap.size w3 (.agg #[.int .i64 R1.roots, .slice sp1_1 R1.nodes.length sp1_5, .slice sp1_2 R1.sites.length sp1_6, .int .i64 R1.edges, .slice sp1_3 R1.outer.length sp1_7, .slice sp1_4 R1.inner.length sp1_8]) R1 bssp1 := sp1
  obtain ⟨_, SP0, msp0, nsp0⟩ := hal0
  have SP0 : Box w3 spg0 #[.int .i64 0, .slice none 0 0, .slice none 0 0, .int .i64 0, .slice none 0 0, .slice none 0 0] 34 := SP0
  have msp0 : w2.heap.size ≤ spg0 := msp0
  have xsp0 : ∀ r, UB2 r → r ≠ spg0 := fun r hr e => d3 r ((u2 _).2 (.inr hr)) (e ▸ nsp0)
  obtain ⟨_, SP1, msp1, nsp1⟩ := hal1
  have SP1 : Box w3 spg1 #[.int .i64 0, .slice none 0 0, .slice none 0 0, .int .i64 0, .slice none 0 0, .slice none 0 0] 34 := SP1
  have msp1 : w2.heap.size ≤ spg1 := msp1
  have xsp1 : ∀ r, UB2 r → r ≠ spg1 := fun r hr e => d4 r ((u3 _).2 (.inl ((u2 _).2 (.inr hr)))) (e ▸ nsp1)
  have xsp01 : spg0 ≠ spg1 := fun e => d4 _ ((u3 _).2 (.inr nsp0)) (e ▸ nsp1)
  have qa0 := SP0.cell
  have qa1 := SP1.cell
  have qf0 := SP0.free
  have qf1 := SP1.free
  have qB1 := B1.cell
  go_wp2_with fail
  clear qB1
  clear qa0 qf0 qa1 qf1
  obtain ⟨w4, hw4, SP0, o⟩ := box_fill SP0 (.int .i64 R0.roots) (.slice sp0_1 R0.nodes.length sp0_5) (.slice sp0_2 R0.sites.length sp0_6) (.int .i64 R0.edges) (.slice sp0_3 R0.outer.length sp0_7) (.slice sp0_4 R0.inner.length sp0_8)
  rw [← hw4]
  clear hw4
  have z4 : w3.heap.size ≤ w4.heap.size := o.size
  have B1 := B1.keep (o.block _ B1.lt (fun h => by have := List.mem_singleton.1 h; omega))
  have SP1 := SP1.keep (o.block _ SP1.lt (fun h => by have := List.mem_singleton.1 h; omega))
  have sp0 := sp0.keep (fun p hp => o.block p (sp0.lt p hp).2 (fun h => xsp0 p (clsp0 p hp) (List.mem_singleton.1 h)))
  have sp1 := sp1.keep (fun p hp => o.block p (sp1.lt p hp).2 (fun h => xsp0 p (clsp1 p hp) (List.mem_singleton.1 h)))
  have hb := hb.trans (o.below (fun p hp => by have := List.mem_singleton.1 hp; omega) (by omega))
  clear o
  obtain ⟨w5, hw5, SP1, o⟩ := box_fill SP1 (.int .i64 R1.roots) (.slice sp1_1 R1.nodes.length sp1_5) (.slice sp1_2 R1.sites.length sp1_6) (.int .i64 R1.edges) (.slice sp1_3 R1.outer.length sp1_7) (.slice sp1_4 R1.inner.length sp1_8)
  rw [← hw5]
  clear hw5
  have z5 : w4.heap.size ≤ w5.heap.size := o.size
  have B1 := B1.keep (o.block _ B1.lt (fun h => by have := List.mem_singleton.1 h; omega))
  have SP0 := SP0.keep (o.block _ SP0.lt (fun h => by have := List.mem_singleton.1 h; omega))
  have sp0 := sp0.keep (fun p hp => o.block p (sp0.lt p hp).2 (fun h => xsp1 p (clsp0 p hp) (List.mem_singleton.1 h)))
  have sp1 := sp1.keep (fun p hp => o.block p (sp1.lt p hp).2 (fun h => xsp1 p (clsp1 p hp) (List.mem_singleton.1 h)))
  have hb := hb.trans (o.below (fun p hp => by have := List.mem_singleton.1 hp; omega) (by omega))
  clear o
  have ltsp0 : spg0 < w5.heap.size := SP0.lt
  have ltsp1 : spg1 < w5.heap.size := SP1.lt
  have rsp0 := sp0.at
  have rsp1 := sp1.at
  clear sp0 ndsp0 sp1 ndsp1
  obtain ⟨W1, hW1⟩ : ∃ W, W = w5 := ⟨_, rfl⟩
  have k1 : Below W1.heap.size W1 w5 := by rw [hW1]; exact Below.refl _ _
  rw [← hW1] at rsp0
  rw [← hW1] at rsp1
  have y1 : W1.heap.size ≤ w5.heap.size := by rw [hW1]; exact Nat.le_refl _
  have y2 : w5.heap.size ≤ W1.heap.size := by rw [hW1]; exact Nat.le_refl _
  clear hW1
  have qB1 := B1.cell
  have qSP0 := SP0.cell
  have qSP1 := SP1.cell
  go_wp2_with fail
  clear qB1 qSP0 qSP1
  refine (toControlS_ct _ sig _ (g0A.below hb)).mono ?_
  rintro e w6 ⟨ux0, rfl, x0, b⟩
  obtain ⟨xa0, xc0, rfl⟩ := x0.shp
  have hx0 := x0.lt
  have z6 : w5.heap.size ≤ w6.heap.size := b.size
  have B1 := B1.below b
  have SP0 := SP0.below b
  have SP1 := SP1.below b
  have k1 := bthen k1 b
  have hb := bthen hb b
  clear b
  have qB1 := B1.cell
  have qSP0 := SP0.cell
  have qSP1 := SP1.cell
  go_wp2_with fail
  clear qB1 qSP0 qSP1
  refine (toBigraph_ct _ bg _ (g1A.below hb)).mono ?_
  rintro e w7 ⟨ux1, bsx1, rfl, x1, ndx1, b⟩
  obtain ⟨d1_1, d1_5, d1_2, d1_6, d1_3, d1_7, d1_4, d1_8, rfl⟩ := x1.at.shape
  have hx1 := x1.lt
  have z7 : w6.heap.size ≤ w7.heap.size := b.size
  have B1 := B1.below b
  have SP0 := SP0.below b
  have SP1 := SP1.below b
  have x0 := x0.keep (keep_below b (fun p hp => (x0.lt p hp).2))
  have k1 := bthen k1 b
  have hb := bthen hb b
  clear b
  have qB1 := B1.cell
  have qSP0 := SP0.cell
  have qSP1 := SP1.cell
  go_wp2_with fail
  clear qB1 qSP0 qSP1
  obtain ⟨X1, hX1⟩ : ∃ W, W = w7.alloc (.cells #[.int .i64 bg.roots, .slice d1_1 bg.nodes.length d1_5, .slice d1_2 bg.sites.length d1_6, .int .i64 bg.edges, .slice d1_3 bg.outer.length d1_7, .slice d1_4 bg.inner.length d1_8] 34) := ⟨_, rfl⟩
  rw [← hX1]
  have b : Below w7.heap.size w7 X1 := by rw [hX1]; exact balloc _ _
  have C1 : Box X1 w7.heap.size #[.int .i64 bg.roots, .slice d1_1 bg.nodes.length d1_5, .slice d1_2 bg.sites.length d1_6, .int .i64 bg.edges, .slice d1_3 bg.outer.length d1_7, .slice d1_4 bg.inner.length d1_8] 34 := by rw [hX1]; exact Box.new _ _ _
  have y13 : w7.heap.size + 1 ≤ X1.heap.size := C1.lt
  have z8 : w7.heap.size ≤ X1.heap.size := b.size
  have B1 := B1.below b
  have SP0 := SP0.below b
  have SP1 := SP1.below b
  have x0 := x0.keep (keep_below b (fun p hp => (x0.lt p hp).2))
  have x1 := x1.keep (keep_below b (fun p hp => (x1.lt p hp).2))
  have k1 := bthen k1 b
  have hb := bthen hb b
  clear b
  clear hX1
  refine (HI.out _ _ _ x0.at x1.at).mono ?_
  rintro e w8 ⟨ug0, bsg0, ug1, bsg1, rfl, g0, ndg0, g1, ndg1, disg, b⟩
  obtain ⟨g0_1, g0_5, g0_2, g0_6, g0_3, g0_7, g0_4, g0_8, rfl⟩ := g0.at.shape
  have hg0 := g0.lt
  obtain ⟨g1_1, g1_5, g1_2, g1_6, g1_3, g1_7, g1_4, g1_8, rfl⟩ := g1.at.shape
  have hg1 := g1.lt
  have z9 : X1.heap.size ≤ w8.heap.size := b.size
  have B1 := B1.below b
  have SP0 := SP0.below b
  have SP1 := SP1.below b
  have C1 := C1.below b
  have x0 := x0.keep (keep_below b (fun p hp => (x0.lt p hp).2))
  have x1 := x1.keep (keep_below b (fun p hp => (x1.lt p hp).2))
  have k1 := bthen k1 b
  have hb := bthen hb b
  clear b
  have qa1B1 := (B1.alloc (.cells #[.int .i64 R0.roots, .slice g0_1 R0.nodes.length g0_5, .slice g0_2 R0.sites.length g0_6, .int .i64 R0.edges, .slice g0_3 R0.outer.length g0_7, .slice g0_4 R0.inner.length g0_8] 34)).cell
  have qa1SP0 := (SP0.alloc (.cells #[.int .i64 R0.roots, .slice g0_1 R0.nodes.length g0_5, .slice g0_2 R0.sites.length g0_6, .int .i64 R0.edges, .slice g0_3 R0.outer.length g0_7, .slice g0_4 R0.inner.length g0_8] 34)).cell
  have qa1SP1 := (SP1.alloc (.cells #[.int .i64 R0.roots, .slice g0_1 R0.nodes.length g0_5, .slice g0_2 R0.sites.length g0_6, .int .i64 R0.edges, .slice g0_3 R0.outer.length g0_7, .slice g0_4 R0.inner.length g0_8] 34)).cell
  have qa1C1 := (C1.alloc (.cells #[.int .i64 R0.roots, .slice g0_1 R0.nodes.length g0_5, .slice g0_2 R0.sites.length g0_6, .int .i64 R0.edges, .slice g0_3 R0.outer.length g0_7, .slice g0_4 R0.inner.length g0_8] 34)).cell
  have qa2B1 := ((B1.alloc (.cells #[.int .i64 R0.roots, .slice g0_1 R0.nodes.length g0_5, .slice g0_2 R0.sites.length g0_6, .int .i64 R0.edges, .slice g0_3 R0.outer.length g0_7, .slice g0_4 R0.inner.length g0_8] 34)).alloc (.cells #[.int .i64 R1.roots, .slice g1_1 R1.nodes.length g1_5, .slice g1_2 R1.sites.length g1_6, .int .i64 R1.edges, .slice g1_3 R1.outer.length g1_7, .slice g1_4 R1.inner.length g1_8] 34)).cell
  have qa2SP0 := ((SP0.alloc (.cells #[.int .i64 R0.roots, .slice g0_1 R0.nodes.length g0_5, .slice g0_2 R0.sites.length g0_6, .int .i64 R0.edges, .slice g0_3 R0.outer.length g0_7, .slice g0_4 R0.inner.length g0_8] 34)).alloc (.cells #[.int .i64 R1.roots, .slice g1_1 R1.nodes.length g1_5, .slice g1_2 R1.sites.length g1_6, .int .i64 R1.edges, .slice g1_3 R1.outer.length g1_7, .slice g1_4 R1.inner.length g1_8] 34)).cell
  have qa2SP1 := ((SP1.alloc (.cells #[.int .i64 R0.roots, .slice g0_1 R0.nodes.length g0_5, .slice g0_2 R0.sites.length g0_6, .int .i64 R0.edges, .slice g0_3 R0.outer.length g0_7, .slice g0_4 R0.inner.length g0_8] 34)).alloc (.cells #[.int .i64 R1.roots, .slice g1_1 R1.nodes.length g1_5, .slice g1_2 R1.sites.length g1_6, .int .i64 R1.edges, .slice g1_3 R1.outer.length g1_7, .slice g1_4 R1.inner.length g1_8] 34)).cell
  have qa2C1 := ((C1.alloc (.cells #[.int .i64 R0.roots, .slice g0_1 R0.nodes.length g0_5, .slice g0_2 R0.sites.length g0_6, .int .i64 R0.edges, .slice g0_3 R0.outer.length g0_7, .slice g0_4 R0.inner.length g0_8] 34)).alloc (.cells #[.int .i64 R1.roots, .slice g1_1 R1.nodes.length g1_5, .slice g1_2 R1.sites.length g1_6, .int .i64 R1.edges, .slice g1_3 R1.outer.length g1_7, .slice g1_4 R1.inner.length g1_8] 34)).cell
  have qB1 := B1.cell
  have qSP0 := SP0.cell
  have qSP1 := SP1.cell
  have qC1 := C1.cell
  go_wp2_with fail
  clear qB1 qSP0 qSP1 qC1
  clear qa1B1 qa1SP0 qa1SP1 qa1C1 qa2B1 qa2SP0 qa2SP1 qa2C1
  obtain ⟨G0W, hG0W⟩ : ∃ W, W = w8.alloc (.cells #[.int .i64 R0.roots, .slice g0_1 R0.nodes.length g0_5, .slice g0_2 R0.sites.length g0_6, .int .i64 R0.edges, .slice g0_3 R0.outer.length g0_7, .slice g0_4 R0.inner.length g0_8] 34) := ⟨_, rfl⟩
  rw [← hG0W]
  have b : Below w8.heap.size w8 G0W := by rw [hG0W]; exact balloc _ _
  have G0 : Box G0W w8.heap.size #[.int .i64 R0.roots, .slice g0_1 R0.nodes.length g0_5, .slice g0_2 R0.sites.length g0_6, .int .i64 R0.edges, .slice g0_3 R0.outer.length g0_7, .slice g0_4 R0.inner.length g0_8] 34 := by rw [hG0W]; exact Box.new _ _ _
  have yg0 : w8.heap.size + 1 ≤ G0W.heap.size := G0.lt
  have HZ0 : Hid (G0W.heap.size = w8.heap.size + 1) := by show _ = _; rw [hG0W]; simp
  have z10 : w8.heap.size ≤ G0W.heap.size := b.size
  have B1 := B1.below b
  have SP0 := SP0.below b
  have SP1 := SP1.below b
  have C1 := C1.below b
  have x0 := x0.keep (keep_below b (fun p hp => (x0.lt p hp).2))
  have x1 := x1.keep (keep_below b (fun p hp => (x1.lt p hp).2))
  have g0 := g0.keep (keep_below b (fun p hp => (g0.lt p hp).2))
  have g1 := g1.keep (keep_below b (fun p hp => (g1.lt p hp).2))
  have k1 := bthen k1 b
  have hb := bthen hb b
  clear b
  clear hG0W
  obtain ⟨G1W, hG1W⟩ : ∃ W, W = G0W.alloc (.cells #[.int .i64 R1.roots, .slice g1_1 R1.nodes.length g1_5, .slice g1_2 R1.sites.length g1_6, .int .i64 R1.edges, .slice g1_3 R1.outer.length g1_7, .slice g1_4 R1.inner.length g1_8] 34) := ⟨_, rfl⟩
  rw [← hG1W]
  have b : Below G0W.heap.size G0W G1W := by rw [hG1W]; exact balloc _ _
  have G1 : Box G1W (w8.heap.size + 1) #[.int .i64 R1.roots, .slice g1_1 R1.nodes.length g1_5, .slice g1_2 R1.sites.length g1_6, .int .i64 R1.edges, .slice g1_3 R1.outer.length g1_7, .slice g1_4 R1.inner.length g1_8] 34 := by rw [hG1W]; exact Box.new' _ _ _ HZ0.out.symm
  have yg1 : w8.heap.size + 2 ≤ G1W.heap.size := G1.lt
  have z11 : G0W.heap.size ≤ G1W.heap.size := b.size
  have B1 := B1.below b
  have SP0 := SP0.below b
  have SP1 := SP1.below b
  have C1 := C1.below b
  have G0 := G0.below b
  have x0 := x0.keep (keep_below b (fun p hp => (x0.lt p hp).2))
  have x1 := x1.keep (keep_below b (fun p hp => (x1.lt p hp).2))
  have g0 := g0.keep (keep_below b (fun p hp => (g0.lt p hp).2))
  have g1 := g1.keep (keep_below b (fun p hp => (g1.lt p hp).2))
  have k1 := bthen k1 b
  have hb := bthen hb b
  clear b
  clear hG1W
  refine (eqBigraph_ct _ _ R0 _ g0.at (rsp0.below k1)).mono ?_
  rintro e w9 ⟨rfl, b⟩
  have z12 : G1W.heap.size ≤ w9.heap.size := b.size
  have B1 := B1.below b
  have SP0 := SP0.below b
  have SP1 := SP1.below b
  have C1 := C1.below b
  have G0 := G0.below b
  have G1 := G1.below b
  have x0 := x0.keep (keep_below b (fun p hp => (x0.lt p hp).2))
  have x1 := x1.keep (keep_below b (fun p hp => (x1.lt p hp).2))
  have g0 := g0.keep (keep_below b (fun p hp => (g0.lt p hp).2))
  have g1 := g1.keep (keep_below b (fun p hp => (g1.lt p hp).2))
  have k1 := bthen k1 b
  have hb := bthen hb b
  clear b
  have qB1 := B1.cell
  have qSP0 := SP0.cell
  have qSP1 := SP1.cell
  have qC1 := C1.cell
  have qG0 := G0.cell
  have qG1 := G1.cell
  go_wp2_with fail
  clear qB1 qSP0 qSP1 qC1 qG0 qG1
  refine (eqBigraph_ct _ _ R1 _ g1.at (rsp1.below k1)).mono ?_
  rintro e w10 ⟨rfl, b⟩
  have z13 : w9.heap.size ≤ w10.heap.size := b.size
  have B1 := B1.below b
  have SP0 := SP0.below b
  have SP1 := SP1.below b
  have C1 := C1.below b
  have G0 := G0.below b
  have G1 := G1.below b
  have x0 := x0.keep (keep_below b (fun p hp => (x0.lt p hp).2))
  have x1 := x1.keep (keep_below b (fun p hp => (x1.lt p hp).2))
  have g0 := g0.keep (keep_below b (fun p hp => (g0.lt p hp).2))
  have g1 := g1.keep (keep_below b (fun p hp => (g1.lt p hp).2))
  have k1 := bthen k1 b
  have hb := bthen hb b
  clear b
  have qB1 := B1.cell
  have qSP0 := SP0.cell
  have qSP1 := SP1.cell
  have qC1 := C1.cell
  have qG0 := G0.cell
  have qG1 := G1.cell
  go_wp2_with fail
  clear qB1 qSP0 qSP1 qC1 qG0 qG1
  refine (toControlS_ct _ sig _ (g0A.below hb)).mono ?_
  rintro e w11 ⟨y0, rfl, oy0, b⟩
  have oy0 := oy0.at
  have z14 : w10.heap.size ≤ w11.heap.size := b.size
  have B1 := B1.below b
  have SP0 := SP0.below b
  have SP1 := SP1.below b
  have C1 := C1.below b
  have G0 := G0.below b
  have G1 := G1.below b
  have x0 := x0.keep (keep_below b (fun p hp => (x0.lt p hp).2))
  have x1 := x1.keep (keep_below b (fun p hp => (x1.lt p hp).2))
  have g0 := g0.keep (keep_below b (fun p hp => (g0.lt p hp).2))
  have g1 := g1.keep (keep_below b (fun p hp => (g1.lt p hp).2))
  have k1 := bthen k1 b
  have hb := bthen hb b
  clear b
  have qB1 := B1.cell
  have qSP0 := SP0.cell
  have qSP1 := SP1.cell
  have qC1 := C1.cell
  have qG0 := G0.cell
  have qG1 := G1.cell
  go_wp2_with fail
  clear qB1 qSP0 qSP1 qC1 qG0 qG1
  refine (eqControlS_ct _ _ sig _ x0.at oy0).mono ?_
  rintro e w12 ⟨rfl, b⟩
  have z15 : w11.heap.size ≤ w12.heap.size := b.size
  have B1 := B1.below b
  have SP0 := SP0.below b
  have SP1 := SP1.below b
  have C1 := C1.below b
  have G0 := G0.below b
  have G1 := G1.below b
  have x0 := x0.keep (keep_below b (fun p hp => (x0.lt p hp).2))
  have x1 := x1.keep (keep_below b (fun p hp => (x1.lt p hp).2))
  have g0 := g0.keep (keep_below b (fun p hp => (g0.lt p hp).2))
  have g1 := g1.keep (keep_below b (fun p hp => (g1.lt p hp).2))
  have k1 := bthen k1 b
  have hb := bthen hb b
  clear b
  clear oy0
  have qB1 := B1.cell
  have qSP0 := SP0.cell
  have qSP1 := SP1.cell
  have qC1 := C1.cell
  have qG0 := G0.cell
  have qG1 := G1.cell
  go_wp2_with fail
  clear qB1 qSP0 qSP1 qC1 qG0 qG1
  have b := bdrew (Below.refl w12.heap.size w12)
  have B1 := B1.below b
  have SP0 := SP0.below b
  have SP1 := SP1.below b
  have C1 := C1.below b
  have G0 := G0.below b
  have G1 := G1.below b
  have x0 := x0.keep (keep_below b (fun p hp => (x0.lt p hp).2))
  have x1 := x1.keep (keep_below b (fun p hp => (x1.lt p hp).2))
  have g0 := g0.keep (keep_below b (fun p hp => (g0.lt p hp).2))
  have g1 := g1.keep (keep_below b (fun p hp => (g1.lt p hp).2))
  have k1 := bthen k1 b
  have hb := bthen hb b
  clear b
  have z16 : w12.heap.size ≤ w12.drew.heap.size := Nat.le_refl _
  go_region_held3 (fun w' => w'.cell? ⟨w7.heap.size, 0, none⟩ = some (.int .i64 bg.roots) ∧ w'.cell? ⟨w7.heap.size, 1, none⟩ = some (.slice d1_1 bg.nodes.length d1_5) ∧ w'.cell? ⟨w7.heap.size, 2, none⟩ = some (.slice d1_2 bg.sites.length d1_6) ∧ w'.cell? ⟨w7.heap.size, 3, none⟩ = some (.int .i64 bg.edges) ∧ w'.cell? ⟨w7.heap.size, 4, none⟩ = some (.slice d1_3 bg.outer.length d1_7) ∧ w'.cell? ⟨w7.heap.size, 5, none⟩ = some (.slice d1_4 bg.inner.length d1_8) ∧ w'.cell? ⟨w.heap.size, 0, none⟩ = some (.int .i64 bg.roots) ∧ w'.cell? ⟨w.heap.size, 1, none⟩ = some (.slice p1_1 bg.nodes.length p1_5) ∧ w'.cell? ⟨w.heap.size, 2, none⟩ = some (.slice p1_2 bg.sites.length p1_6) ∧ w'.cell? ⟨w.heap.size, 3, none⟩ = some (.int .i64 bg.edges) ∧ w'.cell? ⟨w.heap.size, 4, none⟩ = some (.slice p1_3 bg.outer.length p1_7) ∧ w'.cell? ⟨w.heap.size, 5, none⟩ = some (.slice p1_4 bg.inner.length p1_8)) (first | exact ⟨C1.cell 0, C1.cell 1, C1.cell 2, C1.cell 3, C1.cell 4, C1.cell 5, B1.cell 0, B1.cell 1, B1.cell 2, B1.cell 3, B1.cell 4, B1.cell 5⟩) (first | (go_at_call 17; (with_reducible refine (toBigraph_ct _ bg _ (g1A.below hb)).mono ?_); rintro e w13 ⟨y1, bsy1, rfl, oy1, _, b⟩; have oy1 := oy1.at; have z17 : w12.drew.heap.size ≤ w13.heap.size := b.size; have B1 := B1.below b; have SP0 := SP0.below b; have SP1 := SP1.below b; have C1 := C1.below b; have G0 := G0.below b; have G1 := G1.below b; have x0 := x0.keep (keep_below b (fun p hp => (x0.lt p hp).2)); have x1 := x1.keep (keep_below b (fun p hp => (x1.lt p hp).2)); have g0 := g0.keep (keep_below b (fun p hp => (g0.lt p hp).2)); have g1 := g1.keep (keep_below b (fun p hp => (g1.lt p hp).2)); have k1 := bthen k1 b; have hb := bthen hb b; clear b) | (go_at_call 19; (with_reducible refine (eqBigraph_ct _ _ bg _ x1.at oy1).mono ?_); rintro e w14 ⟨rfl, b⟩; have z18 : w13.heap.size ≤ w14.heap.size := b.size; have B1 := B1.below b; have SP0 := SP0.below b; have SP1 := SP1.below b; have C1 := C1.below b; have G0 := G0.below b; have G1 := G1.below b; have x0 := x0.keep (keep_below b (fun p hp => (x0.lt p hp).2)); have x1 := x1.keep (keep_below b (fun p hp => (x1.lt p hp).2)); have g0 := g0.keep (keep_below b (fun p hp => (g0.lt p hp).2)); have g1 := g1.keep (keep_below b (fun p hp => (g1.lt p hp).2)); have k1 := bthen k1 b; have hb := bthen hb b; clear b))
  clear oy1
  have qB1 := B1.cell
  have qSP0 := SP0.cell
  have qSP1 := SP1.cell
  have qC1 := C1.cell
  have qG0 := G0.cell
  have qG1 := G1.cell
  go_wp2_with fail
  clear qB1 qSP0 qSP1 qC1 qG0 qG1
  refine (markControlS_ct _ sig (1) _ _ x0 (by omega) (by omega)).mono ?_
  rintro e w15 ⟨rfl, _, o⟩
  have z19 : w14.heap.size ≤ w15.heap.size := o.size
  have B1 := B1.keep (o.block _ B1.lt (fun h => by have := hx0 _ h; omega))
  have SP0 := SP0.keep (o.block _ SP0.lt (fun h => by have := hx0 _ h; omega))
  have SP1 := SP1.keep (o.block _ SP1.lt (fun h => by have := hx0 _ h; omega))
  have C1 := C1.keep (o.block _ C1.lt (fun h => by have := hx0 _ h; omega))
  have G0 := G0.keep (o.block _ G0.lt (fun h => by have := hx0 _ h; omega))
  have G1 := G1.keep (o.block _ G1.lt (fun h => by have := hx0 _ h; omega))
  have x1 := x1.keep (fun p hp => o.block p (x1.lt p hp).2 (fun h => by have := hx0 _ h; have := hx1 _ hp; omega))
  have g0 := g0.keep (fun p hp => o.block p (g0.lt p hp).2 (fun h => by have := hx0 _ h; have := hg0 _ hp; omega))
  have g1 := g1.keep (fun p hp => o.block p (g1.lt p hp).2 (fun h => by have := hx0 _ h; have := hg1 _ hp; omega))
  have hb := hb.trans (o.below (fun p hp => by have := hx0 p hp; omega) (by omega))
  have k1 := k1.trans (o.below (fun p hp => by have := hx0 p hp; omega) (by omega))
  clear o
  clear x0
  have qB1 := B1.cell
  have qSP0 := SP0.cell
  have qSP1 := SP1.cell
  have qC1 := C1.cell
  have qG0 := G0.cell
  have qG1 := G1.cell
  go_wp2_with fail
  clear qB1 qSP0 qSP1 qC1 qG0 qG1
  refine (markBigraph_ct _ bg bsx1 (1 + (3 * (sig.length : Int) : Int)) _ _ x1 ndx1 (by omega) (by omega)).mono ?_
  rintro e w16 ⟨rfl, _, o⟩
  have z20 : w15.heap.size ≤ w16.heap.size := o.size
  have B1 := B1.keep (o.block _ B1.lt (fun h => by have := hx1 _ h; omega))
  have SP0 := SP0.keep (o.block _ SP0.lt (fun h => by have := hx1 _ h; omega))
  have SP1 := SP1.keep (o.block _ SP1.lt (fun h => by have := hx1 _ h; omega))
  have C1 := C1.keep (o.block _ C1.lt (fun h => by have := hx1 _ h; omega))
  have G0 := G0.keep (o.block _ G0.lt (fun h => by have := hx1 _ h; omega))
  have G1 := G1.keep (o.block _ G1.lt (fun h => by have := hx1 _ h; omega))
  have g0 := g0.keep (fun p hp => o.block p (g0.lt p hp).2 (fun h => by have := hx1 _ h; have := hg0 _ hp; omega))
  have g1 := g1.keep (fun p hp => o.block p (g1.lt p hp).2 (fun h => by have := hx1 _ h; have := hg1 _ hp; omega))
  have hb := hb.trans (o.below (fun p hp => by have := hx1 p hp; omega) (by omega))
  have k1 := k1.trans (o.below (fun p hp => by have := hx1 p hp; omega) (by omega))
  clear o
  clear x1
  have qB1 := B1.cell
  have qSP0 := SP0.cell
  have qSP1 := SP1.cell
  have qC1 := C1.cell
  have qG0 := G0.cell
  have qG1 := G1.cell
  go_wp2_with fail
  clear qB1 qSP0 qSP1 qC1 qG0 qG1
  refine (eqBigraph_ct _ _ R0 _ g0.at (rsp0.below k1)).mono ?_
  rintro e w17 ⟨rfl, b⟩
  have z21 : w16.heap.size ≤ w17.heap.size := b.size
  have B1 := B1.below b
  have SP0 := SP0.below b
  have SP1 := SP1.below b
  have C1 := C1.below b
  have G0 := G0.below b
  have G1 := G1.below b
  have g0 := g0.keep (keep_below b (fun p hp => (g0.lt p hp).2))
  have g1 := g1.keep (keep_below b (fun p hp => (g1.lt p hp).2))
  have k1 := bthen k1 b
  have hb := bthen hb b
  clear b
  have qB1 := B1.cell
  have qSP0 := SP0.cell
  have qSP1 := SP1.cell
  have qC1 := C1.cell
  have qG0 := G0.cell
  have qG1 := G1.cell
  go_wp2_with fail
  clear qB1 qSP0 qSP1 qC1 qG0 qG1
  refine (eqBigraph_ct _ _ R1 _ g1.at (rsp1.below k1)).mono ?_
  rintro e w18 ⟨rfl, b⟩
  have z22 : w17.heap.size ≤ w18.heap.size := b.size
  have B1 := B1.below b
  have SP0 := SP0.below b
  have SP1 := SP1.below b
  have C1 := C1.below b
  have G0 := G0.below b
  have G1 := G1.below b
  have g0 := g0.keep (keep_below b (fun p hp => (g0.lt p hp).2))
  have g1 := g1.keep (keep_below b (fun p hp => (g1.lt p hp).2))
  have k1 := bthen k1 b
  have hb := bthen hb b
  clear b
  have qB1 := B1.cell
  have qSP0 := SP0.cell
  have qSP1 := SP1.cell
  have qC1 := C1.cell
  have qG0 := G0.cell
  have qG1 := G1.cell
  go_wp2_with fail
  clear qB1 qSP0 qSP1 qC1 qG0 qG1
  refine (markBigraph_ct _ R0 bsg0 (1) _ _ g0 ndg0 (by omega) (by omega)).mono ?_
  rintro e w19 ⟨rfl, m0, o⟩
  have z23 : w18.heap.size ≤ w19.heap.size := o.size
  have B1 := B1.keep (o.block _ B1.lt (fun h => by have := hg0 _ h; omega))
  have SP0 := SP0.keep (o.block _ SP0.lt (fun h => by have := hg0 _ h; omega))
  have SP1 := SP1.keep (o.block _ SP1.lt (fun h => by have := hg0 _ h; omega))
  have C1 := C1.keep (o.block _ C1.lt (fun h => by have := hg0 _ h; omega))
  have G0 := G0.keep (o.block _ G0.lt (fun h => by have := hg0 _ h; omega))
  have G1 := G1.keep (o.block _ G1.lt (fun h => by have := hg0 _ h; omega))
  have g1 := g1.keep (fun p hp => o.block p (g1.lt p hp).2 (fun h => disg p h hp))
  have hb := hb.trans (o.below (fun p hp => by have := hg0 p hp; omega) (by omega))
  have k1 := k1.trans (o.below (fun p hp => by have := hg0 p hp; omega) (by omega))
  clear o
  have hm0 := hg0
  clear g0
  have qB1 := B1.cell
  have qSP0 := SP0.cell
  have qSP1 := SP1.cell
  have qC1 := C1.cell
  have qG0 := G0.cell
  have qG1 := G1.cell
  go_wp2_with fail
  clear qB1 qSP0 qSP1 qC1 qG0 qG1
  refine (markBigraph_ct _ R1 bsg1 (1 + (cntB R0 : Int)) _ _ g1 ndg1 (by omega) (by omega)).mono ?_
  rintro e w20 ⟨rfl, m1, o⟩
  have z24 : w19.heap.size ≤ w20.heap.size := o.size
  have B1 := B1.keep (o.block _ B1.lt (fun h => by have := hg1 _ h; omega))
  have SP0 := SP0.keep (o.block _ SP0.lt (fun h => by have := hg1 _ h; omega))
  have SP1 := SP1.keep (o.block _ SP1.lt (fun h => by have := hg1 _ h; omega))
  have C1 := C1.keep (o.block _ C1.lt (fun h => by have := hg1 _ h; omega))
  have G0 := G0.keep (o.block _ G0.lt (fun h => by have := hg1 _ h; omega))
  have G1 := G1.keep (o.block _ G1.lt (fun h => by have := hg1 _ h; omega))
  have m0 := m0.keep (fun p hp => o.block p (m0.lt p hp).2 (fun h => disg p hp h))
  have hb := hb.trans (o.below (fun p hp => by have := hg1 p hp; omega) (by omega))
  have k1 := k1.trans (o.below (fun p hp => by have := hg1 p hp; omega) (by omega))
  clear o
  have hm1 := hg1
  clear g1
  have qB1 := B1.cell
  have qSP0 := SP0.cell
  have qSP1 := SP1.cell
  have qC1 := C1.cell
  have qG0 := G0.cell
  have qG1 := G1.cell
  go_wp2_with fail
  clear qB1 qSP0 qSP1 qC1 qG0 qG1
  refine (heldBigraph_ct _ R0 (1) _ m0.at (by omega) (by omega)).mono ?_
  rintro e w21 ⟨rfl, b⟩
  have z25 : w20.heap.size ≤ w21.heap.size := b.size
  have B1 := B1.below b
  have SP0 := SP0.below b
  have SP1 := SP1.below b
  have C1 := C1.below b
  have G0 := G0.below b
  have G1 := G1.below b
  have m0 := m0.keep (keep_below b (fun p hp => (m0.lt p hp).2))
  have m1 := m1.keep (keep_below b (fun p hp => (m1.lt p hp).2))
  have k1 := bthen k1 b
  have hb := bthen hb b
  clear b
  have qB1 := B1.cell
  have qSP0 := SP0.cell
  have qSP1 := SP1.cell
  have qC1 := C1.cell
  have qG0 := G0.cell
  have qG1 := G1.cell
  go_wp2_with fail
  clear qB1 qSP0 qSP1 qC1 qG0 qG1
  refine (heldBigraph_ct _ R1 (1 + (cntB R0 : Int)) _ m1.at (by omega) (by omega)).mono ?_
  rintro e w22 ⟨rfl, b⟩
  have z26 : w21.heap.size ≤ w22.heap.size := b.size
  have B1 := B1.below b
  have SP0 := SP0.below b
  have SP1 := SP1.below b
  have C1 := C1.below b
  have G0 := G0.below b
  have G1 := G1.below b
  have m0 := m0.keep (keep_below b (fun p hp => (m0.lt p hp).2))
  have m1 := m1.keep (keep_below b (fun p hp => (m1.lt p hp).2))
  have k1 := bthen k1 b
  have hb := bthen hb b
  clear b
  have qB1 := B1.cell
  have qSP0 := SP0.cell
  have qSP1 := SP1.cell
  have qC1 := C1.cell
  have qG0 := G0.cell
  have qG1 := G1.cell
  go_wp2_with fail
  clear qB1 qSP0 qSP1 qC1 qG0 qG1
  have lm0 := m0.lt
  have lm1 := m1.lt
  have c1_0 := fun y => gr_cell (w := w22) (B1.cell 0) y
  have c1_1 := fun y => gr_cell (w := w22) (B1.cell 1) y
  have c1_2 := fun y => gr_cell (w := w22) (B1.cell 2) y
  have c1_3 := fun y => gr_cell (w := w22) (B1.cell 3) y
  have c1_4 := fun y => gr_cell (w := w22) (B1.cell 4) y
  have c1_5 := fun y => gr_cell (w := w22) (B1.cell 5) y
  refine rg_region_lates [7, 8] [0, 1, 2, 3, 4, 5, 6, 7, 8, 9, 10] [11, 12, 13] (lo := (.cons _ (.cons _ (.cons _ .nil)))) (by rfl) (tAt 1 (eCtls sig) (tAt 3 (eBig bg) (tAt 4 (eBig2Ok w22.heap.size R0 R1 ok) (tAt 9 (eBox w22.heap.size #[.int .i64 0, .slice none 0 0, .slice none 0 0, .int .i64 0, .slice none 0 0, .slice none 0 0] 34) (tAt 10 (eBox w22.heap.size #[.int .i64 0, .slice none 0 0, .slice none 0 0, .int .i64 0, .slice none 0 0, .slice none 0 0] 34) tNil))))) (by kernel_rfl) (by rfl) (by kernel_rfl) (fun _ _ _ _ _ h => h) ?_
  refine rg_quiet anti_end [0] [1, 2, 3, 4, 5, 6, 7, 8, 9, 10] (lo := (.cons _ .nil)) (by rfl) (by kernel_rfl) ?_
  repeat (go_big_quiet_step (fail))
  refine wpQuiet_nil ?_
  refine rg_call 1 rfl rfl 16 #[v0] ?_ ?_ ?_
  · intro w; simp [go_sem]
  · rintro w' ⟨y, rfl⟩ hd
    refine (toControlS_ct _ sig _ (g0A.below (bthen hb (gr_below _ _)))).mono ?_
    rintro e w1 ⟨u1, rfl, hu1, bb⟩
    exact ⟨_, rfl, bb, hu1.at⟩
  intro v hv
  obtain ⟨kf0a, kf0c, rfl⟩ := hv
  simp only [Act.put, List.setIfInBounds_toArray, List.set_cons_zero, List.set_cons_succ]
  refine rg_quiet anti_end [2] [3, 4, 5, 6, 7, 8, 9, 10] (lo := (.cons _ .nil)) (by rfl) (by kernel_rfl) ?_
  repeat (go_big_quiet_step (fail))
  refine wpQuiet_nil ?_
  refine rg_call 3 rfl rfl 17 #[.agg #[.int .i64 bg.roots, .slice p1_1 bg.nodes.length p1_5, .slice p1_2 bg.sites.length p1_6, .int .i64 bg.edges, .slice p1_3 bg.outer.length p1_7, .slice p1_4 bg.inner.length p1_8]] ?_ ?_ ?_
  · intro w; simp [go_sem]
  · rintro w' ⟨y, rfl⟩ hd
    refine (toBigraph_ct _ bg _ (g1A.below (bthen hb (gr_below _ _)))).mono ?_
    rintro e w1 ⟨u1, bs1, rfl, hu1, _, bb⟩
    exact ⟨_, rfl, bb, hu1.at⟩
  intro v hv
  obtain ⟨kf1_1, kf1_5, kf1_2, kf1_6, kf1_3, kf1_7, kf1_4, kf1_8, rfl⟩ := hv
  simp only [Act.put, List.setIfInBounds_toArray, List.set_cons_zero, List.set_cons_succ]
  refine rg_call 4 rfl rfl 31 #[(.slice kf0a sig.length kf0c), (.agg #[.int .i64 bg.roots, .slice kf1_1 bg.nodes.length kf1_5, .slice kf1_2 bg.sites.length kf1_6, .int .i64 bg.edges, .slice kf1_3 bg.outer.length kf1_7, .slice kf1_4 bg.inner.length kf1_8])] ?_ ?_ ?_
  · intro w; simp [go_sem]
  · rintro w' ⟨y, rfl⟩ hd
    obtain ⟨_, j0⟩ := hd ⟨1, .data⟩ (by simp) rfl _ rfl (by decide) 121 rfl
    have j0 : CtlsAt (gr w22 y) (.slice kf0a sig.length kf0c) sig := j0
    obtain ⟨_, j1⟩ := hd ⟨3, .data⟩ (by simp) rfl _ rfl (by decide) 123 rfl
    have j1 : BigAt (gr w22 y) (.agg #[.int .i64 bg.roots, .slice kf1_1 bg.nodes.length kf1_5, .slice kf1_2 bg.sites.length kf1_6, .int .i64 bg.edges, .slice kf1_3 bg.outer.length kf1_7, .slice kf1_4 bg.inner.length kf1_8]) bg := j1
    refine (HI.out _ _ _ j0 j1).mono ?_
    rintro e w1 ⟨u1, bs1, u2, bs2, rfl, hu1, nd1, hu2, nd2, hd12, bb⟩
    exact ⟨_, rfl, bb, rfl, bs1, bs2, hu1.mono (gr_below _ _).size, nd1, hu2.mono (gr_below _ _).size, nd2, hd12, fun p hp => hu1.lt p hp, fun p hp => hu2.lt p hp⟩
  intro v hv
  obtain ⟨_, _, rfl, ⟨f0_1, f0_5, f0_2, f0_6, f0_3, f0_7, f0_4, f0_8, rfl⟩, ⟨f1_1, f1_5, f1_2, f1_6, f1_3, f1_7, f1_4, f1_8, rfl⟩⟩ := hv
  simp only [Act.put, List.setIfInBounds_toArray, List.set_cons_zero, List.set_cons_succ]
  refine rg_quiet anti_end [5, 6, 7, 8] [9, 10] (lo := (.cons _ (.cons _ (.cons _ (.cons _ .nil))))) (by rfl) (by kernel_rfl) ?_
  repeat (go_big_quiet_step (fail))
  refine wpQuiet_nil ?_
  refine rg_made 9 rfl rfl ?_ ?_
  · rintro w' ⟨y, rfl⟩ hd
    refine ⟨_, _, by simp [go_sem]; exact ⟨rfl, rfl⟩, balloc _ _, rfl, Box.new _ _ _, (gr_below _ _).size, ?_⟩
    exact ⟨Nat.le_refl _, by simp [blkOf]⟩
  intro v hv
  obtain ⟨fg0, rfl⟩ := hv
  simp only [Act.put, List.setIfInBounds_toArray, List.set_cons_zero, List.set_cons_succ]
  refine rg_made 10 rfl rfl ?_ ?_
  · rintro w' ⟨y, rfl⟩ hd
    refine ⟨_, _, by simp [go_sem]; exact ⟨rfl, rfl⟩, balloc _ _, rfl, Box.new _ _ _, (gr_below _ _).size, ?_⟩
    exact ⟨Nat.le_refl _, by simp [blkOf]⟩
  intro v hv
  obtain ⟨fg1, rfl⟩ := hv
  simp only [Act.put, List.setIfInBounds_toArray, List.set_cons_zero, List.set_cons_succ]
  intro w23 _ b hF
  obtain ⟨UA4, UB4, d4, u4, ⟨UA3, UB3, d3, u3, ⟨UA2, UB2, d2, u2, ⟨UA1, UB1, d1, u1, ⟨UA0, UB0, d0, u0, _, _⟩, _⟩, hsp⟩, hal0⟩, hal1⟩ := hF
  have z27 : w22.heap.size ≤ w23.heap.size := b.size
  have B1 := B1.below b
  have SP0 := SP0.below b
  have SP1 := SP1.below b
  have C1 := C1.below b
  have G0 := G0.below b
  have G1 := G1.below b
  have m0 := m0.keep (keep_below b (fun p hp => (m0.lt p hp).2))
  have m1 := m1.keep (keep_below b (fun p hp => (m1.lt p hp).2))
  have k1 := bthen k1 b
  have hb := bthen hb b
  clear b
  obtain ⟨_, bsf0, bsf1, f0, ndf0, f1, ndf1, disf, clf0, clf1⟩ := hsp
  have f0 : BigOwn w22.heap.size w23 (.agg #[.int .i64 R0.roots, .slice f0_1 R0.nodes.length f0_5, .slice f0_2 R0.sites.length f0_6, .int .i64 R0.edges, .slice f0_3 R0.outer.length f0_7, .slice f0_4 R0.inner.length f0_8]) R0 bsf0 := f0
  have f1 : BigOwn w22.heap.size w23 (.agg #[.int .i64 R1.roots, .slice f1_1 R1.nodes.length f1_5, .slice f1_2 R1.sites.length f1_6, .int .i64 R1.edges, .slice f1_3 R1.outer.length f1_7, .slice f1_4 R1.inner.length f1_8]) R1 bsf1 := f1
  obtain ⟨_, F0, mf0, nf0⟩ := hal0
  have F0 : Box w23 fg0 #[.int .i64 0, .slice none 0 0, .slice none 0 0, .int .i64 0, .slice none 0 0, .slice none 0 0] 34 := F0
  have mf0 : w22.heap.size ≤ fg0 := mf0
  have xf0 : ∀ r, UB2 r → r ≠ fg0 := fun r hr e => d3 r ((u2 _).2 (.inr hr)) (e ▸ nf0)
  obtain ⟨_, F1, mf1, nf1⟩ := hal1
  have F1 : Box w23 fg1 #[.int .i64 0, .slice none 0 0, .slice none 0 0, .int .i64 0, .slice none 0 0, .slice none 0 0] 34 := F1
  have mf1 : w22.heap.size ≤ fg1 := mf1
  have xf1 : ∀ r, UB2 r → r ≠ fg1 := fun r hr e => d4 r ((u3 _).2 (.inl ((u2 _).2 (.inr hr)))) (e ▸ nf1)
  have xf01 : fg0 ≠ fg1 := fun e => d4 _ ((u3 _).2 (.inr nf0)) (e ▸ nf1)
  have qa0 := F0.cell
  have qa1 := F1.cell
  have qf0 := F0.free
  have qf1 := F1.free
  have qB1 := B1.cell
  have qSP0 := SP0.cell
  have qSP1 := SP1.cell
  have qC1 := C1.cell
  have qG0 := G0.cell
  have qG1 := G1.cell
  go_wp2_with fail
  clear qB1 qSP0 qSP1 qC1 qG0 qG1
  clear qa0 qf0 qa1 qf1
  obtain ⟨w24, hw24, F0, o⟩ := box_fill F0 (.int .i64 R0.roots) (.slice f0_1 R0.nodes.length f0_5) (.slice f0_2 R0.sites.length f0_6) (.int .i64 R0.edges) (.slice f0_3 R0.outer.length f0_7) (.slice f0_4 R0.inner.length f0_8)
  rw [← hw24]
  clear hw24
  have z28 : w23.heap.size ≤ w24.heap.size := o.size
  have B1 := B1.keep (o.block _ B1.lt (fun h => by have := List.mem_singleton.1 h; omega))
  have SP0 := SP0.keep (o.block _ SP0.lt (fun h => by have := List.mem_singleton.1 h; omega))
  have SP1 := SP1.keep (o.block _ SP1.lt (fun h => by have := List.mem_singleton.1 h; omega))
  have C1 := C1.keep (o.block _ C1.lt (fun h => by have := List.mem_singleton.1 h; omega))
  have G0 := G0.keep (o.block _ G0.lt (fun h => by have := List.mem_singleton.1 h; omega))
  have G1 := G1.keep (o.block _ G1.lt (fun h => by have := List.mem_singleton.1 h; omega))
  have F1 := F1.keep (o.block _ F1.lt (fun h => by have := List.mem_singleton.1 h; omega))
  have m0 := m0.keep (fun p hp => o.block p (m0.lt p hp).2 (fun h => by have := List.mem_singleton.1 h; have := lm0 p hp; omega))
  have m1 := m1.keep (fun p hp => o.block p (m1.lt p hp).2 (fun h => by have := List.mem_singleton.1 h; have := lm1 p hp; omega))
  have f0 := f0.keep (fun p hp => o.block p (f0.lt p hp).2 (fun h => xf0 p (clf0 p hp) (List.mem_singleton.1 h)))
  have f1 := f1.keep (fun p hp => o.block p (f1.lt p hp).2 (fun h => xf0 p (clf1 p hp) (List.mem_singleton.1 h)))
  have hb := hb.trans (o.below (fun p hp => by have := List.mem_singleton.1 hp; omega) (by omega))
  have k1 := k1.trans (o.below (fun p hp => by have := List.mem_singleton.1 hp; omega) (by omega))
  clear o
  obtain ⟨w25, hw25, F1, o⟩ := box_fill F1 (.int .i64 R1.roots) (.slice f1_1 R1.nodes.length f1_5) (.slice f1_2 R1.sites.length f1_6) (.int .i64 R1.edges) (.slice f1_3 R1.outer.length f1_7) (.slice f1_4 R1.inner.length f1_8)
  rw [← hw25]
  clear hw25
  have z29 : w24.heap.size ≤ w25.heap.size := o.size
  have B1 := B1.keep (o.block _ B1.lt (fun h => by have := List.mem_singleton.1 h; omega))
  have SP0 := SP0.keep (o.block _ SP0.lt (fun h => by have := List.mem_singleton.1 h; omega))
  have SP1 := SP1.keep (o.block _ SP1.lt (fun h => by have := List.mem_singleton.1 h; omega))
  have C1 := C1.keep (o.block _ C1.lt (fun h => by have := List.mem_singleton.1 h; omega))
  have G0 := G0.keep (o.block _ G0.lt (fun h => by have := List.mem_singleton.1 h; omega))
  have G1 := G1.keep (o.block _ G1.lt (fun h => by have := List.mem_singleton.1 h; omega))
  have F0 := F0.keep (o.block _ F0.lt (fun h => by have := List.mem_singleton.1 h; omega))
  have m0 := m0.keep (fun p hp => o.block p (m0.lt p hp).2 (fun h => by have := List.mem_singleton.1 h; have := lm0 p hp; omega))
  have m1 := m1.keep (fun p hp => o.block p (m1.lt p hp).2 (fun h => by have := List.mem_singleton.1 h; have := lm1 p hp; omega))
  have f0 := f0.keep (fun p hp => o.block p (f0.lt p hp).2 (fun h => xf1 p (clf0 p hp) (List.mem_singleton.1 h)))
  have f1 := f1.keep (fun p hp => o.block p (f1.lt p hp).2 (fun h => xf1 p (clf1 p hp) (List.mem_singleton.1 h)))
  have hb := hb.trans (o.below (fun p hp => by have := List.mem_singleton.1 hp; omega) (by omega))
  have k1 := k1.trans (o.below (fun p hp => by have := List.mem_singleton.1 hp; omega) (by omega))
  clear o
  have ltf0 : fg0 < w25.heap.size := F0.lt
  have ltf1 : fg1 < w25.heap.size := F1.lt
  have rf0 := f0.at
  have rf1 := f1.at
  clear f0 ndf0 f1 ndf1
  refine (eqBigraph_ct _ _ R0 _ rf0 (rsp0.below k1)).mono ?_
  rintro e w26 ⟨rfl, b⟩
  have z30 : w25.heap.size ≤ w26.heap.size := b.size
  have B1 := B1.below b
  have SP0 := SP0.below b
  have SP1 := SP1.below b
  have C1 := C1.below b
  have G0 := G0.below b
  have G1 := G1.below b
  have F0 := F0.below b
  have F1 := F1.below b
  have rf0 := rf0.below b
  have rf1 := rf1.below b
  have m0 := m0.keep (keep_below b (fun p hp => (m0.lt p hp).2))
  have m1 := m1.keep (keep_below b (fun p hp => (m1.lt p hp).2))
  have k1 := bthen k1 b
  have hb := bthen hb b
  clear b
  have qB1 := B1.cell
  have qSP0 := SP0.cell
  have qSP1 := SP1.cell
  have qC1 := C1.cell
  have qG0 := G0.cell
  have qG1 := G1.cell
  have qF0 := F0.cell
  have qF1 := F1.cell
  go_wp2_with fail
  clear qB1 qSP0 qSP1 qC1 qG0 qG1 qF0 qF1
  refine (eqBigraph_ct _ _ R1 _ rf1 (rsp1.below k1)).mono ?_
  rintro e w27 ⟨rfl, b⟩
  have z31 : w26.heap.size ≤ w27.heap.size := b.size
  have B1 := B1.below b
  have SP0 := SP0.below b
  have SP1 := SP1.below b
  have C1 := C1.below b
  have G0 := G0.below b
  have G1 := G1.below b
  have F0 := F0.below b
  have F1 := F1.below b
  have rf1 := rf1.below b
  have m0 := m0.keep (keep_below b (fun p hp => (m0.lt p hp).2))
  have m1 := m1.keep (keep_below b (fun p hp => (m1.lt p hp).2))
  have k1 := bthen k1 b
  have hb := bthen hb b
  clear b
  have qB1 := B1.cell
  have qSP0 := SP0.cell
  have qSP1 := SP1.cell
  have qC1 := C1.cell
  have qG0 := G0.cell
  have qG1 := G1.cell
  have qF0 := F0.cell
  have qF1 := F1.cell
  go_wp2_with fail
  clear qB1 qSP0 qSP1 qC1 qG0 qG1 qF0 qF1
  refine (heldBigraph_ct _ R0 (1) _ m0.at (by omega) (by omega)).mono ?_
  rintro e w28 ⟨rfl, b⟩
  have z32 : w27.heap.size ≤ w28.heap.size := b.size
  have B1 := B1.below b
  have SP0 := SP0.below b
  have SP1 := SP1.below b
  have C1 := C1.below b
  have G0 := G0.below b
  have G1 := G1.below b
  have F0 := F0.below b
  have F1 := F1.below b
  have m0 := m0.keep (keep_below b (fun p hp => (m0.lt p hp).2))
  have m1 := m1.keep (keep_below b (fun p hp => (m1.lt p hp).2))
  have k1 := bthen k1 b
  have hb := bthen hb b
  clear b
  have qB1 := B1.cell
  have qSP0 := SP0.cell
  have qSP1 := SP1.cell
  have qC1 := C1.cell
  have qG0 := G0.cell
  have qG1 := G1.cell
  have qF0 := F0.cell
  have qF1 := F1.cell
  go_wp2_with fail
  clear qB1 qSP0 qSP1 qC1 qG0 qG1 qF0 qF1
  refine (heldBigraph_ct _ R1 (1 + (cntB R0 : Int)) _ m1.at (by omega) (by omega)).mono ?_
  rintro e w29 ⟨rfl, b⟩
  have z33 : w28.heap.size ≤ w29.heap.size := b.size
  have B1 := B1.below b
  have SP0 := SP0.below b
  have SP1 := SP1.below b
  have C1 := C1.below b
  have G0 := G0.below b
  have G1 := G1.below b
  have F0 := F0.below b
  have F1 := F1.below b
  have m0 := m0.keep (keep_below b (fun p hp => (m0.lt p hp).2))
  have m1 := m1.keep (keep_below b (fun p hp => (m1.lt p hp).2))
  have k1 := bthen k1 b
  have hb := bthen hb b
  clear b
  have qB1 := B1.cell
  have qSP0 := SP0.cell
  have qSP1 := SP1.cell
  have qC1 := C1.cell
  have qG0 := G0.cell
  have qG1 := G1.cell
  have qF0 := F0.cell
  have qF1 := F1.cell
  go_wp2_with fail
  go_ret
  exact ⟨rfl, hb⟩
end Go.Proofs.YthbdmcobpcoajaaGreatDoor
