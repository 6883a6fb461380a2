import Derived.Test.YthgelhglfbgagaaGreatDoorCmpS
import Derived.Test.YthgelhglfbgagaaGreatDoorCmpI
import Derived.Test.YthgelhglfbgagaaGreatDoorG1
import Derived.Test.YthgelhglfbgagaaGreatDoorG4
import Derived.Test.YthgelhglfbgagaaGreatDoorHeld
import Derived.Test.YthgelhglfbgagaaGreatDoorG5
import Derived.Test.YthgelhglfbgagaaGreatDoorG6
import Derived.Deep.RegionHeld3
namespace Go.Proofs.YthgelhglfbgagaaGreatDoor
open Go Go.RowKit Go.BigFrame

set_option maxRecDepth 100000 in
set_option maxHeartbeats 16000000 in
theorem lawComposeWirings (v0 : Value) (sig : List Ctl) (v1 : Value) (ba : Big) (v2 : Value) (bb : Big) (w : World) (h0 : CtlsM 9223372036854775807 w v0 sig) (h1 : BigM 9223372036854775807 w v1 ba) (h2 : BigM 9223372036854775807 w v2 bb) : Calls Tryz.prog 4 #[v0, v1, v2] w fun e w' => e = .returned (.bool true) ∧ Below w.heap.size w w' := by
  obtain ⟨p1_1, p1_5, p1_2, p1_6, p1_3, p1_7, p1_4, p1_8, rfl⟩ := h1.mshape
  obtain ⟨p2_1, p2_5, p2_2, p2_6, p2_3, p2_7, p2_4, p2_8, rfl⟩ := h2.mshape
  by_cases t0 : totC sig ≤ 1048576
  case neg =>
    go_enter Tryz.func4, Tryz.ntmps4
    go_wp2_with fail
    obtain ⟨W0, hW0⟩ : ∃ W, W = (w.alloc (.cells #[.int .i64 ba.roots, .slice p1_1 ba.nodes.length p1_5, .slice p1_2 ba.sites.length p1_6, .int .i64 ba.edges, .slice p1_3 ba.outer.length p1_7, .slice p1_4 ba.inner.length p1_8] 42)).alloc (.cells #[.int .i64 bb.roots, .slice p2_1 bb.nodes.length p2_5, .slice p2_2 bb.sites.length p2_6, .int .i64 bb.edges, .slice p2_3 bb.outer.length p2_7, .slice p2_4 bb.inner.length p2_8] 42) := ⟨_, rfl⟩
    rw [← hW0]
    have hb : Below w.heap.size w W0 := by rw [hW0]; exact bthen (balloc _ _) (balloc _ _)
    have B1 : Box W0 w.heap.size #[.int .i64 ba.roots, .slice p1_1 ba.nodes.length p1_5, .slice p1_2 ba.sites.length p1_6, .int .i64 ba.edges, .slice p1_3 ba.outer.length p1_7, .slice p1_4 ba.inner.length p1_8] 42 := by rw [hW0]; exact (Box.new _ _ _).alloc _
    have B2 : Box W0 (w.heap.size + 1) #[.int .i64 bb.roots, .slice p2_1 bb.nodes.length p2_5, .slice p2_2 bb.sites.length p2_6, .int .i64 bb.edges, .slice p2_3 bb.outer.length p2_7, .slice p2_4 bb.inner.length p2_8] 42 := by rw [hW0]; exact Box.new' _ _ _ (by simp)
    clear hW0
    refine (szControlS_ct _ sig (1048576) _ (-1) (by show _ = _; unfold left; rw [if_pos (by omega)]) (h0.below hb) (by omega) (by omega)).mono ?_
    rintro e w1 ⟨rfl, b⟩
    have B1 := B1.below b
    have B2 := B2.below b
    have hb := bthen hb b
    clear b
    have qB1 := B1.cell
    have qB2 := B2.cell
    go_wp2_with fail
    go_ret
    exact ⟨rfl, hb⟩
  by_cases t1 : totC sig + totB ba ≤ 1048576
  case neg =>
    go_enter Tryz.func4, Tryz.ntmps4
    go_wp2_with fail
    obtain ⟨W0, hW0⟩ : ∃ W, W = (w.alloc (.cells #[.int .i64 ba.roots, .slice p1_1 ba.nodes.length p1_5, .slice p1_2 ba.sites.length p1_6, .int .i64 ba.edges, .slice p1_3 ba.outer.length p1_7, .slice p1_4 ba.inner.length p1_8] 42)).alloc (.cells #[.int .i64 bb.roots, .slice p2_1 bb.nodes.length p2_5, .slice p2_2 bb.sites.length p2_6, .int .i64 bb.edges, .slice p2_3 bb.outer.length p2_7, .slice p2_4 bb.inner.length p2_8] 42) := ⟨_, rfl⟩
    rw [← hW0]
    have hb : Below w.heap.size w W0 := by rw [hW0]; exact bthen (balloc _ _) (balloc _ _)
    have B1 : Box W0 w.heap.size #[.int .i64 ba.roots, .slice p1_1 ba.nodes.length p1_5, .slice p1_2 ba.sites.length p1_6, .int .i64 ba.edges, .slice p1_3 ba.outer.length p1_7, .slice p1_4 ba.inner.length p1_8] 42 := by rw [hW0]; exact (Box.new _ _ _).alloc _
    have B2 : Box W0 (w.heap.size + 1) #[.int .i64 bb.roots, .slice p2_1 bb.nodes.length p2_5, .slice p2_2 bb.sites.length p2_6, .int .i64 bb.edges, .slice p2_3 bb.outer.length p2_7, .slice p2_4 bb.inner.length p2_8] 42 := by rw [hW0]; exact Box.new' _ _ _ (by simp)
    clear hW0
    refine (szControlS_ct _ sig (1048576) _ (1048576 - (totC sig : Int)) (by show _ = _; unfold left; rw [if_neg (by omega)]) (h0.below hb) (by omega) (by omega)).mono ?_
    rintro e w1 ⟨rfl, b⟩
    have B1 := B1.below b
    have B2 := B2.below b
    have hb := bthen hb b
    clear b
    have qB1 := B1.cell
    have qB2 := B2.cell
    go_wp2_with fail
    clear qB1 qB2
    refine (szBigraph_ct _ ba (1048576 - (totC sig : Int)) _ (-1) (by show _ = _; unfold left; rw [if_pos (by omega)]) (h1.below hb) (by omega) (by omega)).mono ?_
    rintro e w2 ⟨rfl, b⟩
    have B1 := B1.below b
    have B2 := B2.below b
    have hb := bthen hb b
    clear b
    have qB1 := B1.cell
    have qB2 := B2.cell
    go_wp2_with fail
    go_ret
    exact ⟨rfl, hb⟩
  by_cases t2 : totC sig + totB ba + totB bb ≤ 1048576
  case neg =>
    go_enter Tryz.func4, Tryz.ntmps4
    go_wp2_with fail
    obtain ⟨W0, hW0⟩ : ∃ W, W = (w.alloc (.cells #[.int .i64 ba.roots, .slice p1_1 ba.nodes.length p1_5, .slice p1_2 ba.sites.length p1_6, .int .i64 ba.edges, .slice p1_3 ba.outer.length p1_7, .slice p1_4 ba.inner.length p1_8] 42)).alloc (.cells #[.int .i64 bb.roots, .slice p2_1 bb.nodes.length p2_5, .slice p2_2 bb.sites.length p2_6, .int .i64 bb.edges, .slice p2_3 bb.outer.length p2_7, .slice p2_4 bb.inner.length p2_8] 42) := ⟨_, rfl⟩
    rw [← hW0]
    have hb : Below w.heap.size w W0 := by rw [hW0]; exact bthen (balloc _ _) (balloc _ _)
    have B1 : Box W0 w.heap.size #[.int .i64 ba.roots, .slice p1_1 ba.nodes.length p1_5, .slice p1_2 ba.sites.length p1_6, .int .i64 ba.edges, .slice p1_3 ba.outer.length p1_7, .slice p1_4 ba.inner.length p1_8] 42 := by rw [hW0]; exact (Box.new _ _ _).alloc _
    have B2 : Box W0 (w.heap.size + 1) #[.int .i64 bb.roots, .slice p2_1 bb.nodes.length p2_5, .slice p2_2 bb.sites.length p2_6, .int .i64 bb.edges, .slice p2_3 bb.outer.length p2_7, .slice p2_4 bb.inner.length p2_8] 42 := by rw [hW0]; exact Box.new' _ _ _ (by simp)
    clear hW0
    refine (szControlS_ct _ sig (1048576) _ (1048576 - (totC sig : Int)) (by show _ = _; unfold left; rw [if_neg (by omega)]) (h0.below hb) (by omega) (by omega)).mono ?_
    rintro e w1 ⟨rfl, b⟩
    have B1 := B1.below b
    have B2 := B2.below b
    have hb := bthen hb b
    clear b
    have qB1 := B1.cell
    have qB2 := B2.cell
    go_wp2_with fail
    clear qB1 qB2
    refine (szBigraph_ct _ ba (1048576 - (totC sig : Int)) _ (1048576 - (totC sig : Int) - (totB ba : Int)) (by show _ = _; unfold left; rw [if_neg (by omega)]) (h1.below hb) (by omega) (by omega)).mono ?_
    rintro e w2 ⟨rfl, b⟩
    have B1 := B1.below b
    have B2 := B2.below b
    have hb := bthen hb b
    clear b
    have qB1 := B1.cell
    have qB2 := B2.cell
    go_wp2_with fail
    clear qB1 qB2
    refine (szBigraph_ct _ bb (1048576 - (totC sig : Int) - (totB ba : Int)) _ (-1) (by show _ = _; unfold left; rw [if_pos (by omega)]) (h2.below hb) (by omega) (by omega)).mono ?_
    rintro e w3 ⟨rfl, b⟩
    have B1 := B1.below b
    have B2 := B2.below b
    have hb := bthen hb b
    clear b
    have qB1 := B1.cell
    have qB2 := B2.cell
    go_wp2_with fail
    go_ret
    exact ⟨rfl, hb⟩
  obtain ⟨R0, ok, hss, hi, hR⟩ : ∃ (R0 : Big) (ok : Bool), (∀ v0 v1 v2 W, CtlsAt W v0 sig → BigAt W v1 ba → BigAt W v2 bb → Calls Tryz.prog 15 #[v0, v1, v2] W (GivesBig R0 ok W)) ∧ (∀ v0 v1 v2 W, CtlsAt W v0 sig → BigAt W v1 ba → BigAt W v2 bb → Calls Tryz.prog 17 #[v0, v1, v2] W (GivesBig R0 ok W)) ∧ (((cntB R0 : Int) ≤ 100000000)) :=
    ⟨cmpP sig ba bb, cmpC sig ba bb, fun v0 v1 v2 W h0 h1 h2 => specComposeWirings_ct v0 v1 v2 sig ba bb W h0 h1 h2, fun v0 v1 v2 W h0 h1 h2 => implComposeWirings_ct v0 v1 v2 sig ba bb W h0 h1 h2, cmpP_len sig ba bb⟩
  have HS : Hid _ := hss
  have HI : Hid _ := hi
  clear hss hi
  have g0A : CtlsAt w v0 sig := h0.small (by omega)
  have c0 := totC_ge sig
  have g1A : BigAt w (.agg #[.int .i64 ba.roots, .slice p1_1 ba.nodes.length p1_5, .slice p1_2 ba.sites.length p1_6, .int .i64 ba.edges, .slice p1_3 ba.outer.length p1_7, .slice p1_4 ba.inner.length p1_8]) ba := h1.small (by omega)
  have c1 := cntB_le ba
  have g2A : BigAt w (.agg #[.int .i64 bb.roots, .slice p2_1 bb.nodes.length p2_5, .slice p2_2 bb.sites.length p2_6, .int .i64 bb.edges, .slice p2_3 bb.outer.length p2_7, .slice p2_4 bb.inner.length p2_8]) bb := h2.small (by omega)
  have c2 := cntB_le bb
  go_enter Tryz.func4, Tryz.ntmps4
  go_wp2_with fail
  obtain ⟨W0, hW0⟩ : ∃ W, W = (w.alloc (.cells #[.int .i64 ba.roots, .slice p1_1 ba.nodes.length p1_5, .slice p1_2 ba.sites.length p1_6, .int .i64 ba.edges, .slice p1_3 ba.outer.length p1_7, .slice p1_4 ba.inner.length p1_8] 42)).alloc (.cells #[.int .i64 bb.roots, .slice p2_1 bb.nodes.length p2_5, .slice p2_2 bb.sites.length p2_6, .int .i64 bb.edges, .slice p2_3 bb.outer.length p2_7, .slice p2_4 bb.inner.length p2_8] 42) := ⟨_, rfl⟩
  rw [← hW0]
  have hb : Below w.heap.size w W0 := by rw [hW0]; exact bthen (balloc _ _) (balloc _ _)
  have B1 : Box W0 w.heap.size #[.int .i64 ba.roots, .slice p1_1 ba.nodes.length p1_5, .slice p1_2 ba.sites.length p1_6, .int .i64 ba.edges, .slice p1_3 ba.outer.length p1_7, .slice p1_4 ba.inner.length p1_8] 42 := by rw [hW0]; exact (Box.new _ _ _).alloc _
  have B2 : Box W0 (w.heap.size + 1) #[.int .i64 bb.roots, .slice p2_1 bb.nodes.length p2_5, .slice p2_2 bb.sites.length p2_6, .int .i64 bb.edges, .slice p2_3 bb.outer.length p2_7, .slice p2_4 bb.inner.length p2_8] 42 := by rw [hW0]; exact Box.new' _ _ _ (by simp)
  clear hW0
  have z0 : w.heap.size + 2 ≤ W0.heap.size := by have := B2.lt; omega
  refine (szControlS_ct _ sig (1048576) _ (1048576 - (totC sig : Int)) (by show _ = _; unfold left; rw [if_neg (by omega)]) (h0.below hb) (by omega) (by omega)).mono ?_
  rintro e w1 ⟨rfl, b⟩
  have z1 : W0.heap.size ≤ w1.heap.size := b.size
  have B1 := B1.below b
  have B2 := B2.below b
  have hb := bthen hb b
  clear b
  have qB1 := B1.cell
  have qB2 := B2.cell
  go_wp2_with fail
  clear qB1 qB2
  refine (szBigraph_ct _ ba (1048576 - (totC sig : Int)) _ (1048576 - (totC sig : Int) - (totB ba : Int)) (by show _ = _; unfold left; rw [if_neg (by omega)]) (h1.below hb) (by omega) (by omega)).mono ?_
  rintro e w2 ⟨rfl, b⟩
  have z2 : w1.heap.size ≤ w2.heap.size := b.size
  have B1 := B1.below b
  have B2 := B2.below b
  have hb := bthen hb b
  clear b
  have qB1 := B1.cell
  have qB2 := B2.cell
  go_wp2_with fail
  clear qB1 qB2
  refine (szBigraph_ct _ bb (1048576 - (totC sig : Int) - (totB ba : Int)) _ (1048576 - (totC sig : Int) - (totB ba : Int) - (totB bb : Int)) (by show _ = _; unfold left; rw [if_neg (by omega)]) (h2.below hb) (by omega) (by omega)).mono ?_
  rintro e w3 ⟨rfl, b⟩
  have z3 : w2.heap.size ≤ w3.heap.size := b.size
  have B1 := B1.below b
  have B2 := B2.below b
  have hb := bthen hb b
  clear b
  have qB1 := B1.cell
  have qB2 := B2.cell
  go_wp2_with fail
  clear qB1 qB2
  have c1_0 := fun y => gr_cell (w := w3) (B1.cell 0) y
  have c1_1 := fun y => gr_cell (w := w3) (B1.cell 1) y
  have c1_2 := fun y => gr_cell (w := w3) (B1.cell 2) y
  have c1_3 := fun y => gr_cell (w := w3) (B1.cell 3) y
  have c1_4 := fun y => gr_cell (w := w3) (B1.cell 4) y
  have c1_5 := fun y => gr_cell (w := w3) (B1.cell 5) y
  have c2_0 := fun y => gr_cell (w := w3) (B2.cell 0) y
  have c2_1 := fun y => gr_cell (w := w3) (B2.cell 1) y
  have c2_2 := fun y => gr_cell (w := w3) (B2.cell 2) y
  have c2_3 := fun y => gr_cell (w := w3) (B2.cell 3) y
  have c2_4 := fun y => gr_cell (w := w3) (B2.cell 4) y
  have c2_5 := fun y => gr_cell (w := w3) (B2.cell 5) y
  refine rg_region_late 9 [0, 1, 2, 3, 4, 5, 6, 7, 8, 9, 10] [11, 12] (lo := (.cons _ (.cons _ .nil))) (by rfl) (tAt 1 (eCtls sig) (tAt 3 (eBig ba) (tAt 5 (eBig bb) (tAt 6 (eBigOk w3.heap.size R0 ok) (tAt 10 (eBox w3.heap.size #[.int .i64 0, .slice none 0 0, .slice none 0 0, .int .i64 0, .slice none 0 0, .slice none 0 0] 29) tNil))))) (by kernel_rfl) (by rfl) (by kernel_rfl) (fun _ _ _ _ _ h => h) ?_
  refine rg_quiet anti_end [0] [1, 2, 3, 4, 5, 6, 7, 8, 9, 10] (lo := (.cons _ .nil)) (by rfl) (by kernel_rfl) ?_
  repeat (go_big_quiet_step (fail))
  refine wpQuiet_nil ?_
  refine rg_call 1 rfl rfl 7 #[v0] ?_ ?_ ?_
  · intro w; simp [go_sem]
  · rintro w' ⟨y, rfl⟩ hd
    refine (toControlS_ct _ sig _ (g0A.below (bthen hb (gr_below _ _)))).mono ?_
    rintro e w1 ⟨u1, rfl, hu1, bb⟩
    exact ⟨_, rfl, bb, hu1.at⟩
  intro v hv
  obtain ⟨kp0a, kp0c, rfl⟩ := hv
  simp only [Act.put, List.setIfInBounds_toArray, List.set_cons_zero, List.set_cons_succ]
  refine rg_quiet anti_end [2] [3, 4, 5, 6, 7, 8, 9, 10] (lo := (.cons _ .nil)) (by rfl) (by kernel_rfl) ?_
  repeat (go_big_quiet_step (fail))
  refine wpQuiet_nil ?_
  refine rg_call 3 rfl rfl 16 #[.agg #[.int .i64 ba.roots, .slice p1_1 ba.nodes.length p1_5, .slice p1_2 ba.sites.length p1_6, .int .i64 ba.edges, .slice p1_3 ba.outer.length p1_7, .slice p1_4 ba.inner.length p1_8]] ?_ ?_ ?_
  · intro w; simp [go_sem]
  · rintro w' ⟨y, rfl⟩ hd
    refine (toBigraph_ct _ ba _ (g1A.below (bthen hb (gr_below _ _)))).mono ?_
    rintro e w1 ⟨u1, bs1, rfl, hu1, _, bb⟩
    exact ⟨_, rfl, bb, hu1.at⟩
  intro v hv
  obtain ⟨kp1_1, kp1_5, kp1_2, kp1_6, kp1_3, kp1_7, kp1_4, kp1_8, rfl⟩ := hv
  simp only [Act.put, List.setIfInBounds_toArray, List.set_cons_zero, List.set_cons_succ]
  refine rg_quiet anti_end [4] [5, 6, 7, 8, 9, 10] (lo := (.cons _ .nil)) (by rfl) (by kernel_rfl) ?_
  repeat (go_big_quiet_step (fail))
  refine wpQuiet_nil ?_
  refine rg_call 5 rfl rfl 16 #[.agg #[.int .i64 bb.roots, .slice p2_1 bb.nodes.length p2_5, .slice p2_2 bb.sites.length p2_6, .int .i64 bb.edges, .slice p2_3 bb.outer.length p2_7, .slice p2_4 bb.inner.length p2_8]] ?_ ?_ ?_
  · intro w; simp [go_sem]
  · rintro w' ⟨y, rfl⟩ hd
    refine (toBigraph_ct _ bb _ (g2A.below (bthen hb (gr_below _ _)))).mono ?_
    rintro e w1 ⟨u1, bs1, rfl, hu1, _, bb⟩
    exact ⟨_, rfl, bb, hu1.at⟩
  intro v hv
  obtain ⟨kp2_1, kp2_5, kp2_2, kp2_6, kp2_3, kp2_7, kp2_4, kp2_8, rfl⟩ := hv
  simp only [Act.put, List.setIfInBounds_toArray, List.set_cons_zero, List.set_cons_succ]
  refine rg_call 6 rfl rfl 15 #[(.slice kp0a sig.length kp0c), (.agg #[.int .i64 ba.roots, .slice kp1_1 ba.nodes.length kp1_5, .slice kp1_2 ba.sites.length kp1_6, .int .i64 ba.edges, .slice kp1_3 ba.outer.length kp1_7, .slice kp1_4 ba.inner.length kp1_8]), (.agg #[.int .i64 bb.roots, .slice kp2_1 bb.nodes.length kp2_5, .slice kp2_2 bb.sites.length kp2_6, .int .i64 bb.edges, .slice kp2_3 bb.outer.length kp2_7, .slice kp2_4 bb.inner.length kp2_8])] ?_ ?_ ?_
  · intro w; simp [go_sem]
  · rintro w' ⟨y, rfl⟩ hd
    obtain ⟨_, j0⟩ := hd ⟨1, .data⟩ (by simp) rfl _ rfl (by decide) 37 rfl
    have j0 : CtlsAt (gr w3 y) (.slice kp0a sig.length kp0c) sig := j0
    obtain ⟨_, j1⟩ := hd ⟨3, .data⟩ (by simp) rfl _ rfl (by decide) 39 rfl
    have j1 : BigAt (gr w3 y) (.agg #[.int .i64 ba.roots, .slice kp1_1 ba.nodes.length kp1_5, .slice kp1_2 ba.sites.length kp1_6, .int .i64 ba.edges, .slice kp1_3 ba.outer.length kp1_7, .slice kp1_4 ba.inner.length kp1_8]) ba := j1
    obtain ⟨_, j2⟩ := hd ⟨5, .data⟩ (by simp) rfl _ rfl (by decide) 41 rfl
    have j2 : BigAt (gr w3 y) (.agg #[.int .i64 bb.roots, .slice kp2_1 bb.nodes.length kp2_5, .slice kp2_2 bb.sites.length kp2_6, .int .i64 bb.edges, .slice kp2_3 bb.outer.length kp2_7, .slice kp2_4 bb.inner.length kp2_8]) bb := j2
    refine (HS.out _ _ _ _ j0 j1 j2).mono ?_
    rintro e w1 ⟨u1, bs1, rfl, hu1, nd1, bb⟩
    exact ⟨_, rfl, bb, rfl, bs1, hu1.mono (gr_below _ _).size, nd1, fun p hp => hu1.lt p hp⟩
  intro v hv
  obtain ⟨_, rfl, p0_1, p0_5, p0_2, p0_6, p0_3, p0_7, p0_4, p0_8, rfl⟩ := hv
  simp only [Act.put, List.setIfInBounds_toArray, List.set_cons_zero, List.set_cons_succ]
  refine rg_quiet anti_end [7, 8, 9] [10] (lo := (.cons _ (.cons _ (.cons _ .nil)))) (by rfl) (by kernel_rfl) ?_
  repeat (go_big_quiet_step (fail))
  refine wpQuiet_nil ?_
  refine rg_made 10 rfl rfl ?_ ?_
  · rintro w' ⟨y, rfl⟩ hd
    refine ⟨_, _, by simp [go_sem]; exact ⟨rfl, rfl⟩, balloc _ _, rfl, Box.new _ _ _, (gr_below _ _).size, ?_⟩
    exact ⟨Nat.le_refl _, by simp [blkOf]⟩
  intro v hv
  obtain ⟨pg0, rfl⟩ := hv
  simp only [Act.put, List.setIfInBounds_toArray, List.set_cons_zero, List.set_cons_succ]
  intro w4 _ b hF
  obtain ⟨UA4, UB4, d4, u4, ⟨UA3, UB3, d3, u3, ⟨UA2, UB2, d2, u2, ⟨UA1, UB1, d1, u1, ⟨UA0, UB0, d0, u0, _, _⟩, _⟩, _⟩, hsp⟩, hal0⟩ := hF
  have z4 : w3.heap.size ≤ w4.heap.size := b.size
  have B1 := B1.below b
  have B2 := B2.below b
  have hb := bthen hb b
  clear b
  obtain ⟨bsp0, p0, ndp0, clp0⟩ : gBig w3.heap.size R0 (.agg #[.int .i64 R0.roots, .slice p0_1 R0.nodes.length p0_5, .slice p0_2 R0.sites.length p0_6, .int .i64 R0.edges, .slice p0_3 R0.outer.length p0_7, .slice p0_4 R0.inner.length p0_8]) _ _ := hsp.2
  clear hsp
  obtain ⟨_, P0, mp0, np0⟩ := hal0
  have P0 : Box w4 pg0 #[.int .i64 0, .slice none 0 0, .slice none 0 0, .int .i64 0, .slice none 0 0, .slice none 0 0] 29 := P0
  have mp0 : w3.heap.size ≤ pg0 := mp0
  have xp0 : ∀ r, UB3 r → r ≠ pg0 := fun r hr e => d4 r ((u3 _).2 (.inr hr)) (e ▸ np0)
  have qa0 := P0.cell
  have qf0 := P0.free
  have qB1 := B1.cell
  have qB2 := B2.cell
  go_wp2_with fail
  clear qB1 qB2
  clear qa0 qf0
  obtain ⟨w5, hw5, P0, o⟩ := box_fill P0 (.int .i64 R0.roots) (.slice p0_1 R0.nodes.length p0_5) (.slice p0_2 R0.sites.length p0_6) (.int .i64 R0.edges) (.slice p0_3 R0.outer.length p0_7) (.slice p0_4 R0.inner.length p0_8)
  rw [← hw5]
  clear hw5
  have z5 : w4.heap.size ≤ w5.heap.size := o.size
  have B1 := B1.keep (o.block _ B1.lt (fun h => by have := List.mem_singleton.1 h; omega))
  have B2 := B2.keep (o.block _ B2.lt (fun h => by have := List.mem_singleton.1 h; omega))
  have p0 := p0.keep (fun p hp => o.block p (p0.lt p hp).2 (fun h => xp0 p (clp0 p hp) (List.mem_singleton.1 h)))
  have hb := hb.trans (o.below (fun p hp => by have := List.mem_singleton.1 hp; omega) (by omega))
  clear o
  have ltp0 : pg0 < w5.heap.size := P0.lt
  have rp0 := p0.at
  clear p0 ndp0
  obtain ⟨W1, hW1⟩ : ∃ W, W = w5 := ⟨_, rfl⟩
  have k1 : Below W1.heap.size W1 w5 := by rw [hW1]; exact Below.refl _ _
  rw [← hW1] at rp0
  have y1 : W1.heap.size ≤ w5.heap.size := by rw [hW1]; exact Nat.le_refl _
  have y2 : w5.heap.size ≤ W1.heap.size := by rw [hW1]; exact Nat.le_refl _
  clear hW1
  have qB1 := B1.cell
  have qB2 := B2.cell
  have qP0 := P0.cell
  go_wp2_with fail
  clear qB1 qB2 qP0
  refine (toControlS_ct _ sig _ (g0A.below hb)).mono ?_
  rintro e w6 ⟨ux0, rfl, x0, b⟩
  obtain ⟨xa0, xc0, rfl⟩ := x0.shp
  have hx0 := x0.lt
  have z6 : w5.heap.size ≤ w6.heap.size := b.size
  have B1 := B1.below b
  have B2 := B2.below b
  have P0 := P0.below b
  have k1 := bthen k1 b
  have hb := bthen hb b
  clear b
  have qB1 := B1.cell
  have qB2 := B2.cell
  have qP0 := P0.cell
  go_wp2_with fail
  clear qB1 qB2 qP0
  refine (toBigraph_ct _ ba _ (g1A.below hb)).mono ?_
  rintro e w7 ⟨ux1, bsx1, rfl, x1, ndx1, b⟩
  obtain ⟨d1_1, d1_5, d1_2, d1_6, d1_3, d1_7, d1_4, d1_8, rfl⟩ := x1.at.shape
  have hx1 := x1.lt
  have z7 : w6.heap.size ≤ w7.heap.size := b.size
  have B1 := B1.below b
  have B2 := B2.below b
  have P0 := P0.below b
  have x0 := x0.keep (keep_below b (fun p hp => (x0.lt p hp).2))
  have k1 := bthen k1 b
  have hb := bthen hb b
  clear b
  have qaB1 := (B1.alloc (.cells #[.int .i64 ba.roots, .slice d1_1 ba.nodes.length d1_5, .slice d1_2 ba.sites.length d1_6, .int .i64 ba.edges, .slice d1_3 ba.outer.length d1_7, .slice d1_4 ba.inner.length d1_8] 29)).cell
  have qaB2 := (B2.alloc (.cells #[.int .i64 ba.roots, .slice d1_1 ba.nodes.length d1_5, .slice d1_2 ba.sites.length d1_6, .int .i64 ba.edges, .slice d1_3 ba.outer.length d1_7, .slice d1_4 ba.inner.length d1_8] 29)).cell
  have qaP0 := (P0.alloc (.cells #[.int .i64 ba.roots, .slice d1_1 ba.nodes.length d1_5, .slice d1_2 ba.sites.length d1_6, .int .i64 ba.edges, .slice d1_3 ba.outer.length d1_7, .slice d1_4 ba.inner.length d1_8] 29)).cell
  have qB1 := B1.cell
  have qB2 := B2.cell
  have qP0 := P0.cell
  go_wp2_with fail
  clear qB1 qB2 qP0
  clear qaB1 qaB2 qaP0
  obtain ⟨X1, hX1⟩ : ∃ W, W = w7.alloc (.cells #[.int .i64 ba.roots, .slice d1_1 ba.nodes.length d1_5, .slice d1_2 ba.sites.length d1_6, .int .i64 ba.edges, .slice d1_3 ba.outer.length d1_7, .slice d1_4 ba.inner.length d1_8] 29) := ⟨_, rfl⟩
  rw [← hX1]
  have b : Below w7.heap.size w7 X1 := by rw [hX1]; exact balloc _ _
  have C1 : Box X1 w7.heap.size #[.int .i64 ba.roots, .slice d1_1 ba.nodes.length d1_5, .slice d1_2 ba.sites.length d1_6, .int .i64 ba.edges, .slice d1_3 ba.outer.length d1_7, .slice d1_4 ba.inner.length d1_8] 29 := by rw [hX1]; exact Box.new _ _ _
  have y13 : w7.heap.size + 1 ≤ X1.heap.size := C1.lt
  have z8 : w7.heap.size ≤ X1.heap.size := b.size
  have B1 := B1.below b
  have B2 := B2.below b
  have P0 := P0.below b
  have x0 := x0.keep (keep_below b (fun p hp => (x0.lt p hp).2))
  have x1 := x1.keep (keep_below b (fun p hp => (x1.lt p hp).2))
  have k1 := bthen k1 b
  have hb := bthen hb b
  clear b
  clear hX1
  refine (toBigraph_ct _ bb _ (g2A.below hb)).mono ?_
  rintro e w8 ⟨ux2, bsx2, rfl, x2, ndx2, b⟩
  obtain ⟨d2_1, d2_5, d2_2, d2_6, d2_3, d2_7, d2_4, d2_8, rfl⟩ := x2.at.shape
  have hx2 := x2.lt
  have z9 : X1.heap.size ≤ w8.heap.size := b.size
  have B1 := B1.below b
  have B2 := B2.below b
  have P0 := P0.below b
  have C1 := C1.below b
  have x0 := x0.keep (keep_below b (fun p hp => (x0.lt p hp).2))
  have x1 := x1.keep (keep_below b (fun p hp => (x1.lt p hp).2))
  have k1 := bthen k1 b
  have hb := bthen hb b
  clear b
  have qaB1 := (B1.alloc (.cells #[.int .i64 bb.roots, .slice d2_1 bb.nodes.length d2_5, .slice d2_2 bb.sites.length d2_6, .int .i64 bb.edges, .slice d2_3 bb.outer.length d2_7, .slice d2_4 bb.inner.length d2_8] 29)).cell
  have qaB2 := (B2.alloc (.cells #[.int .i64 bb.roots, .slice d2_1 bb.nodes.length d2_5, .slice d2_2 bb.sites.length d2_6, .int .i64 bb.edges, .slice d2_3 bb.outer.length d2_7, .slice d2_4 bb.inner.length d2_8] 29)).cell
  have qaP0 := (P0.alloc (.cells #[.int .i64 bb.roots, .slice d2_1 bb.nodes.length d2_5, .slice d2_2 bb.sites.length d2_6, .int .i64 bb.edges, .slice d2_3 bb.outer.length d2_7, .slice d2_4 bb.inner.length d2_8] 29)).cell
  have qaC1 := (C1.alloc (.cells #[.int .i64 bb.roots, .slice d2_1 bb.nodes.length d2_5, .slice d2_2 bb.sites.length d2_6, .int .i64 bb.edges, .slice d2_3 bb.outer.length d2_7, .slice d2_4 bb.inner.length d2_8] 29)).cell
  have qB1 := B1.cell
  have qB2 := B2.cell
  have qP0 := P0.cell
  have qC1 := C1.cell
  go_wp2_with fail
  clear qB1 qB2 qP0 qC1
  clear qaB1 qaB2 qaP0 qaC1
  obtain ⟨X2, hX2⟩ : ∃ W, W = w8.alloc (.cells #[.int .i64 bb.roots, .slice d2_1 bb.nodes.length d2_5, .slice d2_2 bb.sites.length d2_6, .int .i64 bb.edges, .slice d2_3 bb.outer.length d2_7, .slice d2_4 bb.inner.length d2_8] 29) := ⟨_, rfl⟩
  rw [← hX2]
  have b : Below w8.heap.size w8 X2 := by rw [hX2]; exact balloc _ _
  have C2 : Box X2 w8.heap.size #[.int .i64 bb.roots, .slice d2_1 bb.nodes.length d2_5, .slice d2_2 bb.sites.length d2_6, .int .i64 bb.edges, .slice d2_3 bb.outer.length d2_7, .slice d2_4 bb.inner.length d2_8] 29 := by rw [hX2]; exact Box.new _ _ _
  have y23 : w8.heap.size + 1 ≤ X2.heap.size := C2.lt
  have z10 : w8.heap.size ≤ X2.heap.size := b.size
  have B1 := B1.below b
  have B2 := B2.below b
  have P0 := P0.below b
  have C1 := C1.below b
  have x0 := x0.keep (keep_below b (fun p hp => (x0.lt p hp).2))
  have x1 := x1.keep (keep_below b (fun p hp => (x1.lt p hp).2))
  have x2 := x2.keep (keep_below b (fun p hp => (x2.lt p hp).2))
  have k1 := bthen k1 b
  have hb := bthen hb b
  clear b
  clear hX2
  refine (HI.out _ _ _ _ x0.at x1.at x2.at).mono ?_
  rintro e w9 ⟨ug0, bsg0, rfl, g0, ndg0, b⟩
  obtain ⟨g0_1, g0_5, g0_2, g0_6, g0_3, g0_7, g0_4, g0_8, rfl⟩ := g0.at.shape
  have hg0 := g0.lt
  have z11 : X2.heap.size ≤ w9.heap.size := b.size
  have B1 := B1.below b
  have B2 := B2.below b
  have P0 := P0.below b
  have C1 := C1.below b
  have C2 := C2.below b
  have x0 := x0.keep (keep_below b (fun p hp => (x0.lt p hp).2))
  have x1 := x1.keep (keep_below b (fun p hp => (x1.lt p hp).2))
  have x2 := x2.keep (keep_below b (fun p hp => (x2.lt p hp).2))
  have k1 := bthen k1 b
  have hb := bthen hb b
  clear b
  have qa1B1 := (B1.alloc (.cells #[.int .i64 R0.roots, .slice g0_1 R0.nodes.length g0_5, .slice g0_2 R0.sites.length g0_6, .int .i64 R0.edges, .slice g0_3 R0.outer.length g0_7, .slice g0_4 R0.inner.length g0_8] 29)).cell
  have qa1B2 := (B2.alloc (.cells #[.int .i64 R0.roots, .slice g0_1 R0.nodes.length g0_5, .slice g0_2 R0.sites.length g0_6, .int .i64 R0.edges, .slice g0_3 R0.outer.length g0_7, .slice g0_4 R0.inner.length g0_8] 29)).cell
  have qa1P0 := (P0.alloc (.cells #[.int .i64 R0.roots, .slice g0_1 R0.nodes.length g0_5, .slice g0_2 R0.sites.length g0_6, .int .i64 R0.edges, .slice g0_3 R0.outer.length g0_7, .slice g0_4 R0.inner.length g0_8] 29)).cell
  have qa1C1 := (C1.alloc (.cells #[.int .i64 R0.roots, .slice g0_1 R0.nodes.length g0_5, .slice g0_2 R0.sites.length g0_6, .int .i64 R0.edges, .slice g0_3 R0.outer.length g0_7, .slice g0_4 R0.inner.length g0_8] 29)).cell
  have qa1C2 := (C2.alloc (.cells #[.int .i64 R0.roots, .slice g0_1 R0.nodes.length g0_5, .slice g0_2 R0.sites.length g0_6, .int .i64 R0.edges, .slice g0_3 R0.outer.length g0_7, .slice g0_4 R0.inner.length g0_8] 29)).cell
  have qB1 := B1.cell
  have qB2 := B2.cell
  have qP0 := P0.cell
  have qC1 := C1.cell
  have qC2 := C2.cell
  go_wp2_with fail
  clear qB1 qB2 qP0 qC1 qC2
  clear qa1B1 qa1B2 qa1P0 qa1C1 qa1C2
  obtain ⟨G0W, hG0W⟩ : ∃ W, W = w9.alloc (.cells #[.int .i64 R0.roots, .slice g0_1 R0.nodes.length g0_5, .slice g0_2 R0.sites.length g0_6, .int .i64 R0.edges, .slice g0_3 R0.outer.length g0_7, .slice g0_4 R0.inner.length g0_8] 29) := ⟨_, rfl⟩
  rw [← hG0W]
  have b : Below w9.heap.size w9 G0W := by rw [hG0W]; exact balloc _ _
  have G0 : Box G0W w9.heap.size #[.int .i64 R0.roots, .slice g0_1 R0.nodes.length g0_5, .slice g0_2 R0.sites.length g0_6, .int .i64 R0.edges, .slice g0_3 R0.outer.length g0_7, .slice g0_4 R0.inner.length g0_8] 29 := by rw [hG0W]; exact Box.new _ _ _
  have yg0 : w9.heap.size + 1 ≤ G0W.heap.size := G0.lt
  have z12 : w9.heap.size ≤ G0W.heap.size := b.size
  have B1 := B1.below b
  have B2 := B2.below b
  have P0 := P0.below b
  have C1 := C1.below b
  have C2 := C2.below b
  have x0 := x0.keep (keep_below b (fun p hp => (x0.lt p hp).2))
  have x1 := x1.keep (keep_below b (fun p hp => (x1.lt p hp).2))
  have x2 := x2.keep (keep_below b (fun p hp => (x2.lt p hp).2))
  have g0 := g0.keep (keep_below b (fun p hp => (g0.lt p hp).2))
  have k1 := bthen k1 b
  have hb := bthen hb b
  clear b
  clear hG0W
  refine (eqBigraph_ct _ _ R0 _ g0.at (rp0.below k1)).mono ?_
  rintro e w10 ⟨rfl, b⟩
  have z13 : G0W.heap.size ≤ w10.heap.size := b.size
  have B1 := B1.below b
  have B2 := B2.below b
  have P0 := P0.below b
  have C1 := C1.below b
  have C2 := C2.below b
  have G0 := G0.below b
  have x0 := x0.keep (keep_below b (fun p hp => (x0.lt p hp).2))
  have x1 := x1.keep (keep_below b (fun p hp => (x1.lt p hp).2))
  have x2 := x2.keep (keep_below b (fun p hp => (x2.lt p hp).2))
  have g0 := g0.keep (keep_below b (fun p hp => (g0.lt p hp).2))
  have k1 := bthen k1 b
  have hb := bthen hb b
  clear b
  have qB1 := B1.cell
  have qB2 := B2.cell
  have qP0 := P0.cell
  have qC1 := C1.cell
  have qC2 := C2.cell
  have qG0 := G0.cell
  go_wp2_with fail
  clear qB1 qB2 qP0 qC1 qC2 qG0
  refine (toControlS_ct _ sig _ (g0A.below hb)).mono ?_
  rintro e w11 ⟨y0, rfl, oy0, b⟩
  have oy0 := oy0.at
  have z14 : w10.heap.size ≤ w11.heap.size := b.size
  have B1 := B1.below b
  have B2 := B2.below b
  have P0 := P0.below b
  have C1 := C1.below b
  have C2 := C2.below b
  have G0 := G0.below b
  have x0 := x0.keep (keep_below b (fun p hp => (x0.lt p hp).2))
  have x1 := x1.keep (keep_below b (fun p hp => (x1.lt p hp).2))
  have x2 := x2.keep (keep_below b (fun p hp => (x2.lt p hp).2))
  have g0 := g0.keep (keep_below b (fun p hp => (g0.lt p hp).2))
  have k1 := bthen k1 b
  have hb := bthen hb b
  clear b
  have qB1 := B1.cell
  have qB2 := B2.cell
  have qP0 := P0.cell
  have qC1 := C1.cell
  have qC2 := C2.cell
  have qG0 := G0.cell
  go_wp2_with fail
  clear qB1 qB2 qP0 qC1 qC2 qG0
  refine (eqControlS_ct _ _ sig _ x0.at oy0).mono ?_
  rintro e w12 ⟨rfl, b⟩
  have z15 : w11.heap.size ≤ w12.heap.size := b.size
  have B1 := B1.below b
  have B2 := B2.below b
  have P0 := P0.below b
  have C1 := C1.below b
  have C2 := C2.below b
  have G0 := G0.below b
  have x0 := x0.keep (keep_below b (fun p hp => (x0.lt p hp).2))
  have x1 := x1.keep (keep_below b (fun p hp => (x1.lt p hp).2))
  have x2 := x2.keep (keep_below b (fun p hp => (x2.lt p hp).2))
  have g0 := g0.keep (keep_below b (fun p hp => (g0.lt p hp).2))
  have k1 := bthen k1 b
  have hb := bthen hb b
  clear b
  clear oy0
  have qB1 := B1.cell
  have qB2 := B2.cell
  have qP0 := P0.cell
  have qC1 := C1.cell
  have qC2 := C2.cell
  have qG0 := G0.cell
  go_wp2_with fail
  clear qB1 qB2 qP0 qC1 qC2 qG0
  have b := bdrew (Below.refl w12.heap.size w12)
  have B1 := B1.below b
  have B2 := B2.below b
  have P0 := P0.below b
  have C1 := C1.below b
  have C2 := C2.below b
  have G0 := G0.below b
  have x0 := x0.keep (keep_below b (fun p hp => (x0.lt p hp).2))
  have x1 := x1.keep (keep_below b (fun p hp => (x1.lt p hp).2))
  have x2 := x2.keep (keep_below b (fun p hp => (x2.lt p hp).2))
  have g0 := g0.keep (keep_below b (fun p hp => (g0.lt p hp).2))
  have k1 := bthen k1 b
  have hb := bthen hb b
  clear b
  have z16 : w12.heap.size ≤ w12.drew.heap.size := Nat.le_refl _
  go_region_held3 (fun w' => w'.cell? ⟨w7.heap.size, 0, none⟩ = some (.int .i64 ba.roots) ∧ w'.cell? ⟨w7.heap.size, 1, none⟩ = some (.slice d1_1 ba.nodes.length d1_5) ∧ w'.cell? ⟨w7.heap.size, 2, none⟩ = some (.slice d1_2 ba.sites.length d1_6) ∧ w'.cell? ⟨w7.heap.size, 3, none⟩ = some (.int .i64 ba.edges) ∧ w'.cell? ⟨w7.heap.size, 4, none⟩ = some (.slice d1_3 ba.outer.length d1_7) ∧ w'.cell? ⟨w7.heap.size, 5, none⟩ = some (.slice d1_4 ba.inner.length d1_8) ∧ w'.cell? ⟨w.heap.size, 0, none⟩ = some (.int .i64 ba.roots) ∧ w'.cell? ⟨w.heap.size, 1, none⟩ = some (.slice p1_1 ba.nodes.length p1_5) ∧ w'.cell? ⟨w.heap.size, 2, none⟩ = some (.slice p1_2 ba.sites.length p1_6) ∧ w'.cell? ⟨w.heap.size, 3, none⟩ = some (.int .i64 ba.edges) ∧ w'.cell? ⟨w.heap.size, 4, none⟩ = some (.slice p1_3 ba.outer.length p1_7) ∧ w'.cell? ⟨w.heap.size, 5, none⟩ = some (.slice p1_4 ba.inner.length p1_8)) (first | exact ⟨C1.cell 0, C1.cell 1, C1.cell 2, C1.cell 3, C1.cell 4, C1.cell 5, B1.cell 0, B1.cell 1, B1.cell 2, B1.cell 3, B1.cell 4, B1.cell 5⟩) (first | (go_at_call 16; (with_reducible refine (toBigraph_ct _ ba _ (g1A.below hb)).mono ?_); rintro e w13 ⟨y1, bsy1, rfl, oy1, _, b⟩; have oy1 := oy1.at; have z17 : w12.drew.heap.size ≤ w13.heap.size := b.size; have B1 := B1.below b; have B2 := B2.below b; have P0 := P0.below b; have C1 := C1.below b; have C2 := C2.below b; have G0 := G0.below b; have x0 := x0.keep (keep_below b (fun p hp => (x0.lt p hp).2)); have x1 := x1.keep (keep_below b (fun p hp => (x1.lt p hp).2)); have x2 := x2.keep (keep_below b (fun p hp => (x2.lt p hp).2)); have g0 := g0.keep (keep_below b (fun p hp => (g0.lt p hp).2)); have k1 := bthen k1 b; have hb := bthen hb b; clear b) | (go_at_call 9; (with_reducible refine (eqBigraph_ct _ _ ba _ x1.at oy1).mono ?_); rintro e w14 ⟨rfl, b⟩; have z18 : w13.heap.size ≤ w14.heap.size := b.size; have B1 := B1.below b; have B2 := B2.below b; have P0 := P0.below b; have C1 := C1.below b; have C2 := C2.below b; have G0 := G0.below b; have x0 := x0.keep (keep_below b (fun p hp => (x0.lt p hp).2)); have x1 := x1.keep (keep_below b (fun p hp => (x1.lt p hp).2)); have x2 := x2.keep (keep_below b (fun p hp => (x2.lt p hp).2)); have g0 := g0.keep (keep_below b (fun p hp => (g0.lt p hp).2)); have k1 := bthen k1 b; have hb := bthen hb b; clear b))
  clear oy1
  have qB1 := B1.cell
  have qB2 := B2.cell
  have qP0 := P0.cell
  have qC1 := C1.cell
  have qC2 := C2.cell
  have qG0 := G0.cell
  go_wp2_with fail
  clear qB1 qB2 qP0 qC1 qC2 qG0
  have b := bdrew (Below.refl w14.heap.size w14)
  have B1 := B1.below b
  have B2 := B2.below b
  have P0 := P0.below b
  have C1 := C1.below b
  have C2 := C2.below b
  have G0 := G0.below b
  have x0 := x0.keep (keep_below b (fun p hp => (x0.lt p hp).2))
  have x1 := x1.keep (keep_below b (fun p hp => (x1.lt p hp).2))
  have x2 := x2.keep (keep_below b (fun p hp => (x2.lt p hp).2))
  have g0 := g0.keep (keep_below b (fun p hp => (g0.lt p hp).2))
  have k1 := bthen k1 b
  have hb := bthen hb b
  clear b
  have z19 : w14.heap.size ≤ w14.drew.heap.size := Nat.le_refl _
  go_region_held3 (fun w' => w'.cell? ⟨w8.heap.size, 0, none⟩ = some (.int .i64 bb.roots) ∧ w'.cell? ⟨w8.heap.size, 1, none⟩ = some (.slice d2_1 bb.nodes.length d2_5) ∧ w'.cell? ⟨w8.heap.size, 2, none⟩ = some (.slice d2_2 bb.sites.length d2_6) ∧ w'.cell? ⟨w8.heap.size, 3, none⟩ = some (.int .i64 bb.edges) ∧ w'.cell? ⟨w8.heap.size, 4, none⟩ = some (.slice d2_3 bb.outer.length d2_7) ∧ w'.cell? ⟨w8.heap.size, 5, none⟩ = some (.slice d2_4 bb.inner.length d2_8) ∧ w'.cell? ⟨w.heap.size + 1, 0, none⟩ = some (.int .i64 bb.roots) ∧ w'.cell? ⟨w.heap.size + 1, 1, none⟩ = some (.slice p2_1 bb.nodes.length p2_5) ∧ w'.cell? ⟨w.heap.size + 1, 2, none⟩ = some (.slice p2_2 bb.sites.length p2_6) ∧ w'.cell? ⟨w.heap.size + 1, 3, none⟩ = some (.int .i64 bb.edges) ∧ w'.cell? ⟨w.heap.size + 1, 4, none⟩ = some (.slice p2_3 bb.outer.length p2_7) ∧ w'.cell? ⟨w.heap.size + 1, 5, none⟩ = some (.slice p2_4 bb.inner.length p2_8)) (first | exact ⟨C2.cell 0, C2.cell 1, C2.cell 2, C2.cell 3, C2.cell 4, C2.cell 5, B2.cell 0, B2.cell 1, B2.cell 2, B2.cell 3, B2.cell 4, B2.cell 5⟩) (first | (go_at_call 16; (with_reducible refine (toBigraph_ct _ bb _ (g2A.below hb)).mono ?_); rintro e w15 ⟨y2, bsy2, rfl, oy2, _, b⟩; have oy2 := oy2.at; have z20 : w14.drew.heap.size ≤ w15.heap.size := b.size; have B1 := B1.below b; have B2 := B2.below b; have P0 := P0.below b; have C1 := C1.below b; have C2 := C2.below b; have G0 := G0.below b; have x0 := x0.keep (keep_below b (fun p hp => (x0.lt p hp).2)); have x1 := x1.keep (keep_below b (fun p hp => (x1.lt p hp).2)); have x2 := x2.keep (keep_below b (fun p hp => (x2.lt p hp).2)); have g0 := g0.keep (keep_below b (fun p hp => (g0.lt p hp).2)); have k1 := bthen k1 b; have hb := bthen hb b; clear b) | (go_at_call 9; (with_reducible refine (eqBigraph_ct _ _ bb _ x2.at oy2).mono ?_); rintro e w16 ⟨rfl, b⟩; have z21 : w15.heap.size ≤ w16.heap.size := b.size; have B1 := B1.below b; have B2 := B2.below b; have P0 := P0.below b; have C1 := C1.below b; have C2 := C2.below b; have G0 := G0.below b; have x0 := x0.keep (keep_below b (fun p hp => (x0.lt p hp).2)); have x1 := x1.keep (keep_below b (fun p hp => (x1.lt p hp).2)); have x2 := x2.keep (keep_below b (fun p hp => (x2.lt p hp).2)); have g0 := g0.keep (keep_below b (fun p hp => (g0.lt p hp).2)); have k1 := bthen k1 b; have hb := bthen hb b; clear b))
  clear oy2
  have qB1 := B1.cell
  have qB2 := B2.cell
  have qP0 := P0.cell
  have qC1 := C1.cell
  have qC2 := C2.cell
  have qG0 := G0.cell
  go_wp2_with fail
  clear qB1 qB2 qP0 qC1 qC2 qG0
  refine (markControlS_ct _ sig (1) _ _ x0 (by omega) (by omega)).mono ?_
  rintro e w17 ⟨rfl, _, o⟩
  have z22 : w16.heap.size ≤ w17.heap.size := o.size
  have B1 := B1.keep (o.block _ B1.lt (fun h => by have := hx0 _ h; omega))
  have B2 := B2.keep (o.block _ B2.lt (fun h => by have := hx0 _ h; omega))
  have P0 := P0.keep (o.block _ P0.lt (fun h => by have := hx0 _ h; omega))
  have C1 := C1.keep (o.block _ C1.lt (fun h => by have := hx0 _ h; omega))
  have C2 := C2.keep (o.block _ C2.lt (fun h => by have := hx0 _ h; omega))
  have G0 := G0.keep (o.block _ G0.lt (fun h => by have := hx0 _ h; omega))
  have x1 := x1.keep (fun p hp => o.block p (x1.lt p hp).2 (fun h => by have := hx0 _ h; have := hx1 _ hp; omega))
  have x2 := x2.keep (fun p hp => o.block p (x2.lt p hp).2 (fun h => by have := hx0 _ h; have := hx2 _ hp; omega))
  have g0 := g0.keep (fun p hp => o.block p (g0.lt p hp).2 (fun h => by have := hx0 _ h; have := hg0 _ hp; omega))
  have hb := hb.trans (o.below (fun p hp => by have := hx0 p hp; omega) (by omega))
  have k1 := k1.trans (o.below (fun p hp => by have := hx0 p hp; omega) (by omega))
  clear o
  clear x0
  have qB1 := B1.cell
  have qB2 := B2.cell
  have qP0 := P0.cell
  have qC1 := C1.cell
  have qC2 := C2.cell
  have qG0 := G0.cell
  go_wp2_with fail
  clear qB1 qB2 qP0 qC1 qC2 qG0
  refine (markBigraph_ct _ ba bsx1 (1 + (3 * (sig.length : Int) : Int)) _ _ x1 ndx1 (by omega) (by omega)).mono ?_
  rintro e w18 ⟨rfl, _, o⟩
  have z23 : w17.heap.size ≤ w18.heap.size := o.size
  have B1 := B1.keep (o.block _ B1.lt (fun h => by have := hx1 _ h; omega))
  have B2 := B2.keep (o.block _ B2.lt (fun h => by have := hx1 _ h; omega))
  have P0 := P0.keep (o.block _ P0.lt (fun h => by have := hx1 _ h; omega))
  have C1 := C1.keep (o.block _ C1.lt (fun h => by have := hx1 _ h; omega))
  have C2 := C2.keep (o.block _ C2.lt (fun h => by have := hx1 _ h; omega))
  have G0 := G0.keep (o.block _ G0.lt (fun h => by have := hx1 _ h; omega))
  have x2 := x2.keep (fun p hp => o.block p (x2.lt p hp).2 (fun h => by have := hx1 _ h; have := hx2 _ hp; omega))
  have g0 := g0.keep (fun p hp => o.block p (g0.lt p hp).2 (fun h => by have := hx1 _ h; have := hg0 _ hp; omega))
  have hb := hb.trans (o.below (fun p hp => by have := hx1 p hp; omega) (by omega))
  have k1 := k1.trans (o.below (fun p hp => by have := hx1 p hp; omega) (by omega))
  clear o
  clear x1
  have qB1 := B1.cell
  have qB2 := B2.cell
  have qP0 := P0.cell
  have qC1 := C1.cell
  have qC2 := C2.cell
  have qG0 := G0.cell
  go_wp2_with fail
  clear qB1 qB2 qP0 qC1 qC2 qG0
  refine (markBigraph_ct _ bb bsx2 (1 + (3 * (sig.length : Int) : Int) + (cntB ba : Int)) _ _ x2 ndx2 (by omega) (by omega)).mono ?_
  rintro e w19 ⟨rfl, _, o⟩
  have z24 : w18.heap.size ≤ w19.heap.size := o.size
  have B1 := B1.keep (o.block _ B1.lt (fun h => by have := hx2 _ h; omega))
  have B2 := B2.keep (o.block _ B2.lt (fun h => by have := hx2 _ h; omega))
  have P0 := P0.keep (o.block _ P0.lt (fun h => by have := hx2 _ h; omega))
  have C1 := C1.keep (o.block _ C1.lt (fun h => by have := hx2 _ h; omega))
  have C2 := C2.keep (o.block _ C2.lt (fun h => by have := hx2 _ h; omega))
  have G0 := G0.keep (o.block _ G0.lt (fun h => by have := hx2 _ h; omega))
  have g0 := g0.keep (fun p hp => o.block p (g0.lt p hp).2 (fun h => by have := hx2 _ h; have := hg0 _ hp; omega))
  have hb := hb.trans (o.below (fun p hp => by have := hx2 p hp; omega) (by omega))
  have k1 := k1.trans (o.below (fun p hp => by have := hx2 p hp; omega) (by omega))
  clear o
  clear x2
  have qB1 := B1.cell
  have qB2 := B2.cell
  have qP0 := P0.cell
  have qC1 := C1.cell
  have qC2 := C2.cell
  have qG0 := G0.cell
  go_wp2_with fail
  clear qB1 qB2 qP0 qC1 qC2 qG0
  refine (eqBigraph_ct _ _ R0 _ g0.at (rp0.below k1)).mono ?_
  rintro e w20 ⟨rfl, b⟩
  have z25 : w19.heap.size ≤ w20.heap.size := b.size
  have B1 := B1.below b
  have B2 := B2.below b
  have P0 := P0.below b
  have C1 := C1.below b
  have C2 := C2.below b
  have G0 := G0.below b
  have g0 := g0.keep (keep_below b (fun p hp => (g0.lt p hp).2))
  have k1 := bthen k1 b
  have hb := bthen hb b
  clear b
  have qB1 := B1.cell
  have qB2 := B2.cell
  have qP0 := P0.cell
  have qC1 := C1.cell
  have qC2 := C2.cell
  have qG0 := G0.cell
  go_wp2_with fail
  clear qB1 qB2 qP0 qC1 qC2 qG0
  refine (markBigraph_ct _ R0 bsg0 (1) _ _ g0 ndg0 (by omega) (by omega)).mono ?_
  rintro e w21 ⟨rfl, m0, o⟩
  have z26 : w20.heap.size ≤ w21.heap.size := o.size
  have B1 := B1.keep (o.block _ B1.lt (fun h => by have := hg0 _ h; omega))
  have B2 := B2.keep (o.block _ B2.lt (fun h => by have := hg0 _ h; omega))
  have P0 := P0.keep (o.block _ P0.lt (fun h => by have := hg0 _ h; omega))
  have C1 := C1.keep (o.block _ C1.lt (fun h => by have := hg0 _ h; omega))
  have C2 := C2.keep (o.block _ C2.lt (fun h => by have := hg0 _ h; omega))
  have G0 := G0.keep (o.block _ G0.lt (fun h => by have := hg0 _ h; omega))
  have hb := hb.trans (o.below (fun p hp => by have := hg0 p hp; omega) (by omega))
  have k1 := k1.trans (o.below (fun p hp => by have := hg0 p hp; omega) (by omega))
  clear o
  have hm0 := hg0
  clear g0
  have qB1 := B1.cell
  have qB2 := B2.cell
  have qP0 := P0.cell
  have qC1 := C1.cell
  have qC2 := C2.cell
  have qG0 := G0.cell
  go_wp2_with fail
  clear qB1 qB2 qP0 qC1 qC2 qG0
  refine (heldBigraph_ct _ R0 (1) _ m0.at (by omega) (by omega)).mono ?_
  rintro e w22 ⟨rfl, b⟩
  have z27 : w21.heap.size ≤ w22.heap.size := b.size
  have B1 := B1.below b
  have B2 := B2.below b
  have P0 := P0.below b
  have C1 := C1.below b
  have C2 := C2.below b
  have G0 := G0.below b
  have m0 := m0.keep (keep_below b (fun p hp => (m0.lt p hp).2))
  have k1 := bthen k1 b
  have hb := bthen hb b
  clear b
  have qB1 := B1.cell
  have qB2 := B2.cell
  have qP0 := P0.cell
  have qC1 := C1.cell
  have qC2 := C2.cell
  have qG0 := G0.cell
  go_wp2_with fail
  clear qB1 qB2 qP0 qC1 qC2 qG0
  have lm0 := m0.lt
  have c1_0 := fun y => gr_cell (w := w22) (B1.cell 0) y
  have c1_1 := fun y => gr_cell (w := w22) (B1.cell 1) y
  have c1_2 := fun y => gr_cell (w := w22) (B1.cell 2) y
  have c1_3 := fun y => gr_cell (w := w22) (B1.cell 3) y
  have c1_4 := fun y => gr_cell (w := w22) (B1.cell 4) y
  have c1_5 := fun y => gr_cell (w := w22) (B1.cell 5) y
  have c2_0 := fun y => gr_cell (w := w22) (B2.cell 0) y
  have c2_1 := fun y => gr_cell (w := w22) (B2.cell 1) y
  have c2_2 := fun y => gr_cell (w := w22) (B2.cell 2) y
  have c2_3 := fun y => gr_cell (w := w22) (B2.cell 3) y
  have c2_4 := fun y => gr_cell (w := w22) (B2.cell 4) y
  have c2_5 := fun y => gr_cell (w := w22) (B2.cell 5) y
  refine rg_region_late 9 [0, 1, 2, 3, 4, 5, 6, 7, 8, 9, 10] [11, 12] (lo := (.cons _ (.cons _ .nil))) (by rfl) (tAt 1 (eCtls sig) (tAt 3 (eBig ba) (tAt 5 (eBig bb) (tAt 6 (eBigOk w22.heap.size R0 ok) (tAt 10 (eBox w22.heap.size #[.int .i64 0, .slice none 0 0, .slice none 0 0, .int .i64 0, .slice none 0 0, .slice none 0 0] 29) tNil))))) (by kernel_rfl) (by rfl) (by kernel_rfl) (fun _ _ _ _ _ h => h) ?_
  refine rg_quiet anti_end [0] [1, 2, 3, 4, 5, 6, 7, 8, 9, 10] (lo := (.cons _ .nil)) (by rfl) (by kernel_rfl) ?_
  repeat (go_big_quiet_step (fail))
  refine wpQuiet_nil ?_
  refine rg_call 1 rfl rfl 7 #[v0] ?_ ?_ ?_
  · intro w; simp [go_sem]
  · rintro w' ⟨y, rfl⟩ hd
    refine (toControlS_ct _ sig _ (g0A.below (bthen hb (gr_below _ _)))).mono ?_
    rintro e w1 ⟨u1, rfl, hu1, bb⟩
    exact ⟨_, rfl, bb, hu1.at⟩
  intro v hv
  obtain ⟨kf0a, kf0c, rfl⟩ := hv
  simp only [Act.put, List.setIfInBounds_toArray, List.set_cons_zero, List.set_cons_succ]
  refine rg_quiet anti_end [2] [3, 4, 5, 6, 7, 8, 9, 10] (lo := (.cons _ .nil)) (by rfl) (by kernel_rfl) ?_
  repeat (go_big_quiet_step (fail))
  refine wpQuiet_nil ?_
  refine rg_call 3 rfl rfl 16 #[.agg #[.int .i64 ba.roots, .slice p1_1 ba.nodes.length p1_5, .slice p1_2 ba.sites.length p1_6, .int .i64 ba.edges, .slice p1_3 ba.outer.length p1_7, .slice p1_4 ba.inner.length p1_8]] ?_ ?_ ?_
  · intro w; simp [go_sem]
  · rintro w' ⟨y, rfl⟩ hd
    refine (toBigraph_ct _ ba _ (g1A.below (bthen hb (gr_below _ _)))).mono ?_
    rintro e w1 ⟨u1, bs1, rfl, hu1, _, bb⟩
    exact ⟨_, rfl, bb, hu1.at⟩
  intro v hv
  obtain ⟨kf1_1, kf1_5, kf1_2, kf1_6, kf1_3, kf1_7, kf1_4, kf1_8, rfl⟩ := hv
  simp only [Act.put, List.setIfInBounds_toArray, List.set_cons_zero, List.set_cons_succ]
  refine rg_quiet anti_end [4] [5, 6, 7, 8, 9, 10] (lo := (.cons _ .nil)) (by rfl) (by kernel_rfl) ?_
  repeat (go_big_quiet_step (fail))
  refine wpQuiet_nil ?_
  refine rg_call 5 rfl rfl 16 #[.agg #[.int .i64 bb.roots, .slice p2_1 bb.nodes.length p2_5, .slice p2_2 bb.sites.length p2_6, .int .i64 bb.edges, .slice p2_3 bb.outer.length p2_7, .slice p2_4 bb.inner.length p2_8]] ?_ ?_ ?_
  · intro w; simp [go_sem]
  · rintro w' ⟨y, rfl⟩ hd
    refine (toBigraph_ct _ bb _ (g2A.below (bthen hb (gr_below _ _)))).mono ?_
    rintro e w1 ⟨u1, bs1, rfl, hu1, _, bb⟩
    exact ⟨_, rfl, bb, hu1.at⟩
  intro v hv
  obtain ⟨kf2_1, kf2_5, kf2_2, kf2_6, kf2_3, kf2_7, kf2_4, kf2_8, rfl⟩ := hv
  simp only [Act.put, List.setIfInBounds_toArray, List.set_cons_zero, List.set_cons_succ]
  refine rg_call 6 rfl rfl 17 #[(.slice kf0a sig.length kf0c), (.agg #[.int .i64 ba.roots, .slice kf1_1 ba.nodes.length kf1_5, .slice kf1_2 ba.sites.length kf1_6, .int .i64 ba.edges, .slice kf1_3 ba.outer.length kf1_7, .slice kf1_4 ba.inner.length kf1_8]), (.agg #[.int .i64 bb.roots, .slice kf2_1 bb.nodes.length kf2_5, .slice kf2_2 bb.sites.length kf2_6, .int .i64 bb.edges, .slice kf2_3 bb.outer.length kf2_7, .slice kf2_4 bb.inner.length kf2_8])] ?_ ?_ ?_
  · intro w; simp [go_sem]
  · rintro w' ⟨y, rfl⟩ hd
    obtain ⟨_, j0⟩ := hd ⟨1, .data⟩ (by simp) rfl _ rfl (by decide) 117 rfl
    have j0 : CtlsAt (gr w22 y) (.slice kf0a sig.length kf0c) sig := j0
    obtain ⟨_, j1⟩ := hd ⟨3, .data⟩ (by simp) rfl _ rfl (by decide) 119 rfl
    have j1 : BigAt (gr w22 y) (.agg #[.int .i64 ba.roots, .slice kf1_1 ba.nodes.length kf1_5, .slice kf1_2 ba.sites.length kf1_6, .int .i64 ba.edges, .slice kf1_3 ba.outer.length kf1_7, .slice kf1_4 ba.inner.length kf1_8]) ba := j1
    obtain ⟨_, j2⟩ := hd ⟨5, .data⟩ (by simp) rfl _ rfl (by decide) 121 rfl
    have j2 : BigAt (gr w22 y) (.agg #[.int .i64 bb.roots, .slice kf2_1 bb.nodes.length kf2_5, .slice kf2_2 bb.sites.length kf2_6, .int .i64 bb.edges, .slice kf2_3 bb.outer.length kf2_7, .slice kf2_4 bb.inner.length kf2_8]) bb := j2
    refine (HI.out _ _ _ _ j0 j1 j2).mono ?_
    rintro e w1 ⟨u1, bs1, rfl, hu1, nd1, bb⟩
    exact ⟨_, rfl, bb, rfl, bs1, hu1.mono (gr_below _ _).size, nd1, fun p hp => hu1.lt p hp⟩
  intro v hv
  obtain ⟨_, rfl, f0_1, f0_5, f0_2, f0_6, f0_3, f0_7, f0_4, f0_8, rfl⟩ := hv
  simp only [Act.put, List.setIfInBounds_toArray, List.set_cons_zero, List.set_cons_succ]
  refine rg_quiet anti_end [7, 8, 9] [10] (lo := (.cons _ (.cons _ (.cons _ .nil)))) (by rfl) (by kernel_rfl) ?_
  repeat (go_big_quiet_step (fail))
  refine wpQuiet_nil ?_
  refine rg_made 10 rfl rfl ?_ ?_
  · rintro w' ⟨y, rfl⟩ hd
    refine ⟨_, _, by simp [go_sem]; exact ⟨rfl, rfl⟩, balloc _ _, rfl, Box.new _ _ _, (gr_below _ _).size, ?_⟩
    exact ⟨Nat.le_refl _, by simp [blkOf]⟩
  intro v hv
  obtain ⟨fg0, rfl⟩ := hv
  simp only [Act.put, List.setIfInBounds_toArray, List.set_cons_zero, List.set_cons_succ]
  intro w23 _ b hF
  obtain ⟨UA4, UB4, d4, u4, ⟨UA3, UB3, d3, u3, ⟨UA2, UB2, d2, u2, ⟨UA1, UB1, d1, u1, ⟨UA0, UB0, d0, u0, _, _⟩, _⟩, _⟩, hsp⟩, hal0⟩ := hF
  have z28 : w22.heap.size ≤ w23.heap.size := b.size
  have B1 := B1.below b
  have B2 := B2.below b
  have P0 := P0.below b
  have C1 := C1.below b
  have C2 := C2.below b
  have G0 := G0.below b
  have m0 := m0.keep (keep_below b (fun p hp => (m0.lt p hp).2))
  have k1 := bthen k1 b
  have hb := bthen hb b
  clear b
  obtain ⟨bsf0, f0, ndf0, clf0⟩ : gBig w22.heap.size R0 (.agg #[.int .i64 R0.roots, .slice f0_1 R0.nodes.length f0_5, .slice f0_2 R0.sites.length f0_6, .int .i64 R0.edges, .slice f0_3 R0.outer.length f0_7, .slice f0_4 R0.inner.length f0_8]) _ _ := hsp.2
  clear hsp
  obtain ⟨_, F0, mf0, nf0⟩ := hal0
  have F0 : Box w23 fg0 #[.int .i64 0, .slice none 0 0, .slice none 0 0, .int .i64 0, .slice none 0 0, .slice none 0 0] 29 := F0
  have mf0 : w22.heap.size ≤ fg0 := mf0
  have xf0 : ∀ r, UB3 r → r ≠ fg0 := fun r hr e => d4 r ((u3 _).2 (.inr hr)) (e ▸ nf0)
  have qa0 := F0.cell
  have qf0 := F0.free
  have qB1 := B1.cell
  have qB2 := B2.cell
  have qP0 := P0.cell
  have qC1 := C1.cell
  have qC2 := C2.cell
  have qG0 := G0.cell
  go_wp2_with fail
  clear qB1 qB2 qP0 qC1 qC2 qG0
  clear qa0 qf0
  obtain ⟨w24, hw24, F0, o⟩ := box_fill F0 (.int .i64 R0.roots) (.slice f0_1 R0.nodes.length f0_5) (.slice f0_2 R0.sites.length f0_6) (.int .i64 R0.edges) (.slice f0_3 R0.outer.length f0_7) (.slice f0_4 R0.inner.length f0_8)
  rw [← hw24]
  clear hw24
  have z29 : w23.heap.size ≤ w24.heap.size := o.size
  have B1 := B1.keep (o.block _ B1.lt (fun h => by have := List.mem_singleton.1 h; omega))
  have B2 := B2.keep (o.block _ B2.lt (fun h => by have := List.mem_singleton.1 h; omega))
  have P0 := P0.keep (o.block _ P0.lt (fun h => by have := List.mem_singleton.1 h; omega))
  have C1 := C1.keep (o.block _ C1.lt (fun h => by have := List.mem_singleton.1 h; omega))
  have C2 := C2.keep (o.block _ C2.lt (fun h => by have := List.mem_singleton.1 h; omega))
  have G0 := G0.keep (o.block _ G0.lt (fun h => by have := List.mem_singleton.1 h; omega))
  have m0 := m0.keep (fun p hp => o.block p (m0.lt p hp).2 (fun h => by have := List.mem_singleton.1 h; have := lm0 p hp; omega))
  have f0 := f0.keep (fun p hp => o.block p (f0.lt p hp).2 (fun h => xf0 p (clf0 p hp) (List.mem_singleton.1 h)))
  have hb := hb.trans (o.below (fun p hp => by have := List.mem_singleton.1 hp; omega) (by omega))
  have k1 := k1.trans (o.below (fun p hp => by have := List.mem_singleton.1 hp; omega) (by omega))
  clear o
  have ltf0 : fg0 < w24.heap.size := F0.lt
  have rf0 := f0.at
  clear f0 ndf0
  refine (eqBigraph_ct _ _ R0 _ rf0 (rp0.below k1)).mono ?_
  rintro e w25 ⟨rfl, b⟩
  have z30 : w24.heap.size ≤ w25.heap.size := b.size
  have B1 := B1.below b
  have B2 := B2.below b
  have P0 := P0.below b
  have C1 := C1.below b
  have C2 := C2.below b
  have G0 := G0.below b
  have F0 := F0.below b
  have rf0 := rf0.below b
  have m0 := m0.keep (keep_below b (fun p hp => (m0.lt p hp).2))
  have k1 := bthen k1 b
  have hb := bthen hb b
  clear b
  have qB1 := B1.cell
  have qB2 := B2.cell
  have qP0 := P0.cell
  have qC1 := C1.cell
  have qC2 := C2.cell
  have qG0 := G0.cell
  have qF0 := F0.cell
  go_wp2_with fail
  clear qB1 qB2 qP0 qC1 qC2 qG0 qF0
  refine (heldBigraph_ct _ R0 (1) _ m0.at (by omega) (by omega)).mono ?_
  rintro e w26 ⟨rfl, b⟩
  have z31 : w25.heap.size ≤ w26.heap.size := b.size
  have B1 := B1.below b
  have B2 := B2.below b
  have P0 := P0.below b
  have C1 := C1.below b
  have C2 := C2.below b
  have G0 := G0.below b
  have F0 := F0.below b
  have m0 := m0.keep (keep_below b (fun p hp => (m0.lt p hp).2))
  have k1 := bthen k1 b
  have hb := bthen hb b
  clear b
  have qB1 := B1.cell
  have qB2 := B2.cell
  have qP0 := P0.cell
  have qC1 := C1.cell
  have qC2 := C2.cell
  have qG0 := G0.cell
  have qF0 := F0.cell
  go_wp2_with fail
  go_ret
  exact ⟨rfl, hb⟩
end Go.Proofs.YthgelhglfbgagaaGreatDoor
