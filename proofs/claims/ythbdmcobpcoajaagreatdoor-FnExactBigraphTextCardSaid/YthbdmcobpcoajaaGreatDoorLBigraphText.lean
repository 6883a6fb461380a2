import Derived.Test.YthbdmcobpcoajaaGreatDoorTextI
import Derived.Test.YthbdmcobpcoajaaGreatDoorG4
import Derived.Test.YthbdmcobpcoajaaGreatDoorG5
import Derived.Test.YthbdmcobpcoajaaGreatDoorG6
import Derived.Deep.RegionHeld3
namespace Go.Proofs.YthbdmcobpcoajaaGreatDoor
open Go Go.RowKit Go.BigFrame

set_option maxRecDepth 100000 in
set_option maxHeartbeats 8000000 in
theorem lawBigraphText (v0 : Value) (sig : List Ctl) (v1 : Value) (bg : Big) (w : World) (h0 : CtlsM 9223372036854775807 w v0 sig) (h1 : BigM 9223372036854775807 w v1 bg) (htab : Lib.TabIs Tryz.prog w "internal/strconv.uint64pow10" .u64 Lib.pow10Tab) : Calls Tryz.prog 8 #[v0, v1] w fun e w' => e = .returned (.bool true) ∧ Below w.heap.size w w' := by
  obtain ⟨p1_1, p1_5, p1_2, p1_6, p1_3, p1_7, p1_4, p1_8, rfl⟩ := h1.mshape
  by_cases t0 : totC sig ≤ 1048576
  case neg =>
    go_enter Tryz.func8, Tryz.ntmps8
    go_wp2_with fail
    obtain ⟨W0, hW0⟩ : ∃ W, W = w.alloc (.cells #[.int .i64 bg.roots, .slice p1_1 bg.nodes.length p1_5, .slice p1_2 bg.sites.length p1_6, .int .i64 bg.edges, .slice p1_3 bg.outer.length p1_7, .slice p1_4 bg.inner.length p1_8] 28) := ⟨_, rfl⟩
    rw [← hW0]
    have hb : Below w.heap.size w W0 := by rw [hW0]; exact balloc _ _
    have B1 : Box W0 w.heap.size #[.int .i64 bg.roots, .slice p1_1 bg.nodes.length p1_5, .slice p1_2 bg.sites.length p1_6, .int .i64 bg.edges, .slice p1_3 bg.outer.length p1_7, .slice p1_4 bg.inner.length p1_8] 28 := by rw [hW0]; exact Box.new _ _ _
    clear hW0
    refine (szControlS_ct _ sig (1048576) _ (-1) (by show _ = _; unfold left; rw [if_pos (by omega)]) (h0.below hb) (by omega) (by omega)).mono ?_
    rintro e w1 ⟨rfl, b⟩
    have B1 := B1.below b
    have hb := bthen hb b
    clear b
    have qB1 := B1.cell
    go_wp2_with fail
    go_ret
    exact ⟨rfl, hb⟩
  by_cases t1 : totC sig + totB bg ≤ 1048576
  case neg =>
    go_enter Tryz.func8, Tryz.ntmps8
    go_wp2_with fail
    obtain ⟨W0, hW0⟩ : ∃ W, W = w.alloc (.cells #[.int .i64 bg.roots, .slice p1_1 bg.nodes.length p1_5, .slice p1_2 bg.sites.length p1_6, .int .i64 bg.edges, .slice p1_3 bg.outer.length p1_7, .slice p1_4 bg.inner.length p1_8] 28) := ⟨_, rfl⟩
    rw [← hW0]
    have hb : Below w.heap.size w W0 := by rw [hW0]; exact balloc _ _
    have B1 : Box W0 w.heap.size #[.int .i64 bg.roots, .slice p1_1 bg.nodes.length p1_5, .slice p1_2 bg.sites.length p1_6, .int .i64 bg.edges, .slice p1_3 bg.outer.length p1_7, .slice p1_4 bg.inner.length p1_8] 28 := by rw [hW0]; exact Box.new _ _ _
    clear hW0
    refine (szControlS_ct _ sig (1048576) _ (1048576 - (totC sig : Int)) (by show _ = _; unfold left; rw [if_neg (by omega)]) (h0.below hb) (by omega) (by omega)).mono ?_
    rintro e w1 ⟨rfl, b⟩
    have B1 := B1.below b
    have hb := bthen hb b
    clear b
    have qB1 := B1.cell
    go_wp2_with fail
    clear qB1
    refine (szBigraph_ct _ bg (1048576 - (totC sig : Int)) _ (-1) (by show _ = _; unfold left; rw [if_pos (by omega)]) (h1.below hb) (by omega) (by omega)).mono ?_
    rintro e w2 ⟨rfl, b⟩
    have B1 := B1.below b
    have hb := bthen hb b
    clear b
    have qB1 := B1.cell
    go_wp2_with fail
    go_ret
    exact ⟨rfl, hb⟩
  obtain ⟨r0, r1, hss, hi⟩ : ∃ (r0 : ByteArray) (r1 : Bool), (∀ v0 v1 W, CtlsAt W v0 sig → BigAt W v1 bg → Calls Tryz.prog 32 #[v0, v1] W fun e w' => e = .returned (.tuple #[.string r0, .bool r1]) ∧ Below W.heap.size W w') ∧ (∀ v0 v1 W, CtlsAt W v0 sig → BigAt W v1 bg → Lib.TabIs Tryz.prog W "internal/strconv.uint64pow10" .u64 Lib.pow10Tab → Calls Tryz.prog 33 #[v0, v1] W fun e w' => e = .returned (.tuple #[.string r0, .bool r1]) ∧ Below W.heap.size W w') :=
    ⟨txtR sig bg, goodB sig bg, fun v0 v1 W h0 h1 => specBigraphText_ct v0 v1 sig bg W ⟨h0, h1⟩, fun v0 v1 W h0 h1 ht => implBigraphText_ct v0 v1 sig bg W ⟨h0, h1⟩ ht⟩
  have HS : Hid _ := hss
  have HI : Hid _ := hi
  clear hss hi
  have HTB := Lib.hid htab
  clear htab
  have g0 : CtlsAt w v0 sig := h0.small (by omega)
  have g1 : BigAt w (.agg #[.int .i64 bg.roots, .slice p1_1 bg.nodes.length p1_5, .slice p1_2 bg.sites.length p1_6, .int .i64 bg.edges, .slice p1_3 bg.outer.length p1_7, .slice p1_4 bg.inner.length p1_8]) bg := h1.small (by omega)
  go_enter Tryz.func8, Tryz.ntmps8
  go_wp2_with fail
  obtain ⟨W0, hW0⟩ : ∃ W, W = w.alloc (.cells #[.int .i64 bg.roots, .slice p1_1 bg.nodes.length p1_5, .slice p1_2 bg.sites.length p1_6, .int .i64 bg.edges, .slice p1_3 bg.outer.length p1_7, .slice p1_4 bg.inner.length p1_8] 28) := ⟨_, rfl⟩
  rw [← hW0]
  have hb : Below w.heap.size w W0 := by rw [hW0]; exact balloc _ _
  have B1 : Box W0 w.heap.size #[.int .i64 bg.roots, .slice p1_1 bg.nodes.length p1_5, .slice p1_2 bg.sites.length p1_6, .int .i64 bg.edges, .slice p1_3 bg.outer.length p1_7, .slice p1_4 bg.inner.length p1_8] 28 := by rw [hW0]; exact Box.new _ _ _
  clear hW0
  refine (szControlS_ct _ sig (1048576) _ (1048576 - (totC sig : Int)) (by show _ = _; unfold left; rw [if_neg (by omega)]) (h0.below hb) (by omega) (by omega)).mono ?_
  rintro e w1 ⟨rfl, b⟩
  have B1 := B1.below b
  have hb := bthen hb b
  clear b
  have qB1 := B1.cell
  go_wp2_with fail
  clear qB1
  refine (szBigraph_ct _ bg (1048576 - (totC sig : Int)) _ (1048576 - (totC sig : Int) - (totB bg : Int)) (by show _ = _; unfold left; rw [if_neg (by omega)]) (h1.below hb) (by omega) (by omega)).mono ?_
  rintro e w2 ⟨rfl, b⟩
  have B1 := B1.below b
  have hb := bthen hb b
  clear b
  have qB1 := B1.cell
  go_wp2_with fail
  clear qB1
  have hb := bdrew hb
  have B1 := B1.drew
  go_region_held3 (fun w' => w'.cell? ⟨w.heap.size, 0, none⟩ = some (.int .i64 bg.roots) ∧ w'.cell? ⟨w.heap.size, 1, none⟩ = some (.slice p1_1 bg.nodes.length p1_5) ∧ w'.cell? ⟨w.heap.size, 2, none⟩ = some (.slice p1_2 bg.sites.length p1_6) ∧ w'.cell? ⟨w.heap.size, 3, none⟩ = some (.int .i64 bg.edges) ∧ w'.cell? ⟨w.heap.size, 4, none⟩ = some (.slice p1_3 bg.outer.length p1_7) ∧ w'.cell? ⟨w.heap.size, 5, none⟩ = some (.slice p1_4 bg.inner.length p1_8)) (first | exact ⟨B1.cell 0, B1.cell 1, B1.cell 2, B1.cell 3, B1.cell 4, B1.cell 5⟩) (first | (go_at_call 16; (with_reducible refine (toControlS_ct _ sig _ (g0.below hb)).mono ?_); rintro e w3 ⟨s0, rfl, os0, b⟩; have os0 := os0.at; have B1 := B1.below b; have hb := bthen hb b; clear b) | (go_at_call 17; (with_reducible refine (toBigraph_ct _ bg _ (g1.below hb)).mono ?_); rintro e w4 ⟨s1, bss1, rfl, os1, _, b⟩; have os1 := os1.at; have B1 := B1.below b; have os0 := os0.below b; have hb := bthen hb b; clear b) | (go_at_call 32; (with_reducible refine (HS.out _ _ _ os0 os1).mono ?_); rintro e w5 ⟨rfl, b⟩; have B1 := B1.below b; have os0 := os0.below b; have os1 := os1.below b; have hb := bthen hb b; clear b))
  clear os0 os1
  have qB1 := B1.cell
  go_wp2_with fail
  clear qB1
  refine (toControlS_ct _ sig _ (g0.below hb)).mono ?_
  rintro e w6 ⟨x0, rfl, ox0, b⟩
  have ox0 := ox0.at
  have B1 := B1.below b
  have hb := bthen hb b
  clear b
  have qB1 := B1.cell
  go_wp2_with fail
  clear qB1
  refine (toBigraph_ct _ bg _ (g1.below hb)).mono ?_
  rintro e w7 ⟨x1, bsx1, rfl, ox1, _, b⟩
  have ox1 := ox1.at
  have B1 := B1.below b
  have ox0 := ox0.below b
  have hb := bthen hb b
  clear b
  obtain ⟨d1_1, d1_5, d1_2, d1_6, d1_3, d1_7, d1_4, d1_8, rfl⟩ := ox1.shape
  have qB1 := B1.cell
  go_wp2_with fail
  clear qB1
  obtain ⟨X1, hX1⟩ : ∃ W, W = w7.alloc (.cells #[.int .i64 bg.roots, .slice d1_1 bg.nodes.length d1_5, .slice d1_2 bg.sites.length d1_6, .int .i64 bg.edges, .slice d1_3 bg.outer.length d1_7, .slice d1_4 bg.inner.length d1_8] 34) := ⟨_, rfl⟩
  rw [← hX1]
  have b : Below w7.heap.size w7 X1 := by rw [hX1]; exact balloc _ _
  have C1 : Box X1 w7.heap.size #[.int .i64 bg.roots, .slice d1_1 bg.nodes.length d1_5, .slice d1_2 bg.sites.length d1_6, .int .i64 bg.edges, .slice d1_3 bg.outer.length d1_7, .slice d1_4 bg.inner.length d1_8] 34 := by rw [hX1]; exact Box.new _ _ _
  have B1 := B1.below b
  have ox0 := ox0.below b
  have ox1 := ox1.below b
  have hb := bthen hb b
  clear b
  clear hX1
  refine (HI.out _ _ _ ox0 ox1 (TabIs.below HTB.out hb)).mono ?_
  rintro e w8 ⟨rfl, b⟩
  have B1 := B1.below b
  have C1 := C1.below b
  have ox0 := ox0.below b
  have ox1 := ox1.below b
  have hb := bthen hb b
  clear b
  have qB1 := B1.cell
  have qC1 := C1.cell
  go_wp2_with fail
  clear qB1 qC1
  refine (toControlS_ct _ sig _ (g0.below hb)).mono ?_
  rintro e w9 ⟨y0, rfl, oy0, b⟩
  have oy0 := oy0.at
  have B1 := B1.below b
  have C1 := C1.below b
  have ox0 := ox0.below b
  have ox1 := ox1.below b
  have hb := bthen hb b
  clear b
  have qB1 := B1.cell
  have qC1 := C1.cell
  go_wp2_with fail
  clear qB1 qC1
  refine (eqControlS_ct _ _ sig _ ox0 oy0).mono ?_
  rintro e w10 ⟨rfl, b⟩
  have B1 := B1.below b
  have C1 := C1.below b
  have ox0 := ox0.below b
  have ox1 := ox1.below b
  have hb := bthen hb b
  clear b
  clear oy0
  have qB1 := B1.cell
  have qC1 := C1.cell
  go_wp2_with fail
  clear qB1 qC1
  have hb := bdrew hb
  have B1 := B1.drew
  have C1 := C1.drew
  have ox0 := ox0.below (bdrew (Below.refl _ _))
  have ox1 := ox1.below (bdrew (Below.refl _ _))
  go_region_held3 (fun w' => w'.cell? ⟨w7.heap.size, 0, none⟩ = some (.int .i64 bg.roots) ∧ w'.cell? ⟨w7.heap.size, 1, none⟩ = some (.slice d1_1 bg.nodes.length d1_5) ∧ w'.cell? ⟨w7.heap.size, 2, none⟩ = some (.slice d1_2 bg.sites.length d1_6) ∧ w'.cell? ⟨w7.heap.size, 3, none⟩ = some (.int .i64 bg.edges) ∧ w'.cell? ⟨w7.heap.size, 4, none⟩ = some (.slice d1_3 bg.outer.length d1_7) ∧ w'.cell? ⟨w7.heap.size, 5, none⟩ = some (.slice d1_4 bg.inner.length d1_8) ∧ w'.cell? ⟨w.heap.size, 0, none⟩ = some (.int .i64 bg.roots) ∧ w'.cell? ⟨w.heap.size, 1, none⟩ = some (.slice p1_1 bg.nodes.length p1_5) ∧ w'.cell? ⟨w.heap.size, 2, none⟩ = some (.slice p1_2 bg.sites.length p1_6) ∧ w'.cell? ⟨w.heap.size, 3, none⟩ = some (.int .i64 bg.edges) ∧ w'.cell? ⟨w.heap.size, 4, none⟩ = some (.slice p1_3 bg.outer.length p1_7) ∧ w'.cell? ⟨w.heap.size, 5, none⟩ = some (.slice p1_4 bg.inner.length p1_8)) (first | exact ⟨C1.cell 0, C1.cell 1, C1.cell 2, C1.cell 3, C1.cell 4, C1.cell 5, B1.cell 0, B1.cell 1, B1.cell 2, B1.cell 3, B1.cell 4, B1.cell 5⟩) (first | (go_at_call 17; (with_reducible refine (toBigraph_ct _ bg _ (g1.below hb)).mono ?_); rintro e w11 ⟨y1, bsy1, rfl, oy1, _, b⟩; have oy1 := oy1.at; have B1 := B1.below b; have C1 := C1.below b; have ox0 := ox0.below b; have ox1 := ox1.below b; have hb := bthen hb b; clear b) | (go_at_call 19; (with_reducible refine (eqBigraph_ct _ _ bg _ ox1 oy1).mono ?_); rintro e w12 ⟨rfl, b⟩; have B1 := B1.below b; have C1 := C1.below b; have ox0 := ox0.below b; have ox1 := ox1.below b; have hb := bthen hb b; clear b))
  clear oy1
  go_wp2_with fail
  go_ret
  exact ⟨rfl, hb⟩
end Go.Proofs.YthbdmcobpcoajaaGreatDoor
