import Derived.Test.YtcpakignoijphaaDoorFits
import Derived.Test.YtcpakignoijphaaDoorLaw0
import Derived.Test.YtcpakignoijphaaDoorSz
import Derived.Test.YtcpakignoijphaaDoorToB
import Derived.Test.YtcpakignoijphaaDoorEq
import Derived.Deep.RegionHeld3
namespace Go.Proofs.YtcpakignoijphaaDoor
open Go Go.RowKit Go.BigFrame

set_option maxRecDepth 100000 in
set_option maxHeartbeats 8000000 in
theorem lawFitsAfter (v0 : Value) (sig : List Ctl) (v1 : Value) (ba : Big) (v2 : Value) (bc : Big) (w : World) (h0 : CtlsM 9223372036854775807 w v0 sig) (h1 : BigM 9223372036854775807 w v1 ba) (h2 : BigM 9223372036854775807 w v2 bc) : Calls Tryd.prog 9 #[v0, v1, v2] w fun e w' => e = .returned (.bool true) ∧ Below w.heap.size w w' := by
  obtain ⟨p1_1, p1_5, p1_2, p1_6, p1_3, p1_7, p1_4, p1_8, rfl⟩ := h1.mshape
  obtain ⟨p2_1, p2_5, p2_2, p2_6, p2_3, p2_7, p2_4, p2_8, rfl⟩ := h2.mshape
  by_cases t0 : totC sig ≤ 1048576
  case neg =>
    go_enter Tryd.func9, Tryd.ntmps9
    go_wp2_with fail
    obtain ⟨W0, hW0⟩ : ∃ W, W = (w.alloc (.cells #[.int .i64 ba.roots, .slice p1_1 ba.nodes.length p1_5, .slice p1_2 ba.sites.length p1_6, .int .i64 ba.edges, .slice p1_3 ba.outer.length p1_7, .slice p1_4 ba.inner.length p1_8] 28)).alloc (.cells #[.int .i64 bc.roots, .slice p2_1 bc.nodes.length p2_5, .slice p2_2 bc.sites.length p2_6, .int .i64 bc.edges, .slice p2_3 bc.outer.length p2_7, .slice p2_4 bc.inner.length p2_8] 28) := ⟨_, rfl⟩
    rw [← hW0]
    have hb : Below w.heap.size w W0 := by rw [hW0]; exact bthen (balloc _ _) (balloc _ _)
    have B1 : Box W0 w.heap.size #[.int .i64 ba.roots, .slice p1_1 ba.nodes.length p1_5, .slice p1_2 ba.sites.length p1_6, .int .i64 ba.edges, .slice p1_3 ba.outer.length p1_7, .slice p1_4 ba.inner.length p1_8] 28 := by rw [hW0]; exact (Box.new _ _ _).alloc _
    have B2 : Box W0 (w.heap.size + 1) #[.int .i64 bc.roots, .slice p2_1 bc.nodes.length p2_5, .slice p2_2 bc.sites.length p2_6, .int .i64 bc.edges, .slice p2_3 bc.outer.length p2_7, .slice p2_4 bc.inner.length p2_8] 28 := by rw [hW0]; exact Box.new' _ _ _ (by simp)
    clear hW0
    refine (szControlS_ct _ sig (1048576) _ (-1) (by show _ = _; unfold left; rw [if_pos (by omega)]) (h0.below hb) (by omega) (by omega)).mono ?_
    rintro e w1 ⟨rfl, b⟩
    have B1 := B1.below b
    have B2 := B2.below b
    have hb := bthen hb b
    clear b
    have qB1 := B1.cell
    have qB2 := B2.cell
    go_wp2_with fail
    go_ret
    exact ⟨rfl, hb⟩
  by_cases t1 : totC sig + totB ba ≤ 1048576
  case neg =>
    go_enter Tryd.func9, Tryd.ntmps9
    go_wp2_with fail
    obtain ⟨W0, hW0⟩ : ∃ W, W = (w.alloc (.cells #[.int .i64 ba.roots, .slice p1_1 ba.nodes.length p1_5, .slice p1_2 ba.sites.length p1_6, .int .i64 ba.edges, .slice p1_3 ba.outer.length p1_7, .slice p1_4 ba.inner.length p1_8] 28)).alloc (.cells #[.int .i64 bc.roots, .slice p2_1 bc.nodes.length p2_5, .slice p2_2 bc.sites.length p2_6, .int .i64 bc.edges, .slice p2_3 bc.outer.length p2_7, .slice p2_4 bc.inner.length p2_8] 28) := ⟨_, rfl⟩
    rw [← hW0]
    have hb : Below w.heap.size w W0 := by rw [hW0]; exact bthen (balloc _ _) (balloc _ _)
    have B1 : Box W0 w.heap.size #[.int .i64 ba.roots, .slice p1_1 ba.nodes.length p1_5, .slice p1_2 ba.sites.length p1_6, .int .i64 ba.edges, .slice p1_3 ba.outer.length p1_7, .slice p1_4 ba.inner.length p1_8] 28 := by rw [hW0]; exact (Box.new _ _ _).alloc _
    have B2 : Box W0 (w.heap.size + 1) #[.int .i64 bc.roots, .slice p2_1 bc.nodes.length p2_5, .slice p2_2 bc.sites.length p2_6, .int .i64 bc.edges, .slice p2_3 bc.outer.length p2_7, .slice p2_4 bc.inner.length p2_8] 28 := by rw [hW0]; exact Box.new' _ _ _ (by simp)
    clear hW0
    refine (szControlS_ct _ sig (1048576) _ (1048576 - (totC sig : Int)) (by show _ = _; unfold left; rw [if_neg (by omega)]) (h0.below hb) (by omega) (by omega)).mono ?_
    rintro e w1 ⟨rfl, b⟩
    have B1 := B1.below b
    have B2 := B2.below b
    have hb := bthen hb b
    clear b
    have qB1 := B1.cell
    have qB2 := B2.cell
    go_wp2_with fail
    clear qB1 qB2
    refine (szBigraph_ct _ ba (1048576 - (totC sig : Int)) _ (-1) (by show _ = _; unfold left; rw [if_pos (by omega)]) (h1.below hb) (by omega) (by omega)).mono ?_
    rintro e w2 ⟨rfl, b⟩
    have B1 := B1.below b
    have B2 := B2.below b
    have hb := bthen hb b
    clear b
    have qB1 := B1.cell
    have qB2 := B2.cell
    go_wp2_with fail
    go_ret
    exact ⟨rfl, hb⟩
  by_cases t2 : totC sig + totB ba + totB bc ≤ 1048576
  case neg =>
    go_enter Tryd.func9, Tryd.ntmps9
    go_wp2_with fail
    obtain ⟨W0, hW0⟩ : ∃ W, W = (w.alloc (.cells #[.int .i64 ba.roots, .slice p1_1 ba.nodes.length p1_5, .slice p1_2 ba.sites.length p1_6, .int .i64 ba.edges, .slice p1_3 ba.outer.length p1_7, .slice p1_4 ba.inner.length p1_8] 28)).alloc (.cells #[.int .i64 bc.roots, .slice p2_1 bc.nodes.length p2_5, .slice p2_2 bc.sites.length p2_6, .int .i64 bc.edges, .slice p2_3 bc.outer.length p2_7, .slice p2_4 bc.inner.length p2_8] 28) := ⟨_, rfl⟩
    rw [← hW0]
    have hb : Below w.heap.size w W0 := by rw [hW0]; exact bthen (balloc _ _) (balloc _ _)
    have B1 : Box W0 w.heap.size #[.int .i64 ba.roots, .slice p1_1 ba.nodes.length p1_5, .slice p1_2 ba.sites.length p1_6, .int .i64 ba.edges, .slice p1_3 ba.outer.length p1_7, .slice p1_4 ba.inner.length p1_8] 28 := by rw [hW0]; exact (Box.new _ _ _).alloc _
    have B2 : Box W0 (w.heap.size + 1) #[.int .i64 bc.roots, .slice p2_1 bc.nodes.length p2_5, .slice p2_2 bc.sites.length p2_6, .int .i64 bc.edges, .slice p2_3 bc.outer.length p2_7, .slice p2_4 bc.inner.length p2_8] 28 := by rw [hW0]; exact Box.new' _ _ _ (by simp)
    clear hW0
    refine (szControlS_ct _ sig (1048576) _ (1048576 - (totC sig : Int)) (by show _ = _; unfold left; rw [if_neg (by omega)]) (h0.below hb) (by omega) (by omega)).mono ?_
    rintro e w1 ⟨rfl, b⟩
    have B1 := B1.below b
    have B2 := B2.below b
    have hb := bthen hb b
    clear b
    have qB1 := B1.cell
    have qB2 := B2.cell
    go_wp2_with fail
    clear qB1 qB2
    refine (szBigraph_ct _ ba (1048576 - (totC sig : Int)) _ (1048576 - (totC sig : Int) - (totB ba : Int)) (by show _ = _; unfold left; rw [if_neg (by omega)]) (h1.below hb) (by omega) (by omega)).mono ?_
    rintro e w2 ⟨rfl, b⟩
    have B1 := B1.below b
    have B2 := B2.below b
    have hb := bthen hb b
    clear b
    have qB1 := B1.cell
    have qB2 := B2.cell
    go_wp2_with fail
    clear qB1 qB2
    refine (szBigraph_ct _ bc (1048576 - (totC sig : Int) - (totB ba : Int)) _ (-1) (by show _ = _; unfold left; rw [if_pos (by omega)]) (h2.below hb) (by omega) (by omega)).mono ?_
    rintro e w3 ⟨rfl, b⟩
    have B1 := B1.below b
    have B2 := B2.below b
    have hb := bthen hb b
    clear b
    have qB1 := B1.cell
    have qB2 := B2.cell
    go_wp2_with fail
    go_ret
    exact ⟨rfl, hb⟩
  obtain ⟨r0, r1, hss, hi⟩ : ∃ (r0 : Bool) (r1 : Bool), (∀ v0 v1 v2 W, CtlsAt W v0 sig → BigAt W v1 ba → BigAt W v2 bc → Calls Tryd.prog 33 #[v0, v1, v2] W fun e w' => e = .returned (.tuple #[.bool r0, .bool r1]) ∧ Below W.heap.size W w') ∧ (∀ v0 v1 v2 W, CtlsAt W v0 sig → BigAt W v1 ba → BigAt W v2 bc → Calls Tryd.prog 34 #[v0, v1, v2] W fun e w' => e = .returned (.tuple #[.bool r0, .bool r1]) ∧ Below W.heap.size W w') :=
    ⟨goodB sig ba && (goodB sig bc && fitsB ba bc), goodB sig ba && goodB sig bc, fun v0 v1 v2 W h0 h1 h2 => specFitsAfter_ct v0 v1 v2 sig ba bc W h0 h1 h2, fun v0 v1 v2 W h0 h1 h2 => implFitsAfter_ct v0 v1 v2 sig ba bc W h0 h1 h2⟩
  have HS : Hid _ := hss
  have HI : Hid _ := hi
  clear hss hi
  have g0 : CtlsAt w v0 sig := h0.small (by omega)
  have g1 : BigAt w (.agg #[.int .i64 ba.roots, .slice p1_1 ba.nodes.length p1_5, .slice p1_2 ba.sites.length p1_6, .int .i64 ba.edges, .slice p1_3 ba.outer.length p1_7, .slice p1_4 ba.inner.length p1_8]) ba := h1.small (by omega)
  have g2 : BigAt w (.agg #[.int .i64 bc.roots, .slice p2_1 bc.nodes.length p2_5, .slice p2_2 bc.sites.length p2_6, .int .i64 bc.edges, .slice p2_3 bc.outer.length p2_7, .slice p2_4 bc.inner.length p2_8]) bc := h2.small (by omega)
  go_enter Tryd.func9, Tryd.ntmps9
  go_wp2_with fail
  obtain ⟨W0, hW0⟩ : ∃ W, W = (w.alloc (.cells #[.int .i64 ba.roots, .slice p1_1 ba.nodes.length p1_5, .slice p1_2 ba.sites.length p1_6, .int .i64 ba.edges, .slice p1_3 ba.outer.length p1_7, .slice p1_4 ba.inner.length p1_8] 28)).alloc (.cells #[.int .i64 bc.roots, .slice p2_1 bc.nodes.length p2_5, .slice p2_2 bc.sites.length p2_6, .int .i64 bc.edges, .slice p2_3 bc.outer.length p2_7, .slice p2_4 bc.inner.length p2_8] 28) := ⟨_, rfl⟩
  rw [← hW0]
  have hb : Below w.heap.size w W0 := by rw [hW0]; exact bthen (balloc _ _) (balloc _ _)
  have B1 : Box W0 w.heap.size #[.int .i64 ba.roots, .slice p1_1 ba.nodes.length p1_5, .slice p1_2 ba.sites.length p1_6, .int .i64 ba.edges, .slice p1_3 ba.outer.length p1_7, .slice p1_4 ba.inner.length p1_8] 28 := by rw [hW0]; exact (Box.new _ _ _).alloc _
  have B2 : Box W0 (w.heap.size + 1) #[.int .i64 bc.roots, .slice p2_1 bc.nodes.length p2_5, .slice p2_2 bc.sites.length p2_6, .int .i64 bc.edges, .slice p2_3 bc.outer.length p2_7, .slice p2_4 bc.inner.length p2_8] 28 := by rw [hW0]; exact Box.new' _ _ _ (by simp)
  clear hW0
  refine (szControlS_ct _ sig (1048576) _ (1048576 - (totC sig : Int)) (by show _ = _; unfold left; rw [if_neg (by omega)]) (h0.below hb) (by omega) (by omega)).mono ?_
  rintro e w1 ⟨rfl, b⟩
  have B1 := B1.below b
  have B2 := B2.below b
  have hb := bthen hb b
  clear b
  have qB1 := B1.cell
  have qB2 := B2.cell
  go_wp2_with fail
  clear qB1 qB2
  refine (szBigraph_ct _ ba (1048576 - (totC sig : Int)) _ (1048576 - (totC sig : Int) - (totB ba : Int)) (by show _ = _; unfold left; rw [if_neg (by omega)]) (h1.below hb) (by omega) (by omega)).mono ?_
  rintro e w2 ⟨rfl, b⟩
  have B1 := B1.below b
  have B2 := B2.below b
  have hb := bthen hb b
  clear b
  have qB1 := B1.cell
  have qB2 := B2.cell
  go_wp2_with fail
  clear qB1 qB2
  refine (szBigraph_ct _ bc (1048576 - (totC sig : Int) - (totB ba : Int)) _ (1048576 - (totC sig : Int) - (totB ba : Int) - (totB bc : Int)) (by show _ = _; unfold left; rw [if_neg (by omega)]) (h2.below hb) (by omega) (by omega)).mono ?_
  rintro e w3 ⟨rfl, b⟩
  have B1 := B1.below b
  have B2 := B2.below b
  have hb := bthen hb b
  clear b
  have qB1 := B1.cell
  have qB2 := B2.cell
  go_wp2_with fail
  clear qB1 qB2
  have hb := bdrew hb
  have B1 := B1.drew
  have B2 := B2.drew
  go_region_held3 (fun w' => w'.cell? ⟨w.heap.size, 0, none⟩ = some (.int .i64 ba.roots) ∧ w'.cell? ⟨w.heap.size, 1, none⟩ = some (.slice p1_1 ba.nodes.length p1_5) ∧ w'.cell? ⟨w.heap.size, 2, none⟩ = some (.slice p1_2 ba.sites.length p1_6) ∧ w'.cell? ⟨w.heap.size, 3, none⟩ = some (.int .i64 ba.edges) ∧ w'.cell? ⟨w.heap.size, 4, none⟩ = some (.slice p1_3 ba.outer.length p1_7) ∧ w'.cell? ⟨w.heap.size, 5, none⟩ = some (.slice p1_4 ba.inner.length p1_8) ∧ w'.cell? ⟨w.heap.size + 1, 0, none⟩ = some (.int .i64 bc.roots) ∧ w'.cell? ⟨w.heap.size + 1, 1, none⟩ = some (.slice p2_1 bc.nodes.length p2_5) ∧ w'.cell? ⟨w.heap.size + 1, 2, none⟩ = some (.slice p2_2 bc.sites.length p2_6) ∧ w'.cell? ⟨w.heap.size + 1, 3, none⟩ = some (.int .i64 bc.edges) ∧ w'.cell? ⟨w.heap.size + 1, 4, none⟩ = some (.slice p2_3 bc.outer.length p2_7) ∧ w'.cell? ⟨w.heap.size + 1, 5, none⟩ = some (.slice p2_4 bc.inner.length p2_8)) (first | exact ⟨B1.cell 0, B1.cell 1, B1.cell 2, B1.cell 3, B1.cell 4, B1.cell 5, B2.cell 0, B2.cell 1, B2.cell 2, B2.cell 3, B2.cell 4, B2.cell 5⟩) (first | (go_at_call 18; (with_reducible refine (toControlS_ct _ sig _ (g0.below hb)).mono ?_); rintro e w4 ⟨s0, rfl, os0, b⟩; have os0 := os0.at; have B1 := B1.below b; have B2 := B2.below b; have hb := bthen hb b; clear b) | (go_at_call 19; (with_reducible refine (toBigraph_ct _ ba _ (g1.below hb)).mono ?_); rintro e w5 ⟨s1, bss1, rfl, os1, _, b⟩; have os1 := os1.at; have B1 := B1.below b; have B2 := B2.below b; have os0 := os0.below b; have hb := bthen hb b; clear b) | (go_at_call 19; (with_reducible refine (toBigraph_ct _ bc _ (g2.below hb)).mono ?_); rintro e w6 ⟨s2, bss2, rfl, os2, _, b⟩; have os2 := os2.at; have B1 := B1.below b; have B2 := B2.below b; have os0 := os0.below b; have os1 := os1.below b; have hb := bthen hb b; clear b) | (go_at_call 33; (with_reducible refine (HS.out _ _ _ _ os0 os1 os2).mono ?_); rintro e w7 ⟨rfl, b⟩; have B1 := B1.below b; have B2 := B2.below b; have os0 := os0.below b; have os1 := os1.below b; have os2 := os2.below b; have hb := bthen hb b; clear b))
  clear os0 os1 os2
  have qB1 := B1.cell
  have qB2 := B2.cell
  go_wp2_with fail
  clear qB1 qB2
  refine (toControlS_ct _ sig _ (g0.below hb)).mono ?_
  rintro e w8 ⟨x0, rfl, ox0, b⟩
  have ox0 := ox0.at
  have B1 := B1.below b
  have B2 := B2.below b
  have hb := bthen hb b
  clear b
  have qB1 := B1.cell
  have qB2 := B2.cell
  go_wp2_with fail
  clear qB1 qB2
  refine (toBigraph_ct _ ba _ (g1.below hb)).mono ?_
  rintro e w9 ⟨x1, bsx1, rfl, ox1, _, b⟩
  have ox1 := ox1.at
  have B1 := B1.below b
  have B2 := B2.below b
  have ox0 := ox0.below b
  have hb := bthen hb b
  clear b
  obtain ⟨d1_1, d1_5, d1_2, d1_6, d1_3, d1_7, d1_4, d1_8, rfl⟩ := ox1.shape
  have qB1 := B1.cell
  have qB2 := B2.cell
  have qaB1 := (B1.alloc (.cells #[.int .i64 ba.roots, .slice d1_1 ba.nodes.length d1_5, .slice d1_2 ba.sites.length d1_6, .int .i64 ba.edges, .slice d1_3 ba.outer.length d1_7, .slice d1_4 ba.inner.length d1_8] 37)).cell
  have qaB2 := (B2.alloc (.cells #[.int .i64 ba.roots, .slice d1_1 ba.nodes.length d1_5, .slice d1_2 ba.sites.length d1_6, .int .i64 ba.edges, .slice d1_3 ba.outer.length d1_7, .slice d1_4 ba.inner.length d1_8] 37)).cell
  go_wp2_with fail
  clear qB1 qB2
  clear qaB1 qaB2
  obtain ⟨X1, hX1⟩ : ∃ W, W = w9.alloc (.cells #[.int .i64 ba.roots, .slice d1_1 ba.nodes.length d1_5, .slice d1_2 ba.sites.length d1_6, .int .i64 ba.edges, .slice d1_3 ba.outer.length d1_7, .slice d1_4 ba.inner.length d1_8] 37) := ⟨_, rfl⟩
  rw [← hX1]
  have b : Below w9.heap.size w9 X1 := by rw [hX1]; exact balloc _ _
  have C1 : Box X1 w9.heap.size #[.int .i64 ba.roots, .slice d1_1 ba.nodes.length d1_5, .slice d1_2 ba.sites.length d1_6, .int .i64 ba.edges, .slice d1_3 ba.outer.length d1_7, .slice d1_4 ba.inner.length d1_8] 37 := by rw [hX1]; exact Box.new _ _ _
  have B1 := B1.below b
  have B2 := B2.below b
  have ox0 := ox0.below b
  have ox1 := ox1.below b
  have hb := bthen hb b
  clear b
  clear hX1
  have qB1 := B1.cell
  have qB2 := B2.cell
  have qC1 := C1.cell
  go_wp2_with fail
  clear qB1 qB2 qC1
  refine (toBigraph_ct _ bc _ (g2.below hb)).mono ?_
  rintro e w10 ⟨x2, bsx2, rfl, ox2, _, b⟩
  have ox2 := ox2.at
  have B1 := B1.below b
  have B2 := B2.below b
  have C1 := C1.below b
  have ox0 := ox0.below b
  have ox1 := ox1.below b
  have hb := bthen hb b
  clear b
  obtain ⟨d2_1, d2_5, d2_2, d2_6, d2_3, d2_7, d2_4, d2_8, rfl⟩ := ox2.shape
  have qB1 := B1.cell
  have qB2 := B2.cell
  have qC1 := C1.cell
  have qaB1 := (B1.alloc (.cells #[.int .i64 bc.roots, .slice d2_1 bc.nodes.length d2_5, .slice d2_2 bc.sites.length d2_6, .int .i64 bc.edges, .slice d2_3 bc.outer.length d2_7, .slice d2_4 bc.inner.length d2_8] 37)).cell
  have qaB2 := (B2.alloc (.cells #[.int .i64 bc.roots, .slice d2_1 bc.nodes.length d2_5, .slice d2_2 bc.sites.length d2_6, .int .i64 bc.edges, .slice d2_3 bc.outer.length d2_7, .slice d2_4 bc.inner.length d2_8] 37)).cell
  have qaC1 := (C1.alloc (.cells #[.int .i64 bc.roots, .slice d2_1 bc.nodes.length d2_5, .slice d2_2 bc.sites.length d2_6, .int .i64 bc.edges, .slice d2_3 bc.outer.length d2_7, .slice d2_4 bc.inner.length d2_8] 37)).cell
  go_wp2_with fail
  clear qB1 qB2 qC1
  clear qaB1 qaB2 qaC1
  obtain ⟨X2, hX2⟩ : ∃ W, W = w10.alloc (.cells #[.int .i64 bc.roots, .slice d2_1 bc.nodes.length d2_5, .slice d2_2 bc.sites.length d2_6, .int .i64 bc.edges, .slice d2_3 bc.outer.length d2_7, .slice d2_4 bc.inner.length d2_8] 37) := ⟨_, rfl⟩
  rw [← hX2]
  have b : Below w10.heap.size w10 X2 := by rw [hX2]; exact balloc _ _
  have C2 : Box X2 w10.heap.size #[.int .i64 bc.roots, .slice d2_1 bc.nodes.length d2_5, .slice d2_2 bc.sites.length d2_6, .int .i64 bc.edges, .slice d2_3 bc.outer.length d2_7, .slice d2_4 bc.inner.length d2_8] 37 := by rw [hX2]; exact Box.new _ _ _
  have B1 := B1.below b
  have B2 := B2.below b
  have C1 := C1.below b
  have ox0 := ox0.below b
  have ox1 := ox1.below b
  have ox2 := ox2.below b
  have hb := bthen hb b
  clear b
  clear hX2
  refine (HI.out _ _ _ _ ox0 ox1 ox2).mono ?_
  rintro e w11 ⟨rfl, b⟩
  have B1 := B1.below b
  have B2 := B2.below b
  have C1 := C1.below b
  have C2 := C2.below b
  have ox0 := ox0.below b
  have ox1 := ox1.below b
  have ox2 := ox2.below b
  have hb := bthen hb b
  clear b
  have qB1 := B1.cell
  have qB2 := B2.cell
  have qC1 := C1.cell
  have qC2 := C2.cell
  go_wp2_with fail
  clear qB1 qB2 qC1 qC2
  refine (toControlS_ct _ sig _ (g0.below hb)).mono ?_
  rintro e w12 ⟨y0, rfl, oy0, b⟩
  have oy0 := oy0.at
  have B1 := B1.below b
  have B2 := B2.below b
  have C1 := C1.below b
  have C2 := C2.below b
  have ox0 := ox0.below b
  have ox1 := ox1.below b
  have ox2 := ox2.below b
  have hb := bthen hb b
  clear b
  have qB1 := B1.cell
  have qB2 := B2.cell
  have qC1 := C1.cell
  have qC2 := C2.cell
  go_wp2_with fail
  clear qB1 qB2 qC1 qC2
  refine (eqControlS_ct _ _ sig _ ox0 oy0).mono ?_
  rintro e w13 ⟨rfl, b⟩
  have B1 := B1.below b
  have B2 := B2.below b
  have C1 := C1.below b
  have C2 := C2.below b
  have ox0 := ox0.below b
  have ox1 := ox1.below b
  have ox2 := ox2.below b
  have hb := bthen hb b
  clear b
  clear oy0
  have qB1 := B1.cell
  have qB2 := B2.cell
  have qC1 := C1.cell
  have qC2 := C2.cell
  go_wp2_with fail
  clear qB1 qB2 qC1 qC2
  have hb := bdrew hb
  have B1 := B1.drew
  have B2 := B2.drew
  have C1 := C1.drew
  have C2 := C2.drew
  have ox0 := ox0.below (bdrew (Below.refl _ _))
  have ox1 := ox1.below (bdrew (Below.refl _ _))
  have ox2 := ox2.below (bdrew (Below.refl _ _))
  go_region_held3 (fun w' => w'.cell? ⟨w9.heap.size, 0, none⟩ = some (.int .i64 ba.roots) ∧ w'.cell? ⟨w9.heap.size, 1, none⟩ = some (.slice d1_1 ba.nodes.length d1_5) ∧ w'.cell? ⟨w9.heap.size, 2, none⟩ = some (.slice d1_2 ba.sites.length d1_6) ∧ w'.cell? ⟨w9.heap.size, 3, none⟩ = some (.int .i64 ba.edges) ∧ w'.cell? ⟨w9.heap.size, 4, none⟩ = some (.slice d1_3 ba.outer.length d1_7) ∧ w'.cell? ⟨w9.heap.size, 5, none⟩ = some (.slice d1_4 ba.inner.length d1_8) ∧ w'.cell? ⟨w.heap.size, 0, none⟩ = some (.int .i64 ba.roots) ∧ w'.cell? ⟨w.heap.size, 1, none⟩ = some (.slice p1_1 ba.nodes.length p1_5) ∧ w'.cell? ⟨w.heap.size, 2, none⟩ = some (.slice p1_2 ba.sites.length p1_6) ∧ w'.cell? ⟨w.heap.size, 3, none⟩ = some (.int .i64 ba.edges) ∧ w'.cell? ⟨w.heap.size, 4, none⟩ = some (.slice p1_3 ba.outer.length p1_7) ∧ w'.cell? ⟨w.heap.size, 5, none⟩ = some (.slice p1_4 ba.inner.length p1_8)) (first | exact ⟨C1.cell 0, C1.cell 1, C1.cell 2, C1.cell 3, C1.cell 4, C1.cell 5, B1.cell 0, B1.cell 1, B1.cell 2, B1.cell 3, B1.cell 4, B1.cell 5⟩) (first | (go_at_call 19; (with_reducible refine (toBigraph_ct _ ba _ (g1.below hb)).mono ?_); rintro e w14 ⟨y1, bsy1, rfl, oy1, _, b⟩; have oy1 := oy1.at; have B1 := B1.below b; have B2 := B2.below b; have C1 := C1.below b; have C2 := C2.below b; have ox0 := ox0.below b; have ox1 := ox1.below b; have ox2 := ox2.below b; have hb := bthen hb b; clear b) | (go_at_call 22; (with_reducible refine (eqBigraph_ct _ _ ba _ ox1 oy1).mono ?_); rintro e w15 ⟨rfl, b⟩; have B1 := B1.below b; have B2 := B2.below b; have C1 := C1.below b; have C2 := C2.below b; have ox0 := ox0.below b; have ox1 := ox1.below b; have ox2 := ox2.below b; have hb := bthen hb b; clear b))
  clear oy1
  have qB1 := B1.cell
  have qB2 := B2.cell
  have qC1 := C1.cell
  have qC2 := C2.cell
  go_wp2_with fail
  clear qB1 qB2 qC1 qC2
  have hb := bdrew hb
  have B1 := B1.drew
  have B2 := B2.drew
  have C1 := C1.drew
  have C2 := C2.drew
  have ox0 := ox0.below (bdrew (Below.refl _ _))
  have ox1 := ox1.below (bdrew (Below.refl _ _))
  have ox2 := ox2.below (bdrew (Below.refl _ _))
  go_region_held3 (fun w' => w'.cell? ⟨w10.heap.size, 0, none⟩ = some (.int .i64 bc.roots) ∧ w'.cell? ⟨w10.heap.size, 1, none⟩ = some (.slice d2_1 bc.nodes.length d2_5) ∧ w'.cell? ⟨w10.heap.size, 2, none⟩ = some (.slice d2_2 bc.sites.length d2_6) ∧ w'.cell? ⟨w10.heap.size, 3, none⟩ = some (.int .i64 bc.edges) ∧ w'.cell? ⟨w10.heap.size, 4, none⟩ = some (.slice d2_3 bc.outer.length d2_7) ∧ w'.cell? ⟨w10.heap.size, 5, none⟩ = some (.slice d2_4 bc.inner.length d2_8) ∧ w'.cell? ⟨w.heap.size + 1, 0, none⟩ = some (.int .i64 bc.roots) ∧ w'.cell? ⟨w.heap.size + 1, 1, none⟩ = some (.slice p2_1 bc.nodes.length p2_5) ∧ w'.cell? ⟨w.heap.size + 1, 2, none⟩ = some (.slice p2_2 bc.sites.length p2_6) ∧ w'.cell? ⟨w.heap.size + 1, 3, none⟩ = some (.int .i64 bc.edges) ∧ w'.cell? ⟨w.heap.size + 1, 4, none⟩ = some (.slice p2_3 bc.outer.length p2_7) ∧ w'.cell? ⟨w.heap.size + 1, 5, none⟩ = some (.slice p2_4 bc.inner.length p2_8)) (first | exact ⟨C2.cell 0, C2.cell 1, C2.cell 2, C2.cell 3, C2.cell 4, C2.cell 5, B2.cell 0, B2.cell 1, B2.cell 2, B2.cell 3, B2.cell 4, B2.cell 5⟩) (first | (go_at_call 19; (with_reducible refine (toBigraph_ct _ bc _ (g2.below hb)).mono ?_); rintro e w16 ⟨y2, bsy2, rfl, oy2, _, b⟩; have oy2 := oy2.at; have B1 := B1.below b; have B2 := B2.below b; have C1 := C1.below b; have C2 := C2.below b; have ox0 := ox0.below b; have ox1 := ox1.below b; have ox2 := ox2.below b; have hb := bthen hb b; clear b) | (go_at_call 22; (with_reducible refine (eqBigraph_ct _ _ bc _ ox2 oy2).mono ?_); rintro e w17 ⟨rfl, b⟩; have B1 := B1.below b; have B2 := B2.below b; have C1 := C1.below b; have C2 := C2.below b; have ox0 := ox0.below b; have ox1 := ox1.below b; have ox2 := ox2.below b; have hb := bthen hb b; clear b))
  clear oy2
  go_wp2_with fail
  go_ret
  exact ⟨rfl, hb⟩
end Go.Proofs.YtcpakignoijphaaDoor
