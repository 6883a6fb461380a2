/- One root for all: the program's. -/
import Derived.Test.YthbdmcobpcoajaaGreatDoorOwnB
import Derived.Test.YthbdmcobpcoajaaGreatDoorG1
namespace Go.Proofs.YthbdmcobpcoajaaGreatDoor
open Go Go.RowKit Go.BigFrame

set_option maxRecDepth 100000 in
set_option maxHeartbeats 4000000 in
theorem mergedRoots_ct (v : Value) (b : Big) (w : World) (h : BigAt w v b) (hn : b.nodes.length ≤ 1000) (hk : ∀ n ∈ b.nodes, n.links.length ≤ 1000) (hsl : b.sites.length ≤ 1000) (ho : b.outer.length ≤ 16) (hi : b.inner.length ≤ 1000) (hpa : ∀ n ∈ b.nodes, -1000 ≤ n.par ∧ n.par ≤ 1000) (hps : ∀ p ∈ b.sites, -1000 ≤ p ∧ p ≤ 1000) :
    Calls Tryz.prog 97 #[v] w fun e w' => ∃ v' bs, e = .returned v' ∧ BigOwn w.heap.size w' v' (mergeB b) bs ∧ bs.Nodup ∧ Below w.heap.size w w' := by
  obtain ⟨a1, c1, a2, c2, a3, c3, a4, c4, rfl⟩ := h.shape
  have hA := bthen (balloc w (.cells #[.int .i64 b.roots, .slice a1 b.nodes.length c1, .slice a2 b.sites.length c2, .int .i64 b.edges, .slice a3 b.outer.length c3, .slice a4 b.inner.length c4] 34)) (balloc (w.alloc (.cells #[.int .i64 b.roots, .slice a1 b.nodes.length c1, .slice a2 b.sites.length c2, .int .i64 b.edges, .slice a3 b.outer.length c3, .slice a4 b.inner.length c4] 34)) (.cells #[.int .i64 0, .slice none 0 0, .slice none 0 0, .int .i64 0, .slice none 0 0, .slice none 0 0] 34))
  obtain ⟨w2, hW0⟩ : ∃ W, W = (w.alloc (.cells #[.int .i64 b.roots, .slice a1 b.nodes.length c1, .slice a2 b.sites.length c2, .int .i64 b.edges, .slice a3 b.outer.length c3, .slice a4 b.inner.length c4] 34)).alloc (.cells #[.int .i64 0, .slice none 0 0, .slice none 0 0, .int .i64 0, .slice none 0 0, .slice none 0 0] 34) := ⟨_, rfl⟩
  have BA : Box w2 w.heap.size #[.int .i64 b.roots, .slice a1 b.nodes.length c1, .slice a2 b.sites.length c2, .int .i64 b.edges, .slice a3 b.outer.length c3, .slice a4 b.inner.length c4] 34 := by rw [hW0]; exact (Box.new _ _ _).alloc _
  have BR : Box w2 (w.heap.size + 1) #[.int .i64 0, .slice none 0 0, .slice none 0 0, .int .i64 0, .slice none 0 0, .slice none 0 0] 34 := by rw [hW0]; exact Box.new' _ _ _ (by simp)
  have hsz : w.heap.size + 2 ≤ w2.heap.size := by rw [hW0]; simp
  rw [← hW0] at hA
  have hc := RgN.ownBigraph_ct _ b w2 (h.below hA) hn hk hsl ho hi
  have HC := Lib.hid hc
  have HPA : Hid _ := hpa
  have HPS : Hid _ := hps
  clear hc h hk hpa hps
  go_enter Tryz.func97, Tryz.ntmps97
  go_wp2_with fail
  rw [← hW0]
  clear hW0
  have q := BA.cell
  go_wp2_with fail
  refine HC.out.mono ?_
  rintro e w3 ⟨v', bs, rfl, hB, hN, hb3⟩
  obtain ⟨d1, e1, d2, e2, d3, e3, d4, e4, rfl⟩ := hB.at.shape
  have BR3 := BR.below hb3
  have hb := bthen hA hb3
  have hs3 := hb3.size
  obtain ⟨n0, hn0, hn1⟩ : ∃ n, n ≤ w2.heap.size ∧ w2.heap.size ≤ n := ⟨_, Nat.le_refl _, Nat.le_refl _⟩
  have hB := hB.mono hn0
  clear BA BR hA q HC hb3
  go_wp2_with fail
  obtain ⟨W4, hW4⟩ : ∃ W, W = w3.alloc (.cells #[.int .i64 1, .slice d1 b.nodes.length e1, .slice d2 b.sites.length e2, .int .i64 b.edges, .slice d3 b.outer.length e3, .slice d4 b.inner.length e4] 34) := ⟨_, rfl⟩
  first | rw [← hW4] | fail "world"
  have b4 : Below w3.heap.size w3 W4 := by rw [hW4]; exact balloc _ _
  have BP : Box W4 w3.heap.size #[.int .i64 1, .slice d1 b.nodes.length e1, .slice d2 b.sites.length e2, .int .i64 b.edges, .slice d3 b.outer.length e3, .slice d4 b.inner.length e4] 34 := by rw [hW4]; exact Box.new _ _ _
  have hlt := hB.lt
  have hB4 := (hB.keep (keep_below b4 (fun p hp => (hlt p hp).2))).roots (n := 1) (by unfold I64; omega)
  have hbs : Hid (∀ q ∈ bs, q ≠ w3.heap.size) := fun q hq e => by have := (hlt q hq).2; omega
  have BR := BR3.below b4
  have hb := bthen hb b4
  have hs4 : w3.heap.size + 1 ≤ W4.heap.size := by rw [hW4]; simp
  have hg3 : n0 ≤ w3.heap.size := by omega
  have hB : BigOwn n0 W4 (.agg #[.int .i64 1, .slice d1 b.nodes.length e1, .slice d2 b.sites.length e2, .int .i64 b.edges, .slice d3 b.outer.length e3, .slice d4 b.inner.length e4]) ⟨1, progP topP b.nodes 0, progI (fun _ => topP) b.sites 0, b.edges, b.outer, b.inner⟩ bs := by rw [progP_zero, progI_zero]; exact hB4
  obtain ⟨gp, hgp1, hgp2⟩ : ∃ g, g = w3.heap.size ∧ n0 ≤ g := ⟨_, rfl, hg3⟩
  rw [← hgp1] at BP hbs ⊢
  clear b4 hW4 hB4 hlt BR3 hgp1 hs4 hg3 hs3
  go_loopw [14, 4, 5] (fun i _ _ W => ∃ k : Nat, k ≤ b.nodes.length ∧ i = .int .i64 k ∧ Below n0 W4 W ∧ Box W gp #[.int .i64 1, .slice d1 b.nodes.length e1, .slice d2 b.sites.length e2, .int .i64 b.edges, .slice d3 b.outer.length e3, .slice d4 b.inner.length e4] 34 ∧ BigOwn n0 W (.agg #[.int .i64 1, .slice d1 b.nodes.length e1, .slice d2 b.sites.length e2, .int .i64 b.edges, .slice d3 b.outer.length e3, .slice d4 b.inner.length e4]) ⟨1, progP topP b.nodes k, progI (fun _ => topP) b.sites 0, b.edges, b.outer, b.inner⟩ bs) (fun i _ _ _ => b.nodes.length - (intOf i).toNat)
  case atStart => exact ⟨0, Nat.zero_le _, rfl, Below.refl _ _, BP, hB⟩
  case round =>
    clear BP hB
    obtain ⟨k, hk, rfl, bN, BP, hB⟩ := hrel
    by_cases hkl : k < b.nodes.length
    · obtain ⟨x, hx⟩ := getElem?_of_lt hkl
      obtain ⟨g, vl, rfl, hgb, hfr, hx1, hx2, hvl, hc0, hc1, hc2⟩ := hB.nodeAt (progP_get (f := topP) hx)
      obtain ⟨ya, yc, rfl, _⟩ := hvl.open
      have hne := hbs.out g hgb
      have HX : Hid (b.nodes[k]? = some x) := hx
      have hpx := HPA.out x (List.mem_of_getElem? hx)
      have bx := balloc wr (.cells #[.int .i64 x.ctl, .int .i64 x.par, .slice ya x.links.length yc] 100)
      have hlt := hB.lt
      have hBx := hB.keep (keep_below bx (fun p hp => (hlt p hp).2))
      have BPx := BP.below bx
      have hd1 := (bx.cell (World.block_lt_of_cell? wr _ hc1)).trans hc1
      have hfx := (bx.frozen (World.block_lt_of_cell? wr _ hc1)).trans hfr
      have hst := hBx.par hN (progP_get (f := topP) hx) (p := topP x.par) (by unfold I64 topP; omega)
      have HS := Lib.hid hst
      have bN2 : Below n0 W4 (wr.alloc (.cells #[.int .i64 x.ctl, .int .i64 x.par, .slice ya x.links.length yc] 100)) := bN.trans (bx.mono (Nat.le_trans hgp2 (Nat.le_of_lt BP.lt)))
      have hgn := (hlt g hgb).1
      have q := BP.cell
      have qx := BPx.cell
      clear hx hst hfr hB hBx hlt
      have BPs := BPx.other (p := ⟨g, k * 3 + 1, none⟩) (.int .i64 (topP x.par)) (fun e => hne e.symm)
      have hm : topP x.par = max (-1) x.par := rfl
      have HM := Lib.hid hm
      rw [hm] at BPs HS
      clear hm
      go_wp2_with fail
      go_roundw
      case rel => exact ⟨k + 1, by omega, by go_num, bN2.setCell hgn _, BPs, by rw [progP_set HX.out, HM.out]; exact HS.out⟩
      case measure => simp [intOf]; omega
    · have e : k = b.nodes.length := by omega
      subst e
      have q := BP.cell
      go_wp2_with fail
      clear q
      obtain ⟨wa, rfl⟩ : ∃ W, W = wr := ⟨_, rfl⟩
      have hb5 : Below w.heap.size w wa := hb.trans (bN.mono (by omega))
      have BR := BR.keep (bN.block _ (by omega))
      clear hb bN
      go_loopw [31, 6, 7] (fun i _ _ W => ∃ k : Nat, k ≤ b.sites.length ∧ i = .int .i64 k ∧ Below n0 wa W ∧ Box W gp #[.int .i64 1, .slice d1 b.nodes.length e1, .slice d2 b.sites.length e2, .int .i64 b.edges, .slice d3 b.outer.length e3, .slice d4 b.inner.length e4] 34 ∧ BigOwn n0 W (.agg #[.int .i64 1, .slice d1 b.nodes.length e1, .slice d2 b.sites.length e2, .int .i64 b.edges, .slice d3 b.outer.length e3, .slice d4 b.inner.length e4]) ⟨1, progP topP b.nodes b.nodes.length, progI (fun _ => topP) b.sites k, b.edges, b.outer, b.inner⟩ bs) (fun i _ _ _ => b.sites.length - (intOf i).toNat)
      case atStart => exact ⟨0, Nat.zero_le _, rfl, Below.refl _ _, BP, hB⟩
      case round =>
        clear BP hB
        obtain ⟨k, hk, rfl, bN, BP, hB⟩ := hrel
        by_cases hkl : k < b.sites.length
        · obtain ⟨y, hy⟩ := getElem?_of_lt hkl
          obtain ⟨g, rfl, hgb, hc0, hfr, hst⟩ := hB.site hN (progI_get (f := fun _ => topP) hy)
          have hne := hbs.out g hgb
          have HX : Hid (b.sites[k]? = some y) := hy
          have hpx := HPS.out y (List.mem_of_getElem? hy)
          have hgn := (hB.lt g hgb).1
          have hst := hst (topP y) (by unfold I64 topP; omega)
          have HS := Lib.hid hst
          have q := BP.cell
          have BPs := BP.other (p := ⟨g, k, none⟩) (.int .i64 (topP y)) (fun e => hne e.symm)
          clear hy hst hB
          have hm : topP y = max (-1) y := rfl
          have HM := Lib.hid hm
          rw [hm] at BPs HS
          clear hm
          go_wp2_with fail
          go_roundw
          case rel => exact ⟨k + 1, by omega, by go_num, bN.setCell hgn _, BPs, by rw [progI_set HX.out, HM.out]; exact HS.out⟩
          case measure => simp [intOf]; omega
        · have e : k = b.sites.length := by omega
          subst e
          have q := BP.cell
          have BR := BR.keep (bN.block _ (by omega))
          have q2 := BR.cell
          have f2 := BR.free
          rw [progP_full, progI_all] at hB
          go_wp2_with fail
          refine bodyPost_ret (v := .agg #[.int .i64 1, .slice d1 b.nodes.length e1, .slice d2 b.sites.length e2, .int .i64 b.edges, .slice d3 b.outer.length e3, .slice d4 b.inner.length e4]) (by simp [results, Tryz.results97, go_sem, q2]) rfl ⟨_, bs, rfl, (fill6 hB (by omega) _ _ _ _ _ _).mono (by omega), hN, fill6b (hb5.trans (bN.mono (by omega))) (by omega) _ _ _ _ _ _⟩
end Go.Proofs.YthbdmcobpcoajaaGreatDoor
