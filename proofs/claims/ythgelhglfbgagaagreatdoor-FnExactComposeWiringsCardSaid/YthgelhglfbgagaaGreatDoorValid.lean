/- A bigraph that is valid, or none. -/
import Derived.Test.YthgelhglfbgagaaGreatDoorOwnB
import Derived.Test.YthgelhglfbgagaaGreatDoorGoodS
import Derived.Test.YthgelhglfbgagaaGreatDoorGoodI
import Derived.Test.YthgelhglfbgagaaGreatDoorG2
import Derived.Test.YthgelhglfbgagaaGreatDoorG1
namespace Go.Proofs.YthgelhglfbgagaaGreatDoor
open Go Go.RowKit Go.BigFrame

def validR (sig : List Ctl) (b : Big) : Big := if goodB sig b then b else noBig

set_option maxRecDepth 100000 in
set_option maxHeartbeats 4000000 in
theorem valid_ct (vs v : Value) (sig : List Ctl) (b : Big) (w : World) (h : Ctx w vs v sig b) : Calls Tryz.prog 68 #[vs, v] w (GivesBig (validR sig b) (goodB sig b) w) := by
  obtain ⟨a1, c1, a2, c2, a3, c3, a4, c4, rfl⟩ := h.big.shape
  have hA := bthen (balloc w (.cells #[.int .i64 b.roots, .slice a1 b.nodes.length c1, .slice a2 b.sites.length c2, .int .i64 b.edges, .slice a3 b.outer.length c3, .slice a4 b.inner.length c4] 29)) (balloc (w.alloc (.cells #[.int .i64 b.roots, .slice a1 b.nodes.length c1, .slice a2 b.sites.length c2, .int .i64 b.edges, .slice a3 b.outer.length c3, .slice a4 b.inner.length c4] 29)) (.cells #[.int .i64 0, .slice none 0 0, .slice none 0 0, .int .i64 0, .slice none 0 0, .slice none 0 0] 29))
  obtain ⟨W0, hW0⟩ : ∃ W, W = (w.alloc (.cells #[.int .i64 b.roots, .slice a1 b.nodes.length c1, .slice a2 b.sites.length c2, .int .i64 b.edges, .slice a3 b.outer.length c3, .slice a4 b.inner.length c4] 29)).alloc (.cells #[.int .i64 0, .slice none 0 0, .slice none 0 0, .int .i64 0, .slice none 0 0, .slice none 0 0] 29) := ⟨_, rfl⟩
  have BA : Box W0 w.heap.size #[.int .i64 b.roots, .slice a1 b.nodes.length c1, .slice a2 b.sites.length c2, .int .i64 b.edges, .slice a3 b.outer.length c3, .slice a4 b.inner.length c4] 29 := by rw [hW0]; exact (Box.new _ _ _).alloc _
  have BR : Box W0 (w.heap.size + 1) #[.int .i64 0, .slice none 0 0, .slice none 0 0, .int .i64 0, .slice none 0 0, .slice none 0 0] 29 := by rw [hW0]; exact Box.new' _ _ _ (by simp)
  have hs0 : w.heap.size + 2 ≤ W0.heap.size := by rw [hW0]; simp
  cases hg : goodB sig b with
  | false =>
    have HN : Hid (validR sig b = noBig) := by show _ = _; unfold validR; rw [hg]; rfl
    rw [HN.out]
    go_enter Tryz.func68, Tryz.ntmps68
    go_wp2_with fail
    rw [← hW0] at hA ⊢
    clear hW0
    refine (implIsBigraph_ct _ _ sig b false _ (h.below hA) hg).mono ?_
    rintro e w2 ⟨rfl, hb⟩
    have BR := BR.below hb
    have q := BR.cell
    have f := BR.free
    have hb := bthen hA hb
    go_wp2_with fail
    refine bodyPost_ret (v := .tuple #[.agg #[.int .i64 0, .slice none 0 0, .slice none 0 0, .int .i64 0, .slice none 0 0, .slice none 0 0], .bool false]) (by simp [results, Tryz.results68, go_sem, q]) rfl ⟨_, _, rfl, noBig_own _ _, by simp, ?_⟩
    iterate 6 refine Below.setCell ?_ (by simp) _
    exact hb
  | true =>
    have hG := good_of hg
    have hD := hG.bds
    have HN : Hid (validR sig b = b) := by show _ = _; unfold validR; rw [hg]; rfl
    rw [HN.out]
    have HCT := Lib.hid (fun W (h : BigAt W (.agg #[.int .i64 b.roots, .slice a1 b.nodes.length c1, .slice a2 b.sites.length c2, .int .i64 b.edges, .slice a3 b.outer.length c3, .slice a4 b.inner.length c4]) b) => RgN.ownBigraph_ct _ b W h (by have := hD.nodes; omega) (fun n hn => by have := hD.links n hn; omega) (by have := hD.sites; omega) hD.outer (by have := hD.inner; omega))
    rw [← hW0] at hA
    have hbig := h.big
    have h0 := h.below hA
    have h0 := Lib.hid h0
    clear hD
    go_enter Tryz.func68, Tryz.ntmps68
    go_wp2_with fail
    rw [← hW0]
    clear hW0
    refine (implIsBigraph_ct _ _ sig b true _ h0.out hg).mono ?_
    rintro e w2 ⟨rfl, hb⟩
    have BA := BA.below hb
    have BR := BR.below hb
    have q := BA.cell
    have hb1 := bthen hA hb
    have hs1 := hb.size
    clear hg hA hb
    go_wp2_with fail
    refine (HCT.out _ (hbig.below hb1)).mono ?_
    rintro e w3 ⟨u, bs, rfl, hB, hN, hb⟩
    obtain ⟨d1, e1, d2, e2, d3, e3, d4, e4, rfl⟩ := hB.at.shape
    have BR := BR.below hb
    have q2 := BR.cell
    have f2 := BR.free
    have hb2 := bthen hb1 hb
    clear HCT q
    go_wp2_with fail
    refine bodyPost_ret (v := .tuple #[.agg #[.int .i64 (b).roots, .slice d1 (b).nodes.length e1, .slice d2 (b).sites.length e2, .int .i64 (b).edges, .slice d3 (b).outer.length e3, .slice d4 (b).inner.length e4], .bool true]) (by simp [results, Tryz.results68, go_sem, q2]) rfl ⟨_, bs, rfl, (fill6 hB (by omega) _ _ _ _ _ _).mono (by omega), hN, fill6b hb2 (by omega) _ _ _ _ _ _⟩

set_option maxRecDepth 100000 in
set_option maxHeartbeats 4000000 in
theorem l2Give_ct (vs v : Value) (sig : List Ctl) (b : Big) (w : World) (h : Ctx w vs v sig b) {B : Nat} {bs : List Nat} (hO : BigOwn B w v b bs) (hN : bs.Nodup) (hB : B ≤ w.heap.size) : Calls Tryz.prog 60 #[vs, v] w fun e w' => ∃ u bs', e = .returned (.tuple #[u, .bool (goodB sig b)]) ∧ BigOwn B w' u (validR sig b) bs' ∧ bs'.Nodup ∧ Below w.heap.size w w' := by
  obtain ⟨a1, c1, a2, c2, a3, c3, a4, c4, rfl⟩ := h.big.shape
  have hA := bthen (balloc w (.cells #[.int .i64 b.roots, .slice a1 b.nodes.length c1, .slice a2 b.sites.length c2, .int .i64 b.edges, .slice a3 b.outer.length c3, .slice a4 b.inner.length c4] 29)) (balloc (w.alloc (.cells #[.int .i64 b.roots, .slice a1 b.nodes.length c1, .slice a2 b.sites.length c2, .int .i64 b.edges, .slice a3 b.outer.length c3, .slice a4 b.inner.length c4] 29)) (.cells #[.int .i64 0, .slice none 0 0, .slice none 0 0, .int .i64 0, .slice none 0 0, .slice none 0 0] 29))
  obtain ⟨W0, hW0⟩ : ∃ W, W = (w.alloc (.cells #[.int .i64 b.roots, .slice a1 b.nodes.length c1, .slice a2 b.sites.length c2, .int .i64 b.edges, .slice a3 b.outer.length c3, .slice a4 b.inner.length c4] 29)).alloc (.cells #[.int .i64 0, .slice none 0 0, .slice none 0 0, .int .i64 0, .slice none 0 0, .slice none 0 0] 29) := ⟨_, rfl⟩
  have BA : Box W0 w.heap.size #[.int .i64 b.roots, .slice a1 b.nodes.length c1, .slice a2 b.sites.length c2, .int .i64 b.edges, .slice a3 b.outer.length c3, .slice a4 b.inner.length c4] 29 := by rw [hW0]; exact (Box.new _ _ _).alloc _
  have BR : Box W0 (w.heap.size + 1) #[.int .i64 0, .slice none 0 0, .slice none 0 0, .int .i64 0, .slice none 0 0, .slice none 0 0] 29 := by rw [hW0]; exact Box.new' _ _ _ (by simp)
  have hs0 : w.heap.size + 2 ≤ W0.heap.size := by rw [hW0]; simp
  cases hg : goodB sig b with
  | false =>
    have HN : Hid (validR sig b = noBig) := by show _ = _; unfold validR; rw [hg]; rfl
    rw [HN.out]
    go_enter Tryz.func60, Tryz.ntmps60
    go_wp2_with fail
    rw [← hW0] at hA ⊢
    clear hW0
    refine (l2Good_ct _ _ sig b false _ (h.below hA) hg).mono ?_
    rintro e w2 ⟨rfl, hb⟩
    have BR := BR.below hb
    have q := BR.cell
    have f := BR.free
    have hb := bthen hA hb
    go_wp2_with fail
    refine bodyPost_ret (v := .tuple #[.agg #[.int .i64 0, .slice none 0 0, .slice none 0 0, .int .i64 0, .slice none 0 0, .slice none 0 0], .bool false]) (by simp [results, Tryz.results60, go_sem, q]) rfl ⟨_, _, rfl, noBig_own _ _, by simp, ?_⟩
    iterate 6 refine Below.setCell ?_ (by simp) _
    exact hb
  | true =>
    have HN : Hid (validR sig b = b) := by show _ = _; unfold validR; rw [hg]; rfl
    rw [HN.out]
    rw [← hW0] at hA
    have h0 := Lib.hid (h.below hA)
    have hlt := hO.lt
    go_enter Tryz.func60, Tryz.ntmps60
    go_wp2_with fail
    rw [← hW0]
    clear hW0
    refine (l2Good_ct _ _ sig b true _ h0.out hg).mono ?_
    rintro e w2 ⟨rfl, hb⟩
    have BA := BA.below hb
    have BR := BR.below hb
    have q := BA.cell
    have q2 := BR.cell
    have f2 := BR.free
    have hb1 := bthen hA hb
    have hO2 := hO.keep (keep_below hb1 (fun p hp => (hlt p hp).2))
    clear hg hA hb
    go_wp2_with fail
    refine bodyPost_ret (v := .tuple #[.agg #[.int .i64 b.roots, .slice a1 b.nodes.length c1, .slice a2 b.sites.length c2, .int .i64 b.edges, .slice a3 b.outer.length c3, .slice a4 b.inner.length c4], .bool true]) (by simp [results, Tryz.results60, go_sem, q2]) rfl ⟨_, bs, rfl, ?_, hN, fill6b hb1 (by omega) _ _ _ _ _ _⟩
    refine hO2.keep fun g hg => ?_
    have := (hlt g hg).2
    repeat rw [heap_setCell_other _ _ _ _ (by dsimp only; omega)]
end Go.Proofs.YthgelhglfbgagaaGreatDoor
