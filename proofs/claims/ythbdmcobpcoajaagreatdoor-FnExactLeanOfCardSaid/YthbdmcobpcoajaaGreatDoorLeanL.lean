/- Without idle edges: the functions of the law. -/
import Derived.Test.YthbdmcobpcoajaaGreatDoorLeanI
import Derived.Test.YthbdmcobpcoajaaGreatDoorLeanS
import Derived.Test.YthbdmcobpcoajaaGreatDoorCntB
namespace Go.Proofs.YthbdmcobpcoajaaGreatDoor
open Go Go.RowKit Go.BigFrame

def leanR (sig : List Ctl) (b : Big) : Big := if goodB sig b then leanBig b else noBig
theorem leanR_len (sig : List Ctl) (b : Big) : (cntB (leanR sig b) : Int) ≤ 100000000 := by
  unfold leanR
  split
  · rename_i h
    have hD := (good_of h).bds
    refine cntB_bd ?_ ?_ ?_ ?_ ?_ <;> unfold leanBig relB
    · simp only [List.length_map]; have := hD.nodes; omega
    · intro n hn
      obtain ⟨m, hm, rfl⟩ := List.mem_map.1 hn
      have := hD.links m hm
      show (m.links.map _).length ≤ _
      rw [List.length_map]; omega
    · have := hD.sites; show b.sites.length ≤ _; omega
    · have := hD.outer; show b.outer.length ≤ _; omega
    · simp only [List.length_map]; have := hD.inner; omega
  · unfold cntB cntN noBig
    simp [sumOf_nil]

set_option maxRecDepth 100000 in
set_option maxHeartbeats 4000000 in
theorem specLeanOf_ct (vs v : Value) (sig : List Ctl) (b : Big) (w : World) (h : Ctx w vs v sig b) : Calls Tryz.prog 24 #[vs, v] w (GivesBig (leanR sig b) (goodB sig b) w) := by
  obtain ⟨a1, c1, a2, c2, a3, c3, a4, c4, rfl⟩ := h.big.shape
  have hA := bthen (balloc w (.cells #[.int .i64 b.roots, .slice a1 b.nodes.length c1, .slice a2 b.sites.length c2, .int .i64 b.edges, .slice a3 b.outer.length c3, .slice a4 b.inner.length c4] 34)) (balloc (w.alloc (.cells #[.int .i64 b.roots, .slice a1 b.nodes.length c1, .slice a2 b.sites.length c2, .int .i64 b.edges, .slice a3 b.outer.length c3, .slice a4 b.inner.length c4] 34)) (.cells #[.int .i64 0, .slice none 0 0, .slice none 0 0, .int .i64 0, .slice none 0 0, .slice none 0 0] 34))
  obtain ⟨W0, hW0⟩ : ∃ W, W = (w.alloc (.cells #[.int .i64 b.roots, .slice a1 b.nodes.length c1, .slice a2 b.sites.length c2, .int .i64 b.edges, .slice a3 b.outer.length c3, .slice a4 b.inner.length c4] 34)).alloc (.cells #[.int .i64 0, .slice none 0 0, .slice none 0 0, .int .i64 0, .slice none 0 0, .slice none 0 0] 34) := ⟨_, rfl⟩
  have BA : Box W0 w.heap.size #[.int .i64 b.roots, .slice a1 b.nodes.length c1, .slice a2 b.sites.length c2, .int .i64 b.edges, .slice a3 b.outer.length c3, .slice a4 b.inner.length c4] 34 := by rw [hW0]; exact (Box.new _ _ _).alloc _
  have BR : Box W0 (w.heap.size + 1) #[.int .i64 0, .slice none 0 0, .slice none 0 0, .int .i64 0, .slice none 0 0, .slice none 0 0] 34 := by rw [hW0]; exact Box.new' _ _ _ (by simp)
  have hs0 : w.heap.size + 2 ≤ W0.heap.size := by rw [hW0]; simp
  cases hg : goodB sig b with
  | false =>
    have HN : Hid (leanR sig b = noBig) := by show _ = _; unfold leanR; rw [hg]; rfl
    rw [HN.out]
    go_enter Tryz.func24, Tryz.ntmps24
    go_wp2_with fail
    rw [← hW0] at hA ⊢
    clear hW0
    refine (l2Good_ct _ _ sig b false _ (h.below hA) hg).mono ?_
    rintro e w2 ⟨rfl, hb⟩
    have BR := BR.below hb
    have q := BR.cell
    have f := BR.free
    have hb := bthen hA hb
    go_wp2_with fail
    refine bodyPost_ret (v := .tuple #[.agg #[.int .i64 0, .slice none 0 0, .slice none 0 0, .int .i64 0, .slice none 0 0, .slice none 0 0], .bool false]) (by simp [results, Tryz.results24, go_sem, q]) rfl ⟨_, _, rfl, noBig_own _ _, by simp, ?_⟩
    iterate 6 refine Below.setCell ?_ (by simp) _
    exact hb
  | true =>
    have hG := good_of hg
    have hD := hG.bds
    have HN : Hid (leanR sig b = leanBig b) := by show _ = _; unfold leanR; rw [hg]; rfl
    rw [HN.out]
    have HCT := Lib.hid (fun W (h : BigAt W (.agg #[.int .i64 b.roots, .slice a1 b.nodes.length c1, .slice a2 b.sites.length c2, .int .i64 b.edges, .slice a3 b.outer.length c3, .slice a4 b.inner.length c4]) b) => l3LeanForm_ct _ sig b W h hG)
    rw [← hW0] at hA
    have hbig := h.big
    have h0 := h.below hA
    have h0 := Lib.hid h0
    clear hD
    go_enter Tryz.func24, Tryz.ntmps24
    go_wp2_with fail
    rw [← hW0]
    clear hW0
    refine (l2Good_ct _ _ sig b true _ h0.out hg).mono ?_
    rintro e w2 ⟨rfl, hb⟩
    have BA := BA.below hb
    have BR := BR.below hb
    have q := BA.cell
    have hb1 := bthen hA hb
    have hs1 := hb.size
    clear hg hA hb
    go_wp2_with fail
    refine (HCT.out _ (hbig.below hb1)).mono ?_
    rintro e w3 ⟨u, bs, rfl, hB, hN, hb⟩
    obtain ⟨d1, e1, d2, e2, d3, e3, d4, e4, rfl⟩ := hB.at.shape
    have BR := BR.below hb
    have q2 := BR.cell
    have f2 := BR.free
    have hb2 := bthen hb1 hb
    clear HCT q
    go_wp2_with fail
    refine bodyPost_ret (v := .tuple #[.agg #[.int .i64 (leanBig b).roots, .slice d1 (leanBig b).nodes.length e1, .slice d2 (leanBig b).sites.length e2, .int .i64 (leanBig b).edges, .slice d3 (leanBig b).outer.length e3, .slice d4 (leanBig b).inner.length e4], .bool true]) (by simp [results, Tryz.results24, go_sem, q2]) rfl ⟨_, bs, rfl, (fill6 hB (by omega) _ _ _ _ _ _).mono (by omega), hN, fill6b hb2 (by omega) _ _ _ _ _ _⟩

set_option maxRecDepth 100000 in
set_option maxHeartbeats 4000000 in
theorem implLeanOf_ct (vs v : Value) (sig : List Ctl) (b : Big) (w : World) (h : Ctx w vs v sig b) : Calls Tryz.prog 25 #[vs, v] w (GivesBig (leanR sig b) (goodB sig b) w) := by
  obtain ⟨a1, c1, a2, c2, a3, c3, a4, c4, rfl⟩ := h.big.shape
  have hA := bthen (balloc w (.cells #[.int .i64 b.roots, .slice a1 b.nodes.length c1, .slice a2 b.sites.length c2, .int .i64 b.edges, .slice a3 b.outer.length c3, .slice a4 b.inner.length c4] 34)) (balloc (w.alloc (.cells #[.int .i64 b.roots, .slice a1 b.nodes.length c1, .slice a2 b.sites.length c2, .int .i64 b.edges, .slice a3 b.outer.length c3, .slice a4 b.inner.length c4] 34)) (.cells #[.int .i64 0, .slice none 0 0, .slice none 0 0, .int .i64 0, .slice none 0 0, .slice none 0 0] 34))
  obtain ⟨W0, hW0⟩ : ∃ W, W = (w.alloc (.cells #[.int .i64 b.roots, .slice a1 b.nodes.length c1, .slice a2 b.sites.length c2, .int .i64 b.edges, .slice a3 b.outer.length c3, .slice a4 b.inner.length c4] 34)).alloc (.cells #[.int .i64 0, .slice none 0 0, .slice none 0 0, .int .i64 0, .slice none 0 0, .slice none 0 0] 34) := ⟨_, rfl⟩
  have BA : Box W0 w.heap.size #[.int .i64 b.roots, .slice a1 b.nodes.length c1, .slice a2 b.sites.length c2, .int .i64 b.edges, .slice a3 b.outer.length c3, .slice a4 b.inner.length c4] 34 := by rw [hW0]; exact (Box.new _ _ _).alloc _
  have BR : Box W0 (w.heap.size + 1) #[.int .i64 0, .slice none 0 0, .slice none 0 0, .int .i64 0, .slice none 0 0, .slice none 0 0] 34 := by rw [hW0]; exact Box.new' _ _ _ (by simp)
  have hs0 : w.heap.size + 2 ≤ W0.heap.size := by rw [hW0]; simp
  cases hg : goodB sig b with
  | false =>
    have HN : Hid (leanR sig b = noBig) := by show _ = _; unfold leanR; rw [hg]; rfl
    rw [HN.out]
    go_enter Tryz.func25, Tryz.ntmps25
    go_wp2_with fail
    rw [← hW0] at hA ⊢
    clear hW0
    refine (implIsBigraph_ct _ _ sig b false _ (h.below hA) hg).mono ?_
    rintro e w2 ⟨rfl, hb⟩
    have BR := BR.below hb
    have q := BR.cell
    have f := BR.free
    have hb := bthen hA hb
    go_wp2_with fail
    refine bodyPost_ret (v := .tuple #[.agg #[.int .i64 0, .slice none 0 0, .slice none 0 0, .int .i64 0, .slice none 0 0, .slice none 0 0], .bool false]) (by simp [results, Tryz.results25, go_sem, q]) rfl ⟨_, _, rfl, noBig_own _ _, by simp, ?_⟩
    iterate 6 refine Below.setCell ?_ (by simp) _
    exact hb
  | true =>
    have hG := good_of hg
    have hD := hG.bds
    have HN : Hid (leanR sig b = leanBig b) := by show _ = _; unfold leanR; rw [hg]; rfl
    rw [HN.out]
    have HCT := Lib.hid (fun W (h : BigAt W (.agg #[.int .i64 b.roots, .slice a1 b.nodes.length c1, .slice a2 b.sites.length c2, .int .i64 b.edges, .slice a3 b.outer.length c3, .slice a4 b.inner.length c4]) b) => lean_ct _ sig b W h hG)
    rw [← hW0] at hA
    have hbig := h.big
    have h0 := h.below hA
    have h0 := Lib.hid h0
    clear hD
    go_enter Tryz.func25, Tryz.ntmps25
    go_wp2_with fail
    rw [← hW0]
    clear hW0
    refine (implIsBigraph_ct _ _ sig b true _ h0.out hg).mono ?_
    rintro e w2 ⟨rfl, hb⟩
    have BA := BA.below hb
    have BR := BR.below hb
    have q := BA.cell
    have hb1 := bthen hA hb
    have hs1 := hb.size
    clear hg hA hb
    go_wp2_with fail
    refine (HCT.out _ (hbig.below hb1)).mono ?_
    rintro e w3 ⟨u, bs, rfl, hB, hN, hb⟩
    obtain ⟨d1, e1, d2, e2, d3, e3, d4, e4, rfl⟩ := hB.at.shape
    have BR := BR.below hb
    have q2 := BR.cell
    have f2 := BR.free
    have hb2 := bthen hb1 hb
    clear HCT q
    go_wp2_with fail
    refine bodyPost_ret (v := .tuple #[.agg #[.int .i64 (leanBig b).roots, .slice d1 (leanBig b).nodes.length e1, .slice d2 (leanBig b).sites.length e2, .int .i64 (leanBig b).edges, .slice d3 (leanBig b).outer.length e3, .slice d4 (leanBig b).inner.length e4], .bool true]) (by simp [results, Tryz.results25, go_sem, q2]) rfl ⟨_, bs, rfl, (fill6 hB (by omega) _ _ _ _ _ _).mono (by omega), hN, fill6b hb2 (by omega) _ _ _ _ _ _⟩
end Go.Proofs.YthbdmcobpcoajaaGreatDoor
