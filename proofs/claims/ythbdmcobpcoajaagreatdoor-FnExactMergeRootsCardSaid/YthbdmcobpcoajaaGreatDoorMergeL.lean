/- One root for all: the functions of the law. -/
import Derived.Test.YthbdmcobpcoajaaGreatDoorOneS
import Derived.Test.YthbdmcobpcoajaaGreatDoorMergeR
import Derived.Test.YthbdmcobpcoajaaGreatDoorG2
import Derived.Test.YthbdmcobpcoajaaGreatDoorG4
namespace Go.Proofs.YthbdmcobpcoajaaGreatDoor
open Go Go.RowKit Go.BigFrame

def mergeR (sig : List Ctl) (b : Big) : Big := if goodB sig b then mergeB b else noBig
theorem cntB_bd {b : Big} (h1 : b.nodes.length ≤ 1000) (h2 : ∀ n ∈ b.nodes, n.links.length ≤ 1000) (h3 : b.sites.length ≤ 1000) (h4 : b.outer.length ≤ 1000) (h5 : b.inner.length ≤ 1000) : (cntB b : Int) ≤ 100000000 := by
  have h := cntB_le b
  have hs : sumOf (fun c : Nd => c.links.length) b.nodes ≤ b.nodes.length * 1000 := by
    clear h h1 h3 h4 h5
    generalize b.nodes = l at h2 ⊢
    induction l with
    | nil => simp [sumOf]
    | cons x l ih =>
      have := ih (fun n hn => h2 n (List.mem_cons_of_mem _ hn))
      have := h2 x (List.mem_cons_self)
      rw [sumOf_cons]
      simp only [List.length_cons]
      omega
  have hn := cntN_le b.nodes
  unfold cntB
  unfold totN at hn
  omega
theorem mergeR_len (sig : List Ctl) (b : Big) : (cntB (mergeR sig b) : Int) ≤ 100000000 := by
  unfold mergeR
  split
  · rename_i h
    have hD := (good_of h).bds
    refine cntB_bd ?_ ?_ ?_ ?_ ?_ <;> unfold mergeB
    · simp only [List.length_map]; have := hD.nodes; omega
    · intro n hn
      obtain ⟨m, hm, rfl⟩ := List.mem_map.1 hn
      have := hD.links m hm
      show m.links.length ≤ _; omega
    · simp only [List.length_map]; have := hD.sites; omega
    · have := hD.outer; show b.outer.length ≤ _; omega
    · have := hD.inner; show b.inner.length ≤ _; omega
  · unfold cntB cntN noBig
    simp [sumOf_nil]

set_option maxRecDepth 100000 in
set_option maxHeartbeats 4000000 in
theorem specMergeRoots_ct (vs v : Value) (sig : List Ctl) (b : Big) (w : World) (h : Ctx w vs v sig b) : Calls Tryz.prog 28 #[vs, v] w (GivesBig (mergeR sig b) (goodB sig b) w) := by
  obtain ⟨a1, c1, a2, c2, a3, c3, a4, c4, rfl⟩ := h.big.shape
  have hA := bthen (balloc w (.cells #[.int .i64 b.roots, .slice a1 b.nodes.length c1, .slice a2 b.sites.length c2, .int .i64 b.edges, .slice a3 b.outer.length c3, .slice a4 b.inner.length c4] 34)) (balloc (w.alloc (.cells #[.int .i64 b.roots, .slice a1 b.nodes.length c1, .slice a2 b.sites.length c2, .int .i64 b.edges, .slice a3 b.outer.length c3, .slice a4 b.inner.length c4] 34)) (.cells #[.int .i64 0, .slice none 0 0, .slice none 0 0, .int .i64 0, .slice none 0 0, .slice none 0 0] 34))
  obtain ⟨W0, hW0⟩ : ∃ W, W = (w.alloc (.cells #[.int .i64 b.roots, .slice a1 b.nodes.length c1, .slice a2 b.sites.length c2, .int .i64 b.edges, .slice a3 b.outer.length c3, .slice a4 b.inner.length c4] 34)).alloc (.cells #[.int .i64 0, .slice none 0 0, .slice none 0 0, .int .i64 0, .slice none 0 0, .slice none 0 0] 34) := ⟨_, rfl⟩
  have BA : Box W0 w.heap.size #[.int .i64 b.roots, .slice a1 b.nodes.length c1, .slice a2 b.sites.length c2, .int .i64 b.edges, .slice a3 b.outer.length c3, .slice a4 b.inner.length c4] 34 := by rw [hW0]; exact (Box.new _ _ _).alloc _
  have BR : Box W0 (w.heap.size + 1) #[.int .i64 0, .slice none 0 0, .slice none 0 0, .int .i64 0, .slice none 0 0, .slice none 0 0] 34 := by rw [hW0]; exact Box.new' _ _ _ (by simp)
  have hs0 : w.heap.size + 2 ≤ W0.heap.size := by rw [hW0]; simp
  cases hg : goodB sig b with
  | false =>
    have HN : Hid (mergeR sig b = noBig) := by show _ = _; unfold mergeR; rw [hg]; rfl
    rw [HN.out]
    go_enter Tryz.func28, Tryz.ntmps28
    go_wp2_with fail
    rw [← hW0] at hA ⊢
    clear hW0
    refine (l2Good_ct _ _ sig b false _ (h.below hA) hg).mono ?_
    rintro e w2 ⟨rfl, hb⟩
    have BR := BR.below hb
    have q := BR.cell
    have f := BR.free
    have hb := bthen hA hb
    go_wp2_with fail
    refine bodyPost_ret (v := .tuple #[.agg #[.int .i64 0, .slice none 0 0, .slice none 0 0, .int .i64 0, .slice none 0 0, .slice none 0 0], .bool false]) (by simp [results, Tryz.results28, go_sem, q]) rfl ⟨_, _, rfl, noBig_own _ _, by simp, ?_⟩
    iterate 6 refine Below.setCell ?_ (by simp) _
    exact hb
  | true =>
    have hG := good_of hg
    have hD := hG.bds
    have HN : Hid (mergeR sig b = mergeB b) := by show _ = _; unfold mergeR; rw [hg]; rfl
    rw [HN.out]
    have HCT := Lib.hid (fun W (h : BigAt W (.agg #[.int .i64 b.roots, .slice a1 b.nodes.length c1, .slice a2 b.sites.length c2, .int .i64 b.edges, .slice a3 b.outer.length c3, .slice a4 b.inner.length c4]) b) => l4One_ct _ b W h (by have := hD.nodes; omega) (fun n hn => by have := hD.links n hn; omega) (by have := hD.sites; omega) (by have := hD.outer; omega) (by have := hD.inner; omega) (by have := hD.edges; omega) (by have := hD.roots; omega) hD.par (fun n hn x hx => by have := hD.lnk n hn x hx; have := hD.edges; have := hD.outer; omega) hD.site (fun x hx => by have := hD.wire x hx; have := hD.edges; have := hD.outer; omega))
    rw [← hW0] at hA
    have hbig := h.big
    have h0 := h.below hA
    have h0 := Lib.hid h0
    clear hD
    go_enter Tryz.func28, Tryz.ntmps28
    go_wp2_with fail
    rw [← hW0]
    clear hW0
    refine (l2Good_ct _ _ sig b true _ h0.out hg).mono ?_
    rintro e w2 ⟨rfl, hb⟩
    have BA := BA.below hb
    have BR := BR.below hb
    have q := BA.cell
    have hb1 := bthen hA hb
    have hs1 := hb.size
    clear hg hA hb
    go_wp2_with fail
    refine (HCT.out _ (hbig.below hb1)).mono ?_
    rintro e w3 ⟨u, bs, rfl, hB, hN, hb⟩
    obtain ⟨d1, e1, d2, e2, d3, e3, d4, e4, rfl⟩ := hB.at.shape
    have BR := BR.below hb
    have q2 := BR.cell
    have f2 := BR.free
    have hb2 := bthen hb1 hb
    clear HCT q
    go_wp2_with fail
    refine bodyPost_ret (v := .tuple #[.agg #[.int .i64 (mergeB b).roots, .slice d1 (mergeB b).nodes.length e1, .slice d2 (mergeB b).sites.length e2, .int .i64 (mergeB b).edges, .slice d3 (mergeB b).outer.length e3, .slice d4 (mergeB b).inner.length e4], .bool true]) (by simp [results, Tryz.results28, go_sem, q2]) rfl ⟨_, bs, rfl, (fill6 hB (by omega) _ _ _ _ _ _).mono (by omega), hN, fill6b hb2 (by omega) _ _ _ _ _ _⟩

set_option maxRecDepth 100000 in
set_option maxHeartbeats 4000000 in
theorem implMergeRoots_ct (vs v : Value) (sig : List Ctl) (b : Big) (w : World) (h : Ctx w vs v sig b) : Calls Tryz.prog 29 #[vs, v] w (GivesBig (mergeR sig b) (goodB sig b) w) := by
  obtain ⟨a1, c1, a2, c2, a3, c3, a4, c4, rfl⟩ := h.big.shape
  have hA := bthen (balloc w (.cells #[.int .i64 b.roots, .slice a1 b.nodes.length c1, .slice a2 b.sites.length c2, .int .i64 b.edges, .slice a3 b.outer.length c3, .slice a4 b.inner.length c4] 34)) (balloc (w.alloc (.cells #[.int .i64 b.roots, .slice a1 b.nodes.length c1, .slice a2 b.sites.length c2, .int .i64 b.edges, .slice a3 b.outer.length c3, .slice a4 b.inner.length c4] 34)) (.cells #[.int .i64 0, .slice none 0 0, .slice none 0 0, .int .i64 0, .slice none 0 0, .slice none 0 0] 34))
  obtain ⟨W0, hW0⟩ : ∃ W, W = (w.alloc (.cells #[.int .i64 b.roots, .slice a1 b.nodes.length c1, .slice a2 b.sites.length c2, .int .i64 b.edges, .slice a3 b.outer.length c3, .slice a4 b.inner.length c4] 34)).alloc (.cells #[.int .i64 0, .slice none 0 0, .slice none 0 0, .int .i64 0, .slice none 0 0, .slice none 0 0] 34) := ⟨_, rfl⟩
  have BA : Box W0 w.heap.size #[.int .i64 b.roots, .slice a1 b.nodes.length c1, .slice a2 b.sites.length c2, .int .i64 b.edges, .slice a3 b.outer.length c3, .slice a4 b.inner.length c4] 34 := by rw [hW0]; exact (Box.new _ _ _).alloc _
  have BR : Box W0 (w.heap.size + 1) #[.int .i64 0, .slice none 0 0, .slice none 0 0, .int .i64 0, .slice none 0 0, .slice none 0 0] 34 := by rw [hW0]; exact Box.new' _ _ _ (by simp)
  have hs0 : w.heap.size + 2 ≤ W0.heap.size := by rw [hW0]; simp
  cases hg : goodB sig b with
  | false =>
    have HN : Hid (mergeR sig b = noBig) := by show _ = _; unfold mergeR; rw [hg]; rfl
    rw [HN.out]
    go_enter Tryz.func29, Tryz.ntmps29
    go_wp2_with fail
    rw [← hW0] at hA ⊢
    clear hW0
    refine (implIsBigraph_ct _ _ sig b false _ (h.below hA) hg).mono ?_
    rintro e w2 ⟨rfl, hb⟩
    have BR := BR.below hb
    have q := BR.cell
    have f := BR.free
    have hb := bthen hA hb
    go_wp2_with fail
    refine bodyPost_ret (v := .tuple #[.agg #[.int .i64 0, .slice none 0 0, .slice none 0 0, .int .i64 0, .slice none 0 0, .slice none 0 0], .bool false]) (by simp [results, Tryz.results29, go_sem, q]) rfl ⟨_, _, rfl, noBig_own _ _, by simp, ?_⟩
    iterate 6 refine Below.setCell ?_ (by simp) _
    exact hb
  | true =>
    have hG := good_of hg
    have hD := hG.bds
    have HN : Hid (mergeR sig b = mergeB b) := by show _ = _; unfold mergeR; rw [hg]; rfl
    rw [HN.out]
    have HCT := Lib.hid (fun W (h : BigAt W (.agg #[.int .i64 b.roots, .slice a1 b.nodes.length c1, .slice a2 b.sites.length c2, .int .i64 b.edges, .slice a3 b.outer.length c3, .slice a4 b.inner.length c4]) b) => mergedRoots_ct _ b W h (by have := hD.nodes; omega) (fun n hn => by have := hD.links n hn; omega) (by have := hD.sites; omega) (by have := hD.outer; omega) (by have := hD.inner; omega) (fun n hn => by have := hD.par n hn; have := hD.roots; have := hD.nodes; omega) (fun p hp => by have := hD.site p hp; have := hD.roots; have := hD.nodes; omega))
    rw [← hW0] at hA
    have hbig := h.big
    have h0 := h.below hA
    have h0 := Lib.hid h0
    clear hD
    go_enter Tryz.func29, Tryz.ntmps29
    go_wp2_with fail
    rw [← hW0]
    clear hW0
    refine (implIsBigraph_ct _ _ sig b true _ h0.out hg).mono ?_
    rintro e w2 ⟨rfl, hb⟩
    have BA := BA.below hb
    have BR := BR.below hb
    have q := BA.cell
    have hb1 := bthen hA hb
    have hs1 := hb.size
    clear hg hA hb
    go_wp2_with fail
    refine (HCT.out _ (hbig.below hb1)).mono ?_
    rintro e w3 ⟨u, bs, rfl, hB, hN, hb⟩
    obtain ⟨d1, e1, d2, e2, d3, e3, d4, e4, rfl⟩ := hB.at.shape
    have BR := BR.below hb
    have q2 := BR.cell
    have f2 := BR.free
    have hb2 := bthen hb1 hb
    clear HCT q
    go_wp2_with fail
    refine bodyPost_ret (v := .tuple #[.agg #[.int .i64 (mergeB b).roots, .slice d1 (mergeB b).nodes.length e1, .slice d2 (mergeB b).sites.length e2, .int .i64 (mergeB b).edges, .slice d3 (mergeB b).outer.length e3, .slice d4 (mergeB b).inner.length e4], .bool true]) (by simp [results, Tryz.results29, go_sem, q2]) rfl ⟨_, bs, rfl, (fill6 hB (by omega) _ _ _ _ _ _).mono (by omega), hN, fill6b hb2 (by omega) _ _ _ _ _ _⟩
end Go.Proofs.YthbdmcobpcoajaaGreatDoor
