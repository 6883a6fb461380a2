/- The laws' copy of a bigraph. -/
import Derived.Test.YtjkebiodabheiaaDoorTo
namespace Go.Proofs.YtjkebiodabheiaaDoor
open Go Go.RowKit Go.BigFrame

set_option maxRecDepth 100000 in
set_option maxHeartbeats 4000000 in
theorem toBigraph_ct (v : Value) (b : Big) (w : World) (h : BigAt w v b) :
    Calls Tryd.prog 18 #[v] w fun e w' => ∃ u bs, e = .returned u ∧ BigOwn w.heap.size w' u b bs ∧ bs.Nodup ∧ Below w.heap.size w w' := by
  obtain ⟨vn, vs, vo, vi, rfl, h1, h2, h3, h4, h5, h6⟩ := h
  have hA : Below w.heap.size w (((w.alloc (.cells #[.int .i64 b.roots, vn, vs, .int .i64 b.edges, vo, vi] 34)).alloc (.cells #[.int .i64 0, .slice none 0 0, .slice none 0 0, .int .i64 0, .slice none 0 0, .slice none 0 0] 43)).alloc (.cells #[.int .i64 b.roots, .slice none 0 0, .slice none 0 0, .int .i64 0, .slice none 0 0, .slice none 0 0] 43)) := by
    repeat (first | exact Below.refl _ _ | refine Below.alloc ?_ (by simp <;> omega) _)
  go_enter Tryd.func18, Tryd.ntmps18
  have BA : Box (((w.alloc (.cells #[.int .i64 b.roots, vn, vs, .int .i64 b.edges, vo, vi] 34)).alloc (.cells #[.int .i64 0, .slice none 0 0, .slice none 0 0, .int .i64 0, .slice none 0 0, .slice none 0 0] 43)).alloc (.cells #[.int .i64 b.roots, .slice none 0 0, .slice none 0 0, .int .i64 0, .slice none 0 0, .slice none 0 0] 43)) w.heap.size #[.int .i64 b.roots, vn, vs, .int .i64 b.edges, vo, vi] 34 := ((Box.new w _ _).alloc _).alloc _
  have BC : Box (((w.alloc (.cells #[.int .i64 b.roots, vn, vs, .int .i64 b.edges, vo, vi] 34)).alloc (.cells #[.int .i64 0, .slice none 0 0, .slice none 0 0, .int .i64 0, .slice none 0 0, .slice none 0 0] 43)).alloc (.cells #[.int .i64 b.roots, .slice none 0 0, .slice none 0 0, .int .i64 0, .slice none 0 0, .slice none 0 0] 43)) (w.heap.size + 1) #[.int .i64 0, .slice none 0 0, .slice none 0 0, .int .i64 0, .slice none 0 0, .slice none 0 0] 43 := (Box.new' _ _ _ (by simp)).alloc _
  have BD : Box (((w.alloc (.cells #[.int .i64 b.roots, vn, vs, .int .i64 b.edges, vo, vi] 34)).alloc (.cells #[.int .i64 0, .slice none 0 0, .slice none 0 0, .int .i64 0, .slice none 0 0, .slice none 0 0] 43)).alloc (.cells #[.int .i64 b.roots, .slice none 0 0, .slice none 0 0, .int .i64 0, .slice none 0 0, .slice none 0 0] 43)) (w.heap.size + 1 + 1) #[.int .i64 b.roots, .slice none 0 0, .slice none 0 0, .int .i64 0, .slice none 0 0, .slice none 0 0] 43 := Box.new' _ _ _ (by simp)
  have hz0 : ((((w.alloc (.cells #[.int .i64 b.roots, vn, vs, .int .i64 b.edges, vo, vi] 34)).alloc (.cells #[.int .i64 0, .slice none 0 0, .slice none 0 0, .int .i64 0, .slice none 0 0, .slice none 0 0] 43)).alloc (.cells #[.int .i64 b.roots, .slice none 0 0, .slice none 0 0, .int .i64 0, .slice none 0 0, .slice none 0 0] 43))).heap.size = w.heap.size + 3 := by simp
  have HZ : Hid (((((w.alloc (.cells #[.int .i64 b.roots, vn, vs, .int .i64 b.edges, vo, vi] 34)).alloc (.cells #[.int .i64 0, .slice none 0 0, .slice none 0 0, .int .i64 0, .slice none 0 0, .slice none 0 0] 43)).alloc (.cells #[.int .i64 b.roots, .slice none 0 0, .slice none 0 0, .int .i64 0, .slice none 0 0, .slice none 0 0] 43))).heap.size = w.heap.size + 3) := hz0
  clear hz0
  go_wp2_with fail
  refine (toNodeS_ct vn _ _ (h1.below hA)).mono ?_
  rintro e w2 ⟨un, bn, rfl, hn, hnd, hb2⟩
  obtain ⟨an, cn, rfl⟩ : ∃ a c, un = .slice a b.nodes.length c := by obtain ⟨lv, e1, e2, _⟩ := hn; rw [← e1]; simpa using e2.shape
  have hln := hn.lt
  have hz2 := hb2.size
  rw [HZ.out] at hln hz2
  have BA := BA.below hb2
  have BC := BC.below hb2
  have BD := BD.below hb2
  have hb := bthen hA hb2
  have HB0 : Hid (w.heap.size ≤ ((((w.alloc (.cells #[.int .i64 b.roots, vn, vs, .int .i64 b.edges, vo, vi] 34)).alloc (.cells #[.int .i64 0, .slice none 0 0, .slice none 0 0, .int .i64 0, .slice none 0 0, .slice none 0 0] 43)).alloc (.cells #[.int .i64 b.roots, .slice none 0 0, .slice none 0 0, .int .i64 0, .slice none 0 0, .slice none 0 0] 43))).heap.size) := hA.size
  clear hA hb2 HZ
  have rA := BA.cell
  have rD := BD.cell
  have fD := BD.free
  go_wp2_with fail
  clear rA rD fD
  have BA := BA.other (p := ⟨w.heap.size + 1 + 1, 1, none⟩) (.slice an b.nodes.length cn) (by simp <;> omega)
  have BC := BC.other (p := ⟨w.heap.size + 1 + 1, 1, none⟩) (.slice an b.nodes.length cn) (by simp <;> omega)
  have BD := BD.set 1 (.slice an b.nodes.length cn)
  have hn := hn.keep (w' := (w2).setCell ⟨w.heap.size + 1 + 1, 1, none⟩ (.slice an b.nodes.length cn)) (keep_setCell (fun h => by have := hln _ h; simp at this; omega))
  have hb := hb.setCell (p := ⟨w.heap.size + 1 + 1, 1, none⟩) (by simp <;> omega) (.slice an b.nodes.length cn)
  have hsz := size_setCell (w2) ⟨w.heap.size + 1 + 1, 1, none⟩ (.slice an b.nodes.length cn)
  obtain ⟨W2, hW2⟩ : ∃ W, W = (w2).setCell ⟨w.heap.size + 1 + 1, 1, none⟩ (.slice an b.nodes.length cn) := ⟨_, rfl⟩
  rw [← hW2] at BA BC BD hn hb hsz ⊢
  have hsW2 : W2.heap.size = w2.heap.size := by omega
  clear hW2 hsz
  have hln2 : ∀ g ∈ bn, w.heap.size + 3 ≤ g ∧ g < W2.heap.size := fun g hg => by have := hln g hg; omega
  clear hln
  refine (toIntS_ct vs _ _ (h2.below hb)).mono ?_
  rintro e w3 ⟨us, rfl, hs, hb3⟩
  obtain ⟨ps, cs, rfl⟩ := hs.shape
  have hls := hs.lt
  have hn := hn.keep (keep_below hb3 (fun g hg => by have := hln2 g hg; omega))
  have BA := BA.below hb3
  have BC := BC.below hb3
  have BD := BD.below hb3
  have hsw3 := hb3.size
  have hb := bthen hb hb3
  clear hb3
  have rA := BA.cell
  have rD := BD.cell
  have fD := BD.free
  go_wp2_with fail
  clear rA rD fD
  have BA := BA.other (p := ⟨w.heap.size + 1 + 1, 2, none⟩) (.slice ps b.sites.length cs) (by simp <;> omega)
  have BC := BC.other (p := ⟨w.heap.size + 1 + 1, 2, none⟩) (.slice ps b.sites.length cs) (by simp <;> omega)
  have BD := BD.set 2 (.slice ps b.sites.length cs)
  have hn := hn.keep (w' := (w3).setCell ⟨w.heap.size + 1 + 1, 2, none⟩ (.slice ps b.sites.length cs)) (keep_setCell (fun h => by have := hln2 _ h; simp at this; omega))
  have hs := hs.keep (w' := (w3).setCell ⟨w.heap.size + 1 + 1, 2, none⟩ (.slice ps b.sites.length cs)) (keep_setCell (fun h => by have := hls _ h; simp at this; omega))
  have hb := hb.setCell (p := ⟨w.heap.size + 1 + 1, 2, none⟩) (by simp <;> omega) (.slice ps b.sites.length cs)
  have hsz := size_setCell (w3) ⟨w.heap.size + 1 + 1, 2, none⟩ (.slice ps b.sites.length cs)
  have BA := BA.other (p := ⟨w.heap.size + 1 + 1, 3, none⟩) (.int .i64 b.edges) (by simp <;> omega)
  have BC := BC.other (p := ⟨w.heap.size + 1 + 1, 3, none⟩) (.int .i64 b.edges) (by simp <;> omega)
  have BD := BD.set 3 (.int .i64 b.edges)
  have hn := hn.keep (w' := ((w3).setCell ⟨w.heap.size + 1 + 1, 2, none⟩ (.slice ps b.sites.length cs)).setCell ⟨w.heap.size + 1 + 1, 3, none⟩ (.int .i64 b.edges)) (keep_setCell (fun h => by have := hln2 _ h; simp at this; omega))
  have hs := hs.keep (w' := ((w3).setCell ⟨w.heap.size + 1 + 1, 2, none⟩ (.slice ps b.sites.length cs)).setCell ⟨w.heap.size + 1 + 1, 3, none⟩ (.int .i64 b.edges)) (keep_setCell (fun h => by have := hls _ h; simp at this; omega))
  have hb := hb.setCell (p := ⟨w.heap.size + 1 + 1, 3, none⟩) (by simp <;> omega) (.int .i64 b.edges)
  have hsz2 := size_setCell ((w3).setCell ⟨w.heap.size + 1 + 1, 2, none⟩ (.slice ps b.sites.length cs)) ⟨w.heap.size + 1 + 1, 3, none⟩ (.int .i64 b.edges)
  obtain ⟨W3, hW3⟩ : ∃ W, W = ((w3).setCell ⟨w.heap.size + 1 + 1, 2, none⟩ (.slice ps b.sites.length cs)).setCell ⟨w.heap.size + 1 + 1, 3, none⟩ (.int .i64 b.edges) := ⟨_, rfl⟩
  rw [← hW3] at BA BC BD hn hs hb hsz2 ⊢
  have hsW3 : W3.heap.size = w3.heap.size := by omega
  clear hW3 hsz hsz2
  have hls3 : ∀ g ∈ blks (.slice ps b.sites.length cs), W2.heap.size ≤ g ∧ g < W3.heap.size := fun g hg => by have := hls g hg; omega
  clear hls
  refine (toStringS_ct vo _ _ (h3.below hb)).mono ?_
  rintro e w4 ⟨uo, rfl, ho, hb4⟩
  obtain ⟨po, co, rfl⟩ : ∃ a c, uo = .slice a b.outer.length c := by simpa [strRows] using ho.1.shape
  have hlo := ho.lt
  have hn := hn.keep (keep_below hb4 (fun g hg => by have := hln2 g hg; omega))
  have hs := hs.keep (keep_below hb4 (fun g hg => by have := hls3 g hg; omega))
  have BA := BA.below hb4
  have BC := BC.below hb4
  have BD := BD.below hb4
  have hsw4 := hb4.size
  have hb := bthen hb hb4
  clear hb4
  have rA := BA.cell
  have rD := BD.cell
  have fD := BD.free
  go_wp2_with fail
  clear rA rD fD
  have BA := BA.other (p := ⟨w.heap.size + 1 + 1, 4, none⟩) (.slice po b.outer.length co) (by simp <;> omega)
  have BC := BC.other (p := ⟨w.heap.size + 1 + 1, 4, none⟩) (.slice po b.outer.length co) (by simp <;> omega)
  have BD := BD.set 4 (.slice po b.outer.length co)
  have hn := hn.keep (w' := (w4).setCell ⟨w.heap.size + 1 + 1, 4, none⟩ (.slice po b.outer.length co)) (keep_setCell (fun h => by have := hln2 _ h; simp at this; omega))
  have hs := hs.keep (w' := (w4).setCell ⟨w.heap.size + 1 + 1, 4, none⟩ (.slice po b.outer.length co)) (keep_setCell (fun h => by have := hls3 _ h; simp at this; omega))
  have ho := ho.keep (w' := (w4).setCell ⟨w.heap.size + 1 + 1, 4, none⟩ (.slice po b.outer.length co)) (keep_setCell (fun h => by have := hlo _ h; simp at this; omega))
  have hb := hb.setCell (p := ⟨w.heap.size + 1 + 1, 4, none⟩) (by simp <;> omega) (.slice po b.outer.length co)
  have hsz := size_setCell (w4) ⟨w.heap.size + 1 + 1, 4, none⟩ (.slice po b.outer.length co)
  obtain ⟨W4, hW4⟩ : ∃ W, W = (w4).setCell ⟨w.heap.size + 1 + 1, 4, none⟩ (.slice po b.outer.length co) := ⟨_, rfl⟩
  rw [← hW4] at BA BC BD hn hs ho hb hsz ⊢
  have hsW4 : W4.heap.size = w4.heap.size := by omega
  clear hW4 hsz
  have hlo4 : ∀ g ∈ blks (.slice po b.outer.length co), W3.heap.size ≤ g ∧ g < W4.heap.size := fun g hg => by have := hlo g hg; omega
  clear hlo
  refine (toWireS_ct vi _ _ (h4.below hb)).mono ?_
  rintro e w5 ⟨ui, rfl, hi, hb5⟩
  obtain ⟨pi, ci, rfl⟩ : ∃ a c, ui = .slice a b.inner.length c := by simpa using hi.1.shape
  have hli := hi.lt
  have hn := hn.keep (keep_below hb5 (fun g hg => by have := hln2 g hg; omega))
  have hs := hs.keep (keep_below hb5 (fun g hg => by have := hls3 g hg; omega))
  have ho := ho.keep (keep_below hb5 (fun g hg => by have := hlo4 g hg; omega))
  have BA := BA.below hb5
  have BC := BC.below hb5
  have BD := BD.below hb5
  have hsw5 := hb5.size
  have hb := bthen hb hb5
  clear hb5
  have rA := BA.cell
  have rD := BD.cell
  have fD := BD.free
  have rC := BC.cell
  have fC := BC.free
  go_wp2
  refine bodyPost_ret (v := .agg #[.int .i64 b.roots, .slice an b.nodes.length cn, .slice ps b.sites.length cs, .int .i64 b.edges, .slice po b.outer.length co, .slice pi b.inner.length ci]) (by simp [results, Tryd.results18, go_sem, rC]) rfl ⟨_, _, rfl, ⟨_, _, _, _, bn, rfl, (hn.keep ?_).mono ?_, (hs.keep ?_).mono ?_, (ho.keep ?_).mono ?_, (hi.keep ?_).mono ?_, h5, h6, rfl⟩, ?_, ?_⟩
  · intro g hg; have := hln2 g hg; repeat rw [heap_setCell_other _ _ _ _ (by simp <;> omega)]
  · exact HB0.out
  · intro g hg; have := hls3 g hg; repeat rw [heap_setCell_other _ _ _ _ (by simp <;> omega)]
  · omega
  · intro g hg; have := hlo4 g hg; repeat rw [heap_setCell_other _ _ _ _ (by simp <;> omega)]
  · omega
  · intro g hg; have := hli g hg; repeat rw [heap_setCell_other _ _ _ _ (by simp <;> omega)]
  · omega
  · have nd : ∀ (a : Option Addr) (n c : Nat), (blks (.slice a n c)).Nodup := by intro a n c; cases a <;> cases n <;> simp [blks]
    rw [List.nodup_append, List.nodup_append, List.nodup_append]
    refine ⟨hnd, ⟨nd _ _ _, ⟨nd _ _ _, nd _ _ _, ?_⟩, ?_⟩, ?_⟩
    · intro p hp q hq; have := hlo4 p hp; have := hli q hq; omega
    · intro p hp q hq; have := hls3 p hp; rcases List.mem_append.1 hq with hq | hq
      · have := hlo4 q hq; omega
      · have := hli q hq; omega
    · intro p hp q hq; have := hln2 p hp; rcases List.mem_append.1 hq with hq | hq
      · have := hls3 q hq; omega
      · rcases List.mem_append.1 hq with hq | hq
        · have := hlo4 q hq; omega
        · have := hli q hq; omega
  · iterate 7 refine Below.setCell ?_ (by simp <;> omega) _
    exact hb

end Go.Proofs.YtjkebiodabheiaaDoor
