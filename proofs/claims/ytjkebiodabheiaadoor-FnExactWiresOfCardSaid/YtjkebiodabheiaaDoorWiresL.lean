/- WiresOf: the program's. -/
import Derived.Test.YtjkebiodabheiaaDoorCopy
import Derived.Test.YtjkebiodabheiaaDoorIsA
import Derived.Test.YtjkebiodabheiaaDoorLaw1
import Derived.Test.YtjkebiodabheiaaDoorRg2
namespace Go.Proofs.YtjkebiodabheiaaDoor
open Go Go.RowKit Go.BigFrame

def wiresR (sig : List Ctl) (b : Big) : Big := if goodB sig b then ⟨0, [], [], b.edges, b.outer, b.inner⟩ else noBig
theorem wiresR_len (sig : List Ctl) (b : Big) : (cntB (wiresR sig b) : Int) ≤ 100000000 := by
  unfold wiresR
  split
  · rename_i h
    have hG := good_of h
    have ho := names_len hG.outer
    have hi := names_len hG.inner
    simp only [List.length_map] at hi
    unfold cntB cntN
    simp only [sumOf_nil, List.length_nil]
    omega
  · unfold cntB cntN noBig
    simp [sumOf_nil]
set_option maxRecDepth 100000 in
set_option maxHeartbeats 4000000 in
theorem implWiresOf_ct (vs v : Value) (sig : List Ctl) (b : Big) (w : World) (h : Ctx w vs v sig b) : Calls Tryd.prog 30 #[vs, v] w (GivesBig (wiresR sig b) (goodB sig b) w) := by
  obtain ⟨a1, c1, a2, c2, a3, c3, a4, c4, rfl⟩ := h.big.shape
  have hA := bthen (balloc w (.cells #[.int .i64 b.roots, .slice a1 b.nodes.length c1, .slice a2 b.sites.length c2, .int .i64 b.edges, .slice a3 b.outer.length c3, .slice a4 b.inner.length c4] 43)) (balloc (w.alloc (.cells #[.int .i64 b.roots, .slice a1 b.nodes.length c1, .slice a2 b.sites.length c2, .int .i64 b.edges, .slice a3 b.outer.length c3, .slice a4 b.inner.length c4] 43)) (.cells #[.int .i64 0, .slice none 0 0, .slice none 0 0, .int .i64 0, .slice none 0 0, .slice none 0 0] 43))
  obtain ⟨W0, hW0⟩ : ∃ W, W = (w.alloc (.cells #[.int .i64 b.roots, .slice a1 b.nodes.length c1, .slice a2 b.sites.length c2, .int .i64 b.edges, .slice a3 b.outer.length c3, .slice a4 b.inner.length c4] 43)).alloc (.cells #[.int .i64 0, .slice none 0 0, .slice none 0 0, .int .i64 0, .slice none 0 0, .slice none 0 0] 43) := ⟨_, rfl⟩
  have BA : Box W0 w.heap.size #[.int .i64 b.roots, .slice a1 b.nodes.length c1, .slice a2 b.sites.length c2, .int .i64 b.edges, .slice a3 b.outer.length c3, .slice a4 b.inner.length c4] 43 := by rw [hW0]; exact (Box.new _ _ _).alloc _
  have BR : Box W0 (w.heap.size + 1) #[.int .i64 0, .slice none 0 0, .slice none 0 0, .int .i64 0, .slice none 0 0, .slice none 0 0] 43 := by rw [hW0]; exact Box.new' _ _ _ (by simp)
  cases hg : goodB sig b with
  | false =>
    have HN : Hid (wiresR sig b = noBig) := by show _ = _; unfold wiresR; rw [hg]; rfl
    rw [HN.out]
    go_enter Tryd.func30, Tryd.ntmps30
    go_wp2_with fail
    rw [← hW0] at hA ⊢
    clear hW0
    refine (implIsBigraph_ct _ _ sig b false _ (h.below hA) hg).mono ?_
    rintro e w2 ⟨rfl, hb⟩
    have BR := BR.below hb
    have q := BR.cell
    have f := BR.free
    have hb := bthen hA hb
    go_wp2_with fail
    refine bodyPost_ret (v := .tuple #[.agg #[.int .i64 0, .slice none 0 0, .slice none 0 0, .int .i64 0, .slice none 0 0, .slice none 0 0], .bool false]) (by simp [results, Tryd.results30, go_sem, q]) rfl ⟨_, _, rfl, noBig_own _ _, by simp, ?_⟩
    iterate 6 refine Below.setCell ?_ (by simp) _
    exact hb
  | true =>
    have hG := good_of hg
    have ho := names_len hG.outer
    have hi16 : b.inner.length ≤ 16 := by have := names_len hG.inner; simpa using this
    have hed := hG.edges
    have HN : Hid (wiresR sig b = ⟨0, [], [], b.edges, b.outer, b.inner⟩) := by show _ = _; unfold wiresR; rw [hg]; rfl
    rw [HN.out]
    obtain ⟨_, _, _, _, e0, _, _, h3, h4, _, _⟩ := h.big
    simp only [Value.agg.injEq, Array.mk.injEq, List.cons.injEq, and_true, true_and] at e0
    obtain ⟨rfl, rfl, rfl, rfl⟩ := e0
    have HSO : Hid (∀ s ∈ b.outer, s.size ≤ 1073741824) := h3.2
    have HSW : Hid (∀ c ∈ b.inner, c.name.size ≤ 1073741824 ∧ I64 c.link) := h4.2
    have hx := h.below hA
    go_enter Tryd.func30, Tryd.ntmps30
    go_wp2_with fail
    rw [← hW0] at hA hx ⊢
    clear hW0 hG
    refine (implIsBigraph_ct _ _ sig b true _ hx hg).mono ?_
    rintro e w2 ⟨rfl, hb⟩
    have BA := BA.below hb
    have BR := BR.below hb
    have hb := bthen hA hb
    have h3 := h3.below hb
    have h4 := h4.below hb
    clear hx hg h hA
    go_wp2_with fail
    have gA0 := fun y => gr_cell (w := w2) (BA.cell 3) y
    have gA1 := fun y => gr_cell (w := w2) (BA.cell 4) y
    have gA2 := fun y => gr_cell (w := w2) (BA.cell 5) y
    refine rg_region [0, 1, 2, 3, 4, 5, 6, 7, 8] [9, 10] (lo := (.cons _ (.cons _ .nil))) (by rfl) (tAt 4 (eRow w2.heap.size 1 b.outer.length (strRows b.outer) (len_strRows _)) (tAt 7 (eRow w2.heap.size 2 b.inner.length (b.inner.map Wr.cells) (len_wrRows _)) tNil)) (by kernel_rfl) (by rfl) (by kernel_rfl) ?_
    refine rg_quiet anti_end [0, 1, 2, 3] [4, 5, 6, 7, 8] (lo := (.cons _ (.cons _ (.cons _ (.cons _ .nil))))) (by rfl) (by kernel_rfl) ?_
    repeat (go_big_quiet_step (fail))
    refine wpQuiet_nil ?_
    refine rg_call 4 rfl rfl 70 #[.slice a3 b.outer.length c3] ?_ ?_ ?_
    · intro w; simp [go_sem]
    · rintro w' ⟨y, rfl⟩ hd
      refine (clone_ct _ b.outer _ (h3.below (gr_below _ _)) ho).mono ?_
      rintro e w3 ⟨u1, rfl, hu1, bb⟩
      exact ⟨u1, rfl, bb, gRow_of hu1 (gr_below _ _).size⟩
    intro v hv
    obtain ⟨ka, kc, rfl⟩ : ∃ a c, v = .slice a b.outer.length c := hv
    simp only [Act.put, List.setIfInBounds_toArray, List.set_cons_zero, List.set_cons_succ]
    refine rg_quiet anti_end [5, 6] [7, 8] (lo := (.cons _ (.cons _ .nil))) (by rfl) (by kernel_rfl) ?_
    repeat (go_big_quiet_step (fail))
    refine wpQuiet_nil ?_
    refine rg_call 7 rfl rfl 71 #[.slice a4 b.inner.length c4] ?_ ?_ ?_
    · intro w; simp [go_sem]
    · rintro w' ⟨y, rfl⟩ hd
      refine (cloneW_ct _ b.inner _ (h4.below (gr_below _ _)) (by omega)).mono ?_
      rintro e w3 ⟨u1, rfl, hu1, bb⟩
      exact ⟨u1, rfl, bb, gRow_of hu1 (gr_below _ _).size⟩
    intro v hv
    obtain ⟨la, lc, rfl⟩ : ∃ a c, v = .slice a b.inner.length c := hv
    simp only [Act.put, List.setIfInBounds_toArray, List.set_cons_zero, List.set_cons_succ]
    refine rg_quiet anti_end [8] [] (lo := (.cons _ .nil)) (by rfl) (by kernel_rfl) ?_
    repeat (go_big_quiet_step (fail))
    refine wpQuiet_nil ?_
    intro w3 U hb3 hF
    obtain ⟨V1, V2, hd2, _, ⟨V3, V4, _, hu3, _, hu1⟩, hu2⟩ := hF
    obtain ⟨hu1, hc1⟩ : gRow w2.heap.size 1 (strRows b.outer) _ _ _ := hu1
    obtain ⟨hu2, hc2⟩ : gRow w2.heap.size 2 (b.inner.map Wr.cells) _ _ _ := hu2
    have hdis : ∀ g ∈ blks (.slice ka b.outer.length kc), g ∉ blks (.slice la b.inner.length lc) := fun g h1 h2 => hd2 g ((hu3 g).2 (.inr (hc1 g h1))) (hc2 g h2)
    have BRl := BR.lt
    have BR := BR.below hb3
    have hb3 := bthen hb hb3
    have q := BR.cell
    have f := BR.free
    have hl1 := hu1.lt
    have hl2 := hu2.lt
    clear gA0 gA1 gA2 BA h3 h4 hb hd2 hu3 hc1 hc2
    go_wp2_with fail
    refine bodyPost_ret (v := .tuple #[.agg #[.int .i64 0, .slice none 0 0, .slice none 0 0, .int .i64 b.edges, .slice ka b.outer.length kc, .slice la b.inner.length lc], .bool true]) (by simp [results, Tryd.results30, go_sem, q]) rfl ⟨_, _, rfl, ⟨_, _, _, _, [], rfl, nds_none _ _, ints_none _ _, ⟨(hu1.keep ?_).mono (by omega), ?_, HSO.out⟩, ⟨(hu2.keep ?_).mono (by omega), ?_, HSW.out⟩, by unfold I64; dsimp only; omega, by unfold I64; dsimp only; omega, rfl⟩, ?_, ?_⟩
    · intro g hg; have := hl1 g hg; repeat rw [heap_setCell_other _ _ _ _ (by simp <;> omega)]
    · dsimp only; omega
    · intro g hg; have := hl2 g hg; repeat rw [heap_setCell_other _ _ _ _ (by simp <;> omega)]
    · dsimp only; omega
    · simp only [List.nil_append]
      have e0 : blks (.slice none 0 0) = [] := rfl
      rw [e0, List.nil_append, List.nodup_append]
      exact ⟨blks_nodup _ _ _, blks_nodup _ _ _, fun p hp q hq e => hdis p hp (e ▸ hq)⟩
    · iterate 6 refine Below.setCell ?_ (by simp) _
      exact hb3
set_option maxRecDepth 100000 in
set_option maxHeartbeats 4000000 in
theorem specWiresOf_ct (vs v : Value) (sig : List Ctl) (b : Big) (w : World) (h : Ctx w vs v sig b) : Calls Tryd.prog 29 #[vs, v] w (GivesBig (wiresR sig b) (goodB sig b) w) := by
  obtain ⟨a1, c1, a2, c2, a3, c3, a4, c4, rfl⟩ := h.big.shape
  have hA := bthen (balloc w (.cells #[.int .i64 b.roots, .slice a1 b.nodes.length c1, .slice a2 b.sites.length c2, .int .i64 b.edges, .slice a3 b.outer.length c3, .slice a4 b.inner.length c4] 43)) (balloc (w.alloc (.cells #[.int .i64 b.roots, .slice a1 b.nodes.length c1, .slice a2 b.sites.length c2, .int .i64 b.edges, .slice a3 b.outer.length c3, .slice a4 b.inner.length c4] 43)) (.cells #[.int .i64 0, .slice none 0 0, .slice none 0 0, .int .i64 0, .slice none 0 0, .slice none 0 0] 43))
  obtain ⟨W0, hW0⟩ : ∃ W, W = (w.alloc (.cells #[.int .i64 b.roots, .slice a1 b.nodes.length c1, .slice a2 b.sites.length c2, .int .i64 b.edges, .slice a3 b.outer.length c3, .slice a4 b.inner.length c4] 43)).alloc (.cells #[.int .i64 0, .slice none 0 0, .slice none 0 0, .int .i64 0, .slice none 0 0, .slice none 0 0] 43) := ⟨_, rfl⟩
  have BA : Box W0 w.heap.size #[.int .i64 b.roots, .slice a1 b.nodes.length c1, .slice a2 b.sites.length c2, .int .i64 b.edges, .slice a3 b.outer.length c3, .slice a4 b.inner.length c4] 43 := by rw [hW0]; exact (Box.new _ _ _).alloc _
  have BR : Box W0 (w.heap.size + 1) #[.int .i64 0, .slice none 0 0, .slice none 0 0, .int .i64 0, .slice none 0 0, .slice none 0 0] 43 := by rw [hW0]; exact Box.new' _ _ _ (by simp)
  cases hg : goodB sig b with
  | false =>
    have HN : Hid (wiresR sig b = noBig) := by show _ = _; unfold wiresR; rw [hg]; rfl
    rw [HN.out]
    go_enter Tryd.func29, Tryd.ntmps29
    go_wp2_with fail
    rw [← hW0] at hA ⊢
    clear hW0
    refine (l2Good_ct _ _ sig b false _ (h.below hA) hg).mono ?_
    rintro e w2 ⟨rfl, hb⟩
    have BR := BR.below hb
    have q := BR.cell
    have f := BR.free
    have hb := bthen hA hb
    go_wp2_with fail
    refine bodyPost_ret (v := .tuple #[.agg #[.int .i64 0, .slice none 0 0, .slice none 0 0, .int .i64 0, .slice none 0 0, .slice none 0 0], .bool false]) (by simp [results, Tryd.results29, go_sem, q]) rfl ⟨_, _, rfl, noBig_own _ _, by simp, ?_⟩
    iterate 6 refine Below.setCell ?_ (by simp) _
    exact hb
  | true =>
    have hG := good_of hg
    have ho := names_len hG.outer
    have hi16 : b.inner.length ≤ 16 := by have := names_len hG.inner; simpa using this
    have hed := hG.edges
    have HN : Hid (wiresR sig b = ⟨0, [], [], b.edges, b.outer, b.inner⟩) := by show _ = _; unfold wiresR; rw [hg]; rfl
    rw [HN.out]
    obtain ⟨_, _, _, _, e0, _, _, h3, h4, _, _⟩ := h.big
    simp only [Value.agg.injEq, Array.mk.injEq, List.cons.injEq, and_true, true_and] at e0
    obtain ⟨rfl, rfl, rfl, rfl⟩ := e0
    have HSO : Hid (∀ s ∈ b.outer, s.size ≤ 1073741824) := h3.2
    have HSW : Hid (∀ c ∈ b.inner, c.name.size ≤ 1073741824 ∧ I64 c.link) := h4.2
    have hx := h.below hA
    go_enter Tryd.func29, Tryd.ntmps29
    go_wp2_with fail
    rw [← hW0] at hA hx ⊢
    clear hW0 hG
    refine (l2Good_ct _ _ sig b true _ hx hg).mono ?_
    rintro e w2 ⟨rfl, hb⟩
    have BA := BA.below hb
    have BR := BR.below hb
    have hb := bthen hA hb
    have h3 := h3.below hb
    have h4 := h4.below hb
    clear hx hg h hA
    go_wp2_with fail
    have gA0 := fun y => gr_cell (w := w2) (BA.cell 3) y
    have gA1 := fun y => gr_cell (w := w2) (BA.cell 4) y
    have gA2 := fun y => gr_cell (w := w2) (BA.cell 5) y
    refine rg_region [0, 1, 2, 3, 4, 5, 6, 7, 8, 9, 10] [11, 12] (lo := (.cons _ (.cons _ .nil))) (by rfl) (tAt 2 (eLit0) (tAt 5 (eRow w2.heap.size 1 b.outer.length (strRows b.outer) (len_strRows _)) (tAt 6 (eLit0) (tAt 9 (eRow w2.heap.size 2 b.inner.length (b.inner.map Wr.cells) (len_wrRows _)) tNil)))) (by kernel_rfl) (by rfl) (by kernel_rfl) ?_
    refine rg_quiet anti_end [0, 1] [2, 3, 4, 5, 6, 7, 8, 9, 10] (lo := (.cons _ (.cons _ .nil))) (by rfl) (by kernel_rfl) ?_
    repeat (go_big_quiet_step (fail))
    refine wpQuiet_nil ?_
    refine rg_made 2 rfl rfl ?_ ?_
    · rintro w' ⟨y, rfl⟩ hd
      exact ⟨_, _, by simp [go_sem]; exact ⟨rfl, rfl⟩, balloc _ _, _, rfl⟩
    intro v hv
    obtain ⟨g1, rfl⟩ : ∃ g, v = .slice (some ⟨g, 0, none⟩) 0 0 := hv
    simp only [Act.put, List.setIfInBounds_toArray, List.set_cons_zero, List.set_cons_succ]
    refine rg_quiet anti_end [3, 4] [5, 6, 7, 8, 9, 10] (lo := (.cons _ (.cons _ .nil))) (by rfl) (by kernel_rfl) ?_
    repeat (go_big_quiet_step (fail))
    refine wpQuiet_nil ?_
    refine rg_made 5 rfl rfl ?_ ?_
    · rintro w' ⟨y, rfl⟩ hd
      exact rg_app0 (.tmp 13) (.tmp 15) 31 (by rfl) 9 1 16 1073741824 w2.heap.size (.string ⟨#[]⟩) Tryd.underlying31 inf_str rfl (by decide) (by decide) _ _ (strRows b.outer) (by rfl) (by rfl) (one_strRows _) (by rw [len_strRows]; omega) _ (h3.below (gr_below _ _)).1 (gr_below _ _).size
    intro v hv
    obtain ⟨ka, kc, rfl⟩ : ∃ a c, v = .slice a b.outer.length c := hv
    simp only [Act.put, List.setIfInBounds_toArray, List.set_cons_zero, List.set_cons_succ]
    refine rg_made 6 rfl rfl ?_ ?_
    · rintro w' ⟨y, rfl⟩ hd
      exact ⟨_, _, by simp [go_sem]; exact ⟨rfl, rfl⟩, balloc _ _, _, rfl⟩
    intro v hv
    obtain ⟨g2, rfl⟩ : ∃ g, v = .slice (some ⟨g, 0, none⟩) 0 0 := hv
    simp only [Act.put, List.setIfInBounds_toArray, List.set_cons_zero, List.set_cons_succ]
    refine rg_quiet anti_end [7, 8] [9, 10] (lo := (.cons _ (.cons _ .nil))) (by rfl) (by kernel_rfl) ?_
    repeat (go_big_quiet_step (fail))
    refine wpQuiet_nil ?_
    refine rg_made 9 rfl rfl ?_ ?_
    · rintro w' ⟨y, rfl⟩ hd
      exact rg_app0 (.tmp 17) (.tmp 19) 41 (by rfl) 85 2 24 1073741824 w2.heap.size (.agg #[.string ⟨#[]⟩, .int .i64 0]) Tryd.underlying41 inf_wr rfl (by decide) (by decide) _ _ (b.inner.map Wr.cells) (by rfl) (by rfl) (one_wrRows _) (by rw [len_wrRows]; omega) _ (h4.below (gr_below _ _)).1 (gr_below _ _).size
    intro v hv
    obtain ⟨la, lc, rfl⟩ : ∃ a c, v = .slice a b.inner.length c := hv
    simp only [Act.put, List.setIfInBounds_toArray, List.set_cons_zero, List.set_cons_succ]
    refine rg_quiet anti_end [10] [] (lo := (.cons _ .nil)) (by rfl) (by kernel_rfl) ?_
    repeat (go_big_quiet_step (fail))
    refine wpQuiet_nil ?_
    intro w3 U hb3 hF
    obtain ⟨V1, V2, hd2, _, ⟨V5, V6, _, hu5, ⟨V3, V4, _, hu3, _, hu1⟩, _⟩, hu2⟩ := hF
    obtain ⟨hu1, hc1⟩ : gRow w2.heap.size 1 (strRows b.outer) _ _ _ := hu1
    obtain ⟨hu2, hc2⟩ : gRow w2.heap.size 2 (b.inner.map Wr.cells) _ _ _ := hu2
    have hu3 := fun g => (hu5 g).2 ∘ Or.inl ∘ (hu3 g).2
    have hdis : ∀ g ∈ blks (.slice ka b.outer.length kc), g ∉ blks (.slice la b.inner.length lc) := fun g h1 h2 => hd2 g (hu3 g (.inr (hc1 g h1))) (hc2 g h2)
    have BRl := BR.lt
    have BR := BR.below hb3
    have hb3 := bthen hb hb3
    have q := BR.cell
    have f := BR.free
    have hl1 := hu1.lt
    have hl2 := hu2.lt
    clear gA0 gA1 gA2 BA h3 h4 hb hd2 hu3 hc1 hc2
    go_wp2_with fail
    refine bodyPost_ret (v := .tuple #[.agg #[.int .i64 0, .slice none 0 0, .slice none 0 0, .int .i64 b.edges, .slice ka b.outer.length kc, .slice la b.inner.length lc], .bool true]) (by simp [results, Tryd.results29, go_sem, q]) rfl ⟨_, _, rfl, ⟨_, _, _, _, [], rfl, nds_none _ _, ints_none _ _, ⟨(hu1.keep ?_).mono (by omega), ?_, HSO.out⟩, ⟨(hu2.keep ?_).mono (by omega), ?_, HSW.out⟩, by unfold I64; dsimp only; omega, by unfold I64; dsimp only; omega, rfl⟩, ?_, ?_⟩
    · intro g hg; have := hl1 g hg; repeat rw [heap_setCell_other _ _ _ _ (by simp <;> omega)]
    · dsimp only; omega
    · intro g hg; have := hl2 g hg; repeat rw [heap_setCell_other _ _ _ _ (by simp <;> omega)]
    · dsimp only; omega
    · simp only [List.nil_append]
      have e0 : blks (.slice none 0 0) = [] := rfl
      rw [e0, List.nil_append, List.nodup_append]
      exact ⟨blks_nodup _ _ _, blks_nodup _ _ _, fun p hp q hq e => hdis p hp (e ▸ hq)⟩
    · iterate 6 refine Below.setCell ?_ (by simp) _
      exact hb3
end Go.Proofs.YtjkebiodabheiaaDoor
