/- A bigraph's own copy: the program's. -/
import Derived.Test.YthgelhglfbgagaaGreatDoorG2
import Derived.Test.YthgelhglfbgagaaGreatDoorIsA
set_option linter.unusedVariables false
namespace Go.Proofs.YthgelhglfbgagaaGreatDoor.RgN
open Go Go.RowKit Go.BigFrame

def ePtr (B : Nat) (cs : Array Value) (t : TypeId) : Ent where
  sh := fun v => ∃ g, v = .pointer (some ⟨g, 0, none⟩)
  ex := ⟨_, 0, rfl⟩
  fct := fun v W U => ∃ g, v = .pointer (some ⟨g, 0, none⟩) ∧ Box W g cs t ∧ B ≤ g ∧ U g
  hs := fun _ _ _ ⟨g, h, _⟩ => ⟨g, h⟩
  st := fun _ _ _ _ hb ⟨g, h, k, u⟩ => ⟨g, h, k.below hb, u⟩
def eNode (B : Nat) (p k : Int) (l : List Int) : Ent where
  sh := fun v => ∃ a c, v = .agg #[.int .i64 p, .int .i64 k, .slice a l.length c]
  ex := ⟨_, none, 0, rfl⟩
  fct := fun v W _ => ∃ u, v = .agg #[.int .i64 p, .int .i64 k, u] ∧ RowOwn B W u 1 (intRows l)
  hs := fun v w U ⟨u, e, h⟩ => by obtain ⟨a, c, rfl⟩ := h.shape; exact ⟨a, c, by rw [e, len_intRows]⟩
  st := fun v w w' U hb ⟨u, e, h⟩ => ⟨u, e, h.keep (keep_below hb (fun p hp => (h.lt p hp).2))⟩
def eNodeLit (B : Nat) (p k : Int) (l : List Int) (t : TypeId) : Ent where
  sh := fun v => ∃ g, v = .slice (some ⟨g, 0, none⟩) 1 1
  ex := ⟨_, 0, rfl⟩
  fct := fun v W U => ∃ g u, v = .slice (some ⟨g, 0, none⟩) 1 1 ∧ Box W g #[.int .i64 p, .int .i64 k, u] t ∧ U g ∧ RowOwn B W u 1 (intRows l)
  hs := fun _ _ _ ⟨g, _, h, _⟩ => ⟨g, h⟩
  st := fun v w w' U hb ⟨g, u, e, k, q, h⟩ => ⟨g, u, e, k.below hb, q, h.keep (keep_below hb (fun p hp => (h.lt p hp).2))⟩
set_option maxRecDepth 100000 in
set_option maxHeartbeats 8000000 in
theorem ownBigraph_ct (v : Value) (b : Big) (w : World) (h : BigAt w v b) (hn : b.nodes.length ≤ 1000) (hk : ∀ n ∈ b.nodes, n.links.length ≤ 1000) (hsl : b.sites.length ≤ 1000) (ho : b.outer.length ≤ 16) (hi : b.inner.length ≤ 1000) :
    Calls Tryz.prog 37 #[v] w fun e w' => ∃ v' bs, e = .returned v' ∧ BigOwn w.heap.size w' v' b bs ∧ bs.Nodup ∧ Below w.heap.size w w' := by
  obtain ⟨a1, c1, a2, c2, a3, c3, a4, c4, rfl⟩ := h.shape
  have hA := bthen (balloc w (.cells #[.int .i64 b.roots, .slice a1 b.nodes.length c1, .slice a2 b.sites.length c2, .int .i64 b.edges, .slice a3 b.outer.length c3, .slice a4 b.inner.length c4] 29)) (balloc (w.alloc (.cells #[.int .i64 b.roots, .slice a1 b.nodes.length c1, .slice a2 b.sites.length c2, .int .i64 b.edges, .slice a3 b.outer.length c3, .slice a4 b.inner.length c4] 29)) (.cells #[.int .i64 0, .slice none 0 0, .slice none 0 0, .int .i64 0, .slice none 0 0, .slice none 0 0] 29))
  obtain ⟨w2, hW0⟩ : ∃ W, W = (w.alloc (.cells #[.int .i64 b.roots, .slice a1 b.nodes.length c1, .slice a2 b.sites.length c2, .int .i64 b.edges, .slice a3 b.outer.length c3, .slice a4 b.inner.length c4] 29)).alloc (.cells #[.int .i64 0, .slice none 0 0, .slice none 0 0, .int .i64 0, .slice none 0 0, .slice none 0 0] 29) := ⟨_, rfl⟩
  have BA : Box w2 w.heap.size #[.int .i64 b.roots, .slice a1 b.nodes.length c1, .slice a2 b.sites.length c2, .int .i64 b.edges, .slice a3 b.outer.length c3, .slice a4 b.inner.length c4] 29 := by rw [hW0]; exact (Box.new _ _ _).alloc _
  have BR : Box w2 (w.heap.size + 1) #[.int .i64 0, .slice none 0 0, .slice none 0 0, .int .i64 0, .slice none 0 0, .slice none 0 0] 29 := by rw [hW0]; exact Box.new' _ _ _ (by simp)
  have hsz : w.heap.size + 2 ≤ w2.heap.size := by rw [hW0]; simp
  obtain ⟨_, _, _, _, e0, h1, h2, h3, h4, hI1, hI2⟩ := h
  simp only [Value.agg.injEq, Array.mk.injEq, List.cons.injEq, and_true, true_and] at e0
  obtain ⟨rfl, rfl, rfl, rfl⟩ := e0
  have HSO : Hid (∀ s ∈ b.outer, s.size ≤ 1073741824) := h3.2
  have HSW : Hid (∀ c ∈ b.inner, c.name.size ≤ 1073741824 ∧ I64 c.link) := h4.2
  have HSI : Hid (∀ x ∈ b.sites, I64 x) := h2.2
  have HI : Hid (∀ n ∈ b.nodes, I64 n.ctl ∧ I64 n.par) := by obtain ⟨_, _, _, _, h⟩ := h1; exact h
  have HK : Hid (∀ n ∈ b.nodes, n.links.length ≤ 1000) := hk
  have HR : Hid (I64 b.roots ∧ I64 b.edges) := ⟨hI1, hI2⟩
  rw [← hW0] at hA
  have h2 := h2.below hA
  have h3 := h3.below hA
  have h4 := h4.below hA
  clear hk hI1 hI2
  go_enter Tryz.func37, Tryz.ntmps37
  go_wp2_with fail
  rw [← hW0]
  clear hW0
  have gA0 := fun y => gr_cell (w := w2) (BA.cell 0) y
  have gA2 := fun y => gr_cell (w := w2) (BA.cell 2) y
  have gA3 := fun y => gr_cell (w := w2) (BA.cell 3) y
  have gA4 := fun y => gr_cell (w := w2) (BA.cell 4) y
  have gA5 := fun y => gr_cell (w := w2) (BA.cell 5) y
  refine rg_region [0, 1, 2, 3, 4, 5, 6, 7, 8, 9, 10, 11, 12, 13, 14] [15] (lo := (.cons _ .nil)) (by rfl) (tAt 4 (eRow w2.heap.size 1 b.sites.length (intRows b.sites) (len_intRows _)) (tAt 9 (eRow w2.heap.size 1 b.outer.length (strRows b.outer) (len_strRows _)) (tAt 12 (eRow w2.heap.size 2 b.inner.length (b.inner.map Wr.cells) (len_wrRows _)) (tAt 14 (ePtr w2.heap.size #[.int .i64 0, .slice none 0 0, .slice none 0 0, .int .i64 0, .slice none 0 0, .slice none 0 0] 29) tNil)))) (by kernel_rfl) (by rfl) (by kernel_rfl) ?_
  refine rg_quiet anti_end [0, 1, 2, 3] [4, 5, 6, 7, 8, 9, 10, 11, 12, 13, 14] (lo := (.cons _ (.cons _ (.cons _ (.cons _ .nil))))) (by rfl) (by kernel_rfl) ?_
  repeat (go_big_quiet_step (fail))
  refine wpQuiet_nil ?_
  refine rg_call 4 rfl rfl 100 #[.slice a2 b.sites.length c2] ?_ ?_ ?_
  · intro w; simp [go_sem]
  · rintro w' ⟨y, rfl⟩ hd
    refine (cloneI_ct _ b.sites _ (h2.below (gr_below _ _)) (by omega)).mono ?_
    rintro e w3 ⟨u1, rfl, hu1, bb⟩
    exact ⟨u1, rfl, bb, gRow_of hu1 (gr_below _ _).size⟩
  intro v hv
  obtain ⟨ia, ic, rfl⟩ : ∃ a c, v = .slice a b.sites.length c := hv
  simp only [Act.put, List.setIfInBounds_toArray, List.set_cons_zero, List.set_cons_succ]
  refine rg_quiet anti_end [5, 6, 7, 8] [9, 10, 11, 12, 13, 14] (lo := (.cons _ (.cons _ (.cons _ (.cons _ .nil))))) (by rfl) (by kernel_rfl) ?_
  repeat (go_big_quiet_step (fail))
  refine wpQuiet_nil ?_
  refine rg_call 9 rfl rfl 101 #[.slice a3 b.outer.length c3] ?_ ?_ ?_
  · intro w; simp [go_sem]
  · rintro w' ⟨y, rfl⟩ hd
    refine (clone_ct _ b.outer _ (h3.below (gr_below _ _)) ho).mono ?_
    rintro e w3 ⟨u1, rfl, hu1, bb⟩
    exact ⟨u1, rfl, bb, gRow_of hu1 (gr_below _ _).size⟩
  intro v hv
  obtain ⟨ka, kc, rfl⟩ : ∃ a c, v = .slice a b.outer.length c := hv
  simp only [Act.put, List.setIfInBounds_toArray, List.set_cons_zero, List.set_cons_succ]
  refine rg_quiet anti_end [10, 11] [12, 13, 14] (lo := (.cons _ (.cons _ .nil))) (by rfl) (by kernel_rfl) ?_
  repeat (go_big_quiet_step (fail))
  refine wpQuiet_nil ?_
  refine rg_call 12 rfl rfl 102 #[.slice a4 b.inner.length c4] ?_ ?_ ?_
  · intro w; simp [go_sem]
  · rintro w' ⟨y, rfl⟩ hd
    refine (cloneW_ct _ b.inner _ (h4.below (gr_below _ _)) (by omega)).mono ?_
    rintro e w3 ⟨u1, rfl, hu1, bb⟩
    exact ⟨u1, rfl, bb, gRow_of hu1 (gr_below _ _).size⟩
  intro v hv
  obtain ⟨la, lc, rfl⟩ : ∃ a c, v = .slice a b.inner.length c := hv
  simp only [Act.put, List.setIfInBounds_toArray, List.set_cons_zero, List.set_cons_succ]
  refine rg_quiet anti_end [13] [14] (lo := (.cons _ .nil)) (by rfl) (by kernel_rfl) ?_
  repeat (go_big_quiet_step (fail))
  refine wpQuiet_nil ?_
  refine rg_made 14 rfl rfl ?_ ?_
  · rintro w' ⟨y, rfl⟩ hd
    exact ⟨_, _, by simp [go_sem]; try exact ⟨rfl, rfl⟩, balloc _ _, _, rfl, Box.new _ _ _, (gr_below _ _).size, Nat.le_refl _, by simp⟩
  intro v hv
  obtain ⟨gp, rfl⟩ : ∃ g, v = .pointer (some ⟨g, 0, none⟩) := hv
  simp only [Act.put, List.setIfInBounds_toArray, List.set_cons_zero, List.set_cons_succ]
  intro w3 U hb3 hF
  obtain ⟨V9, V0, hd0, hs0, hF, gp', e0, BP, hpl, hpU⟩ := hF
  obtain rfl : gp = gp' := by simpa using e0
  obtain ⟨V1, V2, hd2, hs1, hF, hu2⟩ := hF
  obtain ⟨V3, V4, hd4, hs3, hF, hu1⟩ := hF
  obtain ⟨V5, V6, hd6, hs5, hF, hu0⟩ := hF
  clear hF hd6
  obtain ⟨hu0, hc0⟩ : gRow w2.heap.size 1 (intRows b.sites) _ _ _ := hu0
  obtain ⟨hu1, hc1⟩ : gRow w2.heap.size 1 (strRows b.outer) _ _ _ := hu1
  obtain ⟨hu2, hc2⟩ : gRow w2.heap.size 2 (b.inner.map Wr.cells) _ _ _ := hu2
  have hx0 : gp ∉ blks (.slice ia b.sites.length ic) := fun h => hd0 gp ((hs1 gp).2 (.inl ((hs3 gp).2 (.inl ((hs5 gp).2 (.inr (hc0 _ h))))))) hpU
  have hx1 : gp ∉ blks (.slice ka b.outer.length kc) := fun h => hd0 gp ((hs1 gp).2 (.inl ((hs3 gp).2 (.inr (hc1 _ h))))) hpU
  have hx2 : gp ∉ blks (.slice la b.inner.length lc) := fun h => hd0 gp ((hs1 gp).2 (.inr (hc2 _ h))) hpU
  have hq01 : ∀ g ∈ blks (.slice ia b.sites.length ic), g ∉ blks (.slice ka b.outer.length kc) := fun g h h' => hd4 g ((hs5 g).2 (.inr (hc0 _ h))) (hc1 _ h')
  have hq02 : ∀ g ∈ blks (.slice ia b.sites.length ic), g ∉ blks (.slice la b.inner.length lc) := fun g h h' => hd2 g ((hs3 g).2 (.inl ((hs5 g).2 (.inr (hc0 _ h))))) (hc2 _ h')
  have hq12 : ∀ g ∈ blks (.slice ka b.outer.length kc), g ∉ blks (.slice la b.inner.length lc) := fun g h h' => hd2 g ((hs3 g).2 (.inr (hc1 _ h))) (hc2 _ h')
  have HX0 : Hid (∀ g ∈ blks (.slice ia b.sites.length ic), w2.heap.size ≤ g ∧ g < w3.heap.size ∧ g ≠ gp) := fun g h => ⟨(hu0.lt g h).1, (hu0.lt g h).2, fun e => hx0 (e ▸ h)⟩
  have HX1 : Hid (∀ g ∈ blks (.slice ka b.outer.length kc), w2.heap.size ≤ g ∧ g < w3.heap.size ∧ g ≠ gp) := fun g h => ⟨(hu1.lt g h).1, (hu1.lt g h).2, fun e => hx1 (e ▸ h)⟩
  have HX2 : Hid (∀ g ∈ blks (.slice la b.inner.length lc), w2.heap.size ≤ g ∧ g < w3.heap.size ∧ g ≠ gp) := fun g h => ⟨(hu2.lt g h).1, (hu2.lt g h).2, fun e => hx2 (e ▸ h)⟩
  have HQ : Hid ((∀ g ∈ blks (.slice ia b.sites.length ic), g ∉ blks (.slice ka b.outer.length kc)) ∧ (∀ g ∈ blks (.slice ia b.sites.length ic), g ∉ blks (.slice la b.inner.length lc)) ∧ ∀ g ∈ blks (.slice ka b.outer.length kc), g ∉ blks (.slice la b.inner.length lc)) := ⟨hq01, hq02, hq12⟩
  clear hx0 hx1 hx2 hq01 hq02 hq12 hd0 hd2 hd4 hs0 hs1 hs3 hs5 hc0 hc1 hc2 hpU gA0 gA2 gA3 gA4 gA5
  have hgp := BP.lt
  have hgr := BR.lt
  have BA := BA.below hb3
  have BR := BR.below hb3
  have hb := bthen hA hb3
  have hs3 := hb3.size
  clear h2 h3 h4
  obtain ⟨n0, hn0⟩ : ∃ n, n = w3.heap.size := ⟨_, rfl⟩
  obtain ⟨m0, hm0⟩ : ∃ n, n = w2.heap.size := ⟨_, rfl⟩
  rw [← hn0, ← hm0] at HX0 HX1 HX2
  rw [← hn0] at hgp hs3
  rw [← hm0] at hpl hgr hsz hs3 hu0 hu1 hu2
  have hs0 : n0 ≤ w3.heap.size := by omega
  clear hn0 hm0 hA hb3
  have q := BA.cell
  have q1 := BP.cell
  have f1 := BP.free
  obtain ⟨ya1, yc1, e9, hyl, _, H1⟩ := h1.open
  obtain ⟨rfl, rfl⟩ : a1 = ya1 ∧ c1 = yc1 := by simpa using e9
  have H1' := Lib.hid H1
  clear H1 e9 h1
  go_wp2_with fail
  go_loopw [23] (fun i W => ∃ k : Nat, k ≤ b.nodes.length ∧ i = .int .i64 k ∧ Below w.heap.size w W ∧ n0 ≤ W.heap.size ∧ Box W (w.heap.size + 1) #[.int .i64 0, .slice none 0 0, .slice none 0 0, .int .i64 0, .slice none 0 0, .slice none 0 0] 29 ∧ RowOwn m0 W (.slice ia b.sites.length ic) 1 (intRows b.sites) ∧ RowOwn m0 W (.slice ka b.outer.length kc) 1 (strRows b.outer) ∧ RowOwn m0 W (.slice la b.inner.length lc) 2 (b.inner.map Wr.cells) ∧ ∃ vs, ∃ lv : List (Nd × Value), Box W gp #[.int .i64 b.roots, vs, .slice ia b.sites.length ic, .int .i64 b.edges, .slice ka b.outer.length kc, .slice la b.inner.length lc] 29 ∧ Acc W n0 57 3 vs (lv.map Nd.cells) ∧ Hid (lv.map Prod.fst = b.nodes.take k) ∧ Hid (∀ n ∈ lv, IntsOwn n0 W n.2 n.1.links) ∧ Hid (lv.flatMap (fun n => blks n.2)).Nodup ∧ Hid (∀ g, vs.ownBlock = some g → g ∉ lv.flatMap (fun n => blks n.2))) (fun i _ => b.nodes.length - (intOf i).toNat)
  case atStart =>
    refine ⟨0, Nat.zero_le _, rfl, ?_, ?_, ?_, ?_, ?_, ?_, .slice none 0 0, [], ?_, Acc.nil _ _ _ _, rfl, (by intro n hn; cases hn), (by show List.Nodup _; simp), (by intro g hg; cases hg)⟩
    · iterate 6 refine Below.setCell ?_ (by simp <;> omega) _
      exact hb
    · simpa [size_setCell] using hs0
    · iterate 6 refine Box.other ?_ _ (by simp <;> omega)
      exact BR
    · exact hu0.keep fun g hg => by have := HX0.out g hg; repeat rw [heap_setCell_other _ _ _ _ (by simp <;> omega)]
    · exact hu1.keep fun g hg => by have := HX1.out g hg; repeat rw [heap_setCell_other _ _ _ _ (by simp <;> omega)]
    · exact hu2.keep fun g hg => by have := HX2.out g hg; repeat rw [heap_setCell_other _ _ _ _ (by simp <;> omega)]
    · exact (((((BP.set 0 _).set 1 _).set 2 _).set 3 _).set 4 _).set 5 _
  case round =>
    clear BR BP BA hu0 hu1 hu2 hb hs0 q q1 f1
    obtain ⟨k, hk, rfl, hb, hs, BR, hu0, hu1, hu2, vs, lv, BP, acc, HL, HO, HD, HE⟩ := hrel
    obtain ⟨av, cv, rfl⟩ := acc.shape
    have HLN : Hid ((lv.map Nd.cells).length = k) := by show _ = _; have := congrArg List.length HL.out; simp at this ⊢; omega
    rw [HLN.out] at BP acc HE
    by_cases hkl : k < b.nodes.length
    · obtain ⟨x, hx⟩ := getElem?_of_lt hkl
      obtain ⟨hx1, hx2, bb, oo, vl, rfl, hvl, hc0, hc1, hc2⟩ := H1'.out k x hx
      have HT : Hid (b.nodes.take (k + 1) = b.nodes.take k ++ [x]) := take_snoc_l hx
      have hxl := HK.out x (List.mem_of_getElem? hx)
      have HXI : Hid (I64 x.ctl ∧ I64 x.par) := ⟨hx1, hx2⟩
      have hvl := hvl.below hb
      have HLX : Hid (∀ y ∈ x.links, I64 y) := hvl.2
      obtain ⟨ya, yc, rfl, _⟩ := hvl.open
      have hc0 := (hb.cell (World.block_lt_of_cell? w _ hc0)).trans hc0
      have hc1 := (hb.cell (World.block_lt_of_cell? w _ hc1)).trans hc1
      have hc2 := (hb.cell (World.block_lt_of_cell? w _ hc2)).trans hc2
      clear hx hx1 hx2
      go_wp2_with fail
      obtain ⟨wr0, hW⟩ : ∃ W, W = wr.alloc (.cells #[.int .i64 x.ctl, .int .i64 x.par, .slice ya x.links.length yc] 57) := ⟨_, rfl⟩
      rw [← hW]
      have BX : Box wr0 wr.heap.size #[.int .i64 x.ctl, .int .i64 x.par, .slice ya x.links.length yc] 57 := by rw [hW]; exact Box.new _ _ _
      have bw : Below wr.heap.size wr wr0 := by rw [hW]; exact balloc _ _
      have hsw : wr.heap.size + 1 ≤ wr0.heap.size := by rw [hW]; simp
      clear hW hc0 hc1 hc2
      have hvl := hvl.below bw
      have BP' := BP.below bw
      have gP := fun z => gr_cell (w := wr0) (BP'.cell 1) z
      have gX0 := fun z => gr_cell (w := wr0) (BX.cell 0) z
      have gX1 := fun z => gr_cell (w := wr0) (BX.cell 1) z
      have gX2 := fun z => gr_cell (w := wr0) (BX.cell 2) z
      refine rg_region [0, 1, 2, 3, 4, 5, 6, 7, 8, 9, 10] [11, 12, 13] (lo := (.cons _ (.cons _ (.cons _ .nil)))) (by rfl) (tAt 8 (eRow wr0.heap.size 1 x.links.length (intRows x.links) (len_intRows _)) (tAt 9 (eNode wr0.heap.size x.ctl x.par x.links) (tAt 10 (eNodeLit wr0.heap.size x.ctl x.par x.links 57) tNil))) (by kernel_rfl) (by rfl) (by kernel_rfl) ?_
      refine rg_quiet anti_end [0, 1, 2, 3, 4, 5, 6, 7] [8, 9, 10] (lo := (.cons _ (.cons _ (.cons _ (.cons _ (.cons _ (.cons _ (.cons _ (.cons _ .nil))))))))) (by rfl) (by kernel_rfl) ?_
      repeat (go_big_quiet_step (fail))
      refine wpQuiet_nil ?_
      refine rg_call 8 rfl rfl 100 #[.slice ya x.links.length yc] ?_ ?_ ?_
      · intro w; simp [go_sem]
      · rintro w' ⟨y, rfl⟩ hd
        refine (cloneI_ct _ x.links _ (hvl.below (gr_below _ _)) hxl).mono ?_
        rintro e w3 ⟨u1, rfl, hu1, bb⟩
        exact ⟨u1, rfl, bb, gRow_of hu1 (gr_below _ _).size⟩
      intro v hv
      obtain ⟨ja, jc, rfl⟩ : ∃ a c, v = .slice a x.links.length c := hv
      simp only [Act.put, List.setIfInBounds_toArray, List.set_cons_zero, List.set_cons_succ]
      refine rg_made 9 rfl rfl ?_ ?_
      · rintro w' ⟨y, rfl⟩ hd
        obtain ⟨U8, h8⟩ := (hd ⟨8, .data⟩ (by simp) rfl _ rfl (by decide) 35 rfl)
        obtain ⟨h8, _⟩ : gRow wr0.heap.size 1 (intRows x.links) (.slice ja x.links.length jc) _ _ := h8
        exact ⟨_, _, by simp [go_sem]; try exact ⟨rfl, rfl⟩, Below.refl _ _, _, rfl, h8⟩
      intro v hv
      obtain ⟨da, dc, rfl⟩ : ∃ a c, v = .agg #[.int .i64 x.ctl, .int .i64 x.par, .slice a x.links.length c] := hv
      simp only [Act.put, List.setIfInBounds_toArray, List.set_cons_zero, List.set_cons_succ]
      refine rg_made 10 rfl rfl ?_ ?_
      · rintro w' ⟨y, rfl⟩ hd
        obtain ⟨U9, u9, e9, h9⟩ := (hd ⟨9, .data⟩ (by simp) rfl _ rfl (by decide) 36 rfl)
        obtain ⟨u9, e9, h9⟩ : ∃ u, Value.agg #[.int .i64 x.ctl, .int .i64 x.par, .slice da x.links.length dc] = .agg #[.int .i64 x.ctl, .int .i64 x.par, u] ∧ RowOwn wr0.heap.size _ u 1 (intRows x.links) := ⟨u9, e9, h9⟩
        obtain rfl : .slice da x.links.length dc = u9 := by simpa using e9
        exact ⟨_, _, by simp [go_sem]; try exact ⟨rfl, rfl⟩, balloc _ _, _, _, rfl, Box.new _ _ _, ⟨Nat.le_refl _, by simp⟩, h9.keep (keep_below (balloc _ _) (fun p hp => (h9.lt p hp).2))⟩
      intro v hv
      obtain ⟨gl, rfl⟩ : ∃ g, v = .slice (some ⟨g, 0, none⟩) 1 1 := hv
      simp only [Act.put, List.setIfInBounds_toArray, List.set_cons_zero, List.set_cons_succ]
      intro w4 U hb3 hF
      obtain ⟨V1, V2, _, hsU, hF, hE⟩ := hF
      obtain ⟨gl', u, e0, BL, _, hu⟩ : ∃ g u, Value.slice (some ⟨gl, 0, none⟩) 1 1 = .slice (some ⟨g, 0, none⟩) 1 1 ∧ Box w4 g #[.int .i64 x.ctl, .int .i64 x.par, u] 57 ∧ V2 g ∧ RowOwn wr0.heap.size w4 u 1 (intRows x.links) := hE
      obtain rfl : gl = gl' := by simpa using e0
      obtain ⟨na, nc, rfl⟩ := hu.shape
      rw [len_intRows] at BL hu
      clear e0 gP gX0 gX1 gX2 hvl BX BP' hsU hF
      have bb4 := bthen bw hb3
      have hs4 := bb4.size
      have BR := BR.below bb4
      have BP := BP.below bb4
      have haccl := acc.1.lt
      have acc := acc.below bb4
      have hu0 := hu0.keep (keep_below bb4 (fun p hp => (hu0.lt p hp).2))
      have hu1 := hu1.keep (keep_below bb4 (fun p hp => (hu1.lt p hp).2))
      have hu2 := hu2.keep (keep_below bb4 (fun p hp => (hu2.lt p hp).2))
      have HOL : Hid (∀ n ∈ lv, ∀ g ∈ blks n.2, n0 ≤ g ∧ g < wr.heap.size) := fun n hn g hg => (HO.out n hn).lt g hg
      have HO4 : Hid (∀ n ∈ lv, IntsOwn n0 w4 n.2 n.1.links) := fun n hn => (HO.out n hn).keep (keep_below bb4 (fun p hp => ((HO.out n hn).lt p hp).2))
      have hb := bthen hb bb4
      have hs := Nat.le_trans hs bb4.size
      have hul := hu.lt
      clear bw hb3 bb4 HO
      go_wp2_with (at_builtin; refine appR _ rfl (.tmp 28) (.tmp 37) 24 rfl n0 57 3 40 1 (.agg #[.int .i64 0, .int .i64 0, .slice none 0 0]) Tryz.underlying24 inf_nd rfl (by decide) (by decide) _ (lv.map Nd.cells) (by rfl) acc _ [[.int .i64 x.ctl, .int .i64 x.par, .slice na x.links.length nc]] (by rfl) (rowAt_one (row := [.int .i64 x.ctl, .int .i64 x.par, .slice na x.links.length nc]) BL (by decide)) (by simp [Value.oneCell']) (by rw [HLN.out]; simp; omega) hs ?_)
      intro v2 w5 acc2 hg hfr
      have hne : ∀ g ∈ lv.flatMap (fun n => blks n.2), (Value.slice av k cv).ownBlock ≠ some g := fun g h e => HE.out g e h
      have hnu : ∀ g ∈ blks (.slice na x.links.length nc), (Value.slice av k cv).ownBlock ≠ some g := fun g h e => by have := haccl g e; have := hul g h; omega
      have hb2 := grown_below hb acc hg (by omega) (by omega)
      have hs2 := Nat.le_trans hs hg.size
      have BR2 := BR.keep (grown_block acc hg (by omega) BR.lt)
      have BP2 := BP.keep (grown_block acc hg (by omega) BP.lt)
      have hu02 := hu0.keep (fun p hp => grown_block acc hg (HX0.out p hp).2.1 (hu0.lt p hp).2)
      have hu12 := hu1.keep (fun p hp => grown_block acc hg (HX1.out p hp).2.1 (hu1.lt p hp).2)
      have hu22 := hu2.keep (fun p hp => grown_block acc hg (HX2.out p hp).2.1 (hu2.lt p hp).2)
      have HO5 : Hid (∀ n ∈ lv, IntsOwn n0 w5 n.2 n.1.links) := fun n hn => (HO4.out n hn).keep (fun p hp => hg.block p ((HO4.out n hn).lt p hp).2 (fun e => hne p (List.mem_flatMap.2 ⟨n, hn, hp⟩) e.symm))
      have hu5 := hu.keep (fun p hp => hg.block p (hu.lt p hp).2 (fun e => hnu p hp e.symm))
      obtain ⟨lv', hlv⟩ : ∃ l, l = lv ++ [(x, Value.slice na x.links.length nc)] := ⟨_, rfl⟩
      have HC : lv.map Nd.cells ++ [[.int .i64 x.ctl, .int .i64 x.par, .slice na x.links.length nc]] = lv'.map Nd.cells := by rw [hlv]; simp [Nd.cells]
      rw [HC] at acc2
      have HLN2 : (lv'.map Nd.cells).length = k + 1 := by rw [← HC, List.length_append, HLN.out]; rfl
      obtain ⟨av2, cv2, rfl⟩ := acc2.shape
      rw [HLN2] at acc2 hfr ⊢
      have HF2 : Hid (lv'.map Prod.fst = b.nodes.take (k + 1)) := by show _ = _; rw [hlv, HT.out, ← HL.out]; simp
      have hO2 : ∀ n ∈ lv', IntsOwn n0 w5 n.2 n.1.links := by
        intro n hn
        rw [hlv] at hn
        rcases List.mem_append.1 hn with hn | hn
        · exact HO5.out n hn
        · obtain rfl := List.mem_singleton.1 hn
          exact ⟨hu5.mono (by omega), by dsimp only; omega, HLX.out⟩
      have HO2 := Lib.hid hO2
      have HD2 : Hid (lv'.flatMap (fun n => blks n.2)).Nodup := by
        show List.Nodup _
        rw [hlv, List.flatMap_append, List.nodup_append]
        refine ⟨HD.out, ?_, ?_⟩
        · simp only [List.flatMap_cons, List.flatMap_nil, List.append_nil]; exact blks_nodup _ _ _
        · intro p hp q hq
          obtain ⟨n, hn, hg'⟩ := List.mem_flatMap.1 hp
          simp only [List.flatMap_cons, List.flatMap_nil, List.append_nil] at hq
          have h5 := (HOL.out n hn p hg').2
          have h6 := (hul q hq).1
          omega
      have HE2 : Hid (∀ g, (Value.slice av2 (k + 1) cv2).ownBlock = some g → g ∉ lv'.flatMap (fun n => blks n.2)) := by
        intro g e hm
        rw [hlv, List.flatMap_append] at hm
        rcases hfr with h | h
        · rw [h] at e
          rcases List.mem_append.1 hm with hm | hm
          · exact HE.out g e hm
          · simp only [List.flatMap_cons, List.flatMap_nil, List.append_nil] at hm
            exact hnu g hm e
        · rw [h] at e
          obtain rfl := Option.some.inj e
          rcases List.mem_append.1 hm with hm | hm
          · obtain ⟨n, hn, hg'⟩ := List.mem_flatMap.1 hm
            have h5 := (HOL.out n hn _ hg').2
            omega
          · simp only [List.flatMap_cons, List.flatMap_nil, List.append_nil] at hm
            have h6 := (hul _ hm).2
            omega
      have HB2 : Hid (∀ n ∈ lv', ∀ p ∈ blks n.2, p ≠ gp) := fun n hn p hp e => by have := (HO2.out n hn).lt p hp; omega
      clear hO2 acc hg BR BP hb hs BL hu0 hu1 hu2 hu hu5 HO4 HO5 hul hne hnu hfr haccl hlv HC HLN2
      have q := BP2.cell
      have f := BP2.free
      go_wp2_with fail
      go_roundw
      case rel =>
        exact ⟨k + 1, by omega, by go_num, hb2.setCell (by simp <;> omega) _, by simpa [size_setCell] using hs2, BR2.other _ (by simp <;> omega), hu02.keep (keep_setCell (fun h => (HX0.out _ h).2.2 rfl)), hu12.keep (keep_setCell (fun h => (HX1.out _ h).2.2 rfl)), hu22.keep (keep_setCell (fun h => (HX2.out _ h).2.2 rfl)), _, lv', BP2.set 1 _, acc2.keep (fun q hq _ => heap_setCell_other _ _ _ _ (by simp <;> omega)), HF2, fun n hn => (HO2.out n hn).keep (keep_setCell (fun h => HB2.out n hn _ h rfl)), HD2, HE2⟩
      case measure => simp [intOf]; omega
    · have e : k = b.nodes.length := by omega
      subst e
      have HLE : Hid (lv.map Prod.fst = b.nodes) := by show _ = _; rw [HL.out, List.take_length]
      have hro := acc.own
      have hrl := hro.lt
      have hl0 := hu0.lt
      have hl1 := hu1.lt
      have hl2 := hu2.lt
      have q := BP.cell
      have q2 := BR.cell
      have f2 := BR.free
      clear acc
      go_wp2_with fail
      have hkp : ∀ (W : World) (g : Nat) (u0 u1 u2 u3 u4 u5 : Value), m0 ≤ g → ((((((W.setCell ⟨w.heap.size + 1, 0, none⟩ u0).setCell ⟨w.heap.size + 1, 1, none⟩ u1).setCell ⟨w.heap.size + 1, 2, none⟩ u2).setCell ⟨w.heap.size + 1, 3, none⟩ u3).setCell ⟨w.heap.size + 1, 4, none⟩ u4).setCell ⟨w.heap.size + 1, 5, none⟩ u5).heap[g]? = W.heap[g]? := fun W g _ _ _ _ _ _ hg => by
        repeat rw [heap_setCell_other _ _ _ _ (by dsimp only; omega)]
      refine bodyPost_ret (v := .agg #[.int .i64 b.roots, .slice av b.nodes.length cv, .slice ia b.sites.length ic, .int .i64 b.edges, .slice ka b.outer.length kc, .slice la b.inner.length lc]) (by simp [results, Tryz.results37, go_sem, q2]) rfl ⟨_, _, rfl, ⟨_, _, _, _, _, rfl, ⟨lv, HLE.out, (hro.keep ?_).mono (by omega), by omega, ?_, HI.out, rfl⟩, ⟨(hu0.keep ?_).mono (by omega), by omega, HSI.out⟩, ⟨(hu1.keep ?_).mono (by omega), by omega, HSO.out⟩, ⟨(hu2.keep ?_).mono (by omega), by omega, HSW.out⟩, HR.out.1, HR.out.2, rfl⟩, ?_, ?_⟩
      · exact fun g hg => hkp _ g _ _ _ _ _ _ (by have := (hrl g hg).1; omega)
      · exact fun n hn => ((HO.out n hn).keep fun g hg => hkp _ g _ _ _ _ _ _ (by have := ((HO.out n hn).lt g hg).1; omega)).mono (by omega)
      · exact fun g hg => hkp _ g _ _ _ _ _ _ (hl0 g hg).1
      · exact fun g hg => hkp _ g _ _ _ _ _ _ (hl1 g hg).1
      · exact fun g hg => hkp _ g _ _ _ _ _ _ (hl2 g hg).1
      · have hN : ∀ p ∈ blks (.slice av b.nodes.length cv) ++ lv.flatMap (fun n => blks n.2), n0 ≤ p := by
          intro p hp
          rcases List.mem_append.1 hp with hp | hp
          · exact (hrl p hp).1
          · obtain ⟨n, hn, hg⟩ := List.mem_flatMap.1 hp
            exact ((HO.out n hn).lt p hg).1
        rw [List.nodup_append]
        refine ⟨?_, ?_, ?_⟩
        · rw [List.nodup_append]
          exact ⟨blks_nodup _ _ _, HD.out, fun p hp q hq e => HE.out p (blks_own hp) (e ▸ hq)⟩
        · rw [List.nodup_append]
          refine ⟨blks_nodup _ _ _, ?_, fun p hp q hq e => ?_⟩
          · rw [List.nodup_append]
            exact ⟨blks_nodup _ _ _, blks_nodup _ _ _, fun p hp q hq e => HQ.out.2.2 p hp (e ▸ hq)⟩
          · rcases List.mem_append.1 hq with hq | hq
            · exact HQ.out.1 p hp (e ▸ hq)
            · exact HQ.out.2.1 p hp (e ▸ hq)
        · intro p hp q hq e
          have h5 := hN p hp
          rcases List.mem_append.1 hq with hq | hq
          · have := (HX0.out q hq).2.1; omega
          rcases List.mem_append.1 hq with hq | hq
          · have := (HX1.out q hq).2.1; omega
          · have := (HX2.out q hq).2.1; omega
      · iterate 6 refine Below.setCell ?_ (by simp) _
        exact hb
end Go.Proofs.YthgelhglfbgagaaGreatDoor.RgN
