/- Other numbers of nodes and edges: the reference's. -/
import Derived.Test.YthbdmcobpcoajaaGreatDoorRenum
import Derived.Test.YthbdmcobpcoajaaGreatDoorG2
namespace Go.Proofs.YthbdmcobpcoajaaGreatDoor
open Go Go.RowKit Go.BigFrame

def ePtr (B : Nat) (cs : Array Value) (t : TypeId) : Ent where
  sh := fun v => ∃ g, v = .pointer (some ⟨g, 0, none⟩)
  ex := ⟨_, 0, rfl⟩
  fct := fun v W U => ∃ g, v = .pointer (some ⟨g, 0, none⟩) ∧ Box W g cs t ∧ B ≤ g ∧ U g
  hs := fun _ _ _ ⟨g, h, _⟩ => ⟨g, h⟩
  st := fun _ _ _ _ hb ⟨g, h, k, u⟩ => ⟨g, h, k.below hb, u⟩
def tieRows (E : Int) (es l : List Int) (k : Nat) : List (List Value) := intRows ((l.map (tieP E es)).take k)
theorem tieRows_len {E : Int} {es l : List Int} {k : Nat} (h : k ≤ l.length) : (tieRows E es l k).length = k := by simp [tieRows, intRows]; omega
theorem tieRows_snoc {E : Int} {es l : List Int} {k : Nat} {y : Int} (h : l[k]? = some y) : tieRows E es l (k + 1) = tieRows E es l k ++ [[.int .i64 (tieP E es y)]] := by
  have : (l.map (tieP E es))[k]? = some (tieP E es y) := by simp [h]
  unfold tieRows
  rw [take_snoc_l this]
  simp [intRows]
theorem tieRows_full (E : Int) (es l : List Int) : tieRows E es l l.length = intRows (l.map (tieP E es)) := by unfold tieRows; rw [List.take_of_length_le (by simp)]
def moveRows (tn l : List Int) (k : Nat) : List (List Value) := intRows ((l.map (moveP tn)).take k)
theorem moveRows_len {tn l : List Int} {k : Nat} (h : k ≤ l.length) : (moveRows tn l k).length = k := by simp [moveRows, intRows]; omega
theorem moveRows_snoc {tn l : List Int} {k : Nat} {y : Int} (h : l[k]? = some y) : moveRows tn l (k + 1) = moveRows tn l k ++ [[.int .i64 (moveP tn y)]] := by
  have : (l.map (moveP tn))[k]? = some (moveP tn y) := by simp [h]
  unfold moveRows
  rw [take_snoc_l this]
  simp [intRows]
theorem moveRows_full (tn l : List Int) : moveRows tn l l.length = intRows (l.map (moveP tn)) := by unfold moveRows; rw [List.take_of_length_le (by simp)]
def wrRows (b : Big) (es : List Int) (k : Nat) : List (List Value) := ((renWs b es).take k).map Wr.cells
theorem wrRows_len {b : Big} {es : List Int} {k : Nat} (h : k ≤ b.inner.length) : (wrRows b es k).length = k := by simp [wrRows, renWs]; omega
theorem wrRows_snoc {b : Big} {es : List Int} {k : Nat} {x : Wr} (h : b.inner[k]? = some x) : wrRows b es (k + 1) = wrRows b es k ++ [[.string x.name, .int .i64 (tieP b.edges es x.link)]] := by
  have : (renWs b es)[k]? = some ⟨x.name, tieP b.edges es x.link⟩ := by simp [renWs, h]
  unfold wrRows
  rw [take_snoc_l this]
  simp [Wr.cells]
theorem wrRows_full (b : Big) (es : List Int) : wrRows b es b.inner.length = (renWs b es).map Wr.cells := by unfold wrRows; rw [List.take_of_length_le (by simp [renWs])]
theorem i64_tie {E : Int} {es : List Int} {y : Int} (hes : ∀ x ∈ es, I64 x) (hy : 0 ≤ y ∧ y < 1073741824) : I64 (tieP E es y) := by
  unfold tieP
  split
  · unfold I64; omega
  · rw [List.getD_eq_getElem?_getD]
    cases h : es[y.toNat]? with
    | none => simp [I64]
    | some z => exact hes z (List.mem_of_getElem? h)
theorem i64_move {tn : List Int} {y : Int} (hes : ∀ x ∈ tn, I64 x) (hy : -1073741824 ≤ y ∧ y < 1073741824) : I64 (moveP tn y) := by
  unfold moveP
  split
  · unfold I64; omega
  · rw [List.getD_eq_getElem?_getD]
    cases h : tn[y.toNat]? with
    | none => simp [I64]
    | some z => exact hes z (List.mem_of_getElem? h)
set_option maxRecDepth 100000 in
set_option maxHeartbeats 16000000 in
theorem l2Renumber_ct (v vt ve : Value) (b : Big) (tn es : List Int) (w : World) (h : BigAt w v b) (ht : IntsAt w vt tn) (he : IntsAt w ve es) (hn : b.nodes.length ≤ 1000) (hk : ∀ n ∈ b.nodes, n.links.length ≤ 1000) (hsl : b.sites.length ≤ 1000) (ho : b.outer.length ≤ 1000) (hi : b.inner.length ≤ 1000)
    (htl : tn.length = b.nodes.length) (htb : ∀ x ∈ tn, 0 ≤ x ∧ x < (b.nodes.length : Int)) (hpb : ∀ n ∈ b.nodes, -1073741824 ≤ n.par ∧ n.par < (tn.length : Int)) (hlb : ∀ n ∈ b.nodes, ∀ x ∈ n.links, (0 ≤ x ∧ x < 1073741824) ∧ (x < b.edges → x < (es.length : Int))) (hsb : ∀ p ∈ b.sites, -1073741824 ≤ p ∧ p < (tn.length : Int)) (hib : ∀ x ∈ b.inner, (0 ≤ x.link ∧ x.link < 1073741824) ∧ (x.link < b.edges → x.link < (es.length : Int))) :
    Calls Tryz.prog 105 #[v, vt, ve] w fun e w' => ∃ u bs, e = .returned u ∧ BigOwn w.heap.size w' u (renB b tn es) bs ∧ bs.Nodup ∧ Below w.heap.size w w' := by
  obtain ⟨a1, c1, a2, c2, a3, c3, a4, c4, rfl, h1, h2, h3, h4, hI1, hI2⟩ := h.parts
  obtain ⟨ta, tc, rfl, _, _, H5⟩ := ht.open
  obtain ⟨ea, ec, rfl, _⟩ := he.open
  have hA := bthen (balloc w (.cells #[.int .i64 b.roots, .slice a1 b.nodes.length c1, .slice a2 b.sites.length c2, .int .i64 b.edges, .slice a3 b.outer.length c3, .slice a4 b.inner.length c4] 34)) (balloc (w.alloc (.cells #[.int .i64 b.roots, .slice a1 b.nodes.length c1, .slice a2 b.sites.length c2, .int .i64 b.edges, .slice a3 b.outer.length c3, .slice a4 b.inner.length c4] 34)) (.cells #[.int .i64 0, .slice none 0 0, .slice none 0 0, .int .i64 0, .slice none 0 0, .slice none 0 0] 34))
  obtain ⟨w2, hW0⟩ : ∃ W, W = (w.alloc (.cells #[.int .i64 b.roots, .slice a1 b.nodes.length c1, .slice a2 b.sites.length c2, .int .i64 b.edges, .slice a3 b.outer.length c3, .slice a4 b.inner.length c4] 34)).alloc (.cells #[.int .i64 0, .slice none 0 0, .slice none 0 0, .int .i64 0, .slice none 0 0, .slice none 0 0] 34) := ⟨_, rfl⟩
  have BA : Box w2 w.heap.size #[.int .i64 b.roots, .slice a1 b.nodes.length c1, .slice a2 b.sites.length c2, .int .i64 b.edges, .slice a3 b.outer.length c3, .slice a4 b.inner.length c4] 34 := by rw [hW0]; exact (Box.new _ _ _).alloc _
  have BR : Box w2 (w.heap.size + 1) #[.int .i64 0, .slice none 0 0, .slice none 0 0, .int .i64 0, .slice none 0 0, .slice none 0 0] 34 := by rw [hW0]; exact Box.new' _ _ _ (by simp)
  have hsz : w.heap.size + 2 ≤ w2.heap.size := by rw [hW0]; simp
  rw [← hW0] at hA
  have HSO : Hid (∀ s ∈ b.outer, s.size ≤ 1073741824) := h3.2
  have HSW : Hid (∀ c ∈ b.inner, c.name.size ≤ 1073741824 ∧ I64 c.link) := h4.2
  have HTI : Hid (∀ x ∈ tn, I64 x) := ht.2
  have HEI : Hid (∀ x ∈ es, I64 x) := he.2
  have HNI : Hid (∀ n ∈ b.nodes, I64 n.ctl ∧ I64 n.par) := by obtain ⟨_, _, _, _, h⟩ := h1; exact h
  have HK : Hid (∀ n ∈ b.nodes, n.links.length ≤ 1000) := hk
  have HR : Hid (I64 b.roots ∧ I64 b.edges) := ⟨hI1, hI2⟩
  have HTL : Hid (tn.length = b.nodes.length) := htl
  have HTB : Hid _ := htb
  have HPB : Hid _ := hpb
  have HLB : Hid _ := hlb
  have HSB : Hid _ := hsb
  have HIB : Hid _ := hib
  have H5' := Lib.hid H5
  have HB0 := Lib.hid h
  have HT0 := Lib.hid ht
  have HE0 := Lib.hid he
  obtain ⟨_, _, e1, _, _, H1⟩ := h1.open
  obtain ⟨rfl, rfl⟩ := (by simpa using e1 : a1 = _ ∧ c1 = _)
  obtain ⟨_, _, e2, _, _, H2⟩ := h2.open
  obtain ⟨rfl, rfl⟩ := (by simpa using e2 : a2 = _ ∧ c2 = _)
  obtain ⟨_, _, e4, _, _, H4⟩ := h4.open
  obtain ⟨rfl, rfl⟩ := (by simpa using e4 : a4 = _ ∧ c4 = _)
  have H1' := Lib.hid H1
  have H2' := Lib.hid H2
  have H4' := Lib.hid H4
  have h3 := h3.below hA
  clear hk hI1 hI2 htl htb hpb hlb hsb hib H5 H1 H2 H4 e1 e2 e4 h1 h2 h4 h ht he
  go_enter Tryz.func105, Tryz.ntmps105
  go_wp2_with fail
  rw [← hW0]
  clear hW0
  have gA0 := fun y => gr_cell (w := w2) (BA.cell 0) y
  have gA1 := fun y => gr_cell (w := w2) (BA.cell 1) y
  have gA3 := fun y => gr_cell (w := w2) (BA.cell 3) y
  have gA4 := fun y => gr_cell (w := w2) (BA.cell 4) y
  refine rg_region [0, 1, 2, 3, 4, 5, 6, 7, 8, 9, 10, 11, 12, 13] [14] (lo := (.cons _ .nil)) (by rfl) (tAt 4 (eVal (.int .i64 b.nodes.length)) (tAt 5 (eRow w2.heap.size 3 b.nodes.length (List.replicate b.nodes.length [.int .i64 0, .int .i64 0, .slice none 0 0]) (by simp)) (tAt 8 (eLit0) (tAt 11 (eRow w2.heap.size 1 b.outer.length (strRows b.outer) (len_strRows _)) (tAt 13 (ePtr w2.heap.size #[.int .i64 0, .slice none 0 0, .slice none 0 0, .int .i64 0, .slice none 0 0, .slice none 0 0] 34) tNil))))) (by kernel_rfl) (by rfl) (by kernel_rfl) ?_
  refine rg_quiet anti_end [0, 1, 2, 3] [4, 5, 6, 7, 8, 9, 10, 11, 12, 13] (lo := (.cons _ (.cons _ (.cons _ (.cons _ .nil))))) (by rfl) (by kernel_rfl) ?_
  repeat (go_big_quiet_step (fail))
  refine wpQuiet_nil ?_
  refine rg_made 4 rfl rfl ?_ ?_
  · rintro w' ⟨y, rfl⟩ hd
    exact ⟨_, _, by simp [go_sem]; try exact ⟨rfl, rfl⟩, Below.refl _ _, rfl⟩
  intro v hv
  obtain rfl : v = .int .i64 b.nodes.length := hv
  simp only [Act.put, List.setIfInBounds_toArray, List.set_cons_zero, List.set_cons_succ]
  refine rg_made 5 rfl rfl ?_ ?_
  · rintro w' ⟨y, rfl⟩ hd
    exact rg_make (.tmp 17) (.tmp 17) 31 (by rfl) 100 3 40 w2.heap.size (.agg #[.int .i64 0, .int .i64 0, .slice none 0 0]) Tryz.underlying31 inf_nd rfl (by decide) (by decide) b.nodes.length (by rfl) (by rfl) (by omega) _ (gr_below _ _).size
  intro v hv
  obtain ⟨na, nc, rfl⟩ : ∃ a c, v = .slice a b.nodes.length c := hv
  simp only [Act.put, List.setIfInBounds_toArray, List.set_cons_zero, List.set_cons_succ]
  refine rg_quiet anti_end [6, 7] [8, 9, 10, 11, 12, 13] (lo := (.cons _ (.cons _ .nil))) (by rfl) (by kernel_rfl) ?_
  repeat (go_big_quiet_step (fail))
  refine wpQuiet_nil ?_
  refine rg_made 8 rfl rfl ?_ ?_
  · rintro w' ⟨y, rfl⟩ hd
    exact ⟨_, _, by simp [go_sem]; exact ⟨rfl, rfl⟩, balloc _ _, _, rfl⟩
  intro v hv
  obtain ⟨g1, rfl⟩ : ∃ g, v = .slice (some ⟨g, 0, none⟩) 0 0 := hv
  simp only [Act.put, List.setIfInBounds_toArray, List.set_cons_zero, List.set_cons_succ]
  refine rg_quiet anti_end [9, 10] [11, 12, 13] (lo := (.cons _ (.cons _ .nil))) (by rfl) (by kernel_rfl) ?_
  repeat (go_big_quiet_step (fail))
  refine wpQuiet_nil ?_
  refine rg_made 11 rfl rfl ?_ ?_
  · rintro w' ⟨y, rfl⟩ hd
    exact rg_app0 (.tmp 21) (.tmp 23) 25 (by rfl) 9 1 16 1073741824 w2.heap.size (.string ⟨#[]⟩) Tryz.underlying25 inf_str rfl (by decide) (by decide) _ _ (strRows b.outer) (by rfl) (by rfl) (one_strRows _) (by rw [len_strRows]; omega) _ (h3.below (gr_below _ _)).1 (gr_below _ _).size
  intro v hv
  obtain ⟨ka, kc, rfl⟩ : ∃ a c, v = .slice a b.outer.length c := hv
  simp only [Act.put, List.setIfInBounds_toArray, List.set_cons_zero, List.set_cons_succ]
  refine rg_quiet anti_end [12] [13] (lo := (.cons _ .nil)) (by rfl) (by kernel_rfl) ?_
  repeat (go_big_quiet_step (fail))
  refine wpQuiet_nil ?_
  refine rg_made 13 rfl rfl ?_ ?_
  · rintro w' ⟨y, rfl⟩ hd
    exact ⟨_, _, by simp [go_sem]; try exact ⟨rfl, rfl⟩, balloc _ _, _, rfl, Box.new _ _ _, (gr_below _ _).size, Nat.le_refl _, by simp⟩
  intro v hv
  obtain ⟨gp, rfl⟩ : ∃ g, v = .pointer (some ⟨g, 0, none⟩) := hv
  simp only [Act.put, List.setIfInBounds_toArray, List.set_cons_zero, List.set_cons_succ]
  intro w3 U hb3 hF
  obtain ⟨V9, V0, hd0, hs0, hF, gp', e0, BP0, hpl, hpU⟩ := hF
  obtain rfl : gp = gp' := by simpa using e0
  obtain ⟨V1, V2, hd2, hs1, hF, hu1⟩ := hF
  obtain ⟨V3, V4, hd4, hs3, hF, hlit⟩ := hF
  obtain ⟨V5, V6, hd6, hs5, hF, hu0⟩ := hF
  clear hF hlit
  obtain ⟨hu0, hc0⟩ : gRow w2.heap.size 3 (List.replicate b.nodes.length [.int .i64 0, .int .i64 0, .slice none 0 0]) _ _ _ := hu0
  obtain ⟨hu1, hc1⟩ : gRow w2.heap.size 1 (strRows b.outer) _ _ _ := hu1
  have hx0 : ∀ q ∈ blks (.slice na b.nodes.length nc), q ≠ gp ∧ q ∉ blks (.slice ka b.outer.length kc) := fun q hq => ⟨fun e => hd0 q ((hs1 q).2 (.inl ((hs3 q).2 (.inl ((hs5 q).2 (.inr (hc0 _ hq))))))) (e ▸ hpU), fun h => hd2 q ((hs3 q).2 (.inl ((hs5 q).2 (.inr (hc0 _ hq))))) (hc1 _ h)⟩
  have hx1 : gp ∉ blks (.slice ka b.outer.length kc) := fun h => hd0 gp ((hs1 gp).2 (.inr (hc1 _ h))) hpU
  have HX1 : Hid (∀ q ∈ blks (.slice ka b.outer.length kc), q ≠ gp) := fun q h e => hx1 (e ▸ h)
  clear hx1 hd0 hd2 hd4 hd6 hs0 hs1 hs3 hs5 hc0 hc1 hpU gA0 gA1 gA3 gA4
  obtain ⟨n0, hn0⟩ : ∃ n, n = w2.heap.size := ⟨_, rfl⟩
  rw [← hn0] at hpl hsz hu0 hu1
  have hs3 : n0 ≤ w3.heap.size := by rw [hn0]; exact hb3.size
  have BA0 := BA.below hb3
  have BR0 := BR.below hb3
  have hb0 := bthen hA hb3
  clear BA BR
  clear hA hb3 h3 hn0 e0
  obtain ⟨hno1, hnd0⟩ := made_nds hn hu0
  have hno0 : NdsOwn n0 w3 (.slice na b.nodes.length nc) (layN tn (renNs b tn es) (List.replicate b.nodes.length noNd) 0) _ := hno1
  have q := BP0.cell
  have f := BP0.free
  go_wp2_with fail
  obtain ⟨Y, hY, BP, oY⟩ := box_fill BP0 (.int .i64 b.roots) (.slice na b.nodes.length nc) (.slice none 0 0) (.int .i64 b.edges) (.slice ka b.outer.length kc) (.slice none 0 0)
  rw [← hY]
  have hno := hno0.keep (fun q hq => oY.block q (hno0.lt q hq).2 (fun h => (hx0 q hq).1 (List.mem_singleton.1 h)))
  have hso := hu1.keep (fun q hq => oY.block q (hu1.lt q hq).2 (fun h => HX1.out q hq (List.mem_singleton.1 h)))
  have BA := BA0.keep (oY.block _ BA0.lt (fun h => by have := List.mem_singleton.1 h; omega))
  have BR := BR0.keep (oY.block _ BR0.lt (fun h => by have := List.mem_singleton.1 h; omega))
  have hb := hb0.trans (oY.below (fun p hp => by have := List.mem_singleton.1 hp; omega) (by omega))
  have hs : n0 ≤ Y.heap.size := Nat.le_trans hs3 oY.size
  clear hY oY hs3 hu0 hu1 q f BP0 BA0 BR0 hb0 hno0 hno1
  have hnq : Hid (∀ q ∈ blks (.slice na b.nodes.length nc), q ≠ gp ∧ q ∉ blks (.slice ka b.outer.length kc)) := hx0
  clear hx0
  go_loopw [8] (fun i W => ∃ k : Nat, k ≤ b.nodes.length ∧ i = .int .i64 k ∧ Below w.heap.size w W ∧ n0 ≤ W.heap.size ∧ Box W w.heap.size #[.int .i64 b.roots, .slice a1 b.nodes.length c1, .slice a2 b.sites.length c2, .int .i64 b.edges, .slice a3 b.outer.length c3, .slice a4 b.inner.length c4] 34 ∧ Box W (w.heap.size + 1) #[.int .i64 0, .slice none 0 0, .slice none 0 0, .int .i64 0, .slice none 0 0, .slice none 0 0] 34 ∧ Box W gp #[.int .i64 b.roots, .slice na b.nodes.length nc, .slice none 0 0, .int .i64 b.edges, .slice ka b.outer.length kc, .slice none 0 0] 34 ∧ RowOwn n0 W (.slice ka b.outer.length kc) 1 (strRows b.outer) ∧ ∃ bs, NdsOwn n0 W (.slice na b.nodes.length nc) (layN tn (renNs b tn es) (List.replicate b.nodes.length noNd) k) bs ∧ bs.Nodup ∧ Hid (∀ q ∈ bs, q ≠ gp ∧ q ∉ blks (.slice ka b.outer.length kc))) (fun i _ => b.nodes.length - (intOf i).toNat)
  case atStart => exact ⟨0, Nat.zero_le _, rfl, hb, hs, BA, BR, BP, hso, _, hno, hnd0, hnq⟩
  case round =>
    clear BA BR BP hso hno hnd0 hnq hb hs Y w3
    obtain ⟨k, hk, rfl, hb, hs, BA, BR, BP, hso, bs, hno, hnd, hnq⟩ := hrel
    by_cases hkl : k < b.nodes.length
    · obtain ⟨x, hx⟩ := getElem?_of_lt hkl
      obtain ⟨hx1, hx2, bb, oo, vl, rfl, hvl, hc0, hc1, hc2⟩ := H1'.out k x hx
      obtain ⟨t, htk, htn⟩ : ∃ t : Nat, tn[k]? = some (t : Int) ∧ t < b.nodes.length := by
        obtain ⟨z, hz⟩ := getElem?_of_lt (show k < tn.length by have := HTL.out; omega)
        have := HTB.out z (List.mem_of_getElem? hz)
        exact ⟨z.toNat, by rw [hz]; congr 1; omega, by omega⟩
      have HTK : Hid (tn[k]? = some (t : Int)) := htk
      obtain ⟨_, tb, to', e, hct⟩ := H5'.out k _ htk
      obtain rfl := e
      have HX : Hid (b.nodes[k]? = some x) := hx
      have hkt : k < tn.length := by have := HTL.out; omega
      have hxl := HK.out x (List.mem_of_getElem? hx)
      have HP : Hid (-1073741824 ≤ x.par ∧ x.par < (tn.length : Int)) := HPB.out x (List.mem_of_getElem? hx)
      have HL : Hid (∀ y ∈ x.links, (0 ≤ y ∧ y < 1073741824) ∧ (y < b.edges → y < (es.length : Int))) := HLB.out x (List.mem_of_getElem? hx)
      have HXI : Hid (I64 x.ctl ∧ I64 x.par) := ⟨hx1, hx2⟩
      have HVL := Lib.hid (hvl.below hb)
      have hvl := hvl.below hb
      obtain ⟨ya, yc, rfl, _, _, H6⟩ := hvl.open
      have H6' := Lib.hid H6
      have hc0 := (hb.cell (World.block_lt_of_cell? w _ hc0)).trans hc0
      have hc1 := (hb.cell (World.block_lt_of_cell? w _ hc1)).trans hc1
      have hc2 := (hb.cell (World.block_lt_of_cell? w _ hc2)).trans hc2
      have hct := (hb.cell (World.block_lt_of_cell? w _ hct)).trans hct
      have q := BA.cell
      clear hx hx1 hx2 htk hvl H6
      go_wp2_with fail
      clear q
      obtain ⟨wa, rfl⟩ : ∃ W, W = wr := ⟨_, rfl⟩
      obtain ⟨W0, hW0⟩ : ∃ W, W = wa.alloc (.cells #[] 3) := ⟨_, rfl⟩
      rw [← hW0]
      have bw : Below wa.heap.size wa W0 := by rw [hW0]; exact balloc _ _
      have acc : Acc W0 wa.heap.size 3 1 (.slice (some ⟨wa.heap.size, 0, none⟩) 0 0) (tieRows b.edges es x.links 0) := by
        rw [hW0]; simpa [tieRows, intRows] using Acc.lit0 wa wa.heap.size 3 1 (Nat.le_refl _)
      clear hW0
      go_loopw [9, 10] (fun o i W => ∃ j : Nat, j ≤ x.links.length ∧ i = .int .i64 j ∧ Below wa.heap.size wa W ∧ Acc W wa.heap.size 3 1 o (tieRows b.edges es x.links j)) (fun _ i _ => x.links.length - (intOf i).toNat)
      case atStart => exact ⟨0, Nat.zero_le _, rfl, bw, acc⟩
      case round =>
        clear bw acc W0
        obtain ⟨j, hj, rfl, bw, acc⟩ := hrel
        obtain ⟨av, cv, rfl⟩ := acc.shape
        have HLL : Hid ((tieRows b.edges es x.links j).length = j) := tieRows_len hj
        rw [HLL.out] at acc ⊢
        have BAw := BA.below bw
        have q := BAw.cell
        have d0 := (bw.cell (World.block_lt_of_cell? wa _ hc0)).trans hc0
        have d1 := (bw.cell (World.block_lt_of_cell? wa _ hc1)).trans hc1
        have d2 := (bw.cell (World.block_lt_of_cell? wa _ hc2)).trans hc2
        have dt := (bw.cell (World.block_lt_of_cell? wa _ hct)).trans hct
        have hbw := bthen hb bw
        have hBA := HB0.out.below hbw
        have hES := HE0.out.below hbw
        have hTN := HT0.out.below hbw
        have hsw := Nat.le_trans hs bw.size
        by_cases hjl : j < x.links.length
        · obtain ⟨yl, hy⟩ := getElem?_of_lt hjl
          obtain ⟨_, b2, o2, rfl, he2⟩ := H6'.out j yl hy
          have g2 := (bw.cell (World.block_lt_of_cell? wa _ he2)).trans he2
          have HY : Hid ((0 ≤ yl ∧ yl < 1073741824) ∧ (yl < b.edges → yl < (es.length : Int))) := HL.out yl (List.mem_of_getElem? hy)
          have HT : Hid (tieRows b.edges es x.links (j + 1) = tieRows b.edges es x.links j ++ [[.int .i64 (tieP b.edges es yl)]]) := tieRows_snoc hy
          clear hy he2
          go_wp2_with fail
          clear q
          have gA0 := fun y => gr_cell (w := wr) (BAw.cell 0) y
          have gA1 := fun y => gr_cell (w := wr) (BAw.cell 1) y
          have gA2 := fun y => gr_cell (w := wr) (BAw.cell 2) y
          have gA3 := fun y => gr_cell (w := wr) (BAw.cell 3) y
          have gA4 := fun y => gr_cell (w := wr) (BAw.cell 4) y
          have gA5 := fun y => gr_cell (w := wr) (BAw.cell 5) y
          have gd2 := fun y => gr_cell (w := wr) d2 y
          have gg2 := fun y => gr_cell (w := wr) g2 y
          refine rg_region [0, 1, 2, 3, 4, 5, 6, 7, 8, 9, 10, 11, 12, 13] [14, 15] (lo := (.cons _ (.cons _ .nil))) (by rfl) (tAt 12 (eVal (.int .i64 (tieP b.edges es yl))) (tAt 13 (eLit1 [.int .i64 (tieP b.edges es yl)] 3) tNil)) (by kernel_rfl) (by rfl) (by kernel_rfl) ?_
          refine rg_quiet anti_end [0, 1, 2, 3, 4, 5, 6, 7, 8, 9, 10, 11] [12, 13] (lo := (.cons _ (.cons _ (.cons _ (.cons _ (.cons _ (.cons _ (.cons _ (.cons _ (.cons _ (.cons _ (.cons _ (.cons _ .nil))))))))))))) (by rfl) (by kernel_rfl) ?_
          repeat (go_big_quiet_step (fail))
          refine wpQuiet_nil ?_
          refine rg_call 12 rfl rfl 181 #[.agg #[.int .i64 b.roots, .slice (some ⟨bb, oo, none⟩) b.nodes.length c1, .slice a2 b.sites.length c2, .int .i64 b.edges, .slice a3 b.outer.length c3, .slice a4 b.inner.length c4], .int .i64 yl, .slice ea es.length ec] ?_ ?_ ?_
          · intro w; simp [go_sem]
          · rintro w' ⟨y, rfl⟩ hd
            refine (l2Tie_ct _ _ b es yl _ _ (hBA.below (gr_below _ _)) (hES.below (gr_below _ _)) HY.out.1 HY.out.2 rfl).mono ?_
            rintro e w3 ⟨rfl, bb⟩
            exact ⟨_, rfl, bb, rfl⟩
          intro v hv
          obtain rfl : v = .int .i64 (tieP b.edges es yl) := hv
          simp only [Act.put, List.setIfInBounds_toArray, List.set_cons_zero, List.set_cons_succ]
          refine rg_made 13 rfl rfl ?_ ?_
          · rintro w' ⟨y, rfl⟩ hd
            exact ⟨_, _, by simp [go_sem]; try exact ⟨rfl, rfl⟩, balloc _ _, _, rfl, Box.new _ _ _, Nat.le_refl _, by simp⟩
          intro v hv
          obtain ⟨gl, rfl⟩ : ∃ g, v = .slice (some ⟨g, 0, none⟩) 1 1 := hv
          simp only [Act.put, List.setIfInBounds_toArray, List.set_cons_zero, List.set_cons_succ]
          intro w4 U hb3 hF
          obtain ⟨_, _, _, _, _, hF⟩ := hF
          obtain ⟨gl', e0, BL, _⟩ : ∃ g, Value.slice (some ⟨gl, 0, none⟩) 1 1 = .slice (some ⟨g, 0, none⟩) 1 1 ∧ Box w4 g #[.int .i64 (tieP b.edges es yl)] 3 ∧ _ := hF
          obtain rfl : gl = gl' := by simpa using e0
          clear e0 gA0 gA1 gA2 gA3 gA4 gA5 gd2 gg2 g2 d0 d1 d2 dt
          have acc := acc.below hb3
          have bw := bthen bw hb3
          have hs4 := Nat.le_trans bw.size (Nat.le_refl _)
          go_wp2_with (at_builtin; refine appR _ rfl (.tmp 45) (.tmp 58) 24 rfl wa.heap.size 3 1 8 1 (.int .i64 0) Tryz.underlying24 inf_int rfl (by decide) (by decide) _ (tieRows b.edges es x.links j) (by rfl) acc _ [[.int .i64 (tieP b.edges es yl)]] (by rfl) (rowAt_one (row := [.int .i64 (tieP b.edges es yl)]) BL (by decide)) (by simp [Value.oneCell']) (by rw [HLL.out]; simp; omega) hs4 ?_)
          intro v2 w5 acc2 hg _
          rw [← HT.out] at acc2
          obtain ⟨av2, cv2, rfl⟩ := acc2.shape
          rw [tieRows_len (by omega)] at acc2 ⊢
          have bw2 := grown_below bw acc hg (by omega) (by omega)
          clear acc hg bw BL hb3 BAw hbw hBA hES hTN hsw
          go_wp2_with fail
          go_roundw
          case rel => exact ⟨j + 1, by omega, by go_num, bw2, acc2⟩
          case measure => simp [intOf]; omega
        · have e : j = x.links.length := by omega
          subst e
          rw [tieRows_full] at acc
          have hvo : IntsOwn wa.heap.size wr (.slice av x.links.length cv) (x.links.map (tieP b.edges es)) := ⟨acc.own, by simp; omega, fun z hz => by obtain ⟨y, hy, rfl⟩ := List.mem_map.1 hz; exact i64_tie HEI.out (HL.out y hy).1⟩
          obtain ⟨gn, rfl⟩ := hno.head (by omega)
          have BPw := BP.below bw
          have HVO := Lib.hid hvo
          clear acc HLL hvo
          go_wp2_with fail
          clear q
          have gA1 := fun y => gr_cell (w := wr) (BAw.cell 1) y
          have gP1 := fun y => gr_cell (w := wr) (BPw.cell 1) y
          have gd0 := fun y => gr_cell (w := wr) d0 y
          have gd1 := fun y => gr_cell (w := wr) d1 y
          have gdt := fun y => gr_cell (w := wr) dt y
          refine rg_region [0, 1, 2, 3, 4, 5, 6, 7, 8, 9, 10, 11, 12, 13, 14, 15, 16, 17, 18, 19, 20, 21, 22] [23] (lo := (.cons _ .nil)) (by rfl) (tAt 19 (eVal (.int .i64 (moveP tn x.par))) tNil) (by kernel_rfl) (by rfl) (by kernel_rfl) ?_
          refine rg_quiet anti_end [0, 1, 2, 3, 4, 5, 6, 7, 8, 9, 10, 11, 12, 13, 14, 15, 16, 17, 18] [19, 20, 21, 22] (lo := (.cons _ (.cons _ (.cons _ (.cons _ (.cons _ (.cons _ (.cons _ (.cons _ (.cons _ (.cons _ (.cons _ (.cons _ (.cons _ (.cons _ (.cons _ (.cons _ (.cons _ (.cons _ (.cons _ .nil)))))))))))))))))))) (by rfl) (by kernel_rfl) ?_
          repeat (go_big_quiet_step (fail))
          refine wpQuiet_nil ?_
          refine rg_call 19 rfl rfl 182 #[.int .i64 x.par, .slice (some ⟨tb, to', none⟩) tn.length tc] ?_ ?_ ?_
          · intro w; simp [go_sem]
          · rintro w' ⟨y, rfl⟩ hd
            refine (l2Move_ct _ tn x.par _ _ (hTN.below (gr_below _ _)) HP.out rfl).mono ?_
            rintro e w3 ⟨rfl, rfl⟩
            exact ⟨_, rfl, Below.refl _ _, rfl⟩
          intro v hv
          obtain rfl : v = .int .i64 (moveP tn x.par) := hv
          simp only [Act.put, List.setIfInBounds_toArray, List.set_cons_zero, List.set_cons_succ]
          refine rg_quiet anti_end [20, 21, 22] [] (lo := (.cons _ (.cons _ (.cons _ .nil)))) (by rfl) (by kernel_rfl) ?_
          repeat (go_big_quiet_step (fail))
          refine wpQuiet_nil ?_
          intro w4 U hb3 hF
          clear hF gA1 gP1 gd0 gd1 gdt d0 d1 d2 dt hBA hES hTN hsw hbw BAw BPw
          have bw4 := bthen bw hb3
          have hvo := HVO.out.keep (keep_below hb3 (fun p hp => (HVO.out.lt p hp).2))
          have hvl := hvo.lt
          have hno4 := hno.keep (keep_below bw4 (fun p hp => (hno.lt p hp).2))
          have hso4 := hso.keep (keep_below bw4 (fun p hp => (hso.lt p hp).2))
          have BA4 := BA.below bw4
          have BR4 := BR.below bw4
          have BP4 := BP.below bw4
          have hb4 := bthen hb bw4
          have hs4 := Nat.le_trans hs bw4.size
          have HOL : Hid (∀ q ∈ bs, q < wa.heap.size) := fun q hq => (hno.lt q hq).2
          have HSL : Hid (∀ q ∈ blks (.slice ka b.outer.length kc), q < wa.heap.size) := fun q hq => (hso.lt q hq).2
          have hgpl := BP.lt
          have HXI2 : Hid (I64 x.ctl ∧ I64 (moveP tn x.par)) := ⟨HXI.out.1, i64_move HTI.out (by have := HP.out; have := HTL.out; omega)⟩
          obtain ⟨hth, hgb, bs2, hno5, hnd5, hq5⟩ := hno4.lay hnd (t := t) (by rw [layN_len]; simpa using htn) (x := renNd b.edges tn es x) (vl := .slice av x.links.length cv) (hvo.mono (by omega)) HXI2.out (fun q hq h => by have := hvl q hq; have := HOL.out q h; omega)
          have HSZ : Hid ((Tryz.prog.info? 100).map (·.size) = some 3) := by
            obtain ⟨i0, hi, hz0, hz1, hz2⟩ := info_parts inf_nd
            show _ = _; rw [hi]; simp [hz1]
          rw [← layN_succ HTK.out (renNs_get HX.out)] at hno5
          have o5 := only_setCells w4 gn (t * 3) [.int .i64 x.ctl, .int .i64 (moveP tn x.par), .slice av x.links.length cv]
          go_wp2_with (refine wpList_store_mid (ty := 100) rfl (.tmp 82) (.tmp 81) rfl gn (t * 3) #[.int .i64 x.ctl, .int .i64 (moveP tn x.par), .slice av x.links.length cv] rfl rfl hth HSZ.out (oc_nd _ _ _ _ _) ?_)
          go_roundw
          case rel =>
            have hgn := hno.lt gn hgb
            have hgq := hnq.out gn hgb
            refine ⟨k + 1, by omega, by go_num, hb4.trans (o5.below (fun p hp => by have := List.mem_singleton.1 hp; omega) (by omega)), Nat.le_trans hs4 o5.size, BA4.keep (o5.block _ BA4.lt (fun h => by have := List.mem_singleton.1 h; omega)), BR4.keep (o5.block _ BR4.lt (fun h => by have := List.mem_singleton.1 h; omega)), BP4.keep (o5.block _ BP4.lt (fun h => hgq.1 (List.mem_singleton.1 h).symm)), hso4.keep (fun p hp => o5.block p (hso4.lt p hp).2 (fun h => hgq.2 ((List.mem_singleton.1 h) ▸ hp))), bs2, hno5, hnd5, fun p hp => ?_⟩
            rcases hq5 p hp with h | h
            · exact hnq.out p h
            · have := hvl p h
              exact ⟨fun e => by omega, fun h' => by have := HSL.out p h'; omega⟩
          case measure => simp [intOf]; omega
    · have e : k = b.nodes.length := by omega
      subst e
      have q := BA.cell
      go_wp2_with fail
      clear q
      obtain ⟨wa, rfl⟩ : ∃ W, W = wr := ⟨_, rfl⟩
      obtain ⟨n1, hn1, hn2⟩ : ∃ n, n ≤ wa.heap.size ∧ wa.heap.size ≤ n := ⟨_, Nat.le_refl _, Nat.le_refl _⟩
      have hgpl := BP.lt
      have HN0 : Hid ((∀ p ∈ bs, p < wa.heap.size) ∧ (∀ p ∈ blks (.slice ka b.outer.length kc), p < wa.heap.size)) := ⟨fun p hp => (hno.lt p hp).2, fun p hp => (hso.lt p hp).2⟩
      go_loopw [11] (fun i W => ∃ j : Nat, j ≤ b.sites.length ∧ i = .int .i64 j ∧ Only [gp] wa W ∧ ∃ vs, Box W gp #[.int .i64 b.roots, .slice na b.nodes.length nc, vs, .int .i64 b.edges, .slice ka b.outer.length kc, .slice none 0 0] 34 ∧ Acc W n1 3 1 vs (moveRows tn b.sites j)) (fun i _ => b.sites.length - (intOf i).toNat)
      case atStart => exact ⟨0, Nat.zero_le _, rfl, Only.refl _ _, _, BP, Acc.nil _ _ _ _⟩
      case round =>
        clear BP
        obtain ⟨j, hj, rfl, oW, vs, BP, acc⟩ := hrel
        obtain ⟨av, cv, rfl⟩ := acc.shape
        have HLL : Hid ((moveRows tn b.sites j).length = j) := moveRows_len hj
        rw [HLL.out] at acc BP
        have BAw := BA.keep (oW.block _ BA.lt (fun h => by have := List.mem_singleton.1 h; omega))
        have hbw := hb.trans (oW.below (fun p hp => by have := List.mem_singleton.1 hp; omega) (by omega))
        have hBA := HB0.out.below hbw
        have hES := HE0.out.below hbw
        have hTN := HT0.out.below hbw
        have hsw := Nat.le_trans hn1 oW.size
        have q := BAw.cell
        by_cases hjl : j < b.sites.length
        · obtain ⟨yl, hy⟩ := getElem?_of_lt hjl
          obtain ⟨_, b2, o2, rfl, he2⟩ := H2'.out j yl hy
          have g1 := (hbw.cell (World.block_lt_of_cell? w _ he2)).trans he2
          have HY : Hid (-1073741824 ≤ yl ∧ yl < (tn.length : Int)) := HSB.out yl (List.mem_of_getElem? hy)
          have HT : Hid (moveRows tn b.sites (j + 1) = moveRows tn b.sites j ++ [[.int .i64 (moveP tn yl)]]) := moveRows_snoc hy
          clear hy he2
          go_wp2_with fail
          clear q
          have gA0 := fun y => gr_cell (w := wr) (BAw.cell 0) y
          have gA1 := fun y => gr_cell (w := wr) (BAw.cell 1) y
          have gA2 := fun y => gr_cell (w := wr) (BAw.cell 2) y
          have gA3 := fun y => gr_cell (w := wr) (BAw.cell 3) y
          have gA4 := fun y => gr_cell (w := wr) (BAw.cell 4) y
          have gA5 := fun y => gr_cell (w := wr) (BAw.cell 5) y
          have gP := fun y => gr_cell (w := wr) (BP.cell 2) y
          have gg := fun y => gr_cell (w := wr) g1 y
          refine rg_region [0, 1, 2, 3, 4, 5, 6, 7, 8, 9] [10, 11, 12] (lo := (.cons _ (.cons _ (.cons _ .nil)))) (by rfl) (tAt 8 (eVal (.int .i64 (moveP tn yl))) (tAt 9 (eLit1 [.int .i64 (moveP tn yl)] 3) tNil)) (by kernel_rfl) (by rfl) (by kernel_rfl) ?_
          refine rg_quiet anti_end [0, 1, 2, 3, 4, 5, 6, 7] [8, 9] (lo := (.cons _ (.cons _ (.cons _ (.cons _ (.cons _ (.cons _ (.cons _ (.cons _ .nil))))))))) (by rfl) (by kernel_rfl) ?_
          repeat (go_big_quiet_step (fail))
          refine wpQuiet_nil ?_
          refine rg_call 8 rfl rfl 182 #[.int .i64 yl, .slice ta tn.length tc] ?_ ?_ ?_
          · intro w; simp [go_sem]
          · rintro w' ⟨y, rfl⟩ hd
            refine (l2Move_ct _ tn yl _ _ (hTN.below (gr_below _ _)) HY.out rfl).mono ?_
            rintro e w3 ⟨rfl, rfl⟩
            exact ⟨_, rfl, Below.refl _ _, rfl⟩
          intro v hv
          obtain rfl : v = .int .i64 (moveP tn yl) := hv
          simp only [Act.put, List.setIfInBounds_toArray, List.set_cons_zero, List.set_cons_succ]
          refine rg_made 9 rfl rfl ?_ ?_
          · rintro w' ⟨y, rfl⟩ hd
            exact ⟨_, _, by simp [go_sem]; try exact ⟨rfl, rfl⟩, balloc _ _, _, rfl, Box.new _ _ _, Nat.le_refl _, by simp⟩
          intro v hv
          obtain ⟨gl, rfl⟩ : ∃ g, v = .slice (some ⟨g, 0, none⟩) 1 1 := hv
          simp only [Act.put, List.setIfInBounds_toArray, List.set_cons_zero, List.set_cons_succ]
          intro w4 U hb3 hF
          obtain ⟨_, _, _, _, _, hF⟩ := hF
          obtain ⟨gl', e0, BL, _⟩ : ∃ g, Value.slice (some ⟨gl, 0, none⟩) 1 1 = .slice (some ⟨g, 0, none⟩) 1 1 ∧ Box w4 g #[.int .i64 (moveP tn yl)] 3 ∧ _ := hF
          obtain rfl : gl = gl' := by simpa using e0
          clear e0 gA0 gA1 gA2 gA3 gA4 gA5 gP g1 BAw hbw hBA hES hTN
          have acc := acc.below hb3
          have BP := BP.below hb3
          have oW := oW.more hb3
          have hsw := Nat.le_trans hsw hb3.size
          go_wp2_with (at_builtin; refine appR _ rfl (.tmp 91) (.tmp 99) 24 rfl n1 3 1 8 1 (.int .i64 0) Tryz.underlying24 inf_int rfl (by decide) (by decide) _ (moveRows tn b.sites j) (by rfl) acc _ [[.int .i64 (moveP tn yl)]] (by rfl) (rowAt_one (row := [.int .i64 (moveP tn yl)]) BL (by decide)) (by simp [Value.oneCell']) (by rw [HLL.out]; simp; omega) hsw ?_)
          intro v2 w5 acc2 hg _
          rw [← HT.out] at acc2
          obtain ⟨av2, cv2, rfl⟩ := acc2.shape
          rw [moveRows_len (by omega)] at acc2 ⊢
          have oW2 := oW.grow_own acc hg (by omega)
          have BP2 := BP.keep (grown_block acc hg (by omega) BP.lt)
          clear acc hg oW BP BL hb3 hsw
          have q := BP2.cell
          have f := BP2.free
          go_wp2_with fail
          go_roundw
          case rel => exact ⟨j + 1, by omega, by go_num, oW2.setCell (by simp) _, _, BP2.set 2 _, acc2.keep (fun p hp _ => heap_setCell_other _ _ _ _ (by simp <;> omega))⟩
          case measure => simp [intOf]; omega
        · have e : j = b.sites.length := by omega
          subst e
          rw [moveRows_full] at acc
          have hsi : IntsOwn n1 wr (.slice av b.sites.length cv) (b.sites.map (moveP tn)) := ⟨acc.own, by simp; omega, fun z hz => by obtain ⟨y, hy, rfl⟩ := List.mem_map.1 hz; exact i64_move HTI.out (by have := HSB.out y hy; have := HTL.out; omega)⟩
          clear acc HLL hBA hES hTN BAw
          have hne0 : ∀ q ∈ bs, q ≠ gp := fun q hq => (hnq.out q hq).1
          have hno := hno.keep (fun p hp => oW.block p (hno.lt p hp).2 (fun h => hne0 p hp (List.mem_singleton.1 h)))
          have hso := hso.keep (fun p hp => oW.block p (hso.lt p hp).2 (fun h => HX1.out p hp (List.mem_singleton.1 h)))
          have BA := BA.keep (oW.block _ BA.lt (fun h => by have := List.mem_singleton.1 h; omega))
          have BR := BR.keep (oW.block _ BR.lt (fun h => by have := List.mem_singleton.1 h; omega))
          have HN1 : Hid ((∀ p ∈ bs, p < n1) ∧ (∀ p ∈ blks (.slice ka b.outer.length kc), p < n1)) := ⟨fun p hp => by have := HN0.out.1 p hp; omega, fun p hp => by have := HN0.out.2 p hp; omega⟩
          go_wp2_with fail
          clear q
          obtain ⟨sv, hsv⟩ : ∃ a, a = av := ⟨_, rfl⟩
          obtain ⟨sc, hsc⟩ : ∃ a, a = cv := ⟨_, rfl⟩
          rw [← hsv, ← hsc] at hsi BP
          obtain ⟨m1, hm1⟩ : ∃ n, n = n1 := ⟨_, rfl⟩
          rw [← hm1] at hsi HN1
          have hm1l : m1 ≤ wr.heap.size := by rw [hm1]; exact hsw
          have hm1g : gp < m1 := by rw [hm1]; omega
          have hm1n : n0 ≤ m1 := by rw [hm1]; omega
          have hb := hbw
          clear hsv hsc hm1 hsw hbw oW hn1 hn2 hgpl HN0
          obtain ⟨wb, rfl⟩ : ∃ W, W = wr := ⟨_, rfl⟩
          obtain ⟨n1, hn1, hn2⟩ : ∃ n, n ≤ wb.heap.size ∧ wb.heap.size ≤ n := ⟨_, Nat.le_refl _, Nat.le_refl _⟩
          have hgpl := BP.lt
          go_loopw [12] (fun i W => ∃ j : Nat, j ≤ b.inner.length ∧ i = .int .i64 j ∧ Only [gp] wb W ∧ ∃ vs, Box W gp #[.int .i64 b.roots, .slice na b.nodes.length nc, .slice sv b.sites.length sc, .int .i64 b.edges, .slice ka b.outer.length kc, vs] 34 ∧ Acc W n1 84 2 vs (wrRows b es j)) (fun i _ => b.inner.length - (intOf i).toNat)
          case atStart => exact ⟨0, Nat.zero_le _, rfl, Only.refl _ _, _, BP, Acc.nil _ _ _ _⟩
          case round =>
            clear BP
            obtain ⟨j, hj, rfl, oW, vs, BP, acc⟩ := hrel
            obtain ⟨av, cv, rfl⟩ := acc.shape
            have HLL : Hid ((wrRows b es j).length = j) := wrRows_len hj
            rw [HLL.out] at acc BP
            have BAw := BA.keep (oW.block _ BA.lt (fun h => by have := List.mem_singleton.1 h; omega))
            have hbw := hb.trans (oW.below (fun p hp => by have := List.mem_singleton.1 hp; omega) (by omega))
            have hBA := HB0.out.below hbw
            have hES := HE0.out.below hbw
            have hTN := HT0.out.below hbw
            have hsw := Nat.le_trans hn1 oW.size
            have q := BAw.cell
            by_cases hjl : j < b.inner.length
            · obtain ⟨x, hy⟩ := getElem?_of_lt hjl
              obtain ⟨_, _, bb, oo, rfl, he2, he3⟩ := H4'.out j x hy
              have g1 := (hbw.cell (World.block_lt_of_cell? w _ he2)).trans he2
              have g2 := (hbw.cell (World.block_lt_of_cell? w _ he3)).trans he3
              have HY : Hid ((0 ≤ x.link ∧ x.link < 1073741824) ∧ (x.link < b.edges → x.link < (es.length : Int))) := HIB.out x (List.mem_of_getElem? hy)
              have HT : Hid (wrRows b es (j + 1) = wrRows b es j ++ [[.string x.name, .int .i64 (tieP b.edges es x.link)]]) := wrRows_snoc hy
              clear hy he2 he3
              go_wp2_with fail
              clear q
              have gA0 := fun y => gr_cell (w := wr) (BAw.cell 0) y
              have gA1 := fun y => gr_cell (w := wr) (BAw.cell 1) y
              have gA2 := fun y => gr_cell (w := wr) (BAw.cell 2) y
              have gA3 := fun y => gr_cell (w := wr) (BAw.cell 3) y
              have gA4 := fun y => gr_cell (w := wr) (BAw.cell 4) y
              have gA5 := fun y => gr_cell (w := wr) (BAw.cell 5) y
              have gP := fun y => gr_cell (w := wr) (BP.cell 5) y
              have gg := fun y => gr_cell (w := wr) g1 y
              have gg2 := fun y => gr_cell (w := wr) g2 y
              refine rg_region [0, 1, 2, 3, 4, 5, 6, 7, 8, 9, 10, 11, 12, 13, 14, 15, 16, 17, 18] [19, 20, 21] (lo := (.cons _ (.cons _ (.cons _ .nil)))) (by rfl) (tAt 16 (eVal (.int .i64 (tieP b.edges es x.link))) (tAt 18 (eLit1 [.string x.name, .int .i64 (tieP b.edges es x.link)] 84) tNil)) (by kernel_rfl) (by rfl) (by kernel_rfl) ?_
              refine rg_quiet anti_end [0, 1, 2, 3, 4, 5, 6, 7, 8, 9, 10, 11, 12, 13, 14, 15] [16, 17, 18] (lo := (.cons _ (.cons _ (.cons _ (.cons _ (.cons _ (.cons _ (.cons _ (.cons _ (.cons _ (.cons _ (.cons _ (.cons _ (.cons _ (.cons _ (.cons _ (.cons _ .nil))))))))))))))))) (by rfl) (by kernel_rfl) ?_
              repeat (go_big_quiet_step (fail))
              refine wpQuiet_nil ?_
              refine rg_call 16 rfl rfl 181 #[.agg #[.int .i64 b.roots, .slice a1 b.nodes.length c1, .slice a2 b.sites.length c2, .int .i64 b.edges, .slice a3 b.outer.length c3, .slice (some ⟨bb, oo, none⟩) b.inner.length c4], .int .i64 x.link, .slice ea es.length ec] ?_ ?_ ?_
              · intro w; simp [go_sem]
              · rintro w' ⟨y, rfl⟩ hd
                refine (l2Tie_ct _ _ b es x.link _ _ (hBA.below (gr_below _ _)) (hES.below (gr_below _ _)) HY.out.1 HY.out.2 rfl).mono ?_
                rintro e w3 ⟨rfl, bb⟩
                exact ⟨_, rfl, bb, rfl⟩
              intro v hv
              obtain rfl : v = .int .i64 (tieP b.edges es x.link) := hv
              simp only [Act.put, List.setIfInBounds_toArray, List.set_cons_zero, List.set_cons_succ]
              refine rg_quiet anti_end [17] [18] (lo := (.cons _ .nil)) (by rfl) (by kernel_rfl) ?_
              repeat (go_big_quiet_step (fail))
              refine wpQuiet_nil ?_
              refine rg_made 18 rfl rfl ?_ ?_
              · rintro w' ⟨y, rfl⟩ hd
                exact ⟨_, _, by simp [go_sem]; try exact ⟨rfl, rfl⟩, balloc _ _, _, rfl, Box.new _ _ _, Nat.le_refl _, by simp⟩
              intro v hv
              obtain ⟨gl, rfl⟩ : ∃ g, v = .slice (some ⟨g, 0, none⟩) 1 1 := hv
              simp only [Act.put, List.setIfInBounds_toArray, List.set_cons_zero, List.set_cons_succ]
              intro w4 U hb3 hF
              obtain ⟨_, _, _, _, _, hF⟩ := hF
              obtain ⟨gl', e0, BL, _⟩ : ∃ g, Value.slice (some ⟨gl, 0, none⟩) 1 1 = .slice (some ⟨g, 0, none⟩) 1 1 ∧ Box w4 g #[.string x.name, .int .i64 (tieP b.edges es x.link)] 84 ∧ _ := hF
              obtain rfl : gl = gl' := by simpa using e0
              clear e0 gA0 gA1 gA2 gA3 gA4 gA5 gP g1 BAw hbw hBA hES hTN
              have acc := acc.below hb3
              have BP := BP.below hb3
              have oW := oW.more hb3
              have hsw := Nat.le_trans hsw hb3.size
              go_wp2_with (at_builtin; refine appR _ rfl (.tmp 110) (.tmp 127) 32 rfl n1 84 2 24 1 (.agg #[.string ⟨#[]⟩, .int .i64 0]) Tryz.underlying32 inf_wr rfl (by decide) (by decide) _ (wrRows b es j) (by rfl) acc _ [[.string x.name, .int .i64 (tieP b.edges es x.link)]] (by rfl) (rowAt_one (row := [.string x.name, .int .i64 (tieP b.edges es x.link)]) BL (by decide)) (by simp [Value.oneCell']) (by rw [HLL.out]; simp; omega) hsw ?_)
              intro v2 w5 acc2 hg _
              rw [← HT.out] at acc2
              obtain ⟨av2, cv2, rfl⟩ := acc2.shape
              rw [wrRows_len (by omega)] at acc2 ⊢
              have oW2 := oW.grow_own acc hg (by omega)
              have BP2 := BP.keep (grown_block acc hg (by omega) BP.lt)
              clear acc hg oW BP BL hb3 hsw
              have q := BP2.cell
              have f := BP2.free
              go_wp2_with fail
              go_roundw
              case rel => exact ⟨j + 1, by omega, by go_num, oW2.setCell (by simp) _, _, BP2.set 5 _, acc2.keep (fun p hp _ => heap_setCell_other _ _ _ _ (by simp <;> omega))⟩
              case measure => simp [intOf]; omega
            · have e : j = b.inner.length := by omega
              subst e
              rw [wrRows_full] at acc
              have hwi : WrsOwn n1 wr (.slice av b.inner.length cv) (renWs b es) := ⟨acc.own, by simp [renWs]; omega, fun z hz => by obtain ⟨y, hy, rfl⟩ := List.mem_map.1 hz; exact ⟨(HSW.out y hy).1, i64_tie HEI.out (HIB.out y hy).1⟩⟩
              have hq0 : ∀ q ∈ bs, q ≠ gp ∧ q ∉ blks (.slice ka b.outer.length kc) := fun q hq => hnq.out q hq
              have hno := hno.keep (fun p hp => oW.block p (hno.lt p hp).2 (fun h => (hq0 p hp).1 (List.mem_singleton.1 h)))
              have hso := hso.keep (fun p hp => oW.block p (hso.lt p hp).2 (fun h => HX1.out p hp (List.mem_singleton.1 h)))
              have hsl2 : ∀ p ∈ blks (.slice sv b.sites.length sc), m1 ≤ p ∧ p < wb.heap.size := hsi.lt
              have hsi := hsi.keep (fun p hp => oW.block p (hsi.lt p hp).2 (fun h => by have := List.mem_singleton.1 h; have := (hsi.lt p hp).1; omega))
              have BR := BR.keep (oW.block _ BR.lt (fun h => by have := List.mem_singleton.1 h; omega))
              have q := BP.cell
              have q2 := BR.cell
              have f2 := BR.free
              have hl0 := hno.lt
              have hl1 := hsi.lt
              have hl2 := hso.lt
              have hl3 := hwi.lt
              clear acc HLL hBA hES hTN BAw
              go_wp2_with fail
              have hkp : ∀ (W : World) (g : Nat) (u0 u1 u2 u3 u4 u5 : Value), n0 ≤ g → ((((((W.setCell ⟨w.heap.size + 1, 0, none⟩ u0).setCell ⟨w.heap.size + 1, 1, none⟩ u1).setCell ⟨w.heap.size + 1, 2, none⟩ u2).setCell ⟨w.heap.size + 1, 3, none⟩ u3).setCell ⟨w.heap.size + 1, 4, none⟩ u4).setCell ⟨w.heap.size + 1, 5, none⟩ u5).heap[g]? = W.heap[g]? := by
                intro W g u0 u1 u2 u3 u4 u5 hg
                repeat rw [heap_setCell_other _ _ _ _ (by dsimp only; omega)]
              refine bodyPost_ret (v := .agg #[.int .i64 b.roots, .slice na b.nodes.length nc, .slice sv b.sites.length sc, .int .i64 b.edges, .slice ka b.outer.length kc, .slice av b.inner.length cv]) (by simp [results, Tryz.results105, go_sem, q2]) rfl ⟨_, _, rfl, ⟨_, _, _, _, _, rfl, (hno.keep ?_).mono (by omega), (hsi.keep ?_).mono (by omega), ⟨(hso.keep ?_).mono (by omega), by show b.outer.length ≤ _; omega, HSO.out⟩, (hwi.keep ?_).mono (by omega), HR.out.1, HR.out.2, rfl⟩, ?_, ?_⟩
              · exact fun g hg => hkp _ g _ _ _ _ _ _ (hl0 g hg).1
              · exact fun g hg => hkp _ g _ _ _ _ _ _ (by have := (hl1 g hg).1; omega)
              · exact fun g hg => hkp _ g _ _ _ _ _ _ (hl2 g hg).1
              · exact fun g hg => hkp _ g _ _ _ _ _ _ (by have := (hl3 g hg).1; omega)
              · rw [List.nodup_append]
                refine ⟨hnd, ?_, ?_⟩
                · rw [List.nodup_append]
                  refine ⟨blks_nodup _ _ _, ?_, fun p hp q hq e => ?_⟩
                  · rw [List.nodup_append]
                    exact ⟨blks_nodup _ _ _, blks_nodup _ _ _, fun p hp q hq e => by have := (hl3 q hq).1; have := HN1.out.2 p hp; omega⟩
                  · have h5 := hsl2 p hp
                    rcases List.mem_append.1 hq with hq | hq
                    · have := HN1.out.2 q hq; omega
                    · have := (hl3 q hq).1; omega
                · intro p hp q hq e
                  have h5 := HN1.out.1 p hp
                  rcases List.mem_append.1 hq with hq | hq
                  · have := hsl2 q hq; omega
                  rcases List.mem_append.1 hq with hq | hq
                  · exact (hq0 p hp).2 (e ▸ hq)
                  · have := (hl3 q hq).1; omega
              · iterate 6 refine Below.setCell ?_ (by simp) _
                exact hb.trans (oW.below (fun p hp => by have := List.mem_singleton.1 hp; omega) (by omega))

end Go.Proofs.YthbdmcobpcoajaaGreatDoor
