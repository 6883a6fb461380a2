import Derived.Test.YtlkadcmicjencaaOrder4
namespace Go.Proofs.Ytlkadcmicjencaa
open Go Go.RowKit Go.BigFrame
def prB (l : List Int) : Bool := decide (l.length ≤ 4) && eachB l
def prP (l : List Int) : Big := if prB l = true then permP l else noBig

set_option maxRecDepth 100000 in
set_option maxHeartbeats 4000000 in
theorem specPermutationOf_ct (v : Value) (l : List Int) (w : World) (h : IntsAt w v l) : Calls Try.prog 16 #[v] w (GivesBig (prP l) (prB l) w) := by
  obtain ⟨a, c, rfl, _, _, _⟩ := h.open
  by_cases hn4 : l.length ≤ 4
  · cases hn : eachB l with
    | false =>
      have HP : Hid (prP l = noBig) := by unfold prP prB; rw [hn, Bool.and_false]; rfl
      have HB : Hid (prB l = false) := by show _ = _; unfold prB; rw [hn, Bool.and_false]
      rw [HP.out, HB.out]
      go_enter Try.func16, Try.ntmps16
      go_wp2_with fail
      have BA : Box (w.alloc (.cells #[.int .i64 0, .slice none 0 0, .slice none 0 0, .int .i64 0, .slice none 0 0, .slice none 0 0] 27)) w.heap.size #[.int .i64 0, .slice none 0 0, .slice none 0 0, .int .i64 0, .slice none 0 0, .slice none 0 0] 27 := Box.new _ _ _
      have hb := balloc w (.cells #[.int .i64 0, .slice none 0 0, .slice none 0 0, .int .i64 0, .slice none 0 0, .slice none 0 0] 27)
      refine (l2Each_ct _ l false hn _ (h.below hb)).mono ?_
      rintro e w2 ⟨rfl, hw⟩
      have b : Below (w.alloc (.cells #[.int .i64 0, .slice none 0 0, .slice none 0 0, .int .i64 0, .slice none 0 0, .slice none 0 0] 27)).heap.size (w.alloc (.cells #[.int .i64 0, .slice none 0 0, .slice none 0 0, .int .i64 0, .slice none 0 0, .slice none 0 0] 27)) w2 := by rw [hw]; exact Below.refl _ _
      clear hw
      have BA := BA.below b
      have hb := bthen hb b
      clear b
      have q := BA.cell
      have f := BA.free
      go_wp2_with fail
      refine bodyPost_ret (v := .tuple #[.agg #[.int .i64 0, .slice none 0 0, .slice none 0 0, .int .i64 0, .slice none 0 0, .slice none 0 0], .bool false]) (by simp [results, Try.results16, go_sem, q]) rfl ⟨_, _, rfl, noBig_own _ _, by simp, ?_⟩
      iterate 6 refine Below.setCell ?_ (by simp) _
      exact hb
    | true =>
      have HP : Hid (prP l = permP l) := by unfold prP prB; rw [hn, decide_eq_true hn4]; rfl
      have HB : Hid (prB l = true) := by show _ = _; unfold prB; rw [hn, decide_eq_true hn4]; rfl
      rw [HP.out, HB.out]
      go_enter Try.func16, Try.ntmps16
      go_wp2_with fail
      have BA : Box (w.alloc (.cells #[.int .i64 0, .slice none 0 0, .slice none 0 0, .int .i64 0, .slice none 0 0, .slice none 0 0] 27)) w.heap.size #[.int .i64 0, .slice none 0 0, .slice none 0 0, .int .i64 0, .slice none 0 0, .slice none 0 0] 27 := Box.new _ _ _
      have hb := balloc w (.cells #[.int .i64 0, .slice none 0 0, .slice none 0 0, .int .i64 0, .slice none 0 0, .slice none 0 0] 27)
      refine (l2Each_ct _ l true hn _ (h.below hb)).mono ?_
      rintro e w2 ⟨rfl, hw⟩
      have b : Below (w.alloc (.cells #[.int .i64 0, .slice none 0 0, .slice none 0 0, .int .i64 0, .slice none 0 0, .slice none 0 0] 27)).heap.size (w.alloc (.cells #[.int .i64 0, .slice none 0 0, .slice none 0 0, .int .i64 0, .slice none 0 0, .slice none 0 0] 27)) w2 := by rw [hw]; exact Below.refl _ _
      clear hw
      have BA := BA.below b
      have hb := bthen hb b
      clear b
      have q := BA.cell
      have f := BA.free
      clear q f
      go_wp2_with fail
      refine (l3Permutation_ct l _ _ (h.below hb) hn4 (each_bd hn hn4)).mono ?_
      rintro e w3 ⟨u, bs, rfl, p, nd, b3⟩
      obtain ⟨a1, c1, a2, c2, a3, c3, a4, c4, rfl⟩ := p.at.shape
      have hln := p.lt
      have hlt := BA.lt
      have BA := BA.below b3
      have hb := bthen hb b3
      have q := BA.cell
      have f := BA.free
      clear b3
      go_wp2_with fail
      refine bodyPost_ret (v := .tuple #[.agg #[.int .i64 (permP l).roots, .slice a1 (permP l).nodes.length c1, .slice a2 (permP l).sites.length c2, .int .i64 (permP l).edges, .slice a3 (permP l).outer.length c3, .slice a4 (permP l).inner.length c4], .bool true]) (by simp [results, Try.results16, go_sem, q]) rfl ⟨_, bs, rfl, (p.keep ?_).mono (by omega), nd, ?_⟩
      · intro g hg; have := hln g hg; repeat rw [heap_setCell_other _ _ _ _ (by simp <;> omega)]
      · iterate 6 refine Below.setCell ?_ (by simp) _
        exact hb
  · have HP : Hid (prP l = noBig) := by unfold prP prB; rw [decide_eq_false hn4]; rfl
    have HB : Hid (prB l = false) := by show _ = _; unfold prB; rw [decide_eq_false hn4]; rfl
    rw [HP.out, HB.out]
    clear HP HB
    go_enter Try.func16, Try.ntmps16
    go_wp2_with fail
    exact bodyPost_ret (v := .tuple #[.agg #[.int .i64 0, .slice none 0 0, .slice none 0 0, .int .i64 0, .slice none 0 0, .slice none 0 0], .bool false]) (by simp [results, Try.results16, go_sem]) rfl ⟨_, _, rfl, noBig_own _ _, by simp, balloc _ _⟩

set_option maxRecDepth 100000 in
set_option maxHeartbeats 4000000 in
theorem implPermutationOf_ct (v : Value) (l : List Int) (w : World) (h : IntsAt w v l) : Calls Try.prog 18 #[v] w (GivesBig (prP l) (prB l) w) := by
  obtain ⟨a, c, rfl, _, _, _⟩ := h.open
  by_cases hn4 : l.length ≤ 4
  · cases hn : eachB l with
    | false =>
      have HP : Hid (prP l = noBig) := by unfold prP prB; rw [hn, Bool.and_false]; rfl
      have HB : Hid (prB l = false) := by show _ = _; unfold prB; rw [hn, Bool.and_false]
      rw [HP.out, HB.out]
      go_enter Try.func18, Try.ntmps18
      go_wp2_with fail
      have BA : Box (w.alloc (.cells #[.int .i64 0, .slice none 0 0, .slice none 0 0, .int .i64 0, .slice none 0 0, .slice none 0 0] 27)) w.heap.size #[.int .i64 0, .slice none 0 0, .slice none 0 0, .int .i64 0, .slice none 0 0, .slice none 0 0] 27 := Box.new _ _ _
      have hb := balloc w (.cells #[.int .i64 0, .slice none 0 0, .slice none 0 0, .int .i64 0, .slice none 0 0, .slice none 0 0] 27)
      refine (isOrder_ct _ l false hn _ (h.below hb) (by omega)).mono ?_
      rintro e w2 ⟨rfl, b⟩
      have BA := BA.below b
      have hb := bthen hb b
      clear b
      have q := BA.cell
      have f := BA.free
      go_wp2_with fail
      refine bodyPost_ret (v := .tuple #[.agg #[.int .i64 0, .slice none 0 0, .slice none 0 0, .int .i64 0, .slice none 0 0, .slice none 0 0], .bool false]) (by simp [results, Try.results18, go_sem, q]) rfl ⟨_, _, rfl, noBig_own _ _, by simp, ?_⟩
      iterate 6 refine Below.setCell ?_ (by simp) _
      exact hb
    | true =>
      have HP : Hid (prP l = permP l) := by unfold prP prB; rw [hn, decide_eq_true hn4]; rfl
      have HB : Hid (prB l = true) := by show _ = _; unfold prB; rw [hn, decide_eq_true hn4]; rfl
      rw [HP.out, HB.out]
      go_enter Try.func18, Try.ntmps18
      go_wp2_with fail
      have BA : Box (w.alloc (.cells #[.int .i64 0, .slice none 0 0, .slice none 0 0, .int .i64 0, .slice none 0 0, .slice none 0 0] 27)) w.heap.size #[.int .i64 0, .slice none 0 0, .slice none 0 0, .int .i64 0, .slice none 0 0, .slice none 0 0] 27 := Box.new _ _ _
      have hb := balloc w (.cells #[.int .i64 0, .slice none 0 0, .slice none 0 0, .int .i64 0, .slice none 0 0, .slice none 0 0] 27)
      refine (isOrder_ct _ l true hn _ (h.below hb) (by omega)).mono ?_
      rintro e w2 ⟨rfl, b⟩
      have BA := BA.below b
      have hb := bthen hb b
      clear b
      have q := BA.cell
      have f := BA.free
      clear q f
      go_wp2_with fail
      refine (permutation_ct l _ _ (h.below hb) hn4 (each_bd hn hn4)).mono ?_
      rintro e w3 ⟨u, bs, rfl, p, nd, b3⟩
      obtain ⟨a1, c1, a2, c2, a3, c3, a4, c4, rfl⟩ := p.at.shape
      have hln := p.lt
      have hlt := BA.lt
      have BA := BA.below b3
      have hb := bthen hb b3
      have q := BA.cell
      have f := BA.free
      clear b3
      go_wp2_with fail
      refine bodyPost_ret (v := .tuple #[.agg #[.int .i64 (permP l).roots, .slice a1 (permP l).nodes.length c1, .slice a2 (permP l).sites.length c2, .int .i64 (permP l).edges, .slice a3 (permP l).outer.length c3, .slice a4 (permP l).inner.length c4], .bool true]) (by simp [results, Try.results18, go_sem, q]) rfl ⟨_, bs, rfl, (p.keep ?_).mono (by omega), nd, ?_⟩
      · intro g hg; have := hln g hg; repeat rw [heap_setCell_other _ _ _ _ (by simp <;> omega)]
      · iterate 6 refine Below.setCell ?_ (by simp) _
        exact hb
  · have HP : Hid (prP l = noBig) := by unfold prP prB; rw [decide_eq_false hn4]; rfl
    have HB : Hid (prB l = false) := by show _ = _; unfold prB; rw [decide_eq_false hn4]; rfl
    rw [HP.out, HB.out]
    clear HP HB
    go_enter Try.func18, Try.ntmps18
    go_wp2_with fail
    exact bodyPost_ret (v := .tuple #[.agg #[.int .i64 0, .slice none 0 0, .slice none 0 0, .int .i64 0, .slice none 0 0, .slice none 0 0], .bool false]) (by simp [results, Try.results18, go_sem]) rfl ⟨_, _, rfl, noBig_own _ _, by simp, balloc _ _⟩

end Go.Proofs.Ytlkadcmicjencaa
