import Derived.Test.YtlkadcmicjencaaPermOf
import Derived.Test.YtlkadcmicjencaaHeld
import Derived.Test.YtlkadcmicjencaaEq
import Derived.Test.YtlkadcmicjencaaTo
import Derived.Test.YtlkadcmicjencaaSz
namespace Go.Proofs.Ytlkadcmicjencaa
open Go Go.RowKit Go.BigFrame

theorem sumS_ge : ∀ (l : List Int), l.length ≤ totI l := fun l => by unfold totI; omega
set_option maxRecDepth 100000 in
set_option maxHeartbeats 8000000 in
theorem lawPermutationOf (v : Value) (l : List Int) (w : World) (h : IntsM 9223372036854775807 w v l) : Calls Try.prog 6 #[v] w fun e w' => e = .returned (.bool true) ∧ Below w.heap.size w w' := by
  by_cases ht : totI l ≤ 1048576
  · obtain ⟨R, ok, hss, hi, hR⟩ : ∃ R ok, (∀ v W, IntsAt W v l → Calls Try.prog 16 #[v] W (GivesBig R ok W)) ∧ (∀ v W, IntsAt W v l → Calls Try.prog 18 #[v] W (GivesBig R ok W)) ∧ 1 + cntB R ≤ 536870912 :=
      ⟨prP l, prB l, fun v W => specPermutationOf_ct v l W, fun v W => implPermutationOf_ct v l W, by unfold prP; split; (rename_i hn; unfold prB at hn; simp at hn; simp [cntB, cntN, sumOf, permP, neg_length]; omega); simp [cntB, noBig, cntN, sumOf]⟩
    have HS : Hid _ := hss
    have HI : Hid _ := hi
    clear hss hi
    have hlen := sumS_ge l
    have hs : IntsAt w v l := h.small (by omega)
    have ht' : l.length ≤ 1048576 := ht
    obtain ⟨a, c, rfl, _, _, _⟩ := h.open
    clear h
    have hb := Below.refl w.heap.size w
    go_enter Try.func6, Try.ntmps6
    go_wp2_with fail
    refine (toIntS_ct _ l _ (hs.below hb)).mono ?_
    rintro e w1 ⟨u1, rfl, o1, b⟩
    have hb := bthen hb b
    clear b
    go_wp2_with fail
    refine (HS.out _ _ o1.at).mono ?_
    rintro e w2 ⟨v1, bs1, rfl, p1, nd1, b⟩
    have hb := bthen hb b
    have r1 := p1.at
    obtain ⟨a1, a5, a2, a6, a3, a7, a4, a8, rfl⟩ := r1.shape
    clear p1 nd1 bs1 b o1
    go_wp2_with fail
    obtain ⟨W1, hW1⟩ : ∃ W, W = w2.alloc (.cells #[.int .i64 R.roots, .slice a1 R.nodes.length a5, .slice a2 R.sites.length a6, .int .i64 R.edges, .slice a3 R.outer.length a7, .slice a4 R.inner.length a8] 27) := ⟨_, rfl⟩
    rw [← hW1]
    have b : Below w2.heap.size w2 W1 := by rw [hW1]; exact balloc _ _
    have B3 : Box W1 w2.heap.size #[.int .i64 R.roots, .slice a1 R.nodes.length a5, .slice a2 R.sites.length a6, .int .i64 R.edges, .slice a3 R.outer.length a7, .slice a4 R.inner.length a8] 27 := by rw [hW1]; exact Box.new _ _ _
    have r1 := r1.below b
    have hb := bthen hb b
    have HSZ : Hid (w.heap.size ≤ W1.heap.size) := hb.size
    clear hW1 b
    refine (toIntS_ct _ l _ (hs.below hb)).mono ?_
    rintro e w3 ⟨vx, rfl, x, k1⟩
    have hb := bthen hb k1
    have hx := x.lt
    go_wp2_with fail
    refine (HI.out _ _ x.at).mono ?_
    rintro e w4 ⟨v2, bs, rfl, g, ndg, b⟩
    have HN4 : w3.heap.size ≤ w4.heap.size := b.size
    obtain ⟨d1, d5, d2, d6, d3, d7, d4, d8, rfl⟩ := g.at.shape
    have hg := g.lt
    have HS3 : Hid (W1.heap.size ≤ w3.heap.size) := k1.size
    have x := x.keep (keep_below b (fun p hp => (x.lt p hp).2))
    have k1 := bthen k1 b
    have hb := bthen hb b
    clear b
    have q3 := (B3.below k1).cell
    have n3 : w2.heap.size < w4.heap.size := (B3.below k1).lt
    go_wp2_with fail
    clear q3
    have HN4 : Hid (w3.heap.size ≤ w4.heap.size) := HN4
    obtain ⟨W2, hW2⟩ : ∃ W, W = w4.alloc (.cells #[.int .i64 R.roots, .slice d1 R.nodes.length d5, .slice d2 R.sites.length d6, .int .i64 R.edges, .slice d3 R.outer.length d7, .slice d4 R.inner.length d8] 27) := ⟨_, rfl⟩
    rw [← hW2]
    have b : Below w4.heap.size w4 W2 := by rw [hW2]; exact balloc _ _
    have B5 : Box W2 w4.heap.size #[.int .i64 R.roots, .slice d1 R.nodes.length d5, .slice d2 R.sites.length d6, .int .i64 R.edges, .slice d3 R.outer.length d7, .slice d4 R.inner.length d8] 27 := by rw [hW2]; exact Box.new _ _ _
    have x := x.keep (keep_below b (fun p hp => (x.lt p hp).2))
    have g := g.keep (keep_below b (fun p hp => (g.lt p hp).2))
    have k1 := bthen k1 b
    have hb := bthen hb b
    clear b
    clear hW2
    refine (eqBigraph_ct _ _ R _ g.at (r1.below k1)).mono ?_
    rintro e w5 ⟨rfl, b⟩
    have x := x.keep (keep_below b (fun p hp => (x.lt p hp).2))
    have g := g.keep (keep_below b (fun p hp => (g.lt p hp).2))
    have B5 := B5.below b
    have k1 := bthen k1 b
    have hb := bthen hb b
    clear b
    go_wp2_with fail
    refine (toIntS_ct _ l _ (hs.below hb)).mono ?_
    rintro e w6 ⟨vy, rfl, y, b⟩
    have x := x.keep (keep_below b (fun p hp => (x.lt p hp).2))
    have g := g.keep (keep_below b (fun p hp => (g.lt p hp).2))
    have B5 := B5.below b
    have k1 := bthen k1 b
    have hb := bthen hb b
    clear b
    go_wp2_with fail
    refine (eqIntS_ct _ _ l _ x.at y.at).mono ?_
    rintro e w7 ⟨rfl, b⟩
    have x := x.keep (keep_below b (fun p hp => (x.lt p hp).2))
    have g := g.keep (keep_below b (fun p hp => (g.lt p hp).2))
    have B5 := B5.below b
    have k1 := bthen k1 b
    have hb := bthen hb b
    clear b
    clear y
    go_wp2_with fail
    refine (markIntS_ct _ l 1 _ _ x (by omega) (by omega)).mono ?_
    rintro e w8 ⟨rfl, _, o⟩
    have g := g.keep (fun p hp => o.block p (g.lt p hp).2 (fun h => by have := hx _ h; have := hg _ hp; omega))
    have B5 := B5.keep (o.block _ B5.lt (fun h => by have := hx _ h; have := n3; have := HN4.out; omega))
    have hb := hb.trans (o.below (fun p hp => Nat.le_trans HSZ.out (hx p hp).1) hb.size)
    have k1 := k1.trans (o.below (fun p hp => (hx p hp).1) k1.size)
    clear o x hx
    have q3 := (B3.below k1).cell
    have q5 := B5.cell
    go_wp2_with fail
    clear q3 q5
    refine (eqBigraph_ct _ _ R _ g.at (r1.below k1)).mono ?_
    rintro e w9 ⟨rfl, b⟩
    have g := g.keep (keep_below b (fun p hp => (g.lt p hp).2))
    have B5 := B5.below b
    have k1 := bthen k1 b
    have hb := bthen hb b
    clear b
    have q5 := B5.cell
    go_wp2_with fail
    clear q5
    refine (markBigraph_ct _ R bs 1 _ _ g ndg (by omega) (by omega)).mono ?_
    rintro e w10 ⟨rfl, m, o⟩
    have B5 := B5.keep (o.block _ B5.lt (fun h => by have := hg _ h; omega))
    have hb := hb.trans (o.below (fun p hp => Nat.le_trans HSZ.out (Nat.le_trans HS3.out (hg p hp).1)) hb.size)
    have k1 := k1.trans (o.below (fun p hp => Nat.le_trans HS3.out (hg p hp).1) k1.size)
    clear o g
    have q5 := B5.cell
    go_wp2_with fail
    clear q5
    refine (heldBigraph_ct _ R 1 _ m.at (by omega) (by omega)).mono ?_
    rintro e w11 ⟨rfl, b⟩
    have m := m.keep (keep_below b (fun p hp => (m.lt p hp).2))
    have B5 := B5.below b
    have k1 := bthen k1 b
    have hb := bthen hb b
    clear b
    go_wp2_with fail
    refine (toIntS_ct _ l _ (hs.below hb)).mono ?_
    rintro e w12 ⟨vz, rfl, z, b⟩
    have m := m.keep (keep_below b (fun p hp => (m.lt p hp).2))
    have B5 := B5.below b
    have k1 := bthen k1 b
    have hb := bthen hb b
    clear b
    go_wp2_with fail
    refine (HI.out _ _ z.at).mono ?_
    rintro e w13 ⟨v6, bs6, rfl, g6, ndg6, b⟩
    obtain ⟨f1, f5, f2, f6, f3, f7, f4, f8, rfl⟩ := g6.at.shape
    have r6 := g6.at
    clear g6 ndg6
    have m := m.keep (keep_below b (fun p hp => (m.lt p hp).2))
    have B5 := B5.below b
    have k1 := bthen k1 b
    have hb := bthen hb b
    clear b
    have q3 := (B3.below k1).cell
    have n3 : w2.heap.size < w13.heap.size := (B3.below k1).lt
    go_wp2_with fail
    clear q3
    obtain ⟨W6, hW6⟩ : ∃ W, W = w13.alloc (.cells #[.int .i64 R.roots, .slice f1 R.nodes.length f5, .slice f2 R.sites.length f6, .int .i64 R.edges, .slice f3 R.outer.length f7, .slice f4 R.inner.length f8] 27) := ⟨_, rfl⟩
    rw [← hW6]
    have b : Below w13.heap.size w13 W6 := by rw [hW6]; exact balloc _ _
    have r6 := r6.below b
    have m := m.keep (keep_below b (fun p hp => (m.lt p hp).2))
    have B5 := B5.below b
    have k1 := bthen k1 b
    have hb := bthen hb b
    clear b
    clear hW6
    refine (eqBigraph_ct _ _ R _ r6 (r1.below k1)).mono ?_
    rintro e w14 ⟨rfl, b⟩
    have m := m.keep (keep_below b (fun p hp => (m.lt p hp).2))
    have B5 := B5.below b
    have k1 := bthen k1 b
    have hb := bthen hb b
    clear b
    have q5 := B5.cell
    go_wp2_with fail
    clear q5
    refine (heldBigraph_ct _ R 1 _ m.at (by omega) (by omega)).mono ?_
    rintro e w15 ⟨rfl, b⟩
    have hb := bthen hb b
    clear b
    go_wp2
    go_ret
    exact ⟨rfl, hb⟩
  · have ht' : ¬ l.length ≤ 1048576 := ht
    obtain ⟨a, c, rfl, _, hm, _⟩ := h.open
    go_enter Try.func6, Try.ntmps6
    go_wp2
    go_ret
    exact ⟨rfl, Below.refl _ _⟩
end Go.Proofs.Ytlkadcmicjencaa
