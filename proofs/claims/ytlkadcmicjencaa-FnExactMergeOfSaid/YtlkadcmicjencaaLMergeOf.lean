import Derived.Test.YtlkadcmicjencaaMergeOf
import Derived.Test.YtlkadcmicjencaaHeld
import Derived.Test.YtlkadcmicjencaaEq
namespace Go.Proofs.Ytlkadcmicjencaa
open Go Go.RowKit Go.BigFrame

set_option maxRecDepth 100000 in
set_option maxHeartbeats 4000000 in
theorem lawMergeOf (n : Int) (w : World) : Calls Try.prog 5 #[.int .i64 n] w fun e w' => e = .returned (.bool true) ∧ Below w.heap.size w w' := by
  obtain ⟨R, ok, hs, hi, hR⟩ : ∃ R ok, (∀ W, Calls Try.prog 14 #[.int .i64 n] W (GivesBig R ok W)) ∧ (∀ W, Calls Try.prog 15 #[.int .i64 n] W (GivesBig R ok W)) ∧ 1 + cntB R ≤ 536870912 :=
    ⟨merP n, merB n, specMergeOf_ct n, implMergeOf_ct n, by unfold merP; split; (rename_i h; unfold merB at h; simp at h; simp [cntB, merBig, cntN, sumOf]; omega); simp [cntB, noBig, cntN, sumOf]⟩
  have HS : Hid _ := hs
  have HI : Hid _ := hi
  clear hs hi
  go_enter Try.func5, Try.ntmps5
  go_wp2_with fail
  refine (HS.out _).mono ?_
  rintro e w1 ⟨v1, bs1, rfl, p1, nd1, b1⟩
  have r1 := p1.at
  obtain ⟨a1, a5, a2, a6, a3, a7, a4, a8, rfl⟩ := r1.shape
  clear p1 nd1 bs1
  go_wp2_with fail
  obtain ⟨W1, hW1⟩ : ∃ W, W = w1.alloc (.cells #[.int .i64 R.roots, .slice a1 R.nodes.length a5, .slice a2 R.sites.length a6, .int .i64 R.edges, .slice a3 R.outer.length a7, .slice a4 R.inner.length a8] 27) := ⟨_, rfl⟩
  rw [← hW1]
  have hn : Below w1.heap.size w1 W1 := by rw [hW1]; exact balloc _ _
  have B3 : Box W1 w1.heap.size #[.int .i64 R.roots, .slice a1 R.nodes.length a5, .slice a2 R.sites.length a6, .int .i64 R.edges, .slice a3 R.outer.length a7, .slice a4 R.inner.length a8] 27 := by rw [hW1]; exact Box.new _ _ _
  have hb := bthen b1 hn
  have r1 := r1.below hn
  have HSZ : Hid (w.heap.size ≤ W1.heap.size) := hb.size
  clear hW1 hn b1
  refine (HI.out _).mono ?_
  rintro e w2 ⟨v2, bs, rfl, g, ndg, k1⟩
  obtain ⟨d1, d5, d2, d6, d3, d7, d4, d8, rfl⟩ := g.at.shape
  have hg := g.lt
  have hb := bthen hb k1
  have q3 := (B3.below k1).cell
  have n3 : w1.heap.size < w2.heap.size := (B3.below k1).lt
  go_wp2_with fail
  clear q3
  obtain ⟨W2, hW2⟩ : ∃ W, W = w2.alloc (.cells #[.int .i64 R.roots, .slice d1 R.nodes.length d5, .slice d2 R.sites.length d6, .int .i64 R.edges, .slice d3 R.outer.length d7, .slice d4 R.inner.length d8] 27) := ⟨_, rfl⟩
  rw [← hW2]
  have hn : Below w2.heap.size w2 W2 := by rw [hW2]; exact balloc _ _
  have B5 : Box W2 w2.heap.size #[.int .i64 R.roots, .slice d1 R.nodes.length d5, .slice d2 R.sites.length d6, .int .i64 R.edges, .slice d3 R.outer.length d7, .slice d4 R.inner.length d8] 27 := by rw [hW2]; exact Box.new _ _ _
  have hb := bthen hb hn
  have k1 := bthen k1 hn
  have g := g.keep (keep_below hn (fun p hp => (hg p hp).2))
  clear hW2 hn
  refine (eqBigraph_ct _ _ R _ g.at (r1.below k1)).mono ?_
  rintro e w3 ⟨rfl, b⟩
  have g := g.keep (keep_below b (fun p hp => (g.lt p hp).2))
  have B5 := B5.below b
  have k1 := bthen k1 b
  have hb := bthen hb b
  clear b
  have q5 := B5.cell
  go_wp2_with fail
  clear q5
  refine (markBigraph_ct _ R bs 1 _ _ g ndg (by omega) (by omega)).mono ?_
  rintro e w4 ⟨rfl, m, o⟩
  have B5 := B5.keep (o.block _ B5.lt (fun h => by have := hg _ h; omega))
  have k1 := k1.trans (o.below (fun p hp => (hg p hp).1) k1.size)
  have hb := hb.trans (o.below (fun p hp => Nat.le_trans HSZ.out (hg p hp).1) hb.size)
  clear o g
  have q5 := B5.cell
  go_wp2_with fail
  clear q5
  refine (heldBigraph_ct _ R 1 _ m.at (by omega) (by omega)).mono ?_
  rintro e w5 ⟨rfl, b⟩
  have m := m.keep (keep_below b (fun p hp => (m.lt p hp).2))
  have B5 := B5.below b
  have k1 := bthen k1 b
  have hb := bthen hb b
  clear b
  have q5 := B5.cell
  go_wp2_with fail
  clear q5
  refine (HI.out _).mono ?_
  rintro e w6 ⟨v6, bs6, rfl, g6, ndg6, b⟩
  obtain ⟨f1, f5, f2, f6, f3, f7, f4, f8, rfl⟩ := g6.at.shape
  have r6 := g6.at
  clear g6 ndg6
  have m := m.keep (keep_below b (fun p hp => (m.lt p hp).2))
  have B5 := B5.below b
  have k1 := bthen k1 b
  have hb := bthen hb b
  clear b
  have q3 := (B3.below k1).cell
  have n3 : w1.heap.size < w6.heap.size := (B3.below k1).lt
  go_wp2_with fail
  clear q3
  obtain ⟨W6, hW6⟩ : ∃ W, W = w6.alloc (.cells #[.int .i64 R.roots, .slice f1 R.nodes.length f5, .slice f2 R.sites.length f6, .int .i64 R.edges, .slice f3 R.outer.length f7, .slice f4 R.inner.length f8] 27) := ⟨_, rfl⟩
  rw [← hW6]
  have hn : Below w6.heap.size w6 W6 := by rw [hW6]; exact balloc _ _
  have r6 := r6.below hn
  have m := m.keep (keep_below hn (fun p hp => (m.lt p hp).2))
  have B5 := B5.below hn
  have k1 := bthen k1 hn
  have hb := bthen hb hn
  clear hW6 hn
  refine (eqBigraph_ct _ _ R _ r6 (r1.below k1)).mono ?_
  rintro e w7 ⟨rfl, b⟩
  have m := m.keep (keep_below b (fun p hp => (m.lt p hp).2))
  have B5 := B5.below b
  have hb := bthen hb b
  clear b
  have q5 := B5.cell
  go_wp2_with fail
  clear q5
  refine (heldBigraph_ct _ R 1 _ m.at (by omega) (by omega)).mono ?_
  rintro e w8 ⟨rfl, b⟩
  have hb := bthen hb b
  clear b
  go_wp2
  go_ret
  exact ⟨rfl, hb⟩
end Go.Proofs.Ytlkadcmicjencaa
