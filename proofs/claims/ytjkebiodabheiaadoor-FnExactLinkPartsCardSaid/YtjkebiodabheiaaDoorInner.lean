/- Inner names, in a list of the call's own. -/
import Derived.Test.YtjkebiodabheiaaDoorUnder
import Derived.Test.YtjkebiodabheiaaDoorApp2
namespace Go.Proofs.YtjkebiodabheiaaDoor
open Go Go.RowKit Go.BigFrame

def innerN (b : Big) : List ByteArray := b.inner.map Wr.name
theorem innerN_get {b : Big} {k : Nat} {x : Wr} (h : b.inner[k]? = some x) : (innerN b)[k]? = some x.name := by unfold innerN; rw [List.getElem?_map, h]; rfl
theorem BigAt.inner_size {w : World} {v : Value} {b : Big} (h : BigAt w v b) : ∀ x ∈ b.inner, x.name.size ≤ 1073741824 := by
  obtain ⟨vn, vq, vo, vi, rfl, _, _, _, h4, _⟩ := h
  exact fun x hx => (h4.2 x hx).1

set_option maxRecDepth 100000 in
set_option maxHeartbeats 2000000 in
theorem l2Inner_ct (v : Value) (b : Big) (w : World) (h : BigAt w v b) (hl : b.inner.length ≤ 1073741824) :
    Calls Tryd.prog 92 #[v] w fun e w' => ∃ u, e = .returned u ∧ StrsOwn w.heap.size w' u (innerN b) ∧ Below w.heap.size w w' := by
  have hsz := h.inner_size
  obtain ⟨a1, c1, a2, c2, a3, c3, a, c, rfl, _, _, _, hin, _, _⟩ := h.parts
  obtain ⟨a', c', e', h1, h2, h3⟩ := hin.open
  obtain ⟨rfl, rfl⟩ : a = a' ∧ c = c' := by simpa using e'
  clear e' hin h
  go_enter Tryd.func92, Tryd.ntmps92
  go_wp2_with fail
  obtain ⟨W0, hW0⟩ : ∃ W, W = (w.alloc (.cells #[.int .i64 b.roots, .slice a1 b.nodes.length c1, .slice a2 b.sites.length c2, .int .i64 b.edges, .slice a3 b.outer.length c3, .slice a b.inner.length c] 43)).alloc (.cells #[] 9) := ⟨_, rfl⟩
  rw [← hW0]
  have BA : Box W0 w.heap.size #[.int .i64 b.roots, .slice a1 b.nodes.length c1, .slice a2 b.sites.length c2, .int .i64 b.edges, .slice a3 b.outer.length c3, .slice a b.inner.length c] 43 := by rw [hW0]; exact (Box.new _ _ _).alloc _
  have acc : Acc W0 (w.heap.size + 1) 9 1 (.slice (some ⟨w.heap.size + 1, 0, none⟩) 0 0) (strRows ((innerN b).take 0)) := by
    rw [hW0]; simpa [strRows] using Acc.lit0 (w.alloc (.cells #[.int .i64 b.roots, .slice a1 b.nodes.length c1, .slice a2 b.sites.length c2, .int .i64 b.edges, .slice a3 b.outer.length c3, .slice a b.inner.length c] 43)) (w.heap.size + 1) 9 1 (by simp)
  have hb : Below w.heap.size w W0 := by rw [hW0]; exact bthen (balloc _ _) (balloc _ _)
  have hs : w.heap.size + 1 ≤ W0.heap.size := by rw [hW0]; simp
  clear hW0

  go_loopw [3, 4] (fun o i W => ∃ k : Nat, k ≤ b.inner.length ∧ i = .int .i64 k ∧ Below w.heap.size w W ∧ w.heap.size + 1 ≤ W.heap.size ∧ Box W w.heap.size #[.int .i64 b.roots, .slice a1 b.nodes.length c1, .slice a2 b.sites.length c2, .int .i64 b.edges, .slice a3 b.outer.length c3, .slice a b.inner.length c] 43 ∧ Acc W (w.heap.size + 1) 9 1 o (strRows ((innerN b).take k))) (fun _ i _ => b.inner.length - (intOf i).toNat)
  case atStart => exact ⟨0, Nat.zero_le _, rfl, hb, hs, BA, acc⟩
  case round =>
    clear hb hs BA acc W0
    obtain ⟨k, hk, rfl, hb, hs, BA, acc⟩ := hrel
    obtain ⟨av, cv, rfl⟩ := acc.shape
    have HL : Hid ((strRows ((innerN b).take k)).length = k) := by show _ = _; simp [strRows, innerN]; omega
    rw [HL.out] at acc ⊢
    by_cases hlt : k < b.inner.length
    · obtain ⟨x, hx⟩ := getElem?_of_lt hlt
      obtain ⟨_, _, bk, o', rfl, hc0, hc1⟩ := h3 k x hx
      have g0 := (hb.cell (World.block_lt_of_cell? w _ hc0)).trans hc0
      have g1 := (hb.cell (World.block_lt_of_cell? w _ hc1)).trans hc1
      have HT : Hid (strRows ((innerN b).take (k + 1)) = strRows ((innerN b).take k) ++ [[.string x.name]]) := by show _ = _; rw [take_snoc_l (innerN_get hx)]; simp [strRows]
      have q := BA.cell
      have nb : bk < wr.heap.size := World.block_lt_of_cell? wr _ g0
      clear hc0 hc1 h3 hx
      go_wp2_with (at_builtin; refine app1g _ _ rfl (.tmp 13) (.tmp 20) 31 rfl (w.heap.size + 1) 9 1 16 (.string ⟨#[]⟩) Tryd.underlying31 inf_str rfl (by decide) (by decide) _ (strRows ((innerN b).take k)) (by rfl) acc [.string x.name] _ rfl (by simp [Value.oneCell']) (by rfl) (by first | rfl | simp) (by rw [HL.out]; omega) hs ?_)
      intro g c2 w2 acc2 hg
      rw [HL.out, ← HT.out] at acc2
      rw [HL.out]
      have hb2 := grown_below hb acc hg (by omega) (by omega)
      have hs2 : w.heap.size + 1 ≤ w2.heap.size := Nat.le_trans hs hg.size
      have BA2 := BA.keep (grown_block acc hg (by omega) BA.lt)
      clear acc hg BA q hb hs
      go_wp2_with fail
      go_roundw
      case rel => exact ⟨k + 1, by omega, by go_num, hb2, hs2, BA2, acc2⟩
      case measure => simp [intOf]; omega
    · have e : k = b.inner.length := by omega
      subst e
      have hT : (innerN b).take b.inner.length = innerN b := List.take_of_length_le (by simp [innerN])
      rw [hT] at acc
      clear hT h3
      have q := BA.cell
      go_wp2_with fail
      go_ret
      exact ⟨_, rfl, ⟨acc.own.mono (by omega), by simp [innerN]; omega, fun s hs => by simp only [innerN, List.mem_map] at hs; obtain ⟨y, hy, rfl⟩ := hs; exact hsz y hy⟩, hb⟩

set_option maxRecDepth 100000 in
set_option maxHeartbeats 2000000 in
theorem innerNames_ct (v : Value) (b : Big) (w : World) (h : BigAt w v b) (hl : b.inner.length ≤ 1073741824) :
    Calls Tryd.prog 100 #[v] w fun e w' => ∃ u, e = .returned u ∧ StrsOwn w.heap.size w' u (innerN b) ∧ Below w.heap.size w w' := by
  have hsz := h.inner_size
  obtain ⟨a1, c1, a2, c2, a3, c3, a, c, rfl, _, _, _, hin, _, _⟩ := h.parts
  obtain ⟨a', c', e', h1, h2, h3⟩ := hin.open
  obtain ⟨rfl, rfl⟩ : a = a' ∧ c = c' := by simpa using e'
  clear e' hin h
  go_enter Tryd.func100, Tryd.ntmps100
  go_wp2_with fail
  obtain ⟨W0, hW0⟩ : ∃ W, W = (w.alloc (.cells #[.int .i64 b.roots, .slice a1 b.nodes.length c1, .slice a2 b.sites.length c2, .int .i64 b.edges, .slice a3 b.outer.length c3, .slice a b.inner.length c] 43)).alloc (.cells #[] 9) := ⟨_, rfl⟩
  rw [← hW0]
  have BA : Box W0 w.heap.size #[.int .i64 b.roots, .slice a1 b.nodes.length c1, .slice a2 b.sites.length c2, .int .i64 b.edges, .slice a3 b.outer.length c3, .slice a b.inner.length c] 43 := by rw [hW0]; exact (Box.new _ _ _).alloc _
  have acc : Acc W0 (w.heap.size + 1) 9 1 (.slice (some ⟨w.heap.size + 1, 0, none⟩) 0 0) (strRows ((innerN b).take 0)) := by
    rw [hW0]; simpa [strRows] using Acc.lit0 (w.alloc (.cells #[.int .i64 b.roots, .slice a1 b.nodes.length c1, .slice a2 b.sites.length c2, .int .i64 b.edges, .slice a3 b.outer.length c3, .slice a b.inner.length c] 43)) (w.heap.size + 1) 9 1 (by simp)
  have hb : Below w.heap.size w W0 := by rw [hW0]; exact bthen (balloc _ _) (balloc _ _)
  have hs : w.heap.size + 1 ≤ W0.heap.size := by rw [hW0]; simp
  clear hW0

  go_loopw [3, 5, 10] (fun o _ i W => ∃ k : Nat, k ≤ b.inner.length ∧ i = .int .i64 k ∧ Below w.heap.size w W ∧ w.heap.size + 1 ≤ W.heap.size ∧ Box W w.heap.size #[.int .i64 b.roots, .slice a1 b.nodes.length c1, .slice a2 b.sites.length c2, .int .i64 b.edges, .slice a3 b.outer.length c3, .slice a b.inner.length c] 43 ∧ Acc W (w.heap.size + 1) 9 1 o (strRows ((innerN b).take k))) (fun _ _ i _ => b.inner.length - (intOf i).toNat)
  case atStart => exact ⟨0, Nat.zero_le _, rfl, hb, hs, BA, acc⟩
  case round =>
    clear hb hs BA acc W0
    obtain ⟨k, hk, rfl, hb, hs, BA, acc⟩ := hrel
    obtain ⟨av, cv, rfl⟩ := acc.shape
    have HL : Hid ((strRows ((innerN b).take k)).length = k) := by show _ = _; simp [strRows, innerN]; omega
    rw [HL.out] at acc ⊢
    by_cases hlt : k < b.inner.length
    · obtain ⟨x, hx⟩ := getElem?_of_lt hlt
      obtain ⟨_, _, bk, o', rfl, hc0, hc1⟩ := h3 k x hx
      have g0 := (hb.cell (World.block_lt_of_cell? w _ hc0)).trans hc0
      have g1 := (hb.cell (World.block_lt_of_cell? w _ hc1)).trans hc1
      have HT : Hid (strRows ((innerN b).take (k + 1)) = strRows ((innerN b).take k) ++ [[.string x.name]]) := by show _ = _; rw [take_snoc_l (innerN_get hx)]; simp [strRows]
      have q := BA.cell
      have nb : bk < wr.heap.size := World.block_lt_of_cell? wr _ g0
      clear hc0 hc1 h3 hx
      have hB := balloc wr (.cells #[.string x.name, .int .i64 x.link] 85)
      have acc := acc.below hB
      have BA := BA.below hB
      have hb := bthen hb hB
      have hs : w.heap.size + 1 ≤ (wr.alloc (.cells #[.string x.name, .int .i64 x.link] 85)).heap.size := Nat.le_trans hs hB.size
      have q := BA.cell
      go_wp2_with (at_builtin; refine app1g _ _ rfl (.tmp 14) (.tmp 17) 31 rfl (w.heap.size + 1) 9 1 16 (.string ⟨#[]⟩) Tryd.underlying31 inf_str rfl (by decide) (by decide) _ (strRows ((innerN b).take k)) (by rfl) acc [.string x.name] _ rfl (by simp [Value.oneCell']) (by rfl) (by first | rfl | simp) (by rw [HL.out]; omega) hs ?_)
      intro g c2 w2 acc2 hg
      rw [HL.out, ← HT.out] at acc2
      rw [HL.out]
      have hb2 := grown_below hb acc hg (by omega) (by omega)
      have hs2 : w.heap.size + 1 ≤ w2.heap.size := Nat.le_trans hs hg.size
      have BA2 := BA.keep (grown_block acc hg (by omega) BA.lt)
      clear acc hg BA q hb hs
      go_wp2_with fail
      go_roundw
      case rel => exact ⟨k + 1, by omega, by go_num, hb2, hs2, BA2, acc2⟩
      case measure => simp [intOf]; omega
    · have e : k = b.inner.length := by omega
      subst e
      have hT : (innerN b).take b.inner.length = innerN b := List.take_of_length_le (by simp [innerN])
      rw [hT] at acc
      clear hT h3
      have q := BA.cell
      go_wp2_with fail
      go_ret
      exact ⟨_, rfl, ⟨acc.own.mono (by omega), by simp [innerN]; omega, fun s hs => by simp only [innerN, List.mem_map] at hs; obtain ⟨y, hy, rfl⟩ := hs; exact hsz y hy⟩, hb⟩

end Go.Proofs.YtjkebiodabheiaaDoor
