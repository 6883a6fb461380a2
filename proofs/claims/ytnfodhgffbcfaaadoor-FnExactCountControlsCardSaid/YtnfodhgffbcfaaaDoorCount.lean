/- How many nodes of each control. -/
import Derived.Test.YtnfodhgffbcfaaaDoorInner
import Derived.Test.YtnfodhgffbcfaaaDoorIsA
import Derived.Test.YtnfodhgffbcfaaaDoorLaw1
import Derived.BigRegion
import Derived.IntWalk
namespace Go.Proofs.YtnfodhgffbcfaaaDoor
open Go Go.RowKit Go.BigFrame

def countN (sig : List Ctl) (b : Big) : Nat → List Int
  | 0 => List.replicate sig.length 0
  | k + 1 => match b.nodes[k]? with
    | some n => (countN sig b k).set n.ctl.toNat ((countN sig b k).getD n.ctl.toNat 0 + 1)
    | none => countN sig b k
theorem countN_len (sig : List Ctl) (b : Big) : ∀ k, (countN sig b k).length = sig.length
  | 0 => by simp [countN]
  | k + 1 => by
    unfold countN
    split
    · rw [List.length_set]; exact countN_len sig b k
    · exact countN_len sig b k
theorem countN_bd (sig : List Ctl) (b : Big) : ∀ k, ∀ x ∈ countN sig b k, 0 ≤ x ∧ x ≤ k
  | 0 => by intro x hx; simp only [countN, List.mem_replicate] at hx; omega
  | k + 1 => by
    intro x hx
    unfold countN at hx
    split at hx
    · rcases List.mem_or_eq_of_mem_set hx with h | h
      · have := countN_bd sig b k x h; omega
      · subst h
        rename_i n _
        cases hq : (countN sig b k)[n.ctl.toNat]? with
        | none => rw [List.getD_eq_getElem?_getD, hq]; simp; omega
        | some y =>
          have := countN_bd sig b k y (List.mem_of_getElem? hq)
          rw [List.getD_eq_getElem?_getD, hq]; simp only [Option.getD_some]; omega
    · have := countN_bd sig b k x hx; omega
theorem countN_succ {sig : List Ctl} {b : Big} {k : Nat} {n : Nd} {j : Nat} {x : Int} (hn : b.nodes[k]? = some n) (hj : n.ctl = j) (hx : (countN sig b k)[j]? = some x) : countN sig b (k + 1) = (countN sig b k).set j (x + 1) := by
  rw [countN, hn]
  simp only [hj, Int.toNat_natCast, List.getD_eq_getElem?_getD, hx, Option.getD_some]
def countR (sig : List Ctl) (b : Big) : List Int := if goodB sig b then countN sig b b.nodes.length else []
theorem countR_len (sig : List Ctl) (b : Big) : ((countR sig b).length : Int) ≤ 100000000 := by
  unfold countR
  split
  · rename_i h; have hG := good_of h; have := sig_len hG.sg; rw [countN_len]; omega
  · simp
theorem IntsOwn.cellAt {B g n c : Nat} {w : World} {l : List Int} (h : IntsOwn B w (.slice (some ⟨g, 0, none⟩) n c) l) {i : Nat} {x : Int} (hi : l[i]? = some x) : w.cell? ⟨g, i, none⟩ = some (.int .i64 x) := by
  obtain ⟨a, c', e, _, _, h3⟩ := h.at.open
  obtain ⟨_, b, o, ea, hc⟩ := h3 i x hi
  simp only [Value.slice.injEq] at e
  rw [ea] at e
  obtain ⟨⟨rfl, rfl⟩, _⟩ : (g = b ∧ 0 = o) ∧ True := ⟨by simpa using e.1, trivial⟩
  simpa using hc
theorem IntsOwn.put {B g n c : Nat} {w : World} {l : List Int} (h : IntsOwn B w (.slice (some ⟨g, 0, none⟩) n c) l) {i : Nat} (hi : i < l.length) {x : Int} (hx : I64 x) : IntsOwn B (w.setCell ⟨g, i, none⟩ (.int .i64 x)) (.slice (some ⟨g, 0, none⟩) n c) (l.set i x) := by
  refine ⟨?_, by simpa using h.2.1, fun y hy => ?_⟩
  · obtain ⟨y, hy⟩ := getElem?_of_lt hi
    have := RowOwn.store h.1 (i := i) (r := [.int .i64 y]) (j := 0) (by simp [intRows, hy]) (by omega) (.int .i64 x)
    rw [show intRows (l.set i x) = (intRows l).set i [.int .i64 x] by simp [intRows, List.map_set]]
    simpa using this
  · rcases List.mem_or_eq_of_mem_set hy with h' | rfl
    · exact h.2.2 y h'
    · exact hx
theorem ints_flat (l : List Int) : (intRows l).flatten = l.map (Value.int .i64) := by induction l <;> simp_all [intRows]
theorem made_ints (n : Nat) : (madeCells #[.int .i64 0] n).toList = (intRows (List.replicate n 0)).flatten := by
  rw [ints_flat, List.map_replicate]
  unfold madeCells
  rw [List.eq_replicate_iff]
  refine ⟨by simp, fun b hb => ?_⟩
  simp only [Array.toList_map, List.mem_map] at hb
  obtain ⟨k, _, rfl⟩ := hb
  simp [Nat.mod_one]
theorem made_own {g n : Nat} {w : World} (hn : n ≤ 1073741824) (h : w.ownsRow g 3 1 (.slice (some ⟨g, 0, none⟩) n n) n (madeCells #[.int .i64 0] n).toList) : IntsOwn g w (.slice (some ⟨g, 0, none⟩) n n) (List.replicate n 0) := by
  refine ⟨RowOwn.of_owns (cs := intRows (List.replicate n 0)) (e := 3) (n := n) ?_ (by simp [intRows]) (by simp [intRows]), by simp; omega, fun x hx => by have := List.eq_of_mem_replicate hx; unfold I64; omega⟩
  rw [← made_ints]
  exact h

set_option maxRecDepth 100000 in
set_option maxHeartbeats 4000000 in
theorem l2Count_ct (vs v : Value) (sig : List Ctl) (b : Big) (w : World) (h : Ctx w vs v sig b) (hG : Good sig b) : Calls Tryd.prog 58 #[vs, v] w fun e w' => ∃ u, e = .returned u ∧ IntsOwn w.heap.size w' u (countN sig b b.nodes.length) ∧ Below w.heap.size w w' := by
  have hsl := sig_len hG.sg
  have h8 := hG.nodes
  have hcc : ∀ (i : Nat) n, b.nodes[i]? = some n → 0 ≤ n.ctl ∧ n.ctl ≤ (sig.length : Int) - 1 := fun i n hn => node_ctl (hG.node i n hn)
  have HC : Hid _ := hcc
  obtain ⟨sa, sc, rfl, hs1, hs2, _⟩ := h.sig.open
  obtain ⟨a1, c1, a2, c2, a3, c3, a4, c4, rfl, hnds, _, _, _, _, _⟩ := h.big.parts
  obtain ⟨_, _, e, _, ln, n3⟩ := hnds.open
  obtain ⟨rfl, rfl⟩ := (by simpa using e : a1 = _ ∧ c1 = _)
  have N3 : Hid _ := n3
  obtain ⟨i0, hi, hz0, hz1, hz2⟩ := info_parts inf_int
  clear e hnds h n3 hcc hG
  have BA : Box (w.alloc (.cells #[.int .i64 b.roots, .slice a1 b.nodes.length c1, .slice a2 b.sites.length c2, .int .i64 b.edges, .slice a3 b.outer.length c3, .slice a4 b.inner.length c4] 41)) w.heap.size #[.int .i64 b.roots, .slice a1 b.nodes.length c1, .slice a2 b.sites.length c2, .int .i64 b.edges, .slice a3 b.outer.length c3, .slice a4 b.inner.length c4] 41 := Box.new _ _ _
  have hb : Below w.heap.size w (w.alloc (.cells #[.int .i64 b.roots, .slice a1 b.nodes.length c1, .slice a2 b.sites.length c2, .int .i64 b.edges, .slice a3 b.outer.length c3, .slice a4 b.inner.length c4] 41)) := balloc _ _
  go_enter Tryd.func58, Tryd.ntmps58
  go_wp2_with (at_make; refine wpList_make_full _ rfl _ _ 27 rfl (w.alloc (.cells #[.int .i64 b.roots, .slice a1 b.nodes.length c1, .slice a2 b.sites.length c2, .int .i64 b.edges, .slice a3 b.outer.length c3, .slice a4 b.inner.length c4] 41)).heap.size 3 i0 (.int .i64 0) 1 Tryd.underlying27 hi hz0 hz1 _ _ _ _ sig.length rfl rfl rfl rfl ?b1 ?b2 ?b3 ?_)
  case b1 => rw [hz2]; omega
  case b2 => unfold maxLen; omega
  case b3 => exact Nat.le_refl _
  intro w1 hown hgrow
  have own := made_own (n := sig.length) (by omega) hown
  have hBL : w.heap.size < w.heap.size + 1 := by have := BA.lt; simp at this ⊢; try omega
  have hOL : w.heap.size + 1 < w1.heap.size := World.block_lt_of_cell? w1 _ (own.cellAt (i := 0) (x := 0) (by rw [List.getElem?_replicate, if_pos (by omega)]))
  have hbn := hb.grown hgrow hb.size (fun _ h => by cases h)
  clear hb
  have hb := hbn
  clear hbn
  have BA := BA.keep (hgrow.block _ BA.lt (fun h => by cases h))
  obtain ⟨G, hGe⟩ : ∃ G, G = w.heap.size + 1 := ⟨_, rfl⟩
  rw [← hGe] at own ⊢
  have hGw : w.heap.size < G := by rw [hGe]; exact hBL
  have hG2 : G < w1.heap.size := by rw [hGe]; exact hOL
  clear hown hgrow hBL hOL hi hz0 hz1 hz2 hGe
  go_wp2_with fail
  go_loopw [6] (fun i W => ∃ k : Nat, k ≤ b.nodes.length ∧ i = .int .i64 k ∧ Below w.heap.size w W ∧ G < W.heap.size ∧ Box W w.heap.size #[.int .i64 b.roots, .slice a1 b.nodes.length c1, .slice a2 b.sites.length c2, .int .i64 b.edges, .slice a3 b.outer.length c3, .slice a4 b.inner.length c4] 41 ∧ IntsOwn G W (.slice (some ⟨G, 0, none⟩) sig.length sig.length) (countN sig b k)) (fun i _ => b.nodes.length - (intOf i).toNat)
  case atStart => exact ⟨0, Nat.zero_le _, rfl, hb, hG2, BA, own⟩
  case round =>
    clear hb hG2 BA own
    obtain ⟨k, hk, rfl, hb, hG2, BA, own⟩ := hrel
    by_cases hlt : k < b.nodes.length
    · obtain ⟨n, hn⟩ := getElem?_of_lt hlt
      obtain ⟨hcI, hpI, bk, o', ul, rfl, hul, hc0, hc1, hc2⟩ := N3.out k n hn
      obtain ⟨al, cl, rfl, hl1, hl2, hl3⟩ := hul.open
      obtain ⟨hc0', hcs⟩ := HC.out k n hn
      have g0 := (hb.cell (World.block_lt_of_cell? w _ hc0)).trans hc0
      have g1 := (hb.cell (World.block_lt_of_cell? w _ hc1)).trans hc1
      have g2 := (hb.cell (World.block_lt_of_cell? w _ hc2)).trans hc2
      obtain ⟨j, hj⟩ : ∃ j : Nat, n.ctl = j := ⟨n.ctl.toNat, by omega⟩
      have hjl : j < (countN sig b k).length := by rw [countN_len]; omega
      have hjs : j < sig.length := by omega
      obtain ⟨x, hx⟩ := getElem?_of_lt hjl
      have hxb := countN_bd sig b k x (List.mem_of_getElem? hx)
      have HT : Hid (countN sig b (k + 1) = (countN sig b k).set j (x + 1)) := countN_succ hn hj hx
      rw [hj] at g0
      have HJ : Hid (n.ctl = j) := hj
      have HXX : Hid _ := hx
      have gx := own.cellAt hx
      have gf := own.1.free (by omega) j
      have hwr : IntKind.i64.wrap (x + 1) = x + 1 := Go.IntWalk.i64_in _ (by omega)
      have q := BA.cell
      clear hn hc0 hc1 hc2 hul hl3 hx hj
      go_wp2_with fail
      clear q g1 g2 HXX HJ
      have qB := BA.cell
      go_region
      go_wp2_with fail
      go_roundw
      case rel => exact ⟨k + 1, by omega, by go_num, bdrew (hb.setCell (by show _ ≤ G; omega) _), (by show G < (World.setCell _ _ _).heap.size; rw [size_setCell]; exact hG2), (BA.other _ (by show w.heap.size ≠ G; omega)).drew, by rw [HT.out]; exact (own.put hjl (by unfold I64; omega)).keep (fun _ _ => rfl)⟩
      case measure => simp [intOf]; omega
    · have e : k = b.nodes.length := by omega
      subst e
      have q := BA.cell
      go_wp2_with fail
      go_ret
      exact ⟨_, rfl, ⟨own.1.mono (by omega), own.2⟩, hb⟩
set_option maxHeartbeats 2000000 in
theorem specCountControls_ct (vs v : Value) (sig : List Ctl) (b : Big) (w : World) (h : Ctx w vs v sig b) : Calls Tryd.prog 16 #[vs, v] w (GivesInts (countR sig b) (goodB sig b) w) := by
  obtain ⟨a1, c1, a2, c2, a3, c3, a4, c4, rfl⟩ := h.big.shape
  have hA := balloc w (.cells #[.int .i64 b.roots, .slice a1 b.nodes.length c1, .slice a2 b.sites.length c2, .int .i64 b.edges, .slice a3 b.outer.length c3, .slice a4 b.inner.length c4] 41)
  have hx := h.below hA
  have BA : Box (w.alloc (.cells #[.int .i64 b.roots, .slice a1 b.nodes.length c1, .slice a2 b.sites.length c2, .int .i64 b.edges, .slice a3 b.outer.length c3, .slice a4 b.inner.length c4] 41)) w.heap.size #[.int .i64 b.roots, .slice a1 b.nodes.length c1, .slice a2 b.sites.length c2, .int .i64 b.edges, .slice a3 b.outer.length c3, .slice a4 b.inner.length c4] 41 := Box.new _ _ _
  cases hg : goodB sig b with
  | false =>
    have HN : Hid (countR sig b = []) := by show _ = _; unfold countR; rw [hg]; rfl
    rw [HN.out]
    go_enter Tryd.func16, Tryd.ntmps16
    go_wp2_with fail
    refine (l2Good_ct _ _ sig b false _ hx hg).mono ?_
    rintro e w2 ⟨rfl, hb⟩
    go_wp2_with fail
    go_ret2
    exact ⟨_, rfl, ⟨own_none _ _ _ _ _, by simp, fun n hn => (by cases hn)⟩, bthen (bthen hA hb) (balloc _ _)⟩
  | true =>
    have hG := good_of hg
    have HN : Hid (countR sig b = countN sig b b.nodes.length) := by show _ = _; unfold countR; rw [hg]; rfl
    rw [HN.out]
    have HG : Hid (Good sig b) := hG
    clear hG
    go_enter Tryd.func16, Tryd.ntmps16
    go_wp2_with fail
    refine (l2Good_ct _ _ sig b true _ hx hg).mono ?_
    rintro e w2 ⟨rfl, hb⟩
    have qA := (BA.below hb).cell
    have hx := hx.below hb
    have hb := bthen hA hb
    clear hA hg
    go_wp2_with fail
    refine (l2Count_ct _ _ sig b _ hx HG.out).mono ?_
    rintro e w3 ⟨u, rfl, hu, hb3⟩
    go_wp2_with fail
    go_ret2
    exact ⟨_, rfl, ⟨hu.1.mono hb.size, hu.2⟩, bthen hb hb3⟩
set_option maxRecDepth 100000 in
set_option maxHeartbeats 4000000 in
theorem implCountControls_ct (vs v : Value) (sig : List Ctl) (b : Big) (w : World) (h : Ctx w vs v sig b) : Calls Tryd.prog 19 #[vs, v] w (GivesInts (countR sig b) (goodB sig b) w) := by
  cases hg : goodB sig b with
  | false =>
    obtain ⟨a1, c1, a2, c2, a3, c3, a4, c4, rfl⟩ := h.big.shape
    have hA := balloc w (.cells #[.int .i64 b.roots, .slice a1 b.nodes.length c1, .slice a2 b.sites.length c2, .int .i64 b.edges, .slice a3 b.outer.length c3, .slice a4 b.inner.length c4] 41)
    have hx := h.below hA
    have HN : Hid (countR sig b = []) := by show _ = _; unfold countR; rw [hg]; rfl
    rw [HN.out]
    go_enter Tryd.func19, Tryd.ntmps19
    go_wp2_with fail
    refine (implIsBigraph_ct _ _ sig b false _ hx hg).mono ?_
    rintro e w2 ⟨rfl, hb⟩
    go_wp2_with fail
    go_ret2
    exact ⟨_, rfl, ⟨own_none _ _ _ _ _, by simp, fun n hn => (by cases hn)⟩, bthen hA hb⟩
  | true =>
    have hG := good_of hg
    have HN : Hid (countR sig b = countN sig b b.nodes.length) := by show _ = _; unfold countR; rw [hg]; rfl
    rw [HN.out]
    have hsl := sig_len hG.sg
    have h8 := hG.nodes
    have hcc : ∀ (i : Nat) n, b.nodes[i]? = some n → 0 ≤ n.ctl ∧ n.ctl ≤ (sig.length : Int) - 1 := fun i n hn => node_ctl (hG.node i n hn)
    have HC : Hid _ := hcc
    obtain ⟨sa, sc, rfl, hs1, hs2, _⟩ := h.sig.open
    obtain ⟨a1, c1, a2, c2, a3, c3, a4, c4, rfl, hnds, _, _, _, _, _⟩ := h.big.parts
    obtain ⟨_, _, e, _, ln, n3⟩ := hnds.open
    obtain ⟨rfl, rfl⟩ := (by simpa using e : a1 = _ ∧ c1 = _)
    have N3 : Hid _ := n3
    obtain ⟨i0, hi, hz0, hz1, hz2⟩ := info_parts inf_int
    have hA := balloc w (.cells #[.int .i64 b.roots, .slice a1 b.nodes.length c1, .slice a2 b.sites.length c2, .int .i64 b.edges, .slice a3 b.outer.length c3, .slice a4 b.inner.length c4] 41)
    have hx := h.below hA
    have BA : Box (w.alloc (.cells #[.int .i64 b.roots, .slice a1 b.nodes.length c1, .slice a2 b.sites.length c2, .int .i64 b.edges, .slice a3 b.outer.length c3, .slice a4 b.inner.length c4] 41)) w.heap.size #[.int .i64 b.roots, .slice a1 b.nodes.length c1, .slice a2 b.sites.length c2, .int .i64 b.edges, .slice a3 b.outer.length c3, .slice a4 b.inner.length c4] 41 := Box.new _ _ _
    clear e hnds h n3 hcc hG HN
    go_enter Tryd.func19, Tryd.ntmps19
    go_wp2_with fail
    refine (implIsBigraph_ct _ _ sig b true _ hx hg).mono ?_
    rintro e w2 ⟨rfl, hb0⟩
    have BA := BA.below hb0
    have hb := bthen hA hb0
    have q := BA.cell
    clear hA hg hx hb0
    go_wp2_with (at_make; refine wpList_make_full _ rfl _ _ 27 rfl w2.heap.size 3 i0 (.int .i64 0) 1 Tryd.underlying27 hi hz0 hz1 _ _ _ _ sig.length rfl rfl rfl rfl ?b1 ?b2 ?b3 ?_)
    case b1 => rw [hz2]; omega
    case b2 => unfold maxLen; omega
    case b3 => exact Nat.le_refl _
    intro w1 hown hgrow
    have own := made_own (n := sig.length) (by omega) hown
    have hBL : w.heap.size < w2.heap.size := by have := BA.lt; simp at this ⊢; try omega
    have hOL : w2.heap.size < w1.heap.size := World.block_lt_of_cell? w1 _ (own.cellAt (i := 0) (x := 0) (by rw [List.getElem?_replicate, if_pos (by omega)]))
    have hbn := hb.grown hgrow hb.size (fun _ h => by cases h)
    clear hb
    have hb := hbn
    clear hbn
    have BA := BA.keep (hgrow.block _ BA.lt (fun h => by cases h))
    obtain ⟨G, hGe⟩ : ∃ G, G = w2.heap.size := ⟨_, rfl⟩
    rw [← hGe] at own ⊢
    have hGw : w.heap.size < G := by rw [hGe]; exact hBL
    have hG2 : G < w1.heap.size := by rw [hGe]; exact hOL
    clear q hown hgrow hBL hOL hi hz0 hz1 hz2 hGe
    have q := BA.cell
    go_wp2_with fail
    clear q
    go_loopw [19] (fun i W => ∃ k : Nat, k ≤ b.nodes.length ∧ i = .int .i64 k ∧ Below w.heap.size w W ∧ G < W.heap.size ∧ Box W w.heap.size #[.int .i64 b.roots, .slice a1 b.nodes.length c1, .slice a2 b.sites.length c2, .int .i64 b.edges, .slice a3 b.outer.length c3, .slice a4 b.inner.length c4] 41 ∧ IntsOwn G W (.slice (some ⟨G, 0, none⟩) sig.length sig.length) (countN sig b k)) (fun i _ => b.nodes.length - (intOf i).toNat)
    case atStart => exact ⟨0, Nat.zero_le _, rfl, hb, hG2, BA, own⟩
    case round =>
      clear hb hG2 BA own
      obtain ⟨k, hk, rfl, hb, hG2, BA, own⟩ := hrel
      by_cases hlt : k < b.nodes.length
      · obtain ⟨n, hn⟩ := getElem?_of_lt hlt
        obtain ⟨hcI, hpI, bk, o', ul, rfl, hul, hc0, hc1, hc2⟩ := N3.out k n hn
        obtain ⟨al, cl, rfl, hl1, hl2, hl3⟩ := hul.open
        obtain ⟨hc0', hcs⟩ := HC.out k n hn
        have g0 := (hb.cell (World.block_lt_of_cell? w _ hc0)).trans hc0
        have g1 := (hb.cell (World.block_lt_of_cell? w _ hc1)).trans hc1
        have g2 := (hb.cell (World.block_lt_of_cell? w _ hc2)).trans hc2
        obtain ⟨j, hj⟩ : ∃ j : Nat, n.ctl = j := ⟨n.ctl.toNat, by omega⟩
        have hjl : j < (countN sig b k).length := by rw [countN_len]; omega
        have hjs : j < sig.length := by omega
        obtain ⟨x, hx⟩ := getElem?_of_lt hjl
        have hxb := countN_bd sig b k x (List.mem_of_getElem? hx)
        have HT : Hid (countN sig b (k + 1) = (countN sig b k).set j (x + 1)) := countN_succ hn hj hx
        rw [hj] at g0
        have HJ : Hid (n.ctl = j) := hj
        have HXX : Hid _ := hx
        have hB := balloc wr (.cells #[.int .i64 j, .int .i64 n.par, .slice al n.links.length cl] 78)
        have ownA := own.keep (keep_below hB (fun p hp => (own.lt p hp).2))
        have gx := ownA.cellAt hx
        have gf := ownA.1.free (by omega) j
        have hwr : IntKind.i64.wrap (x + 1) = x + 1 := Go.IntWalk.i64_in _ (by omega)
        clear hB ownA
        have q := BA.cell
        clear hn hc0 hc1 hc2 hul hl3 hx hj
        go_wp2_with fail
        go_roundw
        case rel => exact ⟨k + 1, by omega, by go_num, bthen (hb.setCell (by show _ ≤ G; omega) _) (balloc _ _), (by simp [size_setCell]; omega), (BA.other _ (by show w.heap.size ≠ G; omega)).alloc _, by rw [HT.out]; have o2 := own.put hjl (x := x + 1) (by unfold I64; omega); exact o2.keep (keep_below (balloc _ _) (fun p hp => (o2.lt p hp).2))⟩
        case measure => simp [intOf]; omega
      · have e : k = b.nodes.length := by omega
        subst e
        have q := BA.cell
        go_wp2_with fail
        go_ret2
        exact ⟨_, rfl, ⟨own.1.mono (by omega), own.2⟩, hb⟩

end Go.Proofs.YtnfodhgffbcfaaaDoor
