/- The children of a parent. -/
import Derived.Test.YtnfodhgffbcfaaaDoorInner
import Derived.Test.YtnfodhgffbcfaaaDoorApp4
import Derived.Test.YtnfodhgffbcfaaaDoorIsA
import Derived.Test.YtnfodhgffbcfaaaDoorLaw1
namespace Go.Proofs.YtnfodhgffbcfaaaDoor
open Go Go.RowKit Go.BigFrame

def pickN (f : Nat → Bool) (k : Nat) : List Int := ((List.range k).filter f).map fun (i : Nat) => (i : Int)
theorem pickN_yes {f : Nat → Bool} {k : Nat} (h : f k = true) : pickN f (k + 1) = pickN f k ++ [(k : Int)] := by unfold pickN; rw [List.range_succ, List.filter_append, List.map_append]; simp [h]
theorem pickN_no {f : Nat → Bool} {k : Nat} (h : f k = false) : pickN f (k + 1) = pickN f k := by unfold pickN; rw [List.range_succ, List.filter_append, List.map_append]; simp [h]
theorem pickN_len (f : Nat → Bool) (k : Nat) : (pickN f k).length ≤ k := by
  unfold pickN; rw [List.length_map]; exact Nat.le_trans (List.length_filter_le _ _) (by simp)
theorem pickN_i64 (f : Nat → Bool) (k : Nat) (hk : k ≤ 1073741824) : ∀ x ∈ pickN f k, I64 x := by
  intro x hx
  unfold pickN at hx
  obtain ⟨i, hi, rfl⟩ := List.mem_map.1 hx
  have := List.mem_range.1 (List.mem_filter.1 hi).1
  unfold I64; omega
def kidF (b : Big) (p : Int) (k : Nat) : Bool := match b.nodes[k]? with | some n => decide (n.par = p) | none => false
def holeF (b : Big) (p : Int) (k : Nat) : Bool := match b.sites[k]? with | some x => decide (x = p) | none => false
def kidsL (b : Big) (p : Int) : List Int := pickN (kidF b p) b.nodes.length
def holesL (b : Big) (p : Int) : List Int := pickN (holeF b p) b.sites.length
theorem Apart.symm {v v' : Value} (h : Apart v v') : Apart v' v := fun g h1 h2 => h g h2 h1

set_option maxRecDepth 100000 in
set_option maxHeartbeats 4000000 in
theorem l2Kids_ct (v : Value) (b : Big) (p : Int) (w : World) (h : BigAt w v b) (hpI : I64 p) (hlen : b.nodes.length ≤ 100) : Calls Tryd.prog 76 #[v, .int .i64 p] w fun e w' => ∃ u, e = .returned u ∧ IntsOwn w.heap.size w' u (pickN (kidF b p) b.nodes.length) ∧ Below w.heap.size w w' := by
  obtain ⟨a1, c1, a2, c2, a3, c3, a4, c4, rfl, hnds, hsit, _, _, _, _⟩ := h.parts
  obtain ⟨_, _, e, _, ln, n3⟩ := hnds.open
  obtain ⟨rfl, rfl⟩ := (by simpa using e : a1 = _ ∧ c1 = _)
  have N3 : Hid _ := n3
  unfold I64 at hpI
  clear e hnds hsit h n3
  go_enter Tryd.func76, Tryd.ntmps76
  go_wp2_with fail
  obtain ⟨W0, hW0⟩ : ∃ W, W = (w.alloc (.cells #[.int .i64 b.roots, .slice a1 b.nodes.length c1, .slice a2 b.sites.length c2, .int .i64 b.edges, .slice a3 b.outer.length c3, .slice a4 b.inner.length c4] 41)).alloc (.cells #[] 3) := ⟨_, rfl⟩
  rw [← hW0]
  have BA : Box W0 w.heap.size #[.int .i64 b.roots, .slice a1 b.nodes.length c1, .slice a2 b.sites.length c2, .int .i64 b.edges, .slice a3 b.outer.length c3, .slice a4 b.inner.length c4] 41 := by rw [hW0]; exact (Box.new _ _ _).alloc _
  have acc : Acc W0 (w.heap.size + 1) 3 1 (.slice (some ⟨w.heap.size + 1, 0, none⟩) 0 0) (intRows (pickN (kidF b p) 0)) := by
    rw [hW0]; simpa [intRows, pickN] using Acc.lit0 (w.alloc (.cells #[.int .i64 b.roots, .slice a1 b.nodes.length c1, .slice a2 b.sites.length c2, .int .i64 b.edges, .slice a3 b.outer.length c3, .slice a4 b.inner.length c4] 41)) (w.heap.size + 1) 3 1 (by simp)
  have hb : Below w.heap.size w W0 := by rw [hW0]; exact bthen (balloc _ _) (balloc _ _)
  have hs : w.heap.size + 1 ≤ W0.heap.size := by rw [hW0]; simp
  clear hW0
  go_loopw [5, 6] (fun o i W => ∃ k : Nat, k ≤ b.nodes.length ∧ i = .int .i64 k ∧ Below w.heap.size w W ∧ w.heap.size + 1 ≤ W.heap.size ∧ Box W w.heap.size #[.int .i64 b.roots, .slice a1 b.nodes.length c1, .slice a2 b.sites.length c2, .int .i64 b.edges, .slice a3 b.outer.length c3, .slice a4 b.inner.length c4] 41 ∧ Acc W (w.heap.size + 1) 3 1 o (intRows (pickN (kidF b p) k))) (fun _ i _ => b.nodes.length - (intOf i).toNat)
  case atStart => exact ⟨0, Nat.zero_le _, rfl, hb, hs, BA, acc⟩
  case round =>
    clear hb hs BA acc W0
    obtain ⟨k, hk, rfl, hb, hs, BA, acc⟩ := hrel
    obtain ⟨av, cv, rfl⟩ := acc.shape
    have hil := pickN_len (kidF b p) k
    obtain ⟨M, hM⟩ : ∃ M, M = (pickN (kidF b p) k).length := ⟨_, rfl⟩
    have HL : Hid ((intRows (pickN (kidF b p) k)).length = M) := by show _ = _; rw [hM]; simp [intRows]
    rw [← hM] at hil
    rw [HL.out] at acc ⊢
    by_cases hlt : k < b.nodes.length
    · obtain ⟨n, hn⟩ := getElem?_of_lt hlt
      obtain ⟨_, hqI, bk, o', ul, rfl, _, _, hc1, _⟩ := N3.out k n hn
      unfold I64 at hqI
      have g1 := (hb.cell (World.block_lt_of_cell? w _ hc1)).trans hc1
      have HX : Hid (b.nodes[k]? = some n) := hn
      have q := BA.cell
      clear hc1 hn hM
      by_cases hpp : n.par = p
      · have HY : kidF b p k = true := by unfold kidF; rw [HX.out]; simpa using hpp
        have HT : Hid (intRows (pickN (kidF b p) (k + 1)) = intRows (pickN (kidF b p) k) ++ [[.int .i64 k]]) := by show _ = _; rw [pickN_yes HY]; simp [intRows]
        have hq : (n.par == p) = true := by simpa using hpp
        clear HY
        go_wp2_with (at_builtin; refine app1g _ _ rfl (.tmp 23) (.tmp 25) 27 rfl (w.heap.size + 1) 3 1 8 (.int .i64 0) Tryd.underlying27 inf_int rfl (by decide) (by decide) _ (intRows (pickN (kidF b p) k)) (by rfl) acc [.int .i64 k] _ rfl (by simp [Value.oneCell']) (by rfl) (by first | rfl | simp) (by rw [HL.out]; omega) hs ?_)
        intro g cc w2 acc2 hg
        rw [HL.out, ← HT.out] at acc2
        rw [HL.out]
        have hb2 := grown_below hb acc hg (by omega) (by omega)
        have hs2 : w.heap.size + 1 ≤ w2.heap.size := Nat.le_trans hs hg.size
        have BA2 := BA.keep (grown_block acc hg (by omega) BA.lt)
        clear acc hg BA hb hs g1 q
        go_wp2_with fail
        go_roundw
        case rel => exact ⟨k + 1, by omega, by go_num, hb2, hs2, BA2, acc2⟩
        case measure => simp [intOf]; omega
      · have HY : kidF b p k = false := by unfold kidF; rw [HX.out]; simpa using hpp
        have HT : Hid (intRows (pickN (kidF b p) (k + 1)) = intRows (pickN (kidF b p) k)) := by show _ = _; rw [pickN_no HY]
        have hq : (n.par == p) = false := by simpa using hpp
        clear HY
        rw [← HT.out] at acc
        go_wp2_with fail
        go_roundw
        case rel => exact ⟨k + 1, by omega, by go_num, hb, hs, BA, acc⟩
        case measure => simp [intOf]; omega
    · have e : k = b.nodes.length := by omega
      subst e
      have q := BA.cell
      go_wp2_with fail
      go_ret
      exact ⟨_, rfl, ⟨acc.own.mono (by omega), by omega, pickN_i64 _ _ (by omega)⟩, hb⟩

set_option maxRecDepth 100000 in
set_option maxHeartbeats 4000000 in
theorem l2Holes_ct (v : Value) (b : Big) (p : Int) (w : World) (h : BigAt w v b) (hpI : I64 p) (hlen : b.sites.length ≤ 100) : Calls Tryd.prog 77 #[v, .int .i64 p] w fun e w' => ∃ u, e = .returned u ∧ IntsOwn w.heap.size w' u (pickN (holeF b p) b.sites.length) ∧ Below w.heap.size w w' := by
  obtain ⟨a1, c1, a2, c2, a3, c3, a4, c4, rfl, hnds, hsit, _, _, _, _⟩ := h.parts
  obtain ⟨_, _, e, _, ln, n3⟩ := hsit.open
  obtain ⟨rfl, rfl⟩ := (by simpa using e : a2 = _ ∧ c2 = _)
  have N3 : Hid _ := n3
  unfold I64 at hpI
  clear e hnds hsit h n3
  go_enter Tryd.func77, Tryd.ntmps77
  go_wp2_with fail
  obtain ⟨W0, hW0⟩ : ∃ W, W = (w.alloc (.cells #[.int .i64 b.roots, .slice a1 b.nodes.length c1, .slice a2 b.sites.length c2, .int .i64 b.edges, .slice a3 b.outer.length c3, .slice a4 b.inner.length c4] 41)).alloc (.cells #[] 3) := ⟨_, rfl⟩
  rw [← hW0]
  have BA : Box W0 w.heap.size #[.int .i64 b.roots, .slice a1 b.nodes.length c1, .slice a2 b.sites.length c2, .int .i64 b.edges, .slice a3 b.outer.length c3, .slice a4 b.inner.length c4] 41 := by rw [hW0]; exact (Box.new _ _ _).alloc _
  have acc : Acc W0 (w.heap.size + 1) 3 1 (.slice (some ⟨w.heap.size + 1, 0, none⟩) 0 0) (intRows (pickN (holeF b p) 0)) := by
    rw [hW0]; simpa [intRows, pickN] using Acc.lit0 (w.alloc (.cells #[.int .i64 b.roots, .slice a1 b.nodes.length c1, .slice a2 b.sites.length c2, .int .i64 b.edges, .slice a3 b.outer.length c3, .slice a4 b.inner.length c4] 41)) (w.heap.size + 1) 3 1 (by simp)
  have hb : Below w.heap.size w W0 := by rw [hW0]; exact bthen (balloc _ _) (balloc _ _)
  have hs : w.heap.size + 1 ≤ W0.heap.size := by rw [hW0]; simp
  clear hW0
  go_loopw [5, 6] (fun o i W => ∃ k : Nat, k ≤ b.sites.length ∧ i = .int .i64 k ∧ Below w.heap.size w W ∧ w.heap.size + 1 ≤ W.heap.size ∧ Box W w.heap.size #[.int .i64 b.roots, .slice a1 b.nodes.length c1, .slice a2 b.sites.length c2, .int .i64 b.edges, .slice a3 b.outer.length c3, .slice a4 b.inner.length c4] 41 ∧ Acc W (w.heap.size + 1) 3 1 o (intRows (pickN (holeF b p) k))) (fun _ i _ => b.sites.length - (intOf i).toNat)
  case atStart => exact ⟨0, Nat.zero_le _, rfl, hb, hs, BA, acc⟩
  case round =>
    clear hb hs BA acc W0
    obtain ⟨k, hk, rfl, hb, hs, BA, acc⟩ := hrel
    obtain ⟨av, cv, rfl⟩ := acc.shape
    have hil := pickN_len (holeF b p) k
    obtain ⟨M, hM⟩ : ∃ M, M = (pickN (holeF b p) k).length := ⟨_, rfl⟩
    have HL : Hid ((intRows (pickN (holeF b p) k)).length = M) := by show _ = _; rw [hM]; simp [intRows]
    rw [← hM] at hil
    rw [HL.out] at acc ⊢
    by_cases hlt : k < b.sites.length
    · obtain ⟨n, hn⟩ := getElem?_of_lt hlt
      obtain ⟨hqI, bk, o', rfl, hc1⟩ := N3.out k n hn
      unfold I64 at hqI
      have g1 := (hb.cell (World.block_lt_of_cell? w _ hc1)).trans hc1
      have HX : Hid (b.sites[k]? = some n) := hn
      have q := BA.cell
      clear hc1 hn hM
      by_cases hpp : n = p
      · have HY : holeF b p k = true := by unfold holeF; rw [HX.out]; simpa using hpp
        have HT : Hid (intRows (pickN (holeF b p) (k + 1)) = intRows (pickN (holeF b p) k) ++ [[.int .i64 k]]) := by show _ = _; rw [pickN_yes HY]; simp [intRows]
        have hq : (n == p) = true := by simpa using hpp
        clear HY
        go_wp2_with (at_builtin; refine app1g _ _ rfl (.tmp 22) (.tmp 24) 27 rfl (w.heap.size + 1) 3 1 8 (.int .i64 0) Tryd.underlying27 inf_int rfl (by decide) (by decide) _ (intRows (pickN (holeF b p) k)) (by rfl) acc [.int .i64 k] _ rfl (by simp [Value.oneCell']) (by rfl) (by first | rfl | simp) (by rw [HL.out]; omega) hs ?_)
        intro g cc w2 acc2 hg
        rw [HL.out, ← HT.out] at acc2
        rw [HL.out]
        have hb2 := grown_below hb acc hg (by omega) (by omega)
        have hs2 : w.heap.size + 1 ≤ w2.heap.size := Nat.le_trans hs hg.size
        have BA2 := BA.keep (grown_block acc hg (by omega) BA.lt)
        clear acc hg BA hb hs g1 q
        go_wp2_with fail
        go_roundw
        case rel => exact ⟨k + 1, by omega, by go_num, hb2, hs2, BA2, acc2⟩
        case measure => simp [intOf]; omega
      · have HY : holeF b p k = false := by unfold holeF; rw [HX.out]; simpa using hpp
        have HT : Hid (intRows (pickN (holeF b p) (k + 1)) = intRows (pickN (holeF b p) k)) := by show _ = _; rw [pickN_no HY]
        have hq : (n == p) = false := by simpa using hpp
        clear HY
        rw [← HT.out] at acc
        go_wp2_with fail
        go_roundw
        case rel => exact ⟨k + 1, by omega, by go_num, hb, hs, BA, acc⟩
        case measure => simp [intOf]; omega
    · have e : k = b.sites.length := by omega
      subst e
      have q := BA.cell
      go_wp2_with fail
      go_ret
      exact ⟨_, rfl, ⟨acc.own.mono (by omega), by omega, pickN_i64 _ _ (by omega)⟩, hb⟩

def GivesKids (K H : List Int) (w : World) (e : Ending) (w' : World) : Prop :=
  ∃ u1 u2, e = .returned (.tuple #[u1, u2]) ∧ IntsOwn w.heap.size w' u1 K ∧ IntsOwn w.heap.size w' u2 H ∧ (∀ g ∈ blks u1, g ∉ blks u2) ∧ Below w.heap.size w w'
set_option maxRecDepth 100000 in
set_option maxHeartbeats 8000000 in
theorem childrenOf_ct (v : Value) (b : Big) (p : Int) (w : World) (h : BigAt w v b) (hpI : I64 p) (h8 : b.nodes.length ≤ 100) (h4 : b.sites.length ≤ 100) : Calls Tryd.prog 78 #[v, .int .i64 p] w (GivesKids (kidsL b p) (holesL b p) w) := by
  obtain ⟨a1, c1, a2, c2, a3, c3, a4, c4, rfl, hnds, hsit, _, _, _, _⟩ := h.parts
  obtain ⟨_, _, e, _, nl, n3⟩ := hnds.open
  obtain ⟨rfl, rfl⟩ := (by simpa using e : a1 = _ ∧ c1 = _)
  obtain ⟨_, _, e, _, il, i3⟩ := hsit.open
  obtain ⟨rfl, rfl⟩ := (by simpa using e : a2 = _ ∧ c2 = _)
  have N3 : Hid _ := n3
  have I3 : Hid _ := i3
  unfold I64 at hpI
  clear e hnds hsit h n3 i3
  go_enter Tryd.func78, Tryd.ntmps78
  go_wp2_with fail
  obtain ⟨W0, hW0⟩ : ∃ W, W = ((w.alloc (.cells #[.int .i64 b.roots, .slice a1 b.nodes.length c1, .slice a2 b.sites.length c2, .int .i64 b.edges, .slice a3 b.outer.length c3, .slice a4 b.inner.length c4] 41)).alloc (.cells #[] 3)).alloc (.cells #[] 3) := ⟨_, rfl⟩
  rw [← hW0]
  have BA : Box W0 w.heap.size #[.int .i64 b.roots, .slice a1 b.nodes.length c1, .slice a2 b.sites.length c2, .int .i64 b.edges, .slice a3 b.outer.length c3, .slice a4 b.inner.length c4] 41 := by rw [hW0]; exact ((Box.new _ _ _).alloc _).alloc _
  have BP : Box W0 (w.heap.size + 1) #[] 3 := by rw [hW0]; exact (Box.new' _ _ _ (by simp)).alloc _
  have BE : Box W0 (w.heap.size + 2) #[] 3 := by rw [hW0]; exact Box.new' _ _ _ (by simp)
  have acc : Acc W0 (w.heap.size + 1) 3 1 (.slice (some ⟨w.heap.size + 1, 0, none⟩) 0 0) (intRows (pickN (kidF b p) 0)) := by
    simpa [intRows, pickN] using Acc.of_box0 (sz := 1) BP (Nat.le_refl _)
  have accS : Acc W0 (w.heap.size + 1) 3 1 (.slice (some ⟨w.heap.size + 2, 0, none⟩) 0 0) (intRows (pickN (holeF b p) 0)) := by
    simpa [intRows, pickN] using Acc.of_box0 (sz := 1) BE (by omega)
  have hap : Apart (.slice (some ⟨w.heap.size + 2, 0, none⟩) 0 0) (.slice (some ⟨w.heap.size + 1, 0, none⟩) 0 0) := by intro g h1 h2; simp [Value.ownBlock] at h1 h2; omega
  have hb : Below w.heap.size w W0 := by rw [hW0]; exact bthen (bthen (balloc _ _) (balloc _ _)) (balloc _ _)
  have hs : w.heap.size + 3 ≤ W0.heap.size := by rw [hW0]; simp
  clear hW0 BP BE
  go_loopw [6, 17] (fun o i W => ∃ k : Nat, k ≤ b.nodes.length ∧ i = .int .i64 k ∧ Below w.heap.size w W ∧ w.heap.size + 3 ≤ W.heap.size ∧ Box W w.heap.size #[.int .i64 b.roots, .slice a1 b.nodes.length c1, .slice a2 b.sites.length c2, .int .i64 b.edges, .slice a3 b.outer.length c3, .slice a4 b.inner.length c4] 41 ∧ Acc W (w.heap.size + 1) 3 1 (.slice (some ⟨w.heap.size + 2, 0, none⟩) 0 0) (intRows (pickN (holeF b p) 0)) ∧ Apart (.slice (some ⟨w.heap.size + 2, 0, none⟩) 0 0) o ∧ Acc W (w.heap.size + 1) 3 1 o (intRows (pickN (kidF b p) k))) (fun _ i _ => b.nodes.length - (intOf i).toNat)
  case atStart => exact ⟨0, Nat.zero_le _, rfl, hb, hs, BA, accS, hap, acc⟩
  case round =>
    clear hb hs BA acc accS hap W0
    obtain ⟨k, hk, rfl, hb, hs, BA, accS, hap, acc⟩ := hrel
    obtain ⟨av, cv, rfl⟩ := acc.shape
    have hil := pickN_len (kidF b p) k
    obtain ⟨M, hM⟩ : ∃ M, M = (pickN (kidF b p) k).length := ⟨_, rfl⟩
    have HL : Hid ((intRows (pickN (kidF b p) k)).length = M) := by show _ = _; rw [hM]; simp [intRows]
    rw [← hM] at hil
    rw [HL.out] at acc hap ⊢
    clear hM
    have HAP : Hid _ := hap
    clear hap
    by_cases hlt : k < b.nodes.length
    · obtain ⟨n, hn⟩ := getElem?_of_lt hlt
      obtain ⟨_, hqI, bk, o', ul, rfl, hul, hc0, hc1, hc2⟩ := N3.out k n hn
      obtain ⟨al, cl, rfl, hl1, hl2, hl3⟩ := hul.open
      have HX : Hid (b.nodes[k]? = some n) := hn
      unfold I64 at hqI
      have g0 := (hb.cell (World.block_lt_of_cell? w _ hc0)).trans hc0
      have g1 := (hb.cell (World.block_lt_of_cell? w _ hc1)).trans hc1
      have g2 := (hb.cell (World.block_lt_of_cell? w _ hc2)).trans hc2
      clear hn hc0 hc1 hc2 hul hl3
      have hB := balloc wr (.cells #[.int .i64 n.ctl, .int .i64 n.par, .slice al n.links.length cl] 78)
      have BA := BA.below hB
      have accS := accS.below hB
      have acc := acc.below hB
      have hb := bthen hb hB
      have hs : w.heap.size + 3 ≤ (wr.alloc (.cells #[.int .i64 n.ctl, .int .i64 n.par, .slice al n.links.length cl] 78)).heap.size := Nat.le_trans hs hB.size
      clear hB
      by_cases hpp : n.par = p
      · have HY : kidF b p k = true := by unfold kidF; rw [HX.out]; simpa using hpp
        have HT : Hid (intRows (pickN (kidF b p) (k + 1)) = intRows (pickN (kidF b p) k) ++ [[.int .i64 k]]) := by show _ = _; rw [pickN_yes HY]; simp [intRows]
        have hq : (n.par == p) = true := by simpa using hpp
        clear HY hpp
        go_wp2_with (at_builtin; refine app1k _ _ rfl (.tmp 26) (.tmp 28) 27 rfl (w.heap.size + 1) 3 1 8 (.int .i64 0) Tryd.underlying27 inf_int rfl (by decide) (by decide) _ (intRows (pickN (kidF b p) k)) (by rfl) acc [.int .i64 k] _ rfl (by simp [Value.oneCell']) (by rfl) (by first | rfl | simp) (by rw [HL.out]; omega) (by omega) ?_)
        intro g cc w2 acc2 hg hat
        have accS2 := accS.keepA HAP.out hg
        have hap2 := Apart.grow accS HAP.out (g := g) (n := M + 1) (c := cc) (hat.imp id (fun h => by simpa using h))
        rw [HL.out, ← HT.out] at acc2
        rw [HL.out]
        have hb2 := grown_below hb acc hg (by omega) (by omega)
        have hs2 : w.heap.size + 3 ≤ w2.heap.size := Nat.le_trans hs hg.size
        have BA2 := BA.keep (grown_block acc hg (by omega) BA.lt)
        clear acc hg BA hb hs g0 g1 g2 hat accS
        go_wp2_with fail
        go_roundw
        case rel => exact ⟨k + 1, by omega, by go_num, hb2, hs2, BA2, accS2, hap2, acc2⟩
        case measure => simp [intOf]; omega
      · have HY : kidF b p k = false := by unfold kidF; rw [HX.out]; simpa using hpp
        have HT : Hid (intRows (pickN (kidF b p) (k + 1)) = intRows (pickN (kidF b p) k)) := by show _ = _; rw [pickN_no HY]
        have hq : (n.par == p) = false := by simpa using hpp
        clear HY
        rw [← HT.out] at acc
        go_wp2_with fail
        go_roundw
        case rel => exact ⟨k + 1, by omega, by go_num, hb, hs, BA, accS, HAP.out, acc⟩
        case measure => simp [intOf]; omega
    · have HE : Hid (kidsL b p = pickN (kidF b p) k) := by show _ = _; rw [show k = b.nodes.length by omega]; rfl
      have HM : Hid (M = (pickN (kidF b p) k).length) := by show _ = _; have := HL.out; simp [intRows] at this; omega
      have q := BA.cell
      have hap := Apart.symm HAP.out
      have HAP : Hid _ := hap
      clear hap
      have accK := acc
      clear acc
      obtain ⟨wa, rfl⟩ : ∃ W, W = wr := ⟨_, rfl⟩
      go_wp2_with fail
      clear q
      go_loopw [7, 34] (fun o i W => ∃ m : Nat, m ≤ b.sites.length ∧ i = .int .i64 m ∧ Below w.heap.size w W ∧ w.heap.size + 3 ≤ W.heap.size ∧ Acc W (w.heap.size + 1) 3 1 (.slice av M cv) (intRows (pickN (kidF b p) k)) ∧ Apart (.slice av M cv) o ∧ Acc W (w.heap.size + 1) 3 1 o (intRows (pickN (holeF b p) m))) (fun _ i _ => b.sites.length - (intOf i).toNat)
      case atStart => exact ⟨0, Nat.zero_le _, rfl, hb, hs, accK, HAP.out, accS⟩
      case round =>
        clear hb hs BA accK accS HAP HL
        obtain ⟨m, hm, rfl, hb, hs, accK, hap, acc⟩ := hrel
        obtain ⟨ae, ce, rfl⟩ := acc.shape
        have hjl := pickN_len (holeF b p) m
        obtain ⟨N, hN⟩ : ∃ N, N = (pickN (holeF b p) m).length := ⟨_, rfl⟩
        have HL : Hid ((intRows (pickN (holeF b p) m)).length = N) := by show _ = _; rw [hN]; simp [intRows]
        rw [← hN] at hjl
        rw [HL.out] at acc hap ⊢
        clear hN
        have HAP : Hid _ := hap
        clear hap
        by_cases hml : m < b.sites.length
        · obtain ⟨x, hx⟩ := getElem?_of_lt hml
          obtain ⟨hqI, bk, o', rfl, hc1⟩ := I3.out m x hx
          unfold I64 at hqI
          have g1 := (hb.cell (World.block_lt_of_cell? w _ hc1)).trans hc1
          have HX : Hid (b.sites[m]? = some x) := hx
          clear hc1 hx
          by_cases hpp : x = p
          · have HY : holeF b p m = true := by unfold holeF; rw [HX.out]; simpa using hpp
            have HT : Hid (intRows (pickN (holeF b p) (m + 1)) = intRows (pickN (holeF b p) m) ++ [[.int .i64 m]]) := by show _ = _; rw [pickN_yes HY]; simp [intRows]
            have hq : (x == p) = true := by simpa using hpp
            clear HY hpp
            go_wp2_with (at_builtin; refine app1k _ _ rfl (.tmp 42) (.tmp 44) 27 rfl (w.heap.size + 1) 3 1 8 (.int .i64 0) Tryd.underlying27 inf_int rfl (by decide) (by decide) _ (intRows (pickN (holeF b p) m)) (by rfl) acc [.int .i64 m] _ rfl (by simp [Value.oneCell']) (by rfl) (by first | rfl | simp) (by rw [HL.out]; omega) (by omega) ?_)
            intro g cc w2 acc2 hg hat
            have accK2 := accK.keepA HAP.out hg
            have hap2 := Apart.grow accK HAP.out (g := g) (n := N + 1) (c := cc) hat
            rw [HL.out, ← HT.out] at acc2
            rw [HL.out]
            have hb2 := grown_below hb acc hg (by omega) (by omega)
            have hs2 : w.heap.size + 3 ≤ w2.heap.size := Nat.le_trans hs hg.size
            clear acc hg hb hs g1 hat accK
            go_wp2_with fail
            go_roundw
            case rel => exact ⟨m + 1, by omega, by go_num, hb2, hs2, accK2, hap2, acc2⟩
            case measure => simp [intOf]; omega
          · have HY : holeF b p m = false := by unfold holeF; rw [HX.out]; simpa using hpp
            have HT : Hid (intRows (pickN (holeF b p) (m + 1)) = intRows (pickN (holeF b p) m)) := by show _ = _; rw [pickN_no HY]
            have hq : (x == p) = false := by simpa using hpp
            clear HY
            rw [← HT.out] at acc
            go_wp2_with fail
            go_roundw
            case rel => exact ⟨m + 1, by omega, by go_num, hb, hs, accK, HAP.out, acc⟩
            case measure => simp [intOf]; omega
        · have HE2 : Hid (holesL b p = pickN (holeF b p) m) := by show _ = _; rw [show m = b.sites.length by omega]; rfl
          have HN : Hid (N = (pickN (holeF b p) m).length) := by show _ = _; have := HL.out; simp [intRows] at this; omega
          go_wp2_with fail
          go_ret2
          refine ⟨_, _, rfl, ⟨by rw [HE.out]; exact accK.own.mono (by omega), by rw [HE.out]; have := pickN_len (kidF b p) k; omega, by rw [HE.out]; exact pickN_i64 _ _ (by omega)⟩, ⟨by rw [HE2.out]; exact acc.own.mono (by omega), by rw [HE2.out]; have := pickN_len (holeF b p) m; omega, by rw [HE2.out]; exact pickN_i64 _ _ (by omega)⟩, Apart.blks HAP.out, hb⟩

end Go.Proofs.YtnfodhgffbcfaaaDoor
