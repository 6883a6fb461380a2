/- The children of a parent. -/
import Derived.Test.YthbdmcobpcoajaaGreatDoorG4
import Derived.Test.YthbdmcobpcoajaaGreatDoorG1
import Derived.Test.YthbdmcobpcoajaaGreatDoorIsA
set_option linter.unusedVariables false
namespace Go.Proofs.YthbdmcobpcoajaaGreatDoor
open Go Go.RowKit Go.BigFrame

def pickN (f : Nat → Bool) (k : Nat) : List Int := ((List.range k).filter f).map fun (i : Nat) => (i : Int)
theorem pickN_yes {f : Nat → Bool} {k : Nat} (h : f k = true) : pickN f (k + 1) = pickN f k ++ [(k : Int)] := by unfold pickN; rw [List.range_succ, List.filter_append, List.map_append]; simp [h]
theorem pickN_no {f : Nat → Bool} {k : Nat} (h : f k = false) : pickN f (k + 1) = pickN f k := by unfold pickN; rw [List.range_succ, List.filter_append, List.map_append]; simp [h]
theorem pickN_len (f : Nat → Bool) (k : Nat) : (pickN f k).length ≤ k := by
  unfold pickN; rw [List.length_map]; exact Nat.le_trans (List.length_filter_le _ _) (by simp)
theorem pickN_i64 (f : Nat → Bool) (k : Nat) (hk : k ≤ 1073741824) : ∀ x ∈ pickN f k, I64 x := by
  intro x hx
  unfold pickN at hx
  obtain ⟨i, hi, rfl⟩ := List.mem_map.1 hx
  have := List.mem_range.1 (List.mem_filter.1 hi).1
  unfold I64; omega
def kidF (b : Big) (p : Int) (k : Nat) : Bool := match b.nodes[k]? with | some n => decide (n.par = p) | none => false
def holeF (b : Big) (p : Int) (k : Nat) : Bool := match b.sites[k]? with | some x => decide (x = p) | none => false
def kidsL (b : Big) (p : Int) : List Int := pickN (kidF b p) b.nodes.length
def holesL (b : Big) (p : Int) : List Int := pickN (holeF b p) b.sites.length
theorem Apart.symm {v v' : Value} (h : Apart v v') : Apart v' v := fun g h1 h2 => h g h2 h1


set_option maxRecDepth 100000 in
set_option maxHeartbeats 4000000 in
theorem l2Holes_ct (v : Value) (b : Big) (p : Int) (w : World) (h : BigAt w v b) (hpI : I64 p) (hlen : b.sites.length ≤ 100) : Calls Tryz.prog 132 #[v, .int .i64 p] w fun e w' => ∃ u, e = .returned u ∧ IntsOwn w.heap.size w' u (pickN (holeF b p) b.sites.length) ∧ Below w.heap.size w w' := by
  obtain ⟨a1, c1, a2, c2, a3, c3, a4, c4, rfl, hnds, hsit, _, _, _, _⟩ := h.parts
  obtain ⟨_, _, e, _, ln, n3⟩ := hsit.open
  obtain ⟨rfl, rfl⟩ := (by simpa using e : a2 = _ ∧ c2 = _)
  have N3 : Hid _ := n3
  unfold I64 at hpI
  clear e hnds hsit h n3
  go_enter Tryz.func132, Tryz.ntmps132
  go_wp2_with fail
  obtain ⟨W0, hW0⟩ : ∃ W, W = (w.alloc (.cells #[.int .i64 b.roots, .slice a1 b.nodes.length c1, .slice a2 b.sites.length c2, .int .i64 b.edges, .slice a3 b.outer.length c3, .slice a4 b.inner.length c4] 34)).alloc (.cells #[] 3) := ⟨_, rfl⟩
  rw [← hW0]
  have BA : Box W0 w.heap.size #[.int .i64 b.roots, .slice a1 b.nodes.length c1, .slice a2 b.sites.length c2, .int .i64 b.edges, .slice a3 b.outer.length c3, .slice a4 b.inner.length c4] 34 := by rw [hW0]; exact (Box.new _ _ _).alloc _
  have acc : Acc W0 (w.heap.size + 1) 3 1 (.slice (some ⟨w.heap.size + 1, 0, none⟩) 0 0) (intRows (pickN (holeF b p) 0)) := by
    rw [hW0]; simpa [intRows, pickN] using Acc.lit0 (w.alloc (.cells #[.int .i64 b.roots, .slice a1 b.nodes.length c1, .slice a2 b.sites.length c2, .int .i64 b.edges, .slice a3 b.outer.length c3, .slice a4 b.inner.length c4] 34)) (w.heap.size + 1) 3 1 (by simp)
  have hb : Below w.heap.size w W0 := by rw [hW0]; exact bthen (balloc _ _) (balloc _ _)
  have hs : w.heap.size + 1 ≤ W0.heap.size := by rw [hW0]; simp
  clear hW0
  go_loopw [5, 6] (fun o i W => ∃ k : Nat, k ≤ b.sites.length ∧ i = .int .i64 k ∧ Below w.heap.size w W ∧ w.heap.size + 1 ≤ W.heap.size ∧ Box W w.heap.size #[.int .i64 b.roots, .slice a1 b.nodes.length c1, .slice a2 b.sites.length c2, .int .i64 b.edges, .slice a3 b.outer.length c3, .slice a4 b.inner.length c4] 34 ∧ Acc W (w.heap.size + 1) 3 1 o (intRows (pickN (holeF b p) k))) (fun _ i _ => b.sites.length - (intOf i).toNat)
  case atStart => exact ⟨0, Nat.zero_le _, rfl, hb, hs, BA, acc⟩
  case round =>
    clear hb hs BA acc W0
    obtain ⟨k, hk, rfl, hb, hs, BA, acc⟩ := hrel
    obtain ⟨av, cv, rfl⟩ := acc.shape
    have hil := pickN_len (holeF b p) k
    obtain ⟨M, hM⟩ : ∃ M, M = (pickN (holeF b p) k).length := ⟨_, rfl⟩
    have HL : Hid ((intRows (pickN (holeF b p) k)).length = M) := by show _ = _; rw [hM]; simp [intRows]
    rw [← hM] at hil
    rw [HL.out] at acc ⊢
    by_cases hlt : k < b.sites.length
    · obtain ⟨n, hn⟩ := getElem?_of_lt hlt
      obtain ⟨hqI, bk, o', rfl, hc1⟩ := N3.out k n hn
      unfold I64 at hqI
      have g1 := (hb.cell (World.block_lt_of_cell? w _ hc1)).trans hc1
      have HX : Hid (b.sites[k]? = some n) := hn
      have q := BA.cell
      clear hc1 hn hM
      by_cases hpp : n = p
      · have HY : holeF b p k = true := by unfold holeF; rw [HX.out]; simpa using hpp
        have HT : Hid (intRows (pickN (holeF b p) (k + 1)) = intRows (pickN (holeF b p) k) ++ [[.int .i64 k]]) := by show _ = _; rw [pickN_yes HY]; simp [intRows]
        have hq : (n == p) = true := by simpa using hpp
        clear HY
        go_wp2_with (at_builtin; refine app1g _ _ rfl (.tmp 22) (.tmp 24) 24 rfl (w.heap.size + 1) 3 1 8 (.int .i64 0) Tryz.underlying24 inf_int rfl (by decide) (by decide) _ (intRows (pickN (holeF b p) k)) (by rfl) acc [.int .i64 k] _ rfl (by simp [Value.oneCell']) (by rfl) (by first | rfl | simp) (by rw [HL.out]; omega) hs ?_)
        intro g cc w2 acc2 hg
        rw [HL.out, ← HT.out] at acc2
        rw [HL.out]
        have hb2 := grown_below hb acc hg (by omega) (by omega)
        have hs2 : w.heap.size + 1 ≤ w2.heap.size := Nat.le_trans hs hg.size
        have BA2 := BA.keep (grown_block acc hg (by omega) BA.lt)
        clear acc hg BA hb hs g1 q
        go_wp2_with fail
        go_roundw
        case rel => exact ⟨k + 1, by omega, by go_num, hb2, hs2, BA2, acc2⟩
        case measure => simp [intOf]; omega
      · have HY : holeF b p k = false := by unfold holeF; rw [HX.out]; simpa using hpp
        have HT : Hid (intRows (pickN (holeF b p) (k + 1)) = intRows (pickN (holeF b p) k)) := by show _ = _; rw [pickN_no HY]
        have hq : (n == p) = false := by simpa using hpp
        clear HY
        rw [← HT.out] at acc
        go_wp2_with fail
        go_roundw
        case rel => exact ⟨k + 1, by omega, by go_num, hb, hs, BA, acc⟩
        case measure => simp [intOf]; omega
    · have e : k = b.sites.length := by omega
      subst e
      have q := BA.cell
      go_wp2_with fail
      go_ret
      exact ⟨_, rfl, ⟨acc.own.mono (by omega), by omega, pickN_i64 _ _ (by omega)⟩, hb⟩


end Go.Proofs.YthbdmcobpcoajaaGreatDoor
