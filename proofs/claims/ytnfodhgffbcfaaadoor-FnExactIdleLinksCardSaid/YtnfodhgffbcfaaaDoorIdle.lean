/- Idle links. -/
import Derived.Test.YtnfodhgffbcfaaaDoorSingle
import Derived.Test.YtnfodhgffbcfaaaDoorLaw1
namespace Go.Proofs.YtnfodhgffbcfaaaDoor
open Go Go.RowKit Go.BigFrame

def idleN (b : Big) (k : Nat) : List Int := ((List.range k).filter fun (i : Nat) => idleB b (i : Int)).map fun (i : Nat) => (i : Int)
theorem idleN_yes {b : Big} {k : Nat} (h : idleB b (k : Int) = true) : idleN b (k + 1) = idleN b k ++ [(k : Int)] := by unfold idleN; rw [List.range_succ, List.filter_append, List.map_append]; simp [h]
theorem idleN_no {b : Big} {k : Nat} (h : idleB b (k : Int) = false) : idleN b (k + 1) = idleN b k := by unfold idleN; rw [List.range_succ, List.filter_append, List.map_append]; simp [h]
theorem idleN_len (b : Big) (k : Nat) : (idleN b k).length ≤ k := by
  unfold idleN; rw [List.length_map]; exact Nat.le_trans (List.length_filter_le _ _) (by simp)
theorem idleN_i64 (b : Big) (k : Nat) (hk : k ≤ 1073741824) : ∀ x ∈ idleN b k, I64 x := by
  intro x hx
  unfold idleN at hx
  obtain ⟨i, hi, rfl⟩ := List.mem_map.1 hx
  have := List.mem_range.1 (List.mem_filter.1 hi).1
  unfold I64; omega
def linksN (b : Big) : Nat := (b.edges + b.outer.length).toNat
def idleR (sig : List Ctl) (b : Big) : List Int := if goodB sig b then idleN b (linksN b) else []
theorem idleR_len (sig : List Ctl) (b : Big) : ((idleR sig b).length : Int) ≤ 100000000 := by
  unfold idleR
  split
  · rename_i h; have hG := good_of h; have := idleN_len b (linksN b); have := hG.outer16; have := hG.edges; unfold linksN at *; omega
  · simp

set_option maxRecDepth 100000 in
set_option maxHeartbeats 4000000 in
theorem specIdleLinks_ct (vs v : Value) (sig : List Ctl) (b : Big) (w : World) (h : Ctx w vs v sig b) : Calls Tryd.prog 33 #[vs, v] w (GivesInts (idleR sig b) (goodB sig b) w) := by
  obtain ⟨a1, c1, a2, c2, a3, c3, a4, c4, rfl⟩ := h.big.shape
  have hA := balloc w (.cells #[.int .i64 b.roots, .slice a1 b.nodes.length c1, .slice a2 b.sites.length c2, .int .i64 b.edges, .slice a3 b.outer.length c3, .slice a4 b.inner.length c4] 41)
  have hx := h.below hA
  have BA : Box (w.alloc (.cells #[.int .i64 b.roots, .slice a1 b.nodes.length c1, .slice a2 b.sites.length c2, .int .i64 b.edges, .slice a3 b.outer.length c3, .slice a4 b.inner.length c4] 41)) w.heap.size #[.int .i64 b.roots, .slice a1 b.nodes.length c1, .slice a2 b.sites.length c2, .int .i64 b.edges, .slice a3 b.outer.length c3, .slice a4 b.inner.length c4] 41 := Box.new _ _ _
  have hL : Below (w.alloc (.cells #[.int .i64 b.roots, .slice a1 b.nodes.length c1, .slice a2 b.sites.length c2, .int .i64 b.edges, .slice a3 b.outer.length c3, .slice a4 b.inner.length c4] 41)).heap.size (w.alloc (.cells #[.int .i64 b.roots, .slice a1 b.nodes.length c1, .slice a2 b.sites.length c2, .int .i64 b.edges, .slice a3 b.outer.length c3, .slice a4 b.inner.length c4] 41)) ((w.alloc (.cells #[.int .i64 b.roots, .slice a1 b.nodes.length c1, .slice a2 b.sites.length c2, .int .i64 b.edges, .slice a3 b.outer.length c3, .slice a4 b.inner.length c4] 41)).alloc (.cells #[] 3)) := balloc _ _
  have acc : Acc ((w.alloc (.cells #[.int .i64 b.roots, .slice a1 b.nodes.length c1, .slice a2 b.sites.length c2, .int .i64 b.edges, .slice a3 b.outer.length c3, .slice a4 b.inner.length c4] 41)).alloc (.cells #[] 3)) (w.heap.size + 1) 3 1 (.slice (some ⟨w.heap.size + 1, 0, none⟩) 0 0) (intRows (idleN b 0)) := by
    simpa [intRows, idleN] using Acc.lit0 (w.alloc (.cells #[.int .i64 b.roots, .slice a1 b.nodes.length c1, .slice a2 b.sites.length c2, .int .i64 b.edges, .slice a3 b.outer.length c3, .slice a4 b.inner.length c4] 41)) (w.heap.size + 1) 3 1 (by simp)
  have hx := hx.below hL
  have BA := BA.below hL
  have hA := bthen hA hL
  cases hg : goodB sig b with
  | false =>
    have HN : Hid (idleR sig b = []) := by show _ = _; unfold idleR; rw [hg]; rfl
    rw [HN.out]
    go_enter Tryd.func33, Tryd.ntmps33
    go_wp2_with fail
    refine (l2Good_ct _ _ sig b false _ hx hg).mono ?_
    rintro e w2 ⟨rfl, hb⟩
    go_wp2_with fail
    go_ret2
    exact ⟨_, rfl, ⟨own_none _ _ _ _ _, by simp, fun n hn => (by cases hn)⟩, bthen hA hb⟩
  | true =>
    have hG := good_of hg
    have HN : Hid (idleR sig b = idleN b (linksN b)) := by show _ = _; unfold idleR; rw [hg]; rfl
    rw [HN.out]
    have ho := hG.outer16
    have hed := hG.edges
    have HG : Hid (Good sig b) := hG
    have hln : (linksN b : Int) = b.edges + b.outer.length := by unfold linksN; omega
    have hl30 : linksN b ≤ 24 := by omega
    have hwr : IntKind.i64.wrap (b.edges + (b.outer.length : Int)) = b.edges + (b.outer.length : Int) := Go.IntWalk.i64_in _ (by omega)
    clear hG
    go_enter Tryd.func33, Tryd.ntmps33
    go_wp2_with fail
    refine (l2Good_ct _ _ sig b true _ hx hg).mono ?_
    rintro e w2 ⟨rfl, hb⟩
    have BA := BA.below hb
    have acc := acc.below hb
    have hb := bthen hA hb
    have hs0 := BA.lt
    have hs : w.heap.size + 1 ≤ (w2).heap.size := BA.lt
    have qA := BA.cell
    clear hg
    go_wp2_with fail
    clear qA
    obtain ⟨W1, hW1⟩ : ∃ W, W = w2 := ⟨_, rfl⟩
    rw [← hW1] at acc hb BA hs ⊢
    clear hW1 hx
    go_loopw [6, 7] (fun o i W => ∃ k : Nat, k ≤ linksN b ∧ i = .int .i64 k ∧ Below w.heap.size w W ∧ w.heap.size + 1 ≤ W.heap.size ∧ Box W w.heap.size #[.int .i64 b.roots, .slice a1 b.nodes.length c1, .slice a2 b.sites.length c2, .int .i64 b.edges, .slice a3 b.outer.length c3, .slice a4 b.inner.length c4] 41 ∧ Acc W (w.heap.size + 1) 3 1 o (intRows (idleN b k))) (fun _ i _ => linksN b - (intOf i).toNat)
    case atStart => exact ⟨0, Nat.zero_le _, rfl, hb, hs, BA, acc⟩
    case round =>
      clear acc hb hs BA
      obtain ⟨k, hk, rfl, hb, hs, BA, acc⟩ := hrel
      have hx := h.big.below hb
      obtain ⟨av, cv, rfl⟩ := acc.shape
      have HL : Hid ((intRows (idleN b k)).length = (idleN b k).length) := by show _ = _; simp [intRows]
      have hil := idleN_len b k
      rw [HL.out] at acc ⊢
      have qA := BA.cell
      by_cases hlt : k < linksN b
      · have hLI : I64 (k : Int) := by unfold I64; omega
        cases h1 : idleB b (k : Int) with
        | true =>
          have HT : Hid (intRows (idleN b (k + 1)) = intRows (idleN b k) ++ [[.int .i64 k]]) := by show _ = _; rw [idleN_yes h1]; simp [intRows]
          have HK : Hid ((idleN b k).length + 1 = (idleN b (k + 1)).length) := by show _ = _; rw [idleN_yes h1]; simp
          go_wp2_with fail
          refine (l2Idle_ct _ sig b (k : Int) true _ hx HG.out hLI h1).mono ?_
          rintro e w3 ⟨rfl, bb⟩
          have hs3 := bb.size
          have BA := BA.below bb
          have acc := acc.below bb
          have hb := bthen hb bb
          have hs : w.heap.size + 1 ≤ w3.heap.size := Nat.le_trans hs hs3
          clear hx h1 bb hs3 qA
          go_wp2_with (at_builtin; refine app1g _ _ rfl (.tmp 27) (.tmp 29) 27 rfl (w.heap.size + 1) 3 1 8 (.int .i64 0) Tryd.underlying27 inf_int rfl (by decide) (by decide) _ (intRows (idleN b k)) (by rfl) acc [.int .i64 k] _ rfl (by simp [Value.oneCell']) (by rfl) (by first | rfl | simp) (by rw [HL.out]; omega) hs ?_)
          intro g c2 w4 acc2 hg
          rw [HL.out, ← HT.out] at acc2
          rw [HL.out]
          have hb2 := grown_below hb acc hg (by omega) (by omega)
          have hs2 : w.heap.size + 1 ≤ w4.heap.size := Nat.le_trans hs hg.size
          have BA2 := BA.keep (grown_block acc hg (by omega) BA.lt)
          clear acc hg BA hb hs
          go_wp2_with fail
          go_roundw
          case rel => exact ⟨k + 1, by omega, by go_num, hb2, hs2, BA2, acc2⟩
          case measure => simp [intOf]; omega
        | false =>
          have HT : Hid (idleN b (k + 1) = idleN b k) := idleN_no h1
          go_wp2_with fail
          refine (l2Idle_ct _ sig b (k : Int) false _ hx HG.out hLI h1).mono ?_
          rintro e w3 ⟨rfl, bb⟩
          have acc := acc.below bb
          have BA := BA.below bb
          have hs3 := bb.size
          have hb := bthen hb bb
          clear hx h1 bb qA
          go_wp2_with fail
          go_roundw
          case rel => exact ⟨k + 1, by omega, by go_num, hb, Nat.le_trans hs hs3, BA, by rw [HT.out]; exact acc⟩
          case measure => simp [intOf]; omega
      · have e : k = linksN b := by omega
        subst e
        go_wp2_with fail
        go_ret2
        exact ⟨_, rfl, ⟨acc.own.mono (by omega), by omega, idleN_i64 b _ (by omega)⟩, hb⟩

set_option maxRecDepth 100000 in
set_option maxHeartbeats 4000000 in
theorem implIdleLinks_ct (vs v : Value) (sig : List Ctl) (b : Big) (w : World) (h : Ctx w vs v sig b) : Calls Tryd.prog 34 #[vs, v] w (GivesInts (idleR sig b) (goodB sig b) w) := by
  obtain ⟨a1, c1, a2, c2, a3, c3, a4, c4, rfl⟩ := h.big.shape
  have hA := balloc w (.cells #[.int .i64 b.roots, .slice a1 b.nodes.length c1, .slice a2 b.sites.length c2, .int .i64 b.edges, .slice a3 b.outer.length c3, .slice a4 b.inner.length c4] 41)
  have hx := h.below hA
  have BA : Box (w.alloc (.cells #[.int .i64 b.roots, .slice a1 b.nodes.length c1, .slice a2 b.sites.length c2, .int .i64 b.edges, .slice a3 b.outer.length c3, .slice a4 b.inner.length c4] 41)) w.heap.size #[.int .i64 b.roots, .slice a1 b.nodes.length c1, .slice a2 b.sites.length c2, .int .i64 b.edges, .slice a3 b.outer.length c3, .slice a4 b.inner.length c4] 41 := Box.new _ _ _
  cases hg : goodB sig b with
  | false =>
    have HN : Hid (idleR sig b = []) := by show _ = _; unfold idleR; rw [hg]; rfl
    rw [HN.out]
    go_enter Tryd.func34, Tryd.ntmps34
    go_wp2_with fail
    refine (implIsBigraph_ct _ _ sig b false _ hx hg).mono ?_
    rintro e w2 ⟨rfl, hb⟩
    go_wp2_with fail
    go_ret2
    exact ⟨_, rfl, ⟨own_none _ _ _ _ _, by simp, fun n hn => (by cases hn)⟩, bthen hA hb⟩
  | true =>
    have hG := good_of hg
    have HN : Hid (idleR sig b = idleN b (linksN b)) := by show _ = _; unfold idleR; rw [hg]; rfl
    rw [HN.out]
    have ho := hG.outer16
    have hed := hG.edges
    have HG : Hid (Good sig b) := hG
    have hln : (linksN b : Int) = b.edges + b.outer.length := by unfold linksN; omega
    have hl30 : linksN b ≤ 24 := by omega
    have hwr : IntKind.i64.wrap (b.edges + (b.outer.length : Int)) = b.edges + (b.outer.length : Int) := Go.IntWalk.i64_in _ (by omega)
    clear hG
    go_enter Tryd.func34, Tryd.ntmps34
    go_wp2_with fail
    refine (implIsBigraph_ct _ _ sig b true _ hx hg).mono ?_
    rintro e w2 ⟨rfl, hb⟩
    have BA := BA.below hb
    have hb := bthen hA hb
    have hs0 := BA.lt
    have acc : Acc (w2.alloc (.cells #[] 3)) (w.heap.size + 1) 3 1 (.slice (some ⟨w2.heap.size, 0, none⟩) 0 0) (intRows (idleN b 0)) := by
      simpa [intRows, idleN] using Acc.lit0 w2 (w.heap.size + 1) 3 1 (by omega)
    have hb := bthen hb (balloc w2 (.cells #[] 3))
    have BA := BA.alloc (.cells #[] 3)
    have hs : w.heap.size + 1 ≤ (w2.alloc (.cells #[] 3)).heap.size := BA.lt
    have qA := BA.cell
    clear hg
    go_wp2_with fail
    clear qA
    obtain ⟨W1, hW1⟩ : ∃ W, W = w2.alloc (.cells #[] 3) := ⟨_, rfl⟩
    rw [← hW1] at acc hb BA hs ⊢
    clear hW1 hx
    go_loopw [6, 19] (fun o i W => ∃ k : Nat, k ≤ linksN b ∧ i = .int .i64 k ∧ Below w.heap.size w W ∧ w.heap.size + 1 ≤ W.heap.size ∧ Box W w.heap.size #[.int .i64 b.roots, .slice a1 b.nodes.length c1, .slice a2 b.sites.length c2, .int .i64 b.edges, .slice a3 b.outer.length c3, .slice a4 b.inner.length c4] 41 ∧ Acc W (w.heap.size + 1) 3 1 o (intRows (idleN b k))) (fun _ i _ => linksN b - (intOf i).toNat)
    case atStart => exact ⟨0, Nat.zero_le _, rfl, hb, hs, BA, acc⟩
    case round =>
      clear acc hb hs BA
      obtain ⟨k, hk, rfl, hb, hs, BA, acc⟩ := hrel
      have hx := h.big.below hb
      obtain ⟨av, cv, rfl⟩ := acc.shape
      have HL : Hid ((intRows (idleN b k)).length = (idleN b k).length) := by show _ = _; simp [intRows]
      have hil := idleN_len b k
      rw [HL.out] at acc ⊢
      have qA := BA.cell
      by_cases hlt : k < linksN b
      · have hLI : I64 (k : Int) := by unfold I64; omega
        cases h1 : idleB b (k : Int) with
        | true =>
          have HT : Hid (intRows (idleN b (k + 1)) = intRows (idleN b k) ++ [[.int .i64 k]]) := by show _ = _; rw [idleN_yes h1]; simp [intRows]
          have HK : Hid ((idleN b k).length + 1 = (idleN b (k + 1)).length) := by show _ = _; rw [idleN_yes h1]; simp
          go_wp2_with fail
          refine (isIdle_ct _ sig b (k : Int) true _ hx HG.out hLI h1).mono ?_
          rintro e w3 ⟨rfl, bb⟩
          have hs3 := bb.size
          have BA := BA.below bb
          have acc := acc.below bb
          have hb := bthen hb bb
          have hs : w.heap.size + 1 ≤ w3.heap.size := Nat.le_trans hs hs3
          clear hx h1 bb hs3 qA
          go_wp2_with (at_builtin; refine app1g _ _ rfl (.tmp 25) (.tmp 27) 27 rfl (w.heap.size + 1) 3 1 8 (.int .i64 0) Tryd.underlying27 inf_int rfl (by decide) (by decide) _ (intRows (idleN b k)) (by rfl) acc [.int .i64 k] _ rfl (by simp [Value.oneCell']) (by rfl) (by first | rfl | simp) (by rw [HL.out]; omega) hs ?_)
          intro g c2 w4 acc2 hg
          rw [HL.out, ← HT.out] at acc2
          rw [HL.out]
          have hb2 := grown_below hb acc hg (by omega) (by omega)
          have hs2 : w.heap.size + 1 ≤ w4.heap.size := Nat.le_trans hs hg.size
          have BA2 := BA.keep (grown_block acc hg (by omega) BA.lt)
          clear acc hg BA hb hs
          go_wp2_with fail
          go_roundw
          case rel => exact ⟨k + 1, by omega, by go_num, hb2, hs2, BA2, acc2⟩
          case measure => simp [intOf]; omega
        | false =>
          have HT : Hid (idleN b (k + 1) = idleN b k) := idleN_no h1
          go_wp2_with fail
          refine (isIdle_ct _ sig b (k : Int) false _ hx HG.out hLI h1).mono ?_
          rintro e w3 ⟨rfl, bb⟩
          have acc := acc.below bb
          have BA := BA.below bb
          have hs3 := bb.size
          have hb := bthen hb bb
          clear hx h1 bb qA
          go_wp2_with fail
          go_roundw
          case rel => exact ⟨k + 1, by omega, by go_num, hb, Nat.le_trans hs hs3, BA, by rw [HT.out]; exact acc⟩
          case measure => simp [intOf]; omega
      · have e : k = linksN b := by omega
        subst e
        go_wp2_with fail
        go_ret2
        exact ⟨_, rfl, ⟨acc.own.mono (by omega), by omega, idleN_i64 b _ (by omega)⟩, hb⟩

end Go.Proofs.YtnfodhgffbcfaaaDoor
