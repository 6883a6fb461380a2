/- Permutations and merges. -/
import Derived.Test.YthbdmcobpcoajaaGreatDoorG2
import Derived.IntWalk
namespace Go.Proofs.YthbdmcobpcoajaaGreatDoor
open Go Go.RowKit Go.BigFrame

def neg (l : List Int) : List Int := l.map fun x => -1 - x
theorem neg_get {l : List Int} {k : Nat} {x : Int} (h : l[k]? = some x) : (neg l)[k]? = some (-1 - x) := by simp [neg, h]
theorem neg_length (l : List Int) : (neg l).length = l.length := by simp [neg]
def permP (l : List Int) : Big := ⟨l.length, [], neg l, 0, [], []⟩

set_option maxRecDepth 100000 in
set_option maxHeartbeats 1000000 in
theorem permutation_ct (l : List Int) (v : Value) (w : World) (h : IntsAt w v l) (hl : l.length ≤ 4) (hx : ∀ x ∈ l, -1000 ≤ x ∧ x ≤ 1000) :
    Calls Tryz.prog 60 #[v] w fun e w' => ∃ u bs, e = .returned u ∧ BigOwn w.heap.size w' u (permP l) bs ∧ bs.Nodup ∧ Below w.heap.size w w' := by
  obtain ⟨a, c, rfl, h1, h2, h3⟩ := h.open
  clear h
  go_enter Tryz.func60, Tryz.ntmps60
  go_wp2_with fail
  obtain ⟨W0, hW0⟩ : ∃ W, W = (w.alloc (.cells #[.int .i64 0, .slice none 0 0, .slice none 0 0, .int .i64 0, .slice none 0 0, .slice none 0 0] 34)).alloc (.cells #[.int .i64 l.length, .slice none 0 0, .slice none 0 0, .int .i64 0, .slice none 0 0, .slice none 0 0] 34) := ⟨_, rfl⟩
  rw [← hW0]
  have BA : Box W0 w.heap.size #[.int .i64 0, .slice none 0 0, .slice none 0 0, .int .i64 0, .slice none 0 0, .slice none 0 0] 34 := by rw [hW0]; exact (Box.new _ _ _).alloc _
  have BC : Box W0 (w.heap.size + 1) #[.int .i64 l.length, .slice none 0 0, .slice none 0 0, .int .i64 0, .slice none 0 0, .slice none 0 0] 34 := by rw [hW0]; exact Box.new' _ _ _ (by simp)
  have hb : Below w.heap.size w W0 := by rw [hW0]; exact bthen (balloc _ _) (balloc _ _)
  have hs : w.heap.size + 2 ≤ W0.heap.size := by rw [hW0]; simp
  clear hW0
  go_loopw [11] (fun i W => ∃ k : Nat, k ≤ l.length ∧ i = .int .i64 k ∧ Below w.heap.size w W ∧ w.heap.size + 2 ≤ W.heap.size ∧ Box W w.heap.size #[.int .i64 0, .slice none 0 0, .slice none 0 0, .int .i64 0, .slice none 0 0, .slice none 0 0] 34 ∧ ∃ vs, Box W (w.heap.size + 1) #[.int .i64 l.length, .slice none 0 0, vs, .int .i64 0, .slice none 0 0, .slice none 0 0] 34 ∧ Acc W (w.heap.size + 2) 3 1 vs (intRows ((neg l).take k))) (fun i _ => l.length - (intOf i).toNat)
  case atStart => exact ⟨0, Nat.zero_le _, rfl, hb, hs, BA, _, BC, Acc.nil _ _ _ _⟩
  case round =>
    clear BA BC hb hs W0
    obtain ⟨k, hk, rfl, hb, hs, BA, vs, BC, acc⟩ := hrel
    obtain ⟨av, cv, rfl⟩ := acc.shape
    rw [show (intRows ((neg l).take k)).length = k by simp [intRows, neg]; omega] at *
    by_cases hkl : k < l.length
    · obtain ⟨x, hx1⟩ := getElem?_of_lt hkl
      have HT : Hid (intRows ((neg l).take (k + 1)) = intRows ((neg l).take k) ++ [[.int .i64 (-1 - x)]]) := by show _ = _; rw [take_snoc_l (neg_get hx1)]; simp [intRows]
      have hxb := hx x (List.mem_of_getElem? hx1)
      obtain ⟨_, b, o, rfl, hc⟩ := h3 k x hx1
      have hc := (hb.cell (World.block_lt_of_cell? w _ hc)).trans hc
      have HL : Hid ((intRows ((neg l).take k)).length = k) := by show _ = _; simp [intRows, neg]; omega
      have q := BC.cell
      have f := BC.free
      clear h3 hx1
      go_wp2_with (at_builtin; refine app1 _ rfl (.tmp 16) (.tmp 19) 24 rfl (w.heap.size + 2) 3 1 8 (.int .i64 0) Tryz.underlying24 inf_int rfl (by decide) (by decide) _ (intRows ((neg l).take k)) rfl acc [.int .i64 (-1 - x)] _ rfl (by simp [Value.oneCell']) rfl (by rw [HL.out]; omega) hs ?_)
      intro g c2 w2 acc2 hg
      rw [HL.out, ← HT.out] at acc2
      rw [HL.out]
      have hb2 := grown_below hb acc hg (by omega) (by omega)
      have hs2 : w.heap.size + 2 ≤ w2.heap.size := Nat.le_trans hs hg.size
      have BA2 := BA.keep (grown_block acc hg (by omega) BA.lt)
      have BC2 := BC.keep (grown_block acc hg (by omega) BC.lt)
      clear acc hg BA BC q f hb hs
      have q := BC2.cell
      have f := BC2.free
      go_wp2_with fail
      go_roundw
      case rel => exact ⟨k + 1, by omega, by go_num, hb2.setCell (by simp) _, by simpa [size_setCell] using hs2, BA2.other _ (by simp), _, BC2.set 2 _, acc2.keep (fun j hj _ => heap_setCell_other _ _ _ _ (by simp; omega))⟩
      case measure => simp [intOf]; omega
    · have e : k = l.length := by omega
      subst e
      have hT : (neg l).take l.length = neg l := List.take_of_length_le (by rw [neg_length]; exact Nat.le_refl _)
      rw [hT] at acc
      clear hT
      have q := BC.cell
      have q0 := BA.cell
      have f0 := BA.free
      clear h3
      go_wp2_with fail
      refine bodyPost_ret (v := .agg #[.int .i64 l.length, .slice none 0 0, .slice av l.length cv, .int .i64 0, .slice none 0 0, .slice none 0 0]) (by simp [results, Tryz.results60, go_sem, q0]) rfl ⟨_, _, rfl, ⟨_, _, _, _, [], rfl, nds_none _ _, ⟨(acc.own.keep ?_).mono (Nat.le_add_right _ _), ?_, ?_⟩, strs_none _ _, wrs_none _ _, ?_, ?_, rfl⟩, ?_, ?_⟩
      · intro g hg; have := (acc.own.lt g hg); repeat rw [heap_setCell_other _ _ _ _ (by simp <;> omega)]
      · simp only [permP, neg_length]; omega
      · intro y hy; simp only [permP, neg, List.mem_map] at hy; obtain ⟨z, hz, rfl⟩ := hy; have := hx z hz; unfold I64; omega
      · unfold I64 permP; dsimp only; omega
      · unfold I64 permP; dsimp only; omega
      · cases av <;> cases l.length <;> simp [blks]
      · iterate 6 refine Below.setCell ?_ (by simp) _
        exact hb

set_option maxRecDepth 100000 in
set_option maxHeartbeats 1000000 in
theorem l3Permutation_ct (l : List Int) (v : Value) (w : World) (h : IntsAt w v l) (hl : l.length ≤ 4) (hx : ∀ x ∈ l, -1000 ≤ x ∧ x ≤ 1000) :
    Calls Tryz.prog 136 #[v] w fun e w' => ∃ u bs, e = .returned u ∧ BigOwn w.heap.size w' u (permP l) bs ∧ bs.Nodup ∧ Below w.heap.size w w' := by
  obtain ⟨a, c, rfl, h1, h2, h3⟩ := h.open
  clear h
  go_enter Tryz.func136, Tryz.ntmps136
  go_wp2_with fail
  obtain ⟨W0, hW0⟩ : ∃ W, W = (w.alloc (.cells #[.int .i64 0, .slice none 0 0, .slice none 0 0, .int .i64 0, .slice none 0 0, .slice none 0 0] 34)).alloc (.cells #[.int .i64 l.length, .slice none 0 0, .slice none 0 0, .int .i64 0, .slice none 0 0, .slice none 0 0] 34) := ⟨_, rfl⟩
  rw [← hW0]
  have BA : Box W0 w.heap.size #[.int .i64 0, .slice none 0 0, .slice none 0 0, .int .i64 0, .slice none 0 0, .slice none 0 0] 34 := by rw [hW0]; exact (Box.new _ _ _).alloc _
  have BC : Box W0 (w.heap.size + 1) #[.int .i64 l.length, .slice none 0 0, .slice none 0 0, .int .i64 0, .slice none 0 0, .slice none 0 0] 34 := by rw [hW0]; exact Box.new' _ _ _ (by simp)
  have hb : Below w.heap.size w W0 := by rw [hW0]; exact bthen (balloc _ _) (balloc _ _)
  have hs : w.heap.size + 2 ≤ W0.heap.size := by rw [hW0]; simp
  clear hW0
  go_loopw [4] (fun i W => ∃ k : Nat, k ≤ l.length ∧ i = .int .i64 k ∧ Below w.heap.size w W ∧ w.heap.size + 2 ≤ W.heap.size ∧ Box W w.heap.size #[.int .i64 0, .slice none 0 0, .slice none 0 0, .int .i64 0, .slice none 0 0, .slice none 0 0] 34 ∧ ∃ vs, Box W (w.heap.size + 1) #[.int .i64 l.length, .slice none 0 0, vs, .int .i64 0, .slice none 0 0, .slice none 0 0] 34 ∧ Acc W (w.heap.size + 2) 3 1 vs (intRows ((neg l).take k))) (fun i _ => l.length - (intOf i).toNat)
  case atStart => exact ⟨0, Nat.zero_le _, rfl, hb, hs, BA, _, BC, Acc.nil _ _ _ _⟩
  case round =>
    clear BA BC hb hs W0
    obtain ⟨k, hk, rfl, hb, hs, BA, vs, BC, acc⟩ := hrel
    obtain ⟨av, cv, rfl⟩ := acc.shape
    rw [show (intRows ((neg l).take k)).length = k by simp [intRows, neg]; omega] at *
    by_cases hkl : k < l.length
    · obtain ⟨x, hx1⟩ := getElem?_of_lt hkl
      have HT : Hid (intRows ((neg l).take (k + 1)) = intRows ((neg l).take k) ++ [[.int .i64 (-1 - x)]]) := by show _ = _; rw [take_snoc_l (neg_get hx1)]; simp [intRows]
      have hxb := hx x (List.mem_of_getElem? hx1)
      obtain ⟨_, b, o, rfl, hc⟩ := h3 k x hx1
      have hc := (hb.cell (World.block_lt_of_cell? w _ hc)).trans hc
      have HL : Hid ((intRows ((neg l).take k)).length = k) := by show _ = _; simp [intRows, neg]; omega
      have q := BC.cell
      have f := BC.free
      clear h3 hx1
      go_wp2_with fail
      have q1 := BC.cell
      have hc1 := hc
      have n1 := BC.lt
      have n2 : b < wr.heap.size := World.block_lt_of_cell? wr _ hc
      have hd := bdrew (Below.refl wr.heap.size wr)
      have acc := acc.below hd
      have BA := BA.below hd
      have BC := BC.below hd
      have hb := bthen hb hd
      have hs : w.heap.size + 2 ≤ wr.drew.heap.size := Nat.le_trans hs hd.size
      have hc := (hd.cell (World.block_lt_of_cell? wr _ hc)).trans hc
      have q := BC.cell
      have f := BC.free
      clear hd
      have hwr : IntKind.i64.wrap (-1 - x) = -1 - x := Go.IntWalk.i64_in _ (by omega)
      go_region_law? ((refine app1s _ (by rfl) (.tmp 15) (.tmp 21) 24 (by rfl) (w.heap.size + 2) 3 1 8 (.int .i64 0) Tryz.underlying24 inf_int rfl (by decide) (by decide) _ (intRows ((neg l).take k)) (by rfl) acc [.int .i64 (-1 - x)] _ rfl (by simp [Value.oneCell']) (by rfl) (by rw [HL.out]; omega) hs ?_; intro g c2 w2 acc2 hg; rw [HL.out, ← HT.out] at acc2; rw [HL.out]; have hb2 := grown_below hb acc hg (by omega) (by omega); have hs2 : w.heap.size + 2 ≤ w2.heap.size := Nat.le_trans hs hg.size; have BA2 := BA.keep (grown_block acc hg (by omega) BA.lt); have BC2 := BC.keep (grown_block acc hg (by omega) BC.lt); clear acc hg BA BC q f hb hs q1 hc1 n1 n2; have q := BC2.cell; have f := BC2.free))
      all_goals (
        go_wp2_with fail
        go_roundw
        case rel => exact ⟨k + 1, by omega, by go_num, hb2.setCell (by simp) _, by simpa [size_setCell] using hs2, BA2.other _ (by simp), _, BC2.set 2 _, acc2.keep (fun j hj _ => heap_setCell_other _ _ _ _ (by simp; omega))⟩
        case measure => simp [intOf]; omega)
    · have e : k = l.length := by omega
      subst e
      have hT : (neg l).take l.length = neg l := List.take_of_length_le (by rw [neg_length]; exact Nat.le_refl _)
      rw [hT] at acc
      clear hT
      have q := BC.cell
      have q0 := BA.cell
      have f0 := BA.free
      clear h3
      go_wp2_with fail
      refine bodyPost_ret (v := .agg #[.int .i64 l.length, .slice none 0 0, .slice av l.length cv, .int .i64 0, .slice none 0 0, .slice none 0 0]) (by simp [results, Tryz.results136, go_sem, q0]) rfl ⟨_, _, rfl, ⟨_, _, _, _, [], rfl, nds_none _ _, ⟨(acc.own.keep ?_).mono (Nat.le_add_right _ _), ?_, ?_⟩, strs_none _ _, wrs_none _ _, ?_, ?_, rfl⟩, ?_, ?_⟩
      · intro g hg; have := (acc.own.lt g hg); repeat rw [heap_setCell_other _ _ _ _ (by simp <;> omega)]
      · simp only [permP, neg_length]; omega
      · intro y hy; simp only [permP, neg, List.mem_map] at hy; obtain ⟨z, hz, rfl⟩ := hy; have := hx z hz; unfold I64; omega
      · unfold I64 permP; dsimp only; omega
      · unfold I64 permP; dsimp only; omega
      · cases av <;> cases l.length <;> simp [blks]
      · iterate 6 refine Below.setCell ?_ (by simp) _
        exact hb

end Go.Proofs.YthbdmcobpcoajaaGreatDoor
