/- The laws' comparisons: two values that read as the same data are called equal. -/
import Derived.Test.YtanndcclkmcfbaaDoorProg
import Derived.Test.YtanndcclkmcfbaaDoorData
namespace Go.Proofs.YtanndcclkmcfbaaDoor
open Go Go.RowKit Go.BigFrame

set_option maxHeartbeats 1000000 in
theorem eqControl_ct (s : ByteArray) (p k : Int) (w : World) :
    Calls Tryd.prog 28 #[.agg #[.string s, .int .i64 p, .int .i64 k], .agg #[.string s, .int .i64 p, .int .i64 k]] w fun e w' => e = .returned (.bool true) ∧ Below w.heap.size w w' := by
  go_enter Tryd.func28, Tryd.ntmps28
  go_wp2
  go_ret
  exact ⟨rfl, ((balloc w _).trans ((balloc _ _).mono (balloc w _).size))⟩

set_option maxHeartbeats 1000000 in
theorem eqWire_ct (s : ByteArray) (p : Int) (w : World) :
    Calls Tryd.prog 50 #[.agg #[.string s, .int .i64 p], .agg #[.string s, .int .i64 p]] w fun e w' => e = .returned (.bool true) ∧ Below w.heap.size w w' := by
  go_enter Tryd.func50, Tryd.ntmps50
  go_wp2
  go_ret
  exact ⟨rfl, ((balloc w _).trans ((balloc _ _).mono (balloc w _).size))⟩

set_option maxHeartbeats 1000000 in
theorem eqIntS_ct (v1 v2 : Value) (l : List Int) (w : World) (h : IntsAt w v1 l) (h' : IntsAt w v2 l) :
    Calls Tryd.prog 26 #[v1, v2] w fun e w' => e = .returned (.bool true) ∧ Below w.heap.size w w' := by
  obtain ⟨a1, c1, rfl, _, hl, h1⟩ := h.open
  obtain ⟨a2, c2, rfl, _, _, h2⟩ := h'.open
  clear h h'
  go_enter Tryd.func26, Tryd.ntmps26
  go_wp2
  go_loopw [5] (fun i wr => ∃ k : Nat, k ≤ l.length ∧ i = .int .i64 k ∧ Below w.heap.size w wr) (fun i _ => l.length - (intOf i).toNat)
  case atStart => exact ⟨0, Nat.zero_le _, rfl, Below.refl _ _⟩
  case round =>
    obtain ⟨k, hk, rfl, hb⟩ := hrel
    by_cases hkl : k < l.length
    · obtain ⟨x, hx⟩ := getElem?_of_lt hkl
      obtain ⟨_, b1, o1, rfl, hc0⟩ := h1 k x hx
      obtain ⟨_, b2, o2, rfl, hd0⟩ := h2 k x hx
      have gc0 := fun y => gr_cell (w := wr) ((hb.cell (World.block_lt_of_cell? w _ hc0)).trans hc0) y
      have gd0 := fun y => gr_cell (w := wr) ((hb.cell (World.block_lt_of_cell? w _ hd0)).trans hd0) y
      clear hc0 hd0
      clear h1 h2 hx
      go_wp2
      refine wp_region_gr (by kernel_rfl) (by kernel_rfl) ?_
      repeat (go_big_quiet_step (fail))
      refine wpQuiet_nil ?_
      intro w2 hb2
      go_wp2
      go_roundw
      case rel => exact ⟨k + 1, by omega, by go_num, bthen hb hb2⟩
      case measure => simp [intOf]; omega
    · clear h1 h2
      go_wp2
      go_ret
      exact ⟨rfl, hb⟩

set_option maxHeartbeats 1000000 in
theorem eqStringS_ct (v1 v2 : Value) (l : List ByteArray) (w : World) (h : StrsAt w v1 l) (h' : StrsAt w v2 l) :
    Calls Tryd.prog 13 #[v1, v2] w fun e w' => e = .returned (.bool true) ∧ Below w.heap.size w w' := by
  obtain ⟨a1, c1, rfl, _, hl, h1⟩ := h.open
  obtain ⟨a2, c2, rfl, _, _, h2⟩ := h'.open
  clear h h'
  go_enter Tryd.func13, Tryd.ntmps13
  go_wp2
  go_loopw [5] (fun i wr => ∃ k : Nat, k ≤ l.length ∧ i = .int .i64 k ∧ Below w.heap.size w wr) (fun i _ => l.length - (intOf i).toNat)
  case atStart => exact ⟨0, Nat.zero_le _, rfl, Below.refl _ _⟩
  case round =>
    obtain ⟨k, hk, rfl, hb⟩ := hrel
    by_cases hkl : k < l.length
    · obtain ⟨x, hx⟩ := getElem?_of_lt hkl
      obtain ⟨_, b1, o1, rfl, hc0⟩ := h1 k x hx
      obtain ⟨_, b2, o2, rfl, hd0⟩ := h2 k x hx
      have gc0 := fun y => gr_cell (w := wr) ((hb.cell (World.block_lt_of_cell? w _ hc0)).trans hc0) y
      have gd0 := fun y => gr_cell (w := wr) ((hb.cell (World.block_lt_of_cell? w _ hd0)).trans hd0) y
      clear hc0 hd0
      clear h1 h2 hx
      go_wp2
      refine wp_region_gr (by kernel_rfl) (by kernel_rfl) ?_
      repeat (go_big_quiet_step (fail))
      refine wpQuiet_nil ?_
      intro w2 hb2
      go_wp2
      go_roundw
      case rel => exact ⟨k + 1, by omega, by go_num, bthen hb hb2⟩
      case measure => simp [intOf]; omega
    · clear h1 h2
      go_wp2
      go_ret
      exact ⟨rfl, hb⟩

set_option maxHeartbeats 1000000 in
theorem eqControlS_ct (v1 v2 : Value) (l : List Ctl) (w : World) (h : CtlsAt w v1 l) (h' : CtlsAt w v2 l) :
    Calls Tryd.prog 12 #[v1, v2] w fun e w' => e = .returned (.bool true) ∧ Below w.heap.size w w' := by
  obtain ⟨a1, c1, rfl, _, hl, h1⟩ := h.open
  obtain ⟨a2, c2, rfl, _, _, h2⟩ := h'.open
  clear h h'
  go_enter Tryd.func12, Tryd.ntmps12
  go_wp2
  go_loopw [5] (fun i wr => ∃ k : Nat, k ≤ l.length ∧ i = .int .i64 k ∧ Below w.heap.size w wr) (fun i _ => l.length - (intOf i).toNat)
  case atStart => exact ⟨0, Nat.zero_le _, rfl, Below.refl _ _⟩
  case round =>
    obtain ⟨k, hk, rfl, hb⟩ := hrel
    by_cases hkl : k < l.length
    · obtain ⟨x, hx⟩ := getElem?_of_lt hkl
      obtain ⟨_, _, _, b1, o1, rfl, hc0, hc1, hc2⟩ := h1 k x hx
      obtain ⟨_, _, _, b2, o2, rfl, hd0, hd1, hd2⟩ := h2 k x hx
      have gc0 := fun y => gr_cell (w := wr) ((hb.cell (World.block_lt_of_cell? w _ hc0)).trans hc0) y
      have gc1 := fun y => gr_cell (w := wr) ((hb.cell (World.block_lt_of_cell? w _ hc1)).trans hc1) y
      have gc2 := fun y => gr_cell (w := wr) ((hb.cell (World.block_lt_of_cell? w _ hc2)).trans hc2) y
      have gd0 := fun y => gr_cell (w := wr) ((hb.cell (World.block_lt_of_cell? w _ hd0)).trans hd0) y
      have gd1 := fun y => gr_cell (w := wr) ((hb.cell (World.block_lt_of_cell? w _ hd1)).trans hd1) y
      have gd2 := fun y => gr_cell (w := wr) ((hb.cell (World.block_lt_of_cell? w _ hd2)).trans hd2) y
      clear hc0 hd0 hc1 hd1 hc2 hd2
      clear h1 h2 hx
      go_wp2
      refine wp_region_gr (by kernel_rfl) (by kernel_rfl) ?_
      repeat (go_big_quiet_step ((go_at_call 28; exact Calls.gr_of (eqControl_ct _ _ _ _))))
      refine wpQuiet_nil ?_
      intro w2 hb2
      go_wp2
      go_roundw
      case rel => exact ⟨k + 1, by omega, by go_num, bthen hb hb2⟩
      case measure => simp [intOf]; omega
    · clear h1 h2
      go_wp2
      go_ret
      exact ⟨rfl, hb⟩

set_option maxHeartbeats 1000000 in
theorem eqWireS_ct (v1 v2 : Value) (l : List Wr) (w : World) (h : WrsAt w v1 l) (h' : WrsAt w v2 l) :
    Calls Tryd.prog 27 #[v1, v2] w fun e w' => e = .returned (.bool true) ∧ Below w.heap.size w w' := by
  obtain ⟨a1, c1, rfl, _, hl, h1⟩ := h.open
  obtain ⟨a2, c2, rfl, _, _, h2⟩ := h'.open
  clear h h'
  go_enter Tryd.func27, Tryd.ntmps27
  go_wp2
  go_loopw [5] (fun i wr => ∃ k : Nat, k ≤ l.length ∧ i = .int .i64 k ∧ Below w.heap.size w wr) (fun i _ => l.length - (intOf i).toNat)
  case atStart => exact ⟨0, Nat.zero_le _, rfl, Below.refl _ _⟩
  case round =>
    obtain ⟨k, hk, rfl, hb⟩ := hrel
    by_cases hkl : k < l.length
    · obtain ⟨x, hx⟩ := getElem?_of_lt hkl
      obtain ⟨_, _, b1, o1, rfl, hc0, hc1⟩ := h1 k x hx
      obtain ⟨_, _, b2, o2, rfl, hd0, hd1⟩ := h2 k x hx
      have gc0 := fun y => gr_cell (w := wr) ((hb.cell (World.block_lt_of_cell? w _ hc0)).trans hc0) y
      have gc1 := fun y => gr_cell (w := wr) ((hb.cell (World.block_lt_of_cell? w _ hc1)).trans hc1) y
      have gd0 := fun y => gr_cell (w := wr) ((hb.cell (World.block_lt_of_cell? w _ hd0)).trans hd0) y
      have gd1 := fun y => gr_cell (w := wr) ((hb.cell (World.block_lt_of_cell? w _ hd1)).trans hd1) y
      clear hc0 hd0 hc1 hd1
      clear h1 h2 hx
      go_wp2
      refine wp_region_gr (by kernel_rfl) (by kernel_rfl) ?_
      repeat (go_big_quiet_step ((go_at_call 50; exact Calls.gr_of (eqWire_ct _ _ _))))
      refine wpQuiet_nil ?_
      intro w2 hb2
      go_wp2
      go_roundw
      case rel => exact ⟨k + 1, by omega, by go_num, bthen hb hb2⟩
      case measure => simp [intOf]; omega
    · clear h1 h2
      go_wp2
      go_ret
      exact ⟨rfl, hb⟩

set_option maxHeartbeats 1000000 in
theorem eqNode_ct (p k : Int) (v1 v2 : Value) (l : List Int) (w : World) (h1 : IntsAt w v1 l) (h2 : IntsAt w v2 l) :
    Calls Tryd.prog 49 #[.agg #[.int .i64 p, .int .i64 k, v1], .agg #[.int .i64 p, .int .i64 k, v2]] w fun e w' => e = .returned (.bool true) ∧ Below w.heap.size w w' := by
  have hA := bthen (balloc w (.cells #[.int .i64 p, .int .i64 k, v1] 62)) (balloc (w.alloc (.cells #[.int .i64 p, .int .i64 k, v1] 62)) (.cells #[.int .i64 p, .int .i64 k, v2] 62))
  have g1 := h1.below hA
  have g2 := h2.below hA
  go_enter Tryd.func49, Tryd.ntmps49
  go_wp2_with (go_at_call 26; refine (eqIntS_ct v1 v2 l _ g1 g2).mono ?_; rintro e w2 ⟨rfl, hb2⟩)
  go_ret
  exact ⟨rfl, bthen hA hb2⟩

set_option maxHeartbeats 1000000 in
theorem eqNodeS_ct (v1 v2 : Value) (l : List Nd) (w : World) (h : NdsAt w v1 l) (h' : NdsAt w v2 l) :
    Calls Tryd.prog 25 #[v1, v2] w fun e w' => e = .returned (.bool true) ∧ Below w.heap.size w w' := by
  obtain ⟨a1, c1, rfl, _, hl, h1⟩ := h.open
  obtain ⟨a2, c2, rfl, _, _, h2⟩ := h'.open
  clear h h'
  go_enter Tryd.func25, Tryd.ntmps25
  go_wp2
  go_loopw [5] (fun i wr => ∃ k : Nat, k ≤ l.length ∧ i = .int .i64 k ∧ Below w.heap.size w wr) (fun i _ => l.length - (intOf i).toNat)
  case atStart => exact ⟨0, Nat.zero_le _, rfl, Below.refl _ _⟩
  case round =>
    obtain ⟨k, hk, rfl, hb⟩ := hrel
    by_cases hkl : k < l.length
    · obtain ⟨x, hx⟩ := getElem?_of_lt hkl
      obtain ⟨_, _, b1, o1, u1, rfl, hu1, hc0, hc1, hc2⟩ := h1 k x hx
      obtain ⟨_, _, b2, o2, u2, rfl, hu2, hd0, hd1, hd2⟩ := h2 k x hx
      have hu1 := hu1.below hb
      have hu2 := hu2.below hb
      have gc0 := fun y => gr_cell (w := wr) ((hb.cell (World.block_lt_of_cell? w _ hc0)).trans hc0) y
      have gc1 := fun y => gr_cell (w := wr) ((hb.cell (World.block_lt_of_cell? w _ hc1)).trans hc1) y
      have gc2 := fun y => gr_cell (w := wr) ((hb.cell (World.block_lt_of_cell? w _ hc2)).trans hc2) y
      have gd0 := fun y => gr_cell (w := wr) ((hb.cell (World.block_lt_of_cell? w _ hd0)).trans hd0) y
      have gd1 := fun y => gr_cell (w := wr) ((hb.cell (World.block_lt_of_cell? w _ hd1)).trans hd1) y
      have gd2 := fun y => gr_cell (w := wr) ((hb.cell (World.block_lt_of_cell? w _ hd2)).trans hd2) y
      clear hc0 hc1 hc2 hd0 hd1 hd2
      clear h1 h2 hx
      go_wp2
      refine wp_region_gr (by kernel_rfl) (by kernel_rfl) ?_
      repeat (go_big_quiet_step ((go_at_call 49; exact Calls.gr_of (eqNode_ct _ _ u1 u2 x.links _ (hu1.below (gr_below _ _)) (hu2.below (gr_below _ _))))))
      refine wpQuiet_nil ?_
      intro w2 hb2
      go_wp2
      go_roundw
      case rel => exact ⟨k + 1, by omega, by go_num, bthen hb hb2⟩
      case measure => simp [intOf]; omega
    · clear h1 h2
      go_wp2
      go_ret
      exact ⟨rfl, hb⟩

set_option maxHeartbeats 2000000 in
theorem eqBigraph_ct (v v' : Value) (b : Big) (w : World) (h : BigAt w v b) (h' : BigAt w v' b) :
    Calls Tryd.prog 11 #[v, v'] w fun e w' => e = .returned (.bool true) ∧ Below w.heap.size w w' := by
  obtain ⟨vn, vs, vo, vi, rfl, h1, h2, h3, h4, _, _⟩ := h
  obtain ⟨un, us, uo, ui, rfl, k1, k2, k3, k4, _, _⟩ := h'
  have hA := bthen (balloc w (.cells #[.int .i64 b.roots, vn, vs, .int .i64 b.edges, vo, vi] 30)) (balloc _ (.cells #[.int .i64 b.roots, un, us, .int .i64 b.edges, uo, ui] 30))
  have h1 := h1.below hA
  have h2 := h2.below hA
  have h3 := h3.below hA
  have h4 := h4.below hA
  have k1 := k1.below hA
  have k2 := k2.below hA
  have k3 := k3.below hA
  have k4 := k4.below hA
  have hz : w.heap.size + 1 < ((w.alloc (.cells #[.int .i64 b.roots, vn, vs, .int .i64 b.edges, vo, vi] 30)).alloc (.cells #[.int .i64 b.roots, un, us, .int .i64 b.edges, uo, ui] 30)).heap.size := by simp
  have hy : w.heap.size < ((w.alloc (.cells #[.int .i64 b.roots, vn, vs, .int .i64 b.edges, vo, vi] 30)).alloc (.cells #[.int .i64 b.roots, un, us, .int .i64 b.edges, uo, ui] 30)).heap.size := by simp; omega
  go_enter Tryd.func11, Tryd.ntmps11
  go_wp2_with (first | (go_at_call 25; refine (eqNodeS_ct vn un _ _ h1 k1).mono ?_; rintro e w2 ⟨rfl, hb2⟩; have hc2 := bcell hb2; have hz2 := bsize hb2 hz; have hy2 := bsize hb2 hy) | (go_at_call 26; refine (eqIntS_ct vs us _ _ (h2.below hb2) (k2.below hb2)).mono ?_; rintro e w3 ⟨rfl, hb3⟩; have hc3 := bcell hb3; have hz3 := bsize hb3 hz2; have hy3 := bsize hb3 hy2) | (go_at_call 13; refine (eqStringS_ct vo uo _ _ (h3.below (bthen hb2 hb3)) (k3.below (bthen hb2 hb3))).mono ?_; rintro e w4 ⟨rfl, hb4⟩; have hc4 := bcell hb4; have hz4 := bsize hb4 hz3; have hy4 := bsize hb4 hy3) | (go_at_call 27; refine (eqWireS_ct vi ui _ _ (h4.below (bthen hb2 (bthen hb3 hb4))) (k4.below (bthen hb2 (bthen hb3 hb4)))).mono ?_; rintro e w5 ⟨rfl, hb5⟩))
  go_ret
  exact ⟨rfl, bthen hA (bthen hb2 (bthen hb3 (bthen hb4 hb5)))⟩

end Go.Proofs.YtanndcclkmcfbaaDoor
