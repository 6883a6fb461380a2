/- The laws' comparisons: two values that read as the same data are called equal. -/
import Derived.Test.YtjkebiodabheiaaProg
import Derived.Test.YtjkebiodabheiaaData
namespace Go.Proofs.Ytjkebiodabheiaa
open Go Go.RowKit Go.BigFrame




set_option maxHeartbeats 1000000 in
theorem eqStringS_ct (v1 v2 : Value) (l : List ByteArray) (w : World) (h : StrsAt w v1 l) (h' : StrsAt w v2 l) :
    Calls Try.prog 8 #[v1, v2] w fun e w' => e = .returned (.bool true) ∧ Below w.heap.size w w' := by
  obtain ⟨a1, c1, rfl, _, hl, h1⟩ := h.open
  obtain ⟨a2, c2, rfl, _, _, h2⟩ := h'.open
  clear h h'
  go_enter Try.func8, Try.ntmps8
  go_wp2
  go_loopw [5] (fun i wr => ∃ k : Nat, k ≤ l.length ∧ i = .int .i64 k ∧ Below w.heap.size w wr) (fun i _ => l.length - (intOf i).toNat)
  case atStart => exact ⟨0, Nat.zero_le _, rfl, Below.refl _ _⟩
  case round =>
    obtain ⟨k, hk, rfl, hb⟩ := hrel
    by_cases hkl : k < l.length
    · obtain ⟨x, hx⟩ := getElem?_of_lt hkl
      obtain ⟨_, b1, o1, rfl, hc0⟩ := h1 k x hx
      obtain ⟨_, b2, o2, rfl, hd0⟩ := h2 k x hx
      have gc0 := fun y => gr_cell (w := wr) ((hb.cell (World.block_lt_of_cell? w _ hc0)).trans hc0) y
      have gd0 := fun y => gr_cell (w := wr) ((hb.cell (World.block_lt_of_cell? w _ hd0)).trans hd0) y
      clear hc0 hd0
      clear h1 h2 hx
      go_wp2
      refine wp_region_gr (by kernel_rfl) (by kernel_rfl) ?_
      repeat (go_big_quiet_step (fail))
      refine wpQuiet_nil ?_
      intro w2 hb2
      go_wp2
      go_roundw
      case rel => exact ⟨k + 1, by omega, by go_num, bthen hb hb2⟩
      case measure => simp [intOf]; omega
    · clear h1 h2
      go_wp2
      go_ret
      exact ⟨rfl, hb⟩






end Go.Proofs.Ytjkebiodabheiaa
