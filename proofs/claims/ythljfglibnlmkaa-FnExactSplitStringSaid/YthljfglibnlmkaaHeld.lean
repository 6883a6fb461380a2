/- The laws' mark of a bigraph; and the laws' asking for marks. -/
import Derived.Test.YthljfglibnlmkaaMark
namespace Go.Proofs.Ythljfglibnlmkaa
open Go Go.RowKit Go.BigFrame



set_option maxRecDepth 100000 in
set_option maxHeartbeats 2000000 in
theorem heldStringS_ct (v : Value) (l : List ByteArray) (k : Int) (w : World) (h : StrsAt w v (markS k l)) (hk0 : 0 ≤ k) (hk1 : k + (l.length : Int) ≤ 536870912) :
    Calls Try.prog 16 #[v, .int .i64 k] w fun e w' => e = .returned (.int .i64 (k + (l.length : Int))) ∧ Below w.heap.size w w' := by
  obtain ⟨a, c, rfl, _, _, h3⟩ := h.open
  rw [markS_len]
  clear h
  go_enter Try.func16, Try.ntmps16
  go_wp2
  go_loopw [1, 5] (fun q i wr => ∃ m : Nat, m ≤ l.length ∧ i = .int .i64 m ∧ q = .int .i64 (k + (m : Int)) ∧ Below w.heap.size w wr) (fun _ i _ => l.length - (intOf i).toNat)
  case atStart => exact ⟨0, Nat.zero_le _, rfl, by go_num, Below.refl _ _⟩
  case round =>
    obtain ⟨m, hm, rfl, rfl, hb⟩ := hrel
    by_cases hml : m < l.length
    · obtain ⟨_, b, o, rfl, hc0⟩ := h3 m _ (markS_get hml)
      have g0 := fun y => gr_cell (w := wr) ((hb.cell (World.block_lt_of_cell? w _ hc0)).trans hc0) y
      clear hc0
      clear h3
      go_wp2
      refine wp_region_gr (by kernel_rfl) (by kernel_rfl) ?_
      repeat (go_big_quiet_step ((go_at_call 25; exact Calls.gr_of (markText_ct _ _ (by omega)))))
      refine wpQuiet_nil ?_
      intro w2 hb2
      go_wp2
      go_roundw
      case rel => exact ⟨m + 1, by omega, by go_num, by go_num, bthen hb hb2⟩
      case measure => simp [intOf]; omega
    · have HQ : Hid ((k + (m : Int)) = k + (l.length : Int)) := by show _ = _; omega
      clear h3
      go_wp2
      go_ret
      exact ⟨ret_int HQ.out, hb⟩




end Go.Proofs.Ythljfglibnlmkaa
