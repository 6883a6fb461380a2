/- The laws' mark of a bigraph; and the laws' asking for marks. -/
import Derived.Test.YtcpakignoijphaaDoorMark
namespace Go.Proofs.YtcpakignoijphaaDoor
open Go Go.RowKit Go.BigFrame

set_option maxRecDepth 100000 in
set_option maxHeartbeats 2000000 in
theorem markBigraph_ct (v : Value) (b : Big) (bs : List Nat) (k : Int) (B : Nat) (w : World) (h : BigOwn B w v b bs) (hnd : bs.Nodup) (hk0 : 0 ≤ k) (hk1 : k + cntB b ≤ 536870912) :
    Calls Tryd.prog 47 #[v, .int .i64 k] w fun e w' => e = .returned (.int .i64 (k + cntB b)) ∧ BigOwn B w' v (markB k b) bs ∧ Only bs w w' := by
  have hlt := h.lt
  obtain ⟨vn, vs, vo, vi, bn, rfl, h1, h2, h3, h4, h5, h6, rfl⟩ := h
  have hs2 := h2.shape
  have hs3 : ∃ a c, vo = .slice a b.outer.length c := by simpa [strRows] using h3.1.shape
  have hs4 : ∃ a c, vi = .slice a b.inner.length c := by simpa using h4.1.shape
  rw [List.nodup_append, List.nodup_append, List.nodup_append] at hnd
  obtain ⟨hn1, ⟨hn2, ⟨hn3, hn4, d34⟩, d2⟩, d1⟩ := hnd
  have hA := balloc w (.cells #[.int .i64 b.roots, vn, vs, .int .i64 b.edges, vo, vi] 37)
  have BA : Box (w.alloc (.cells #[.int .i64 b.roots, vn, vs, .int .i64 b.edges, vo, vi] 37)) w.heap.size #[.int .i64 b.roots, vn, vs, .int .i64 b.edges, vo, vi] 37 := Box.new w _ _
  have hno : ∀ p, p ∈ bn ++ (blks vs ++ (blks vo ++ blks vi)) → w.heap.size ≠ p := fun p hp => by have := hlt p hp; omega
  have hg1 := h1.keep (keep_below hA (fun g hg => (h1.lt g hg).2))
  have hg2 := h2.keep (keep_below hA (fun g hg => (h2.lt g hg).2))
  have hg3 := h3.keep (keep_below hA (fun g hg => (h3.lt g hg).2))
  have hg4 := h4.keep (keep_below hA (fun g hg => (h4.lt g hg).2))
  have hon : Only (bn ++ (blks vs ++ (blks vo ++ blks vi))) w (w.alloc (.cells #[.int .i64 b.roots, vn, vs, .int .i64 b.edges, vo, vi] 37)) := .of_below hA _
  have hcn : cntB b = cntN b.nodes + (b.sites.length + (b.outer.length + 2 * b.inner.length)) := rfl
  have HCN : Hid (cntB b = cntN b.nodes + (b.sites.length + (b.outer.length + 2 * b.inner.length))) := rfl
  rw [hcn] at hk1
  clear hcn
  have HQ : Hid (k + cntN b.nodes + b.sites.length + b.outer.length + 2 * (b.inner.length : Int) = k + cntB b) := by show _ = _; rw [HCN.out]; omega
  clear h1 h2 h3 h4 hlt
  go_enter Tryd.func47, Tryd.ntmps47
  go_wp2_with fail
  refine (markNodeS_ct vn b.nodes bn k B _ hg1 hn1 hk0 (by omega)).mono ?_
  rintro e w2 ⟨rfl, m1, o1⟩
  have BA := BA.keep (o1.block _ BA.lt (fun hm => hno _ (by simp [hm]) rfl))
  have hg2 := hg2.keep (fun p hp => o1.block p (hg2.lt p hp).2 (fun hm => d1 p hm p (by simp [hp]) rfl))
  have hg3 := hg3.keep (fun p hp => o1.block p (hg3.lt p hp).2 (fun hm => d1 p hm p (by simp [hp]) rfl))
  have hg4 := hg4.keep (fun p hp => o1.block p (hg4.lt p hp).2 (fun hm => d1 p hm p (by simp [hp]) rfl))
  have hon := hon.trans (o1.mono (fun p hp => List.mem_append_left _ hp))
  clear o1
  have rA := BA.cell
  go_wp2_with fail
  clear rA
  refine (markIntS_ct vs b.sites _ B _ hg2 (by omega) (by omega)).mono ?_
  rintro e w3 ⟨rfl, m2, o2⟩
  have BA := BA.keep (o2.block _ BA.lt (fun hm => hno _ (by simp [hm]) rfl))
  have m1 := m1.keep (fun p hp => o2.block p (m1.lt p hp).2 (fun hm => d1 p hp p (by simp [hm]) rfl))
  have hg3 := hg3.keep (fun p hp => o2.block p (hg3.lt p hp).2 (fun hm => d2 p hm p (by simp [hp]) rfl))
  have hg4 := hg4.keep (fun p hp => o2.block p (hg4.lt p hp).2 (fun hm => d2 p hm p (by simp [hp]) rfl))
  have hon := hon.trans (o2.mono (fun p hp => by simp [hp]))
  clear o2
  have rA := BA.cell
  go_wp2_with fail
  clear rA
  refine (markStringS_ct vo b.outer _ B _ hg3 (by omega) (by omega)).mono ?_
  rintro e w4 ⟨rfl, m3, o3⟩
  have BA := BA.keep (o3.block _ BA.lt (fun hm => hno _ (by simp [hm]) rfl))
  have m1 := m1.keep (fun p hp => o3.block p (m1.lt p hp).2 (fun hm => d1 p hp p (by simp [hm]) rfl))
  have m2 := m2.keep (fun p hp => o3.block p (m2.lt p hp).2 (fun hm => d2 p hp p (by simp [hm]) rfl))
  have hg4 := hg4.keep (fun p hp => o3.block p (hg4.lt p hp).2 (fun hm => d34 p hm p hp rfl))
  have hon := hon.trans (o3.mono (fun p hp => by simp [hp]))
  clear o3
  have rA := BA.cell
  go_wp2_with fail
  clear rA
  refine (markWireS_ct vi b.inner _ B _ hg4 (by omega) (by omega)).mono ?_
  rintro e w5 ⟨rfl, m4, o4⟩
  have m1 := m1.keep (fun p hp => o4.block p (m1.lt p hp).2 (fun hm => d1 p hp p (by simp [hm]) rfl))
  have m2 := m2.keep (fun p hp => o4.block p (m2.lt p hp).2 (fun hm => d2 p hp p (by simp [hm]) rfl))
  have m3 := m3.keep (fun p hp => o4.block p (m3.lt p hp).2 (fun hm => d34 p hp p hm rfl))
  have hon := hon.trans (o4.mono (fun p hp => by simp [hp]))
  clear o4
  go_wp2
  go_ret
  exact ⟨ret_int HQ.out, ⟨vn, vs, vo, vi, bn, rfl, m1, m2, m3, m4, h5, h6, rfl⟩, hon⟩


set_option maxRecDepth 100000 in
set_option maxHeartbeats 2000000 in
theorem heldStringS_ct (v : Value) (l : List ByteArray) (k : Int) (w : World) (h : StrsAt w v (markS k l)) (hk0 : 0 ≤ k) (hk1 : k + (l.length : Int) ≤ 536870912) :
    Calls Tryd.prog 49 #[v, .int .i64 k] w fun e w' => e = .returned (.int .i64 (k + (l.length : Int))) ∧ Below w.heap.size w w' := by
  obtain ⟨a, c, rfl, _, _, h3⟩ := h.open
  rw [markS_len]
  clear h
  go_enter Tryd.func49, Tryd.ntmps49
  go_wp2
  go_loopw [1, 5] (fun q i wr => ∃ m : Nat, m ≤ l.length ∧ i = .int .i64 m ∧ q = .int .i64 (k + (m : Int)) ∧ Below w.heap.size w wr) (fun _ i _ => l.length - (intOf i).toNat)
  case atStart => exact ⟨0, Nat.zero_le _, rfl, by go_num, Below.refl _ _⟩
  case round =>
    obtain ⟨m, hm, rfl, rfl, hb⟩ := hrel
    by_cases hml : m < l.length
    · obtain ⟨_, b, o, rfl, hc0⟩ := h3 m _ (markS_get hml)
      have g0 := fun y => gr_cell (w := wr) ((hb.cell (World.block_lt_of_cell? w _ hc0)).trans hc0) y
      clear hc0
      clear h3
      go_wp2
      refine wp_region_gr (by kernel_rfl) (by kernel_rfl) ?_
      repeat (go_big_quiet_step ((go_at_call 89; exact Calls.gr_of (markText_ct _ _ (by omega)))))
      refine wpQuiet_nil ?_
      intro w2 hb2
      go_wp2
      go_roundw
      case rel => exact ⟨m + 1, by omega, by go_num, by go_num, bthen hb hb2⟩
      case measure => simp [intOf]; omega
    · have HQ : Hid ((k + (m : Int)) = k + (l.length : Int)) := by show _ = _; omega
      clear h3
      go_wp2
      go_ret
      exact ⟨ret_int HQ.out, hb⟩




end Go.Proofs.YtcpakignoijphaaDoor
