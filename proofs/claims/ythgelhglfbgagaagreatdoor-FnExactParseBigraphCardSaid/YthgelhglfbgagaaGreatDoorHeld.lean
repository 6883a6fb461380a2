/- The laws' mark of a bigraph; and the laws' asking for marks. -/
import Derived.Test.YthgelhglfbgagaaGreatDoorMark
namespace Go.Proofs.YthgelhglfbgagaaGreatDoor
open Go Go.RowKit Go.BigFrame

set_option maxRecDepth 100000 in
set_option maxHeartbeats 2000000 in
theorem markBigraph_ct (v : Value) (b : Big) (bs : List Nat) (k : Int) (B : Nat) (w : World) (h : BigOwn B w v b bs) (hnd : bs.Nodup) (hk0 : 0 ≤ k) (hk1 : k + cntB b ≤ 536870912) :
    Calls Tryz.prog 12 #[v, .int .i64 k] w fun e w' => e = .returned (.int .i64 (k + cntB b)) ∧ BigOwn B w' v (markB k b) bs ∧ Only bs w w' := by
  have hlt := h.lt
  obtain ⟨vn, vs, vo, vi, bn, rfl, h1, h2, h3, h4, h5, h6, rfl⟩ := h
  have hs2 := h2.shape
  have hs3 : ∃ a c, vo = .slice a b.outer.length c := by simpa [strRows] using h3.1.shape
  have hs4 : ∃ a c, vi = .slice a b.inner.length c := by simpa using h4.1.shape
  rw [List.nodup_append, List.nodup_append, List.nodup_append] at hnd
  obtain ⟨hn1, ⟨hn2, ⟨hn3, hn4, d34⟩, d2⟩, d1⟩ := hnd
  have hA := balloc w (.cells #[.int .i64 b.roots, vn, vs, .int .i64 b.edges, vo, vi] 29)
  have BA : Box (w.alloc (.cells #[.int .i64 b.roots, vn, vs, .int .i64 b.edges, vo, vi] 29)) w.heap.size #[.int .i64 b.roots, vn, vs, .int .i64 b.edges, vo, vi] 29 := Box.new w _ _
  have hno : ∀ p, p ∈ bn ++ (blks vs ++ (blks vo ++ blks vi)) → w.heap.size ≠ p := fun p hp => by have := hlt p hp; omega
  have hg1 := h1.keep (keep_below hA (fun g hg => (h1.lt g hg).2))
  have hg2 := h2.keep (keep_below hA (fun g hg => (h2.lt g hg).2))
  have hg3 := h3.keep (keep_below hA (fun g hg => (h3.lt g hg).2))
  have hg4 := h4.keep (keep_below hA (fun g hg => (h4.lt g hg).2))
  have hon : Only (bn ++ (blks vs ++ (blks vo ++ blks vi))) w (w.alloc (.cells #[.int .i64 b.roots, vn, vs, .int .i64 b.edges, vo, vi] 29)) := .of_below hA _
  have hcn : cntB b = cntN b.nodes + (b.sites.length + (b.outer.length + 2 * b.inner.length)) := rfl
  have HCN : Hid (cntB b = cntN b.nodes + (b.sites.length + (b.outer.length + 2 * b.inner.length))) := rfl
  rw [hcn] at hk1
  clear hcn
  have HQ : Hid (k + cntN b.nodes + b.sites.length + b.outer.length + 2 * (b.inner.length : Int) = k + cntB b) := by show _ = _; rw [HCN.out]; omega
  clear h1 h2 h3 h4 hlt
  go_enter Tryz.func12, Tryz.ntmps12
  go_wp2_with fail
  refine (markNodeS_ct vn b.nodes bn k B _ hg1 hn1 hk0 (by omega)).mono ?_
  rintro e w2 ⟨rfl, m1, o1⟩
  have BA := BA.keep (o1.block _ BA.lt (fun hm => hno _ (by simp [hm]) rfl))
  have hg2 := hg2.keep (fun p hp => o1.block p (hg2.lt p hp).2 (fun hm => d1 p hm p (by simp [hp]) rfl))
  have hg3 := hg3.keep (fun p hp => o1.block p (hg3.lt p hp).2 (fun hm => d1 p hm p (by simp [hp]) rfl))
  have hg4 := hg4.keep (fun p hp => o1.block p (hg4.lt p hp).2 (fun hm => d1 p hm p (by simp [hp]) rfl))
  have hon := hon.trans (o1.mono (fun p hp => List.mem_append_left _ hp))
  clear o1
  have rA := BA.cell
  go_wp2_with fail
  clear rA
  refine (markIntS_ct vs b.sites _ B _ hg2 (by omega) (by omega)).mono ?_
  rintro e w3 ⟨rfl, m2, o2⟩
  have BA := BA.keep (o2.block _ BA.lt (fun hm => hno _ (by simp [hm]) rfl))
  have m1 := m1.keep (fun p hp => o2.block p (m1.lt p hp).2 (fun hm => d1 p hp p (by simp [hm]) rfl))
  have hg3 := hg3.keep (fun p hp => o2.block p (hg3.lt p hp).2 (fun hm => d2 p hm p (by simp [hp]) rfl))
  have hg4 := hg4.keep (fun p hp => o2.block p (hg4.lt p hp).2 (fun hm => d2 p hm p (by simp [hp]) rfl))
  have hon := hon.trans (o2.mono (fun p hp => by simp [hp]))
  clear o2
  have rA := BA.cell
  go_wp2_with fail
  clear rA
  refine (markStringS_ct vo b.outer _ B _ hg3 (by omega) (by omega)).mono ?_
  rintro e w4 ⟨rfl, m3, o3⟩
  have BA := BA.keep (o3.block _ BA.lt (fun hm => hno _ (by simp [hm]) rfl))
  have m1 := m1.keep (fun p hp => o3.block p (m1.lt p hp).2 (fun hm => d1 p hp p (by simp [hm]) rfl))
  have m2 := m2.keep (fun p hp => o3.block p (m2.lt p hp).2 (fun hm => d2 p hp p (by simp [hm]) rfl))
  have hg4 := hg4.keep (fun p hp => o3.block p (hg4.lt p hp).2 (fun hm => d34 p hm p hp rfl))
  have hon := hon.trans (o3.mono (fun p hp => by simp [hp]))
  clear o3
  have rA := BA.cell
  go_wp2_with fail
  clear rA
  refine (markWireS_ct vi b.inner _ B _ hg4 (by omega) (by omega)).mono ?_
  rintro e w5 ⟨rfl, m4, o4⟩
  have m1 := m1.keep (fun p hp => o4.block p (m1.lt p hp).2 (fun hm => d1 p hp p (by simp [hm]) rfl))
  have m2 := m2.keep (fun p hp => o4.block p (m2.lt p hp).2 (fun hm => d2 p hp p (by simp [hm]) rfl))
  have m3 := m3.keep (fun p hp => o4.block p (m3.lt p hp).2 (fun hm => d34 p hp p hm rfl))
  have hon := hon.trans (o4.mono (fun p hp => by simp [hp]))
  clear o4
  go_wp2
  go_ret
  exact ⟨ret_int HQ.out, ⟨vn, vs, vo, vi, bn, rfl, m1, m2, m3, m4, h5, h6, rfl⟩, hon⟩

set_option maxRecDepth 100000 in
set_option maxHeartbeats 2000000 in
theorem heldIntS_ct (v : Value) (l : List Int) (k : Int) (w : World) (h : IntsAt w v (markI k l)) (hk0 : 0 ≤ k) (hk1 : k + (l.length : Int) ≤ 536870912) :
    Calls Tryz.prog 49 #[v, .int .i64 k] w fun e w' => e = .returned (.int .i64 (k + (l.length : Int))) ∧ Below w.heap.size w w' := by
  obtain ⟨a, c, rfl, _, _, h3⟩ := h.open
  rw [markI_len]
  clear h
  go_enter Tryz.func49, Tryz.ntmps49
  go_wp2
  go_loopw [1, 5] (fun q i wr => ∃ m : Nat, m ≤ l.length ∧ i = .int .i64 m ∧ q = .int .i64 (k + (m : Int)) ∧ Below w.heap.size w wr) (fun _ i _ => l.length - (intOf i).toNat)
  case atStart => exact ⟨0, Nat.zero_le _, rfl, by go_num, Below.refl _ _⟩
  case round =>
    obtain ⟨m, hm, rfl, rfl, hb⟩ := hrel
    by_cases hml : m < l.length
    · obtain ⟨_, b, o, rfl, hc⟩ := h3 m _ (markI_get hml)
      have hc := (hb.cell (World.block_lt_of_cell? w _ hc)).trans hc
      clear h3
      go_wp2
      go_roundw
      case rel => exact ⟨m + 1, by omega, by go_num, by go_num, hb⟩
      case measure => simp [intOf]; omega
    · have HQ : Hid ((k + (m : Int)) = k + (l.length : Int)) := by show _ = _; omega
      clear h3
      go_wp2
      go_ret
      exact ⟨ret_int HQ.out, hb⟩

set_option maxRecDepth 100000 in
set_option maxHeartbeats 2000000 in
theorem heldStringS_ct (v : Value) (l : List ByteArray) (k : Int) (w : World) (h : StrsAt w v (markS k l)) (hk0 : 0 ≤ k) (hk1 : k + (l.length : Int) ≤ 536870912) :
    Calls Tryz.prog 50 #[v, .int .i64 k] w fun e w' => e = .returned (.int .i64 (k + (l.length : Int))) ∧ Below w.heap.size w w' := by
  obtain ⟨a, c, rfl, _, _, h3⟩ := h.open
  rw [markS_len]
  clear h
  go_enter Tryz.func50, Tryz.ntmps50
  go_wp2
  go_loopw [1, 5] (fun q i wr => ∃ m : Nat, m ≤ l.length ∧ i = .int .i64 m ∧ q = .int .i64 (k + (m : Int)) ∧ Below w.heap.size w wr) (fun _ i _ => l.length - (intOf i).toNat)
  case atStart => exact ⟨0, Nat.zero_le _, rfl, by go_num, Below.refl _ _⟩
  case round =>
    obtain ⟨m, hm, rfl, rfl, hb⟩ := hrel
    by_cases hml : m < l.length
    · obtain ⟨_, b, o, rfl, hc0⟩ := h3 m _ (markS_get hml)
      have g0 := fun y => gr_cell (w := wr) ((hb.cell (World.block_lt_of_cell? w _ hc0)).trans hc0) y
      clear hc0
      clear h3
      go_wp2
      refine wp_region_gr (by kernel_rfl) (by kernel_rfl) ?_
      repeat (go_big_quiet_step ((go_at_call 43; exact Calls.gr_of (markText_ct _ _ (by omega)))))
      refine wpQuiet_nil ?_
      intro w2 hb2
      go_wp2
      go_roundw
      case rel => exact ⟨m + 1, by omega, by go_num, by go_num, bthen hb hb2⟩
      case measure => simp [intOf]; omega
    · have HQ : Hid ((k + (m : Int)) = k + (l.length : Int)) := by show _ = _; omega
      clear h3
      go_wp2
      go_ret
      exact ⟨ret_int HQ.out, hb⟩

set_option maxRecDepth 100000 in
set_option maxHeartbeats 2000000 in
theorem heldWireS_ct (v : Value) (l : List Wr) (k : Int) (w : World) (h : WrsAt w v (markW k l)) (hk0 : 0 ≤ k) (hk1 : k + 2 * (l.length : Int) ≤ 536870912) :
    Calls Tryz.prog 51 #[v, .int .i64 k] w fun e w' => e = .returned (.int .i64 (k + 2 * (l.length : Int))) ∧ Below w.heap.size w w' := by
  obtain ⟨a, c, rfl, _, _, h3⟩ := h.open
  rw [markW_len]
  clear h
  go_enter Tryz.func51, Tryz.ntmps51
  go_wp2
  go_loopw [1, 5] (fun q i wr => ∃ m : Nat, m ≤ l.length ∧ i = .int .i64 m ∧ q = .int .i64 (k + 2 * (m : Int)) ∧ Below w.heap.size w wr) (fun _ i _ => l.length - (intOf i).toNat)
  case atStart => exact ⟨0, Nat.zero_le _, rfl, by go_num, Below.refl _ _⟩
  case round =>
    obtain ⟨m, hm, rfl, rfl, hb⟩ := hrel
    by_cases hml : m < l.length
    · obtain ⟨_, _, b, o, rfl, hc0, hc1⟩ := h3 m _ (markW_get hml)
      have hc2 := (hb.cell (World.block_lt_of_cell? w _ hc1)).trans hc1
      have g0 := fun y => gr_cell (w := wr) ((hb.cell (World.block_lt_of_cell? w _ hc0)).trans hc0) y
      have g1 := fun y => gr_cell (w := wr) ((hb.cell (World.block_lt_of_cell? w _ hc1)).trans hc1) y
      clear hc0 hc1
      clear h3
      go_wp2
      refine wp_region_gr (by kernel_rfl) (by kernel_rfl) ?_
      repeat (go_big_quiet_step ((go_at_call 43; exact Calls.gr_of (markText_ct _ _ (by omega)))))
      refine wpQuiet_nil ?_
      intro w2 hb2
      have hc1 := (bcell hb2 _ _ (World.block_lt_of_cell? wr _ hc2)).trans hc2
      clear hc2
      go_wp2
      go_roundw
      case rel => exact ⟨m + 1, by omega, by go_num, by go_num, bthen hb hb2⟩
      case measure => simp [intOf]; omega
    · have HQ : Hid ((k + 2 * (m : Int)) = k + 2 * (l.length : Int)) := by show _ = _; omega
      clear h3
      go_wp2
      go_ret
      exact ⟨ret_int HQ.out, hb⟩

set_option maxRecDepth 100000 in
set_option maxHeartbeats 2000000 in
theorem heldNodeS_ct (v : Value) (l : List Nd) (k : Int) (w : World) (h : NdsAt w v (markN k l)) (hk0 : 0 ≤ k) (hk1 : k + cntN l ≤ 536870912) :
    Calls Tryz.prog 48 #[v, .int .i64 k] w fun e w' => e = .returned (.int .i64 (k + cntN l)) ∧ Below w.heap.size w w' := by
  obtain ⟨a, c, rfl, _, hl, h3⟩ := h.open
  rw [markN_len] at hl ⊢
  clear h
  go_enter Tryz.func48, Tryz.ntmps48
  go_wp2
  go_loopw [1, 5] (fun q i wr => ∃ m : Nat, m ≤ l.length ∧ i = .int .i64 m ∧ q = .int .i64 (k + cntN (l.take m)) ∧ Below w.heap.size w wr) (fun _ i _ => l.length - (intOf i).toNat)
  case atStart => exact ⟨0, Nat.zero_le _, rfl, by simp [cntN, sumOf], Below.refl _ _⟩
  case round =>
    obtain ⟨m, hm, rfl, rfl, hb⟩ := hrel
    by_cases hml : m < l.length
    · obtain ⟨x, hx⟩ := getElem?_of_lt hml
      obtain ⟨_, _, b, o, vl, rfl, hvl, hc0, hc1, hc2⟩ := h3 m _ (markN_get hx)
      have hvl := hvl.below hb
      have hc0 := (hb.cell (World.block_lt_of_cell? w _ hc0)).trans hc0
      have hc1 := (hb.cell (World.block_lt_of_cell? w _ hc1)).trans hc1
      have hc2 := (hb.cell (World.block_lt_of_cell? w _ hc2)).trans hc2
      have hq0 : cntN (l.take m) + (2 + x.links.length) ≤ cntN l := by
        have h1 := cntN_take_le l (m + 1)
        rw [cntN_take hx] at h1
        exact h1
      have HC : Hid (k + cntN (l.take (m + 1)) = k + cntN (l.take m) + 2 + x.links.length) := by
        show _ = _
        rw [cntN_take hx]; omega
      obtain ⟨K, hK⟩ : ∃ K : Int, K = k + cntN (l.take m) := ⟨_, rfl⟩
      have hK0 : 0 ≤ K := by omega
      have hK1 : K + 2 + x.links.length ≤ 536870912 := by omega
      rw [← hK] at HC hvl hc0 hc1 ⊢
      have hnn : ¬ K + 2 + x.links.length < 0 := by omega
      clear hK hq0 h3 hx
      go_wp2_with fail
      rw [show K + 1 + 1 = K + 2 by omega]
      refine (heldIntS_ct vl x.links (K + 2) _ hvl (by omega) (by omega)).mono ?_
      rintro e w3 ⟨rfl, hb3⟩
      go_wp2
      go_roundw
      case rel => exact ⟨m + 1, by omega, by go_num, by rw [HC.out], bthen hb hb3⟩
      case measure => simp [intOf]; omega
    · have HQ : Hid (k + cntN (l.take m) = k + cntN l) := by show _ = _; rw [List.take_of_length_le (by omega)]
      clear h3
      go_wp2
      go_ret
      exact ⟨ret_int HQ.out, hb⟩

set_option maxRecDepth 100000 in
set_option maxHeartbeats 2000000 in
theorem heldBigraph_ct (v : Value) (b : Big) (k : Int) (w : World) (h : BigAt w v (markB k b)) (hk0 : 0 ≤ k) (hk1 : k + cntB b ≤ 536870912) :
    Calls Tryz.prog 13 #[v, .int .i64 k] w fun e w' => e = .returned (.int .i64 (k + cntB b)) ∧ Below w.heap.size w w' := by
  obtain ⟨vn, vs, vo, vi, rfl, h1, h2, h3, h4, _, _⟩ := h
  dsimp only [markB] at h1 h2 h3 h4
  have hA := balloc w (.cells #[.int .i64 b.roots, vn, vs, .int .i64 b.edges, vo, vi] 29)
  have BA : Box (w.alloc (.cells #[.int .i64 b.roots, vn, vs, .int .i64 b.edges, vo, vi] 29)) w.heap.size #[.int .i64 b.roots, vn, vs, .int .i64 b.edges, vo, vi] 29 := Box.new w _ _
  have HCN : Hid (cntB b = cntN b.nodes + (b.sites.length + (b.outer.length + 2 * b.inner.length))) := rfl
  rw [HCN.out] at hk1
  have HQ : Hid (k + cntN b.nodes + b.sites.length + b.outer.length + 2 * (b.inner.length : Int) = k + cntB b) := by show _ = _; rw [HCN.out]; omega
  have h1 := h1.below hA
  have h2 := h2.below hA
  have h3 := h3.below hA
  have h4 := h4.below hA
  show Calls _ _ #[.agg #[.int .i64 b.roots, vn, vs, .int .i64 b.edges, vo, vi], .int .i64 k] _ _
  go_enter Tryz.func13, Tryz.ntmps13
  go_wp2_with fail
  refine (heldNodeS_ct vn b.nodes k _ h1 hk0 (by omega)).mono ?_
  rintro e w2 ⟨rfl, b2⟩
  have BA := BA.below b2
  have hA := bthen hA b2
  have h2 := h2.below b2
  have h3 := h3.below b2
  have h4 := h4.below b2
  clear b2 h1
  have rA := BA.cell
  go_wp2_with fail
  clear rA
  refine (heldIntS_ct vs b.sites _ _ h2 (by omega) (by omega)).mono ?_
  rintro e w3 ⟨rfl, b3⟩
  have BA := BA.below b3
  have hA := bthen hA b3
  have h3 := h3.below b3
  have h4 := h4.below b3
  clear b3 h2
  have rA := BA.cell
  go_wp2_with fail
  clear rA
  refine (heldStringS_ct vo b.outer _ _ h3 (by omega) (by omega)).mono ?_
  rintro e w4 ⟨rfl, b4⟩
  have BA := BA.below b4
  have hA := bthen hA b4
  have h4 := h4.below b4
  clear b4 h3
  have rA := BA.cell
  go_wp2_with fail
  clear rA
  refine (heldWireS_ct vi b.inner _ _ h4 (by omega) (by omega)).mono ?_
  rintro e w5 ⟨rfl, b5⟩
  have hA := bthen hA b5
  clear b5 h4
  go_wp2
  go_ret
  exact ⟨ret_int HQ.out, hA⟩

end Go.Proofs.YthgelhglfbgagaaGreatDoor
