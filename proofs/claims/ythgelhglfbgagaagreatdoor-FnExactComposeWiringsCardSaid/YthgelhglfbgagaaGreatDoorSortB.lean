/- Copies and sorted names of longer lists. -/
import Derived.Test.YthgelhglfbgagaaGreatDoorG2
namespace Go.Proofs.YthgelhglfbgagaaGreatDoor
open Go Go.RowKit Go.BigFrame Go.Sort

theorem cloneB_ct (v : Value) (l : List ByteArray) (w : World) (h : StrsAt w v l) (h16 : l.length ≤ 1000) : Calls Tryz.prog 101 #[v] w fun e w' => ∃ v', e = .returned v' ∧ RowOwn w.heap.size w' v' 1 (strRows l) ∧ Below w.heap.size w w' := by
  obtain ⟨a, c, rfl, hlc, _, h3⟩ := h.open
  cases a with
  | none =>
    have hl : l = [] := by
      cases l with
      | nil => rfl
      | cons s l => obtain ⟨_, b, o, e, _⟩ := h3 0 s rfl; cases e
    subst hl
    refine (Tryz.slices_Clone_string_nil _ _ w).mono ?_
    rintro e w' ⟨rfl, rfl⟩
    exact ⟨_, rfl, ⟨fun r hr => (by cases hr), .inl ⟨rfl, _, _, rfl⟩⟩, Below.refl _ _⟩
  | some ad =>
    cases hl : l with
    | nil =>
      refine (Tryz.slices_Clone_string_zero ad c w).mono ?_
      rintro e w' ⟨v', rfl, hown, _, hb⟩
      exact ⟨_, rfl, RowOwn.of_owns (cs := []) hown rfl (fun r hr => by cases hr), hb⟩
    | cons s l' =>
      rw [← hl]
      have h0 := h3 0 s (by rw [hl]; rfl)
      obtain ⟨_, b, o, e, _⟩ := h0
      obtain rfl : ad = ⟨b, o, none⟩ := by simpa using e
      refine (Tryz.slices_Clone_string b o l.length c l w (Nat.le_refl _) (by omega) ?_).mono ?_
      · intro j hj
        obtain ⟨x, hx⟩ := getElem?_of_lt hj
        obtain ⟨_, b', o', e', hc⟩ := h3 j x hx
        obtain ⟨rfl, rfl⟩ : b = b' ∧ o = o' := by simpa using e'
        rw [hc, List.getD_eq_getElem?_getD, hx]; rfl
      · rintro e w' ⟨v', rfl, hown, _, hb⟩
        rw [List.take_length] at hown
        exact ⟨_, rfl, RowOwn.of_owns (cs := strRows l) (n := l.length) (by rw [strs_flat]; exact hown) (by simp [strRows]) (by simp [strRows]), hb⟩
set_option maxRecDepth 100000 in
set_option maxHeartbeats 2000000 in
theorem sortedNamesB_ct (v : Value) (l : List ByteArray) (w : World) (h : StrsAt w v l) (h16 : l.length ≤ 1000) : Calls Tryz.prog 152 #[v] w fun e w' => ∃ u, e = .returned u ∧ RowOwn w.heap.size w' u 1 (strRows (sortU l)) ∧ Below w.heap.size w w' := by
  obtain ⟨a, c, rfl, _, _, _⟩ := id h.open
  go_enter Tryz.func152, Tryz.ntmps152
  go_wp2_with fail
  refine (cloneB_ct _ l _ h h16).mono ?_
  rintro e w1 ⟨u1, rfl, hu1, hb1⟩
  rcases hu1.2 with ⟨hnil, p, cap, rfl⟩ | ⟨g, cap, cur, e1, rfl, hbase, hblk, hcap, htake⟩
  · have hl : l = [] := by cases l with | nil => rfl | cons s l => simp [strRows] at hnil
    subst hl
    go_wp2_with fail
    refine (Tryz.slices_Sort_string_none p cap _).mono ?_
    rintro e w2 ⟨rfl, rfl⟩
    go_wp2_with fail
    refine (Tryz.slices_Compact_string_empty p cap _).mono ?_
    rintro e w2 ⟨rfl, rfl⟩
    go_wp2_with fail
    go_ret
    exact ⟨_, rfl, hu1, hb1⟩
  · rw [strRows_len] at hcap htake ⊢
    have hlt := (Array.getElem?_eq_some_iff.1 hblk).1
    rw [← bytesL_len l] at hcap htake ⊢
    rw [Nat.mul_one, ← map_bytes] at htake
    obtain ⟨ss, hss⟩ : ∃ ss, ss = bytesL l := ⟨_, rfl⟩
    have hz : ss.length ≤ 1000 := by rw [hss, bytesL_len]; exact h16
    have hsz : ss.length ≤ cur.size := by
      have := congrArg List.length htake
      rw [← hss] at this
      simp only [List.length_take, List.length_map, Array.length_toList] at this
      omega
    have HE : Hid (strsL (Lib.compact (sortB ss)) = sortU l) := by show _ = _; rw [hss]; exact compact_sortU l
    rw [← hss] at hcap htake ⊢
    clear hss hu1
    go_wp2_with fail
    refine (Tryz.slices_Sort_string g 0 cap ss _ (holds_of_block hblk htake) hlt (by omega)).mono ?_
    rintro e w2 ⟨rfl, n, os, hw2⟩
    have hblk2 := heap_sorted (n := n) (os := os) (sortB ss).toArray hblk
    have hg2 := grownBy_sorted (w := w1) (g := g) (n := n) (os := os) (sortB ss).toArray
    have hw2' : w2 = grow (putRow encStr (Sort.ahead w1 n) g 0 (sortB ss).toArray) os := hw2
    rw [← hw2'] at hblk2 hg2
    have ht2 := take_putCells cur (sortB ss) (by rw [sortB_len]; exact hsz)
    have hb2 := hb1.grown hg2 hb1.size (fun k hk => by simp at hk; omega)
    have hlt2 := (Array.getElem?_eq_some_iff.1 hblk2).1
    clear hw2 hw2' hblk hg2 hb1 htake
    have hl2 := sortB_len ss
    obtain ⟨zs, hzs⟩ : ∃ zs, zs = sortB ss := ⟨_, rfl⟩
    rw [← hzs] at hblk2 ht2 hl2 HE
    rw [← hl2] at hcap hsz hz ⊢
    clear hzs hl2
    go_wp2_with fail
    refine (Tryz.slices_Compact_string g 0 cap zs _ (holds_of_block hblk2 ht2) (by omega) hcap).mono ?_
    rintro e w3 ⟨rfl, q, hw3⟩
    have hlen : (Lib.compact zs).length ≤ zs.length := by
      unfold Lib.compact Lib.compactUpTo
      rw [List.length_map]
      exact Nat.le_trans (List.length_filter_le _ _) (by simp)
    obtain ⟨ds, hds⟩ : ∃ ds, ds = Lib.compact zs ++ List.replicate (zs.length - (Lib.compact zs).length) [] := ⟨_, rfl⟩
    have hdl : ds.length = zs.length := by rw [hds]; simp; omega
    rw [← hds] at hw3
    have hblk3 := heap_sorted (n := q) (os := #[]) ds.toArray hblk2
    have hg3 := grownBy_sorted (w := w2) (g := g) (n := q) (os := #[]) ds.toArray
    rw [grow_empty, ← hw3] at hblk3 hg3
    have hcs : (putCells encStr 0 zs.toArray cur).size = cur.size := by simp [putCells]
    have ht3 := take_putCells (putCells encStr 0 zs.toArray cur) ds (by rw [hdl, hcs]; exact hsz)
    have hb3 := hb2.grown hg3 hb2.size (fun k hk => by simp at hk; omega)
    clear hw3
    go_wp2_with fail
    go_ret
    refine ⟨_, rfl, ⟨fun r hr => ?_, .inr ⟨g, cap, _, _, ?_, hbase, hblk3, ?_, ?_⟩⟩, hb3⟩
    · simp only [strRows, List.mem_map] at hr; obtain ⟨x, _, rfl⟩ := hr; rfl
    · rw [strRows_len, ← HE.out]; simp [strsL]
    · rw [strRows_len, ← HE.out]; simp [strsL]; omega
    · rw [strRows_len, ← HE.out, ← map_strs, Nat.mul_one]
      have e1 : (strsL (Lib.compact zs)).length = (Lib.compact zs).length := by simp [strsL]
      rw [e1]
      have := congrArg (List.take (Lib.compact zs).length) ht3
      rw [List.take_take, Nat.min_eq_left (by omega)] at this
      rw [this, hds, List.map_append, List.take_left' (by simp)]
end Go.Proofs.YthgelhglfbgagaaGreatDoor
