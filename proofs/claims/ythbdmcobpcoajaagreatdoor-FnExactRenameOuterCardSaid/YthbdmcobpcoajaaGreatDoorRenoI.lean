/- Another outer name: the program's. -/
import Derived.Test.YthbdmcobpcoajaaGreatDoorRenoW
import Derived.Test.YthbdmcobpcoajaaGreatDoorRelink
import Derived.Test.YthbdmcobpcoajaaGreatDoorG4
import Derived.Deep.RegionHeld3
namespace Go.Proofs.YthbdmcobpcoajaaGreatDoor
open Go Go.RowKit Go.BigFrame

set_option maxRecDepth 100000 in
set_option maxHeartbeats 2000000 in
theorem rnCl_ct (p : Int) (s fr tt : ByteArray) (gf gt : Nat) {t1 t2 : TypeId} (W : World) (BF : Box W gf #[.string fr] t1) (BT : Box W gt #[.string tt] t2) : Calls Tryz.prog 192 (#[.agg #[.int .i64 p, .string s]] ++ #[.pointer (some ⟨gf, 0, none⟩), .pointer (some ⟨gt, 0, none⟩)]) W fun e w' => e = .returned (.agg #[.int .i64 (rnoT fr tt (p, s)).1, .string (rnoT fr tt (p, s)).2]) ∧ Below W.heap.size W w' := by
  show Calls Tryz.prog 192 #[.agg #[.int .i64 p, .string s], .pointer (some ⟨gf, 0, none⟩), .pointer (some ⟨gt, 0, none⟩)] W _
  have q1 := BF.cell
  have q2 := BT.cell
  have l1 := BF.lt
  have l2 := BT.lt
  by_cases e : s = fr
  · have HN : Hid (rnoT fr tt (p, s) = (p, tt)) := by show _ = _; unfold rnoT; rw [if_pos e]
    rw [HN.out]
    have hsb : (s.toList == fr.toList) = true := by rw [beq_data]; exact decide_eq_true e
    clear e
    go_enter Tryz.func192, Tryz.ntmps192
    go_wp2_with fail
    refine bodyPost_ret (v := .agg #[.int .i64 p, .string tt]) (by simp [results, Tryz.results192, go_sem]) rfl ⟨rfl, ?_⟩
    repeat (first | exact Below.refl _ _ | refine Below.alloc ?_ (by simp <;> omega) _ | refine Below.setCell ?_ (by simp <;> omega) _)
  · have HN : Hid (rnoT fr tt (p, s) = (p, s)) := by show _ = _; unfold rnoT; rw [if_neg e]
    rw [HN.out]
    have hsb : (s.toList == fr.toList) = false := by rw [beq_data]; exact decide_eq_false e
    clear e
    go_enter Tryz.func192, Tryz.ntmps192
    go_wp2_with fail
    refine bodyPost_ret (v := .agg #[.int .i64 p, .string s]) (by simp [results, Tryz.results192, go_sem]) rfl ⟨rfl, ?_⟩
    repeat (first | exact Below.refl _ _ | refine Below.alloc ?_ (by simp <;> omega) _ | refine Below.setCell ?_ (by simp <;> omega) _)
set_option maxRecDepth 100000 in
set_option maxHeartbeats 8000000 in
theorem renamed_ct (sig : List Ctl) (v : Value) (b : Big) (fr tt : ByteArray) (w : World) (h : BigAt w v b) (hG : Good sig b) (hc : Lib.containsS b.outer fr = true) (hn : nameB tt = true) (htz : tt.size ≤ 1073741824) : Calls Tryz.prog 125 #[v, .string fr, .string tt] w fun e w' => ∃ u bs, e = .returned u ∧ BigOwn w.heap.size w' u (rnoR b fr tt) bs ∧ bs.Nodup ∧ Below w.heap.size w w' := by
  obtain ⟨a1, c1, a2, c2, a3, c3, a4, c4, rfl⟩ := h.shape
  have h3 := h.parts
  obtain ⟨_, _, _, _, _, _, _, _, e0, _, _, h3, _, _, _⟩ := h3
  simp only [Value.agg.injEq, Array.mk.injEq, List.cons.injEq, and_true, true_and, Value.slice.injEq] at e0
  obtain ⟨⟨rfl, rfl⟩, ⟨rfl, rfl⟩, ⟨rfl, rfl⟩, rfl, rfl⟩ := e0
  have H3 := Lib.hid h3
  have hD := hG.bds
  have hol := hD.outer
  obtain ⟨L, hL⟩ : ∃ L, L = (without b.outer fr) ++ [tt] := ⟨_, rfl⟩
  have HWL : Hid ((without b.outer fr).length ≤ b.outer.length) := List.length_filter_le _ _
  have HLS := Lib.hid (show ∀ s ∈ L, s.size ≤ 1073741824 from fun s hs => by
    rw [hL] at hs
    rcases List.mem_append.1 hs with h | h
    · exact h3.2 s (List.mem_filter.1 h).1
    · rw [List.mem_singleton.1 h]; exact htz)
  have hL17 : L.length ≤ 17 := by rw [hL]; simp; have := HWL.out; omega
  have HLN : Hid ((strRows (without b.outer fr) ++ [[Value.string tt]]).length = L.length) := by show _ = _; rw [hL]; simp [strRows]
  have HLR : Hid (strRows (without b.outer fr) ++ [[Value.string tt]] = strRows L) := by show _ = _; rw [hL]; simp [strRows]
  have HMF := Lib.hid ((Lib.containsS_iff _ _).1 hc)
  have HSL : Hid ((sortU (renmL b fr tt)).length ≤ 16) := by have h1 := sortU_len (renmL b fr tt); rw [renmL_len] at h1; show _ ≤ _; omega
  have HREL0 := fun vo W (h : BigAt W (.agg #[.int .i64 b.roots, .slice a1 b.nodes.length c1, .slice a2 b.sites.length c2, .int .i64 b.edges, .slice a3 b.outer.length c3, .slice a4 b.inner.length c4]) b) (ho : StrsAt W vo L) (BF : Box W (w.heap.size + 1) #[.string fr] 9) (BT : Box W (w.heap.size + 2) #[.string tt] 9) => relinked_ct 192 #[.pointer (some ⟨w.heap.size + 1, 0, none⟩), .pointer (some ⟨w.heap.size + 2, 0, none⟩)] (by intros; rfl) (rnoT fr tt) (outF b (renmL b fr tt) (sortU (renmL b fr tt))) _ vo b b.edges L W h ho hD (by have := hD.edges; omega) (by omega) (fun l _ W' hb' => rnCl_ct _ _ _ _ _ _ W' (BF.below hb') (BT.below hb')) (fun l hu => by rw [hL]; exact rno_link hG hc hn hu) (fun l hu => outF_bd hD (used_bd hD hu) (by have := HSL.out; omega))
  have HAR : Hid (relB b b.edges (sortU L) (outF b (renmL b fr tt) (sortU (renmL b fr tt))) = (rnoR b fr tt)) := by show _ = _; rw [hL, rno_sort hG hc]; rfl
  rw [HAR.out] at HREL0
  have HREL := Lib.hid HREL0
  have hbig := Lib.hid h
  obtain ⟨W0, hW0⟩ : ∃ W, W = (((w.alloc (.cells #[.int .i64 b.roots, .slice a1 b.nodes.length c1, .slice a2 b.sites.length c2, .int .i64 b.edges, .slice a3 b.outer.length c3, .slice a4 b.inner.length c4] 34)).alloc (.cells #[.string fr] 9)).alloc (.cells #[.string tt] 9)).alloc (.cells #[.int .i64 0, .slice none 0 0, .slice none 0 0, .int .i64 0, .slice none 0 0, .slice none 0 0] 34) := ⟨_, rfl⟩
  have hb : Below w.heap.size w W0 := by rw [hW0]; exact bthen (balloc w _) (bthen (balloc _ _) (bthen (balloc _ _) (balloc _ _)))
  have BA : Box W0 w.heap.size #[.int .i64 b.roots, .slice a1 b.nodes.length c1, .slice a2 b.sites.length c2, .int .i64 b.edges, .slice a3 b.outer.length c3, .slice a4 b.inner.length c4] 34 := by rw [hW0]; exact (((Box.new _ _ _).alloc _).alloc _).alloc _
  have BF : Box W0 (w.heap.size + 1) #[.string fr] 9 := by rw [hW0]; exact ((Box.new' _ _ _ (by simp)).alloc _).alloc _
  have BT : Box W0 (w.heap.size + 2) #[.string tt] 9 := by rw [hW0]; exact (Box.new' _ _ _ (by simp)).alloc _
  have BR : Box W0 (w.heap.size + 3) #[.int .i64 0, .slice none 0 0, .slice none 0 0, .int .i64 0, .slice none 0 0, .slice none 0 0] 34 := by rw [hW0]; exact Box.new' _ _ _ (by simp)
  have hsz : w.heap.size + 4 ≤ W0.heap.size := by rw [hW0]; simp
  clear h3 hD hL HREL0 h hG hc hn
  go_enter Tryz.func125, Tryz.ntmps125
  go_wp2_with fail
  rw [← hW0]
  clear hW0
  have hb := bdrew hb
  have BA : Box W0.drew w.heap.size _ _ := BA
  have BF : Box W0.drew (w.heap.size + 1) _ _ := BF
  have BT : Box W0.drew (w.heap.size + 2) _ _ := BT
  have BR : Box W0.drew (w.heap.size + 3) _ _ := BR
  have hsz : w.heap.size + 4 ≤ W0.drew.heap.size := hsz
  go_region_held3 (fun w' => w'.cell? ⟨w.heap.size, 0, none⟩ = some (.int .i64 b.roots) ∧ w'.cell? ⟨w.heap.size, 1, none⟩ = some (.slice a1 b.nodes.length c1) ∧ w'.cell? ⟨w.heap.size, 2, none⟩ = some (.slice a2 b.sites.length c2) ∧ w'.cell? ⟨w.heap.size, 3, none⟩ = some (.int .i64 b.edges) ∧ w'.cell? ⟨w.heap.size, 4, none⟩ = some (.slice a3 b.outer.length c3) ∧ w'.cell? ⟨w.heap.size, 5, none⟩ = some (.slice a4 b.inner.length c4) ∧ w'.cell? ⟨w.heap.size + 1, 0, none⟩ = some (.string fr) ∧ w'.cell? ⟨w.heap.size + 2, 0, none⟩ = some (.string tt)) (first | with_reducible exact ks | with_reducible exact kt _ _ _ _ _ _ | exact ⟨BA.cell 0, BA.cell 1, BA.cell 2, BA.cell 3, BA.cell 4, BA.cell 5, BF.cell 0, BT.cell 0⟩ | exact ⟨(BA.alloc _).cell 0, (BA.alloc _).cell 1, (BA.alloc _).cell 2, (BA.alloc _).cell 3, (BA.alloc _).cell 4, (BA.alloc _).cell 5, (BF.alloc _).cell 0, (BT.alloc _).cell 0⟩) (first | (go_at_call 191; (first | (refine (withoutName_ct _ b.outer fr _ (H3.out.below hb) (by omega) HMF.out).mono ?_; rintro e w4 ⟨ca, cc, rfl, acc, bb⟩; have acc := acc.le (b' := w.heap.size + 4) hsz; have BA := BA.below bb; have BF := BF.below bb; have BT := BT.below bb; have BR := BR.below bb; have hb := bthen hb bb; have hsz := Nat.le_trans hsz bb.size; clear bb) | (refine (withoutName_ct _ b.outer fr _ (H3.out.below (bthen hb (balloc _ _))) (by omega) HMF.out).mono ?_; rintro e w4 ⟨ca, cc, rfl, acc, bb⟩; have hlit := (Box.new _ _ _).below bb; have acc := acc.le (b' := w.heap.size + 4) (Nat.le_trans hsz (balloc _ _).size); have BA := (BA.alloc _).below bb; have BF := (BF.alloc _).below bb; have BT := (BT.alloc _).below bb; have BR := (BR.alloc _).below bb; have hb := bthen (bthen hb (balloc _ _)) bb; have hsz := Nat.le_trans (Nat.le_trans hsz (balloc _ _).size) bb.size; clear bb))) | (refine appRs _ rfl (.tmp 13) (.tmp 15) 25 rfl (w.heap.size + 4) 9 1 16 1 (.string ⟨#[]⟩) Tryz.underlying25 inf_str rfl (by decide) (by decide) _ (strRows (without b.outer fr)) (by rfl) (acc.below (balloc _ _)) _ [[Value.string tt]] (by rfl) (rowAt_one (row := [Value.string tt]) (heap_alloc_new _ _) (by decide)) (by simp [Value.oneCell']) (by rw [len_strRows]; have := HWL.out; simp; omega) (Nat.le_trans hsz (balloc _ _).size) ?_; intro v6 w6 acc6 hg6; have BA := (BA.alloc _).keep (grown_block (acc.below (balloc _ _)) hg6 (by omega) (BA.alloc _).lt); have BF := (BF.alloc _).keep (grown_block (acc.below (balloc _ _)) hg6 (by omega) (BF.alloc _).lt); have BT := (BT.alloc _).keep (grown_block (acc.below (balloc _ _)) hg6 (by omega) (BT.alloc _).lt); have BR := (BR.alloc _).keep (grown_block (acc.below (balloc _ _)) hg6 (by omega) (BR.alloc _).lt); have hb := grown_below (bthen hb (balloc _ _)) (acc.below (balloc _ _)) hg6 (by omega) (bthen hb (balloc _ _)).size; have hsz := Nat.le_trans (Nat.le_trans hsz (balloc _ _).size) hg6.size; obtain ⟨va, vc, rfl⟩ := acc6.shape; rw [HLN.out] at acc6 ⊢; rw [HLR.out] at acc6; have hst : StrsAt w6 (.slice va L.length vc) L := ⟨acc6.own.row (by rw [len_strRows]; omega), HLS.out⟩; clear acc6 acc) | (refine appRs _ rfl (.tmp 13) (.tmp 15) 25 rfl (w.heap.size + 4) 9 1 16 1 (.string ⟨#[]⟩) Tryz.underlying25 inf_str rfl (by decide) (by decide) _ (strRows (without b.outer fr)) (by rfl) acc _ [[Value.string tt]] (by rfl) (rowAt_one (row := [Value.string tt]) hlit (by decide)) (by simp [Value.oneCell']) (by rw [len_strRows]; have := HWL.out; simp; omega) hsz ?_; intro v6 w6 acc6 hg6; have BA := BA.keep (grown_block acc hg6 (by omega) BA.lt); have BF := BF.keep (grown_block acc hg6 (by omega) BF.lt); have BT := BT.keep (grown_block acc hg6 (by omega) BT.lt); have BR := BR.keep (grown_block acc hg6 (by omega) BR.lt); have hb := grown_below hb acc hg6 (by omega) hb.size; have hsz := Nat.le_trans hsz hg6.size; obtain ⟨va, vc, rfl⟩ := acc6.shape; rw [HLN.out] at acc6 ⊢; rw [HLR.out] at acc6; have hst : StrsAt w6 (.slice va L.length vc) L := ⟨acc6.own.row (by rw [len_strRows]; omega), HLS.out⟩; clear acc6 acc) | (go_at_call 122; (with_reducible refine (HREL.out _ _ (hbig.out.below hb) hst BF BT).mono ?_); rintro e w7 ⟨u7, bs7, rfl, hB7, hN7, bb⟩; obtain ⟨d1, e1, d2, e2, d3, e3, d4, e4, rfl⟩ := hB7.at.shape; have BA := BA.below bb; have BF := BF.below bb; have BT := BT.below bb; have BR := BR.below bb; have hB7 := hB7.mono (B' := w.heap.size + 4) hsz; have hb := bthen hb bb; have BS : ∀ u0 u1 u2 u3 u4 u5, Box ((((((w7.setCell ⟨w.heap.size + 3, 0, none⟩ u0).setCell ⟨w.heap.size + 3, 1, none⟩ u1).setCell ⟨w.heap.size + 3, 2, none⟩ u2).setCell ⟨w.heap.size + 3, 3, none⟩ u3).setCell ⟨w.heap.size + 3, 4, none⟩ u4).setCell ⟨w.heap.size + 3, 5, none⟩ u5) w.heap.size #[.int .i64 b.roots, .slice a1 b.nodes.length c1, .slice a2 b.sites.length c2, .int .i64 b.edges, .slice a3 b.outer.length c3, .slice a4 b.inner.length c4] 34 := (fun u0 u1 u2 u3 u4 u5 => ((((((BA.other _ (by simp)).other _ (by simp)).other _ (by simp)).other _ (by simp)).other _ (by simp)).other _ (by simp))); have BSF : ∀ u0 u1 u2 u3 u4 u5, Box ((((((w7.setCell ⟨w.heap.size + 3, 0, none⟩ u0).setCell ⟨w.heap.size + 3, 1, none⟩ u1).setCell ⟨w.heap.size + 3, 2, none⟩ u2).setCell ⟨w.heap.size + 3, 3, none⟩ u3).setCell ⟨w.heap.size + 3, 4, none⟩ u4).setCell ⟨w.heap.size + 3, 5, none⟩ u5) (w.heap.size + 1) #[.string fr] 9 := (fun u0 u1 u2 u3 u4 u5 => ((((((BF.other _ (by simp)).other _ (by simp)).other _ (by simp)).other _ (by simp)).other _ (by simp)).other _ (by simp))); have BST : ∀ u0 u1 u2 u3 u4 u5, Box ((((((w7.setCell ⟨w.heap.size + 3, 0, none⟩ u0).setCell ⟨w.heap.size + 3, 1, none⟩ u1).setCell ⟨w.heap.size + 3, 2, none⟩ u2).setCell ⟨w.heap.size + 3, 3, none⟩ u3).setCell ⟨w.heap.size + 3, 4, none⟩ u4).setCell ⟨w.heap.size + 3, 5, none⟩ u5) (w.heap.size + 2) #[.string tt] 9 := (fun u0 u1 u2 u3 u4 u5 => ((((((BT.other _ (by simp)).other _ (by simp)).other _ (by simp)).other _ (by simp)).other _ (by simp)).other _ (by simp))); have ks : w7.cell? ⟨w.heap.size, 0, none⟩ = some (.int .i64 b.roots) ∧ w7.cell? ⟨w.heap.size, 1, none⟩ = some (.slice a1 b.nodes.length c1) ∧ w7.cell? ⟨w.heap.size, 2, none⟩ = some (.slice a2 b.sites.length c2) ∧ w7.cell? ⟨w.heap.size, 3, none⟩ = some (.int .i64 b.edges) ∧ w7.cell? ⟨w.heap.size, 4, none⟩ = some (.slice a3 b.outer.length c3) ∧ w7.cell? ⟨w.heap.size, 5, none⟩ = some (.slice a4 b.inner.length c4) ∧ w7.cell? ⟨w.heap.size + 1, 0, none⟩ = some (.string fr) ∧ w7.cell? ⟨w.heap.size + 2, 0, none⟩ = some (.string tt) := (⟨BA.cell 0, BA.cell 1, BA.cell 2, BA.cell 3, BA.cell 4, BA.cell 5, BF.cell 0, BT.cell 0⟩); have kt : ∀ u0 u1 u2 u3 u4 u5 : Value, ((((((w7.setCell ⟨w.heap.size + 3, 0, none⟩ u0).setCell ⟨w.heap.size + 3, 1, none⟩ u1).setCell ⟨w.heap.size + 3, 2, none⟩ u2).setCell ⟨w.heap.size + 3, 3, none⟩ u3).setCell ⟨w.heap.size + 3, 4, none⟩ u4).setCell ⟨w.heap.size + 3, 5, none⟩ u5).cell? ⟨w.heap.size, 0, none⟩ = some (.int .i64 b.roots) ∧ ((((((w7.setCell ⟨w.heap.size + 3, 0, none⟩ u0).setCell ⟨w.heap.size + 3, 1, none⟩ u1).setCell ⟨w.heap.size + 3, 2, none⟩ u2).setCell ⟨w.heap.size + 3, 3, none⟩ u3).setCell ⟨w.heap.size + 3, 4, none⟩ u4).setCell ⟨w.heap.size + 3, 5, none⟩ u5).cell? ⟨w.heap.size, 1, none⟩ = some (.slice a1 b.nodes.length c1) ∧ ((((((w7.setCell ⟨w.heap.size + 3, 0, none⟩ u0).setCell ⟨w.heap.size + 3, 1, none⟩ u1).setCell ⟨w.heap.size + 3, 2, none⟩ u2).setCell ⟨w.heap.size + 3, 3, none⟩ u3).setCell ⟨w.heap.size + 3, 4, none⟩ u4).setCell ⟨w.heap.size + 3, 5, none⟩ u5).cell? ⟨w.heap.size, 2, none⟩ = some (.slice a2 b.sites.length c2) ∧ ((((((w7.setCell ⟨w.heap.size + 3, 0, none⟩ u0).setCell ⟨w.heap.size + 3, 1, none⟩ u1).setCell ⟨w.heap.size + 3, 2, none⟩ u2).setCell ⟨w.heap.size + 3, 3, none⟩ u3).setCell ⟨w.heap.size + 3, 4, none⟩ u4).setCell ⟨w.heap.size + 3, 5, none⟩ u5).cell? ⟨w.heap.size, 3, none⟩ = some (.int .i64 b.edges) ∧ ((((((w7.setCell ⟨w.heap.size + 3, 0, none⟩ u0).setCell ⟨w.heap.size + 3, 1, none⟩ u1).setCell ⟨w.heap.size + 3, 2, none⟩ u2).setCell ⟨w.heap.size + 3, 3, none⟩ u3).setCell ⟨w.heap.size + 3, 4, none⟩ u4).setCell ⟨w.heap.size + 3, 5, none⟩ u5).cell? ⟨w.heap.size, 4, none⟩ = some (.slice a3 b.outer.length c3) ∧ ((((((w7.setCell ⟨w.heap.size + 3, 0, none⟩ u0).setCell ⟨w.heap.size + 3, 1, none⟩ u1).setCell ⟨w.heap.size + 3, 2, none⟩ u2).setCell ⟨w.heap.size + 3, 3, none⟩ u3).setCell ⟨w.heap.size + 3, 4, none⟩ u4).setCell ⟨w.heap.size + 3, 5, none⟩ u5).cell? ⟨w.heap.size, 5, none⟩ = some (.slice a4 b.inner.length c4) ∧ ((((((w7.setCell ⟨w.heap.size + 3, 0, none⟩ u0).setCell ⟨w.heap.size + 3, 1, none⟩ u1).setCell ⟨w.heap.size + 3, 2, none⟩ u2).setCell ⟨w.heap.size + 3, 3, none⟩ u3).setCell ⟨w.heap.size + 3, 4, none⟩ u4).setCell ⟨w.heap.size + 3, 5, none⟩ u5).cell? ⟨w.heap.size + 1, 0, none⟩ = some (.string fr) ∧ ((((((w7.setCell ⟨w.heap.size + 3, 0, none⟩ u0).setCell ⟨w.heap.size + 3, 1, none⟩ u1).setCell ⟨w.heap.size + 3, 2, none⟩ u2).setCell ⟨w.heap.size + 3, 3, none⟩ u3).setCell ⟨w.heap.size + 3, 4, none⟩ u4).setCell ⟨w.heap.size + 3, 5, none⟩ u5).cell? ⟨w.heap.size + 2, 0, none⟩ = some (.string tt) := (fun u0 u1 u2 u3 u4 u5 => ⟨(BS u0 u1 u2 u3 u4 u5).cell 0, (BS u0 u1 u2 u3 u4 u5).cell 1, (BS u0 u1 u2 u3 u4 u5).cell 2, (BS u0 u1 u2 u3 u4 u5).cell 3, (BS u0 u1 u2 u3 u4 u5).cell 4, (BS u0 u1 u2 u3 u4 u5).cell 5, (BSF u0 u1 u2 u3 u4 u5).cell 0, (BST u0 u1 u2 u3 u4 u5).cell 0⟩); have q2 := BR.cell; have ff := BR.free; clear bb BS BSF BST))
  all_goals
    go_wp2_with fail
    refine bodyPost_ret (v := .agg #[.int .i64 (rnoR b fr tt).roots, .slice d1 (rnoR b fr tt).nodes.length e1, .slice d2 (rnoR b fr tt).sites.length e2, .int .i64 (rnoR b fr tt).edges, .slice d3 (rnoR b fr tt).outer.length e3, .slice d4 (rnoR b fr tt).inner.length e4]) (by simp [results, Tryz.results125, go_sem, q2]) rfl ⟨_, bs7, rfl, (fill6 hB7 (by omega) _ _ _ _ _ _).mono (by omega), hN7, fill6b hb (by omega) _ _ _ _ _ _⟩
set_option maxRecDepth 100000 in
set_option maxHeartbeats 8000000 in
theorem implRenameOuter_ct (vs v : Value) (sig : List Ctl) (b : Big) (fr tt : ByteArray) (w : World) (h : Ctx w vs v sig b) (htz : tt.size ≤ 1073741824) : Calls Tryz.prog 44 #[vs, v, .string fr, .string tt] w (GivesBig (rnoP sig b fr tt) (rnoC sig b fr tt) w) := by
  obtain ⟨a1, c1, a2, c2, a3, c3, a4, c4, rfl⟩ := h.big.shape
  have hA := bthen (balloc w (.cells #[.int .i64 b.roots, .slice a1 b.nodes.length c1, .slice a2 b.sites.length c2, .int .i64 b.edges, .slice a3 b.outer.length c3, .slice a4 b.inner.length c4] 34)) (balloc (w.alloc (.cells #[.int .i64 b.roots, .slice a1 b.nodes.length c1, .slice a2 b.sites.length c2, .int .i64 b.edges, .slice a3 b.outer.length c3, .slice a4 b.inner.length c4] 34)) (.cells #[.int .i64 0, .slice none 0 0, .slice none 0 0, .int .i64 0, .slice none 0 0, .slice none 0 0] 34))
  obtain ⟨W0, hW0⟩ : ∃ W, W = (w.alloc (.cells #[.int .i64 b.roots, .slice a1 b.nodes.length c1, .slice a2 b.sites.length c2, .int .i64 b.edges, .slice a3 b.outer.length c3, .slice a4 b.inner.length c4] 34)).alloc (.cells #[.int .i64 0, .slice none 0 0, .slice none 0 0, .int .i64 0, .slice none 0 0, .slice none 0 0] 34) := ⟨_, rfl⟩
  have BA : Box W0 w.heap.size #[.int .i64 b.roots, .slice a1 b.nodes.length c1, .slice a2 b.sites.length c2, .int .i64 b.edges, .slice a3 b.outer.length c3, .slice a4 b.inner.length c4] 34 := by rw [hW0]; exact (Box.new _ _ _).alloc _
  have BR : Box W0 (w.heap.size + 1) #[.int .i64 0, .slice none 0 0, .slice none 0 0, .int .i64 0, .slice none 0 0, .slice none 0 0] 34 := by rw [hW0]; exact Box.new' _ _ _ (by simp)
  have hs0 : w.heap.size + 2 ≤ W0.heap.size := by rw [hW0]; simp
  rw [← hW0] at hA
  cases hg : goodB sig b with
  | false =>
    have hC : rnoC sig b fr tt = false := by unfold rnoC; rw [hg]; rfl
    rw [rno_no hC, hC]
    clear hC
    go_enter Tryz.func44, Tryz.ntmps44
    go_wp2_with fail
    rw [← hW0]
    clear hW0
    refine (implIsBigraph_ct _ _ sig b false _ (h.below hA) hg).mono ?_
    rintro e w2 ⟨rfl, hb⟩
    have BA := BA.below hb
    have BR := BR.below hb
    have hs1 := hb.size
    have hb := bthen hA hb
    have q := BR.cell
    have f := BR.free
    go_wp2_with fail
    refine bodyPost_ret (v := .tuple #[.agg #[.int .i64 0, .slice none 0 0, .slice none 0 0, .int .i64 0, .slice none 0 0, .slice none 0 0], .bool false]) (by simp [results, Tryz.results44, go_sem, q]) rfl ⟨_, _, rfl, noBig_own _ _, by simp, ?_⟩
    iterate 6 refine Below.setCell ?_ (by simp) _
    exact hb
  | true =>
    have hG := good_of hg
    cases hnm : nameB tt with
    | false =>
      have hC : rnoC sig b fr tt = false := by unfold rnoC; rw [hg, hnm]; rfl
      rw [rno_no hC, hC]
      clear hC
      go_enter Tryz.func44, Tryz.ntmps44
      go_wp2_with fail
      rw [← hW0]
      clear hW0
      refine (implIsBigraph_ct _ _ sig b true _ (h.below hA) hg).mono ?_
      rintro e w2 ⟨rfl, hb⟩
      have BA := BA.below hb
      have BR := BR.below hb
      have hs1 := hb.size
      have hb := bthen hA hb
      clear hg
      go_wp2_with fail
      refine (isName_ct tt htz false hnm _).mono ?_
      rintro e w3 ⟨rfl, hb3⟩
      have BA := BA.below hb3
      have BR := BR.below hb3
      have hs1 := Nat.le_trans hs1 hb3.size
      have hb := bthen hb hb3
      clear hb3
      have q := BR.cell
      have f := BR.free
      go_wp2_with fail
      refine bodyPost_ret (v := .tuple #[.agg #[.int .i64 0, .slice none 0 0, .slice none 0 0, .int .i64 0, .slice none 0 0, .slice none 0 0], .bool false]) (by simp [results, Tryz.results44, go_sem, q]) rfl ⟨_, _, rfl, noBig_own _ _, by simp, ?_⟩
      iterate 6 refine Below.setCell ?_ (by simp) _
      exact hb
    | true =>
      have h3 := h.big.parts
      obtain ⟨_, _, _, _, _, _, _, _, e0, _, _, h3, _, _, _⟩ := h3
      simp only [Value.agg.injEq, Array.mk.injEq, List.cons.injEq, and_true, true_and, Value.slice.injEq] at e0
      obtain ⟨⟨rfl, rfl⟩, ⟨rfl, rfl⟩, ⟨rfl, rfl⟩, rfl, rfl⟩ := e0
      cases hc : Lib.containsS b.outer fr with
      | false =>
        have hC : rnoC sig b fr tt = false := by unfold rnoC; rw [hg, hnm, hc]; rfl
        rw [rno_no hC, hC]
        clear hC
        go_enter Tryz.func44, Tryz.ntmps44
        go_wp2_with fail
        rw [← hW0]
        clear hW0
        refine (implIsBigraph_ct _ _ sig b true _ (h.below hA) hg).mono ?_
        rintro e w2 ⟨rfl, hb⟩
        have BA := BA.below hb
        have BR := BR.below hb
        have hs1 := hb.size
        have hb := bthen hA hb
        clear hg
        go_wp2_with fail
        refine (isName_ct tt htz true hnm _).mono ?_
        rintro e w3 ⟨rfl, hb3⟩
        have BA := BA.below hb3
        have BR := BR.below hb3
        have hs1 := Nat.le_trans hs1 hb3.size
        have hb := bthen hb hb3
        clear hb3
        have q := BA.cell
        go_wp2_with fail
        refine (sContains_ct _ b.outer fr _ (h3.below hb)).mono ?_
        rintro e w4 ⟨rfl, rfl⟩
        rw [hc]
        clear q
        have q := BR.cell
        have f := BR.free
        go_wp2_with fail
        refine bodyPost_ret (v := .tuple #[.agg #[.int .i64 0, .slice none 0 0, .slice none 0 0, .int .i64 0, .slice none 0 0, .slice none 0 0], .bool false]) (by simp [results, Tryz.results44, go_sem, q]) rfl ⟨_, _, rfl, noBig_own _ _, by simp, ?_⟩
        iterate 6 refine Below.setCell ?_ (by simp) _
        exact hb
      | true =>
        by_cases hft : fr = tt
        · have hfb : (fr.toList == tt.toList) = true := by rw [beq_data]; exact decide_eq_true hft
          have hC : rnoC sig b fr tt = true := by unfold rnoC; rw [hg, hnm, hc, decide_eq_true hft]; rfl
          rw [rno_yes hC, hC]
          clear hC
          clear hft
          go_enter Tryz.func44, Tryz.ntmps44
          go_wp2_with fail
          rw [← hW0]
          clear hW0
          refine (implIsBigraph_ct _ _ sig b true _ (h.below hA) hg).mono ?_
          rintro e w2 ⟨rfl, hb⟩
          have BA := BA.below hb
          have BR := BR.below hb
          have hs1 := hb.size
          have hb := bthen hA hb
          clear hg
          go_wp2_with fail
          refine (isName_ct tt htz true hnm _).mono ?_
          rintro e w3 ⟨rfl, hb3⟩
          have BA := BA.below hb3
          have BR := BR.below hb3
          have hs1 := Nat.le_trans hs1 hb3.size
          have hb := bthen hb hb3
          clear hb3
          have q := BA.cell
          go_wp2_with fail
          refine (sContains_ct _ b.outer fr _ (h3.below hb)).mono ?_
          rintro e w4 ⟨rfl, rfl⟩
          rw [hc]
          clear q
          have HRN := Lib.hid (fun W (h : BigAt W (.agg #[.int .i64 b.roots, .slice a1 b.nodes.length c1, .slice a2 b.sites.length c2, .int .i64 b.edges, .slice a3 b.outer.length c3, .slice a4 b.inner.length c4]) b) => renamed_ct sig _ b fr tt W h hG hc hnm htz)
          have hbig := Lib.hid h.big
          have q := BA.cell
          clear hc hG hnm
          go_wp2_with fail
          clear q
          refine (HRN.out _ (hbig.out.below hb)).mono ?_
          rintro e w7 ⟨u7, bs7, rfl, hB7, hN7, hb7⟩
          obtain ⟨d1, e1, d2, e2, d3, e3, d4, e4, rfl⟩ := hB7.at.shape
          have BR := BR.below hb7
          have hB7 := hB7.mono (B' := w.heap.size + 2) (Nat.le_trans hs0 hs1)
          have hb := bthen hb hb7
          have q2 := BR.cell
          have ff := BR.free
          go_wp2_with fail
          refine bodyPost_ret (v := .tuple #[.agg #[.int .i64 (rnoR b fr tt).roots, .slice d1 (rnoR b fr tt).nodes.length e1, .slice d2 (rnoR b fr tt).sites.length e2, .int .i64 (rnoR b fr tt).edges, .slice d3 (rnoR b fr tt).outer.length e3, .slice d4 (rnoR b fr tt).inner.length e4], .bool true]) (by simp [results, Tryz.results44, go_sem, q2]) rfl ⟨_, bs7, rfl, (fill6 hB7 (by omega) _ _ _ _ _ _).mono (by omega), hN7, fill6b hb (by omega) _ _ _ _ _ _⟩
        · have hfb : (fr.toList == tt.toList) = false := by rw [beq_data]; exact decide_eq_false hft
          cases ht : Lib.containsS b.outer tt with
          | true =>
            have hC : rnoC sig b fr tt = false := by unfold rnoC; rw [hg, hnm, hc, ht, decide_eq_false hft]; rfl
            rw [rno_no hC, hC]
            clear hC
            clear hft
            go_enter Tryz.func44, Tryz.ntmps44
            go_wp2_with fail
            rw [← hW0]
            clear hW0
            refine (implIsBigraph_ct _ _ sig b true _ (h.below hA) hg).mono ?_
            rintro e w2 ⟨rfl, hb⟩
            have BA := BA.below hb
            have BR := BR.below hb
            have hs1 := hb.size
            have hb := bthen hA hb
            clear hg
            go_wp2_with fail
            refine (isName_ct tt htz true hnm _).mono ?_
            rintro e w3 ⟨rfl, hb3⟩
            have BA := BA.below hb3
            have BR := BR.below hb3
            have hs1 := Nat.le_trans hs1 hb3.size
            have hb := bthen hb hb3
            clear hb3
            have q := BA.cell
            go_wp2_with fail
            refine (sContains_ct _ b.outer fr _ (h3.below hb)).mono ?_
            rintro e w4 ⟨rfl, rfl⟩
            rw [hc]
            clear q
            have q := BA.cell
            go_wp2_with fail
            refine (sContains_ct _ b.outer tt _ (h3.below hb)).mono ?_
            rintro e w4 ⟨rfl, rfl⟩
            rw [ht]
            clear q
            have q := BR.cell
            have f := BR.free
            go_wp2_with fail
            refine bodyPost_ret (v := .tuple #[.agg #[.int .i64 0, .slice none 0 0, .slice none 0 0, .int .i64 0, .slice none 0 0, .slice none 0 0], .bool false]) (by simp [results, Tryz.results44, go_sem, q]) rfl ⟨_, _, rfl, noBig_own _ _, by simp, ?_⟩
            iterate 6 refine Below.setCell ?_ (by simp) _
            exact hb
          | false =>
            have hC : rnoC sig b fr tt = true := by unfold rnoC; rw [hg, hnm, hc, ht, decide_eq_false hft]; rfl
            rw [rno_yes hC, hC]
            clear hC
            clear hft
            go_enter Tryz.func44, Tryz.ntmps44
            go_wp2_with fail
            rw [← hW0]
            clear hW0
            refine (implIsBigraph_ct _ _ sig b true _ (h.below hA) hg).mono ?_
            rintro e w2 ⟨rfl, hb⟩
            have BA := BA.below hb
            have BR := BR.below hb
            have hs1 := hb.size
            have hb := bthen hA hb
            clear hg
            go_wp2_with fail
            refine (isName_ct tt htz true hnm _).mono ?_
            rintro e w3 ⟨rfl, hb3⟩
            have BA := BA.below hb3
            have BR := BR.below hb3
            have hs1 := Nat.le_trans hs1 hb3.size
            have hb := bthen hb hb3
            clear hb3
            have q := BA.cell
            go_wp2_with fail
            refine (sContains_ct _ b.outer fr _ (h3.below hb)).mono ?_
            rintro e w4 ⟨rfl, rfl⟩
            rw [hc]
            clear q
            have q := BA.cell
            go_wp2_with fail
            refine (sContains_ct _ b.outer tt _ (h3.below hb)).mono ?_
            rintro e w4 ⟨rfl, rfl⟩
            rw [ht]
            clear q ht
            have HRN := Lib.hid (fun W (h : BigAt W (.agg #[.int .i64 b.roots, .slice a1 b.nodes.length c1, .slice a2 b.sites.length c2, .int .i64 b.edges, .slice a3 b.outer.length c3, .slice a4 b.inner.length c4]) b) => renamed_ct sig _ b fr tt W h hG hc hnm htz)
            have hbig := Lib.hid h.big
            have q := BA.cell
            clear hc hG hnm
            go_wp2_with fail
            clear q
            refine (HRN.out _ (hbig.out.below hb)).mono ?_
            rintro e w7 ⟨u7, bs7, rfl, hB7, hN7, hb7⟩
            obtain ⟨d1, e1, d2, e2, d3, e3, d4, e4, rfl⟩ := hB7.at.shape
            have BR := BR.below hb7
            have hB7 := hB7.mono (B' := w.heap.size + 2) (Nat.le_trans hs0 hs1)
            have hb := bthen hb hb7
            have q2 := BR.cell
            have ff := BR.free
            go_wp2_with fail
            refine bodyPost_ret (v := .tuple #[.agg #[.int .i64 (rnoR b fr tt).roots, .slice d1 (rnoR b fr tt).nodes.length e1, .slice d2 (rnoR b fr tt).sites.length e2, .int .i64 (rnoR b fr tt).edges, .slice d3 (rnoR b fr tt).outer.length e3, .slice d4 (rnoR b fr tt).inner.length e4], .bool true]) (by simp [results, Tryz.results44, go_sem, q2]) rfl ⟨_, bs7, rfl, (fill6 hB7 (by omega) _ _ _ _ _ _).mono (by omega), hN7, fill6b hb (by omega) _ _ _ _ _ _⟩
end Go.Proofs.YthbdmcobpcoajaaGreatDoor
